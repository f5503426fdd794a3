/-
  A single precision number made a double one, as the laws' comparison sees it: numbers that are the same stay so.
-/
import Derived.Test.YtfbflbiohbhmmaaFlw
namespace Go.Proofs.Ytfbflbiohbhmmaa
open Go.RowKit
namespace Fl

/-- Two double words that the laws' comparison takes for the same. -/
inductive Same64 : Nat → Nat → Prop
  | nan (u v : Nat) (hu : FloatKind.f64.format.order u u = none) (hv : FloatKind.f64.format.order v v = none) : Same64 u v
  | pz : Same64 0 0
  | nz : Same64 9223372036854775808 9223372036854775808
  | num (u : Nat) (h : FloatKind.f64.format.order u u = some .eq) (h0 : FloatKind.f64.format.order u 0 ≠ some .eq) : Same64 u u

def rConv (w : World) (x : Nat) : Nat :=
  match Ieee.single.read x with
  | .nan _ _ => (Question.nanConv .f64 x).cut (w.tape w.drawn (.nanConv .f64 x))
  | d => Ieee.double.write d
def nConv (x : Nat) : Nat := match Ieee.single.read x with | .nan _ _ => 1 | _ => 0

theorem dsw : Ieee.double.signWeight = 9223372036854775808 := by decide
theorem dbi : Ieee.double.binade = 4503599627370496 := by decide
theorem dir : Ieee.double.infRung = 9218868437227405312 := by decide
theorem dlp : Ieee.double.leastPlace = -1074 := by decide
theorem ssw : Ieee.single.signWeight = 2147483648 := by decide
theorem sbi : Ieee.single.binade = 8388608 := by decide
theorem sir : Ieee.single.infRung = 2139095040 := by decide
theorem slp : Ieee.single.leastPlace = -149 := by decide

/-- What a single precision number looks like. -/
theorem read_number {x : Nat} {s : Bool} {m : Nat} {e : Int} (h : Ieee.single.read x = .number s m e) : m < 16777216 ∧ -149 ≤ e ∧ e ≤ 104 := by
  unfold Ieee.Format.read at h
  rw [ssw, sbi, sir, slp] at h
  simp only at h
  split at h
  · rename_i h1
    cases h
    omega
  · split at h
    · rename_i h1 h2
      simp only [Ieee.Datum.number.injEq] at h
      obtain ⟨_, rfl, rfl⟩ := h
      have := Nat.mod_lt (x % 2147483648) (show 0 < 8388608 by decide)
      have h3 : x % 2147483648 / 8388608 ≤ 254 := by omega
      have h4 : 1 ≤ x % 2147483648 / 8388608 := by omega
      omega
    · split at h <;> cases h

theorem cut_zero (s : Bool) (n : Nat) : Ieee.Toward.even.cut s n 0 = n := by
  unfold Ieee.Toward.cut
  simp [Nat.mod_one]

theorem rung_bounds (q kept : Nat) (d3 : q ≤ 1149) (lo : 4503599627370496 ≤ kept) (hi : kept < 9007199254740992) :
    4503599627370496 ≤ min (q * 4503599627370496 + kept) 9218868437227405312 ∧ min (q * 4503599627370496 + kept) 9218868437227405312 < 9218868437227405312 := by omega

/-- The double word of a single precision number that is not nought. -/
theorem nearest_rung (s : Bool) (m : Nat) (e : Int) (hm : m ≠ 0) (h1 : m < 16777216) (h2 : -149 ≤ e) (h3 : e ≤ 104) :
    ∃ k, Ieee.double.nearest s m e = Ieee.double.word s k ∧ 4503599627370496 ≤ k ∧ k < 9218868437227405312 := by
  unfold Ieee.Format.nearest
  rw [if_neg hm, dlp, dbi, dir]
  have hl : m.log2 ≤ 23 := by
    have := (Nat.log2_lt (n := m) (k := 24) hm).2 (by simpa using h1)
    omega
  have hfb : (Ieee.double.fractionBits : Int) = 52 := by decide
  have hlast : max (e + (m.log2 : Int) - (Ieee.double.fractionBits : Int)) (-1074) = e + (m.log2 : Int) - 52 := by rw [hfb]; omega
  simp only [hlast]
  have d1 : (e - (e + (m.log2 : Int) - 52)).toNat = 52 - m.log2 := by omega
  have d2 : (e + (m.log2 : Int) - 52 - e).toNat = 0 := by omega
  have d3 : (e + (m.log2 : Int) - 52 - -1074).toNat ≤ 1149 := by omega
  rw [d1, d2, cut_zero]
  have lo : 2 ^ 52 ≤ m <<< (52 - m.log2) := by
    rw [Nat.shiftLeft_eq]
    have h4 : 2 ^ m.log2 ≤ m := Nat.log2_self_le hm
    have h5 : 2 ^ m.log2 * 2 ^ (52 - m.log2) = 2 ^ 52 := by rw [← Nat.pow_add]; congr 1; omega
    rw [← h5]
    exact Nat.mul_le_mul_right _ h4
  have hi : m <<< (52 - m.log2) < 2 ^ 53 := by
    rw [Nat.shiftLeft_eq]
    have h4 : m < 2 ^ (m.log2 + 1) := Nat.lt_log2_self
    have h5 : 2 ^ (m.log2 + 1) * 2 ^ (52 - m.log2) = 2 ^ 53 := by rw [← Nat.pow_add]; congr 1; omega
    rw [← h5]
    exact Nat.mul_lt_mul_of_pos_right h4 (Nat.two_pow_pos _)
  have e52 : (2 : Nat) ^ 52 = 4503599627370496 := by decide
  have e53 : (2 : Nat) ^ 53 = 9007199254740992 := by decide
  rw [e52] at lo
  rw [e53] at hi
  exact ⟨_, rfl, (rung_bounds _ _ d3 lo hi).1, (rung_bounds _ _ d3 lo hi).2⟩

theorem read_word (s : Bool) (k : Nat) (h1 : 4503599627370496 ≤ k) (h2 : k < 9218868437227405312) : ∃ m e, Ieee.double.read (Ieee.double.word s k) = .number s m e ∧ m ≠ 0 := by
  unfold Ieee.Format.read Ieee.Format.word
  rw [dsw, dbi, dir]
  have m1 : (if s = true then 9223372036854775808 + k else k) % 9223372036854775808 = k := by split <;> omega
  have m2 : ((if s = true then 9223372036854775808 + k else k) / 9223372036854775808 % 2 == 1) = s := by
    cases s
    · simp only [Bool.false_eq_true, if_false]
      have : k / 9223372036854775808 % 2 = 0 := by omega
      rw [this]; rfl
    · simp only [if_true]
      have : (9223372036854775808 + k) / 9223372036854775808 % 2 = 1 := by omega
      rw [this]; rfl
  simp only [m1, m2]
  rw [if_neg (by omega), if_pos h2]
  exact ⟨_, _, rfl, by omega⟩

theorem order_number (u : Nat) {s : Bool} {m : Nat} {e : Int} (h : Ieee.double.read u = .number s m e) : FloatKind.f64.format.order u u = some .eq := by
  show Ieee.double.order u u = _
  unfold Ieee.Format.order
  rw [h]
  simp only [Ieee.Datum.order]
  simp

theorem order_number_zero (u : Nat) {s : Bool} {m : Nat} {e : Int} (h : Ieee.double.read u = .number s m e) (hm : m ≠ 0) : FloatKind.f64.format.order u 0 ≠ some .eq := by
  show Ieee.double.order u 0 ≠ _
  unfold Ieee.Format.order
  have hz : Ieee.double.read 0 = .number false 0 (-1074) := by decide
  rw [h, hz]
  simp only [Ieee.Datum.order]
  intro hc
  have hc' := Option.some.inj hc
  have hpos : ∀ a, m <<< a ≠ 0 := fun a => by rw [Nat.shiftLeft_eq]; exact Nat.mul_ne_zero hm (Nat.pos_iff_ne_zero.1 (Nat.two_pow_pos _))
  have e1 : Ieee.signed s m (e - min e (-1074)).toNat = Ieee.signed false 0 (-1074 - min e (-1074)).toNat := Std.LawfulEqOrd.eq_of_compare hc'
  have hp := hpos (e - min e (-1074)).toNat
  unfold Ieee.signed at e1
  simp only [Bool.false_eq_true, if_false, Nat.zero_shiftLeft] at e1
  split at e1 <;> omega

theorem write_number (s : Bool) (m : Nat) (e : Int) (h : m < 16777216 ∧ -149 ≤ e ∧ e ≤ 104) :
    (m = 0 ∧ Ieee.double.write (.number s m e) = (if s then 9223372036854775808 else 0)) ∨
    (m ≠ 0 ∧ ∃ m' e', Ieee.double.read (Ieee.double.write (.number s m e)) = .number s m' e' ∧ m' ≠ 0) := by
  by_cases hm : m = 0
  · refine .inl ⟨hm, ?_⟩
    show Ieee.double.nearest s m e = _
    unfold Ieee.Format.nearest
    rw [if_pos hm]
    unfold Ieee.Format.word
    rw [dsw]
  · refine .inr ⟨hm, ?_⟩
    obtain ⟨k, hk, h1, h2⟩ := nearest_rung s m e hm h.1 h.2.1 h.2.2
    show ∃ m' e', Ieee.double.read (Ieee.double.nearest s m e) = _ ∧ _
    rw [hk]
    exact read_word s k h1 h2

theorem write_finite (s : Bool) (m : Nat) (e : Int) (h : m < 16777216 ∧ -149 ≤ e ∧ e ≤ 104) : (Ieee.double.read (Ieee.double.write (.number s m e))).isInfinity = false := by
  rcases write_number s m e h with ⟨_, h1⟩ | ⟨_, m', e', h1, _⟩
  · rw [h1]; cases s <;> decide
  · rw [h1]; rfl

theorem run_conv {P : Program} (w : World) (src dst : TypeId) (b : Nat) (hs : (P.underlying src).isSome = true) (hd : P.underlying dst = some (.float .f64)) :
    (convert src dst (.float .f32 b)).run P w = .ok (.float .f64 (rConv w b)) (w.drewN (nConv b)) := by
  obtain ⟨u, hs'⟩ := Option.isSome_iff_exists.1 hs
  unfold rConv nConv
  cases hr : Ieee.single.read b with
  | nan s f =>
    have hr' : FloatKind.f32.decode b = .nan s f := hr
    cases u <;> simp [convert, run_underlying hs', run_underlying hd, Conv.floatToFloat, hr', choose, Sem.run, Question.forced, World.drewN]
  | infinity s =>
    have hr' : FloatKind.f32.decode b = .infinity s := hr
    cases u <;> simp [convert, run_underlying hs', run_underlying hd, Conv.floatToFloat, hr', World.drewN_zero] <;> rfl
  | number s m e =>
    have hr' : FloatKind.f32.decode b = .number s m e := hr
    have hf : (FloatKind.f64.decode (FloatKind.f64.encode (.number s m e))).isInfinity = false := write_finite s m e (read_number hr)
    cases u <;> simp [convert, run_underlying hs', run_underlying hd, Conv.floatToFloat, hr', hf, World.drewN_zero] <;> rfl

theorem order_cut (x t : Nat) : FloatKind.f64.format.order ((Question.nanConv .f64 x).cut t) ((Question.nanConv .f64 x).cut t) = none := by
  have e : (Question.nanConv .f64 x).cut t = (t % 2) * 9223372036854775808 + 9218868437227405313 + (t / 2) % 4503599627370495 := by
    show (t % 2) * 2 ^ 63 + 0x7ff0000000000000 + 1 + (t / 2) % (2 ^ 52 - 1) = _
    have : (t / 2) % (2 ^ 52 - 1) = (t / 2) % 4503599627370495 := rfl
    have h2 : (2 : Nat) ^ 63 = 9223372036854775808 := by decide
    rw [this, h2]
  rw [e]
  have h1 := Nat.mod_lt (t / 2) (show 0 < 4503599627370495 by decide)
  have h2 : t % 2 = 0 ∨ t % 2 = 1 := by omega
  show Ieee.double.order _ _ = none
  unfold Ieee.Format.order Ieee.Format.read
  rw [dsw, dbi, dir]
  rcases h2 with h2 | h2 <;> rw [h2] <;> generalize (t / 2) % 4503599627370495 = q at h1 ⊢
  · have m : (0 * 9223372036854775808 + 9218868437227405313 + q) % 9223372036854775808 = 9218868437227405313 + q := by omega
    simp only [m]
    rw [if_neg (by omega), if_neg (by omega), if_neg (by omega)]; rfl
  · have m : (1 * 9223372036854775808 + 9218868437227405313 + q) % 9223372036854775808 = 9218868437227405313 + q := by omega
    simp only [m]
    rw [if_neg (by omega), if_neg (by omega), if_neg (by omega)]; rfl

/-- Numbers that are the same are taken for the same when they have been made double. -/
theorem same_conv {x y : Nat} (h : canon x = canon y) (w w' : World) : Same64 (rConv w x) (rConv w' y) := by
  cases hx : isNaN x with
  | true =>
    have hy : isNaN y = true := by rw [← isNaN_canon, ← h, isNaN_canon, hx]
    obtain ⟨s, f, hr⟩ := read_nan hx
    obtain ⟨s', f', hr'⟩ := read_nan hy
    unfold rConv
    rw [hr, hr']
    exact .nan _ _ (order_cut _ _) (order_cut _ _)
  | false =>
    have hy : isNaN y = false := by rw [← isNaN_canon, ← h, isNaN_canon, hx]
    rw [canon_of_not hx, canon_of_not hy] at h
    subst h
    unfold rConv
    cases hr : Ieee.single.read x with
    | nan s f => rw [isNaN_of_read hr] at hx; cases hx
    | infinity s =>
      have hf : FloatKind.f64.format.order (Ieee.double.write (.infinity false)) (Ieee.double.write (.infinity false)) = some .eq ∧ FloatKind.f64.format.order (Ieee.double.write (.infinity false)) 0 ≠ some .eq := by decide
      have ht : FloatKind.f64.format.order (Ieee.double.write (.infinity true)) (Ieee.double.write (.infinity true)) = some .eq ∧ FloatKind.f64.format.order (Ieee.double.write (.infinity true)) 0 ≠ some .eq := by decide
      cases s
      · exact .num _ hf.1 hf.2
      · exact .num _ ht.1 ht.2
    | number s m e =>
      have hb := read_number hr
      rcases write_number s m e hb with ⟨_, h1⟩ | ⟨_, m', e', h1, h2⟩
      · simp only [h1]
        cases s
        · exact .pz
        · exact .nz
      · exact .num _ (order_number _ h1) (order_number_zero _ h1 h2)

attribute [go_sem high] run_conv
end Fl
end Go.Proofs.Ytfbflbiohbhmmaa
