/-
  Sizes of numbers: what both programs compute, as words.
-/
import Derived.Test.YtcihbcmdmgmonaaRows
import Derived.Test.YtcihbcmdmgmonaaFlz
import Derived.Test.YtcihbcmdmgmonaaBase
namespace Go.Proofs.Ytcihbcmdmgmonaa
open Go.RowKit
namespace Fl

def sizeN (a : Nat) : Nat := if lt a 0 then a - 2147483648 else a

theorem xor_sign (r : Nat) (h : r < 2147483648) : (2147483648 + r) ^^^ 2147483648 = r := by
  have e : 2147483648 + r = 2147483648 ^^^ r := by
    apply Nat.eq_of_testBit_eq
    intro i
    rw [Nat.testBit_xor, show (2147483648 : Nat) = 2 ^ 31 from by decide]
    rcases Nat.lt_trichotomy i 31 with hi | rfl | hi
    · rw [Nat.testBit_two_pow_add_gt hi, Nat.testBit_two_pow_of_ne (by omega), Bool.false_xor]
    · rw [Nat.testBit_two_pow_add_eq, Nat.testBit_two_pow_self]; simp
    · have h1 : (2 ^ 31 + r).testBit i = false := Nat.testBit_lt_two_pow (by have : 2 ^ 32 ≤ 2 ^ i := Nat.pow_le_pow_right (by omega) (by omega); omega)
      have h2 : r.testBit i = false := Nat.testBit_lt_two_pow (by have : 2 ^ 32 ≤ 2 ^ i := Nat.pow_le_pow_right (by omega) (by omega); omega)
      rw [h1, h2, Nat.testBit_two_pow_of_ne (by omega)]; rfl
  rw [e, Nat.xor_comm 2147483648 r, Nat.xor_assoc, Nat.xor_self, Nat.xor_zero]

theorem neg_word (a : Nat) (h1 : 2147483648 < a) (h2 : a ≤ 2147483648 + 2139095040) : Op.negFloat .f32 a = a - 2147483648 := by
  obtain ⟨r, rfl⟩ : ∃ r, a = 2147483648 + r := ⟨a - 2147483648, by omega⟩
  show (2147483648 + r) ^^^ 2147483648 = _
  rw [xor_sign r (by omega)]; omega

/-- The words below nought. -/
theorem lt_zero_bounds {a : Nat} (ha : a ≤ 2147483648 + 2139095040) (h : lt a 0 = true) : 2147483648 < a := by
  rcases Nat.lt_or_ge 2147483648 a with h' | h'
  · exact h'
  exfalso
  have r0 : Ieee.single.read 0 = .number false 0 (-149) := by decide
  by_cases he : a = 2147483648
  · subst he; revert h; decide +kernel
  have hneg : (a / 2147483648 % 2 == 1) = false := by rw [beq_eq_false_iff_ne]; omega
  have hmod : a % 2147483648 = a := by omega
  unfold lt at h
  rw [show FloatKind.f32.format.order a 0 = (Ieee.single.read a).order (Ieee.single.read 0) from rfl, r0] at h
  have hr : Ieee.single.read a = .infinity false ∨ (∃ f, Ieee.single.read a = .nan false f) ∨ ∃ m e, Ieee.single.read a = .number false m e := by
    unfold Ieee.Format.read
    rw [ssw', sbi', slp', sir']
    simp only [hneg, hmod]
    split
    · exact .inr (.inr ⟨_, _, rfl⟩)
    · split
      · exact .inr (.inr ⟨_, _, rfl⟩)
      · split
        · exact .inl rfl
        · exact .inr (.inl ⟨_, rfl⟩)
  rcases hr with hr | ⟨f, hr⟩ | ⟨m, e, hr⟩
  · rw [hr] at h; revert h; decide
  · rw [hr] at h; simp [Ieee.Datum.order] at h
  · rw [hr] at h
    have h2 : (Ieee.Datum.order (.number false m e) (.number false 0 (-149))) = some (compare ((m <<< (e - min e (-149)).toNat : Nat) : Int) ((0 <<< ((-149 : Int) - min e (-149)).toNat : Nat) : Int)) := rfl
    rw [h2, Nat.zero_shiftLeft] at h
    generalize m <<< (e - min e (-149)).toNat = M at h
    have h3 : ¬ ((M : Int) < ((0 : Nat) : Int)) := by omega
    simp [compare, compareOfLessAndEq] at h
    try (split at h <;> first | omega | cases h | (simp at h))

theorem write_bound (d : Ieee.Datum) (h : d.isNaN = false) : Ieee.single.write d ≤ 2147483648 + 2139095040 := by
  have key : ∀ (s : Bool) (k : Nat), k ≤ 2139095040 → Ieee.single.word s k ≤ 2147483648 + 2139095040 := by
    intro s k hk
    unfold Ieee.Format.word
    rw [ssw']
    split <;> omega
  cases d with
  | nan s f => cases h
  | infinity s => exact key s _ (by rw [sir']; exact Nat.le_refl _)
  | number s m e =>
    show Ieee.single.nearest s m e ≤ _
    unfold Ieee.Format.nearest
    split
    · exact key s 0 (by omega)
    · exact key s _ (by rw [sir']; exact Nat.min_le_right _ _)

theorem lt_notNaN {a b : Nat} (h : lt a b = true) : isNaN a = false := by
  cases hn : isNaN a with
  | false => rfl
  | true =>
    obtain ⟨s, f, hr⟩ := read_nan hn
    unfold lt at h
    rw [show FloatKind.f32.format.order a b = (Ieee.single.read a).order (Ieee.single.read b) from rfl, hr] at h
    simp [Ieee.Datum.order] at h

/-- A difference that is below nought is a word with its sign set. -/
theorem sub_below {a p q : Nat} (hc : canon a = canon (sub p q)) (h : lt a 0 = true) : 2147483648 < a ∧ a ≤ 2147483648 + 2139095040 := by
  have hn := lt_notNaN h
  rw [canon_of_not hn, canon_subv] at hc
  have hb : a ≤ 2147483648 + 2139095040 := by
    unfold sub at hc
    cases hs : Ieee.single.sub p q with
    | none => rw [hs] at hc; subst hc; rw [show (none : Option Nat).getD qnan = qnan from rfl, isNaN_qnan] at hn; cases hn
    | some v =>
      rw [hs] at hc
      obtain rfl : a = v := hc
      unfold Ieee.Format.sub at hs
      obtain ⟨d, hd, rfl⟩ := Option.map_eq_some_iff.1 hs
      exact write_bound d (sum_notNaN hd)
  exact ⟨lt_zero_bounds hb h, hb⟩
end Fl

set_option maxHeartbeats 400000 in
theorem l01Size_calls (a : Nat) (h : Fl.lt a 0 = true → 2147483648 < a ∧ a ≤ 2147483648 + 2139095040) (w : World) :
    Calls Try.prog 99 #[.float .f32 a] w fun e w' => e = .returned (.float .f32 (Fl.sizeN a)) ∧ w' = w := by
  have HS : Hid (Fl.sizeN a = if Fl.lt a 0 then a - 2147483648 else a) := rfl
  cases hl : Fl.lt a 0
  · have H := Lib.hid (show Fl.sizeN a = a by rw [HS.out, hl, if_neg Bool.false_ne_true])
    clear h
    go_enter Try.func99, Try.ntmps99
    go_wp2
    go_ret
    exact ⟨by rw [H.out]; rfl, rfl⟩
  · obtain ⟨h1, h2⟩ := h hl
    have H := Lib.hid (show Fl.sizeN a = Op.negFloat .f32 a by rw [HS.out, hl, if_pos rfl, Fl.neg_word a h1 h2])
    obtain ⟨n, hn⟩ : ∃ n, n = Op.negFloat .f32 a := ⟨_, rfl⟩
    have hneg : ∀ W : World, (Op.unary .neg (.float .f32 a)).run Try.prog W = .ok (.float .f32 n) W := fun W => by rw [hn]; rfl
    rw [← hn] at H
    clear h h1 h2 hn
    go_enter Try.func99, Try.ntmps99
    go_wp2
    go_ret
    exact ⟨by rw [H.out]; rfl, rfl⟩

set_option maxHeartbeats 400000 in
theorem size_calls (a : Nat) (h : Fl.lt a 0 = true → 2147483648 < a ∧ a ≤ 2147483648 + 2139095040) (w : World) :
    Calls Try.prog 104 #[.float .f32 a] w (RetF (Fl.sizeN a) w) := by
  have HS : Hid (Fl.sizeN a = if Fl.lt a 0 then a - 2147483648 else a) := rfl
  cases hl : Fl.lt a 0
  · have H := Lib.hid (show Fl.sizeN a = a by rw [HS.out, hl, if_neg Bool.false_ne_true])
    clear h
    go_enter Try.func104, Try.ntmps104
    go_wp2
    go_ret
    exact ⟨a, rfl, by rw [H.out], Below.refl _ _⟩
  · obtain ⟨h1, h2⟩ := h hl
    have H := Lib.hid (show Fl.sizeN a = Fl.sub 0 a by rw [HS.out, hl, if_pos rfl]; unfold Fl.sub; rw [Fl.sub_zero_neg a h1 h2, Option.getD_some])
    clear h h1 h2
    go_enter Try.func104, Try.ntmps104
    go_wp2
    go_ret
    exact ⟨_, rfl, by rw [H.out, Fl.canon_rSub, Fl.canon_subv], below_n (Below.refl _ _) _⟩
end Go.Proofs.Ytcihbcmdmgmonaa
