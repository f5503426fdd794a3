/-
  Measures and plain numbers, by bounds; the mean of measures is plain.
-/
import Derived.Test.YtcihbcmdmgmonaaFlb
import Derived.Test.YtcihbcmdmgmonaaF64
import Derived.Test.YtcihbcmdmgmonaaPval
import Derived.Test.YtcihbcmdmgmonaaPline
import Derived.Test.YtcihbcmdmgmonaaPdotOk
import Derived.Test.YtcihbcmdmgmonaaLie
import Derived.Test.YtcihbcmdmgmonaaPleft
namespace Go.Proofs.Ytcihbcmdmgmonaa
open Go.RowKit
namespace Fl

theorem le_of_cmp {a b : Int} (h : (some (compare a b) == some Ordering.lt || some (compare a b) == some Ordering.eq) = true) : a ≤ b := by
  by_cases h1 : a < b
  · omega
  · by_cases h2 : a = b
    · omega
    · exfalso
      have : compare a b = .gt := by simp [compare, compareOfLessAndEq, h1, h2]
      rw [this] at h
      revert h; decide
theorem ge_of_cmp {a b : Int} (h : (some (compare a b) == some Ordering.gt || some (compare a b) == some Ordering.eq) = true) : b ≤ a := by
  by_cases h1 : a < b
  · exfalso
    have : compare a b = .lt := by simp [compare, compareOfLessAndEq, h1]
    rw [this] at h
    revert h; decide
  · omega
theorem cmp_of_le {a b : Int} (h : a ≤ b) : (some (compare a b) == some Ordering.lt || some (compare a b) == some Ordering.eq) = true := by
  by_cases h1 : a < b
  · have : compare a b = .lt := by simp [compare, compareOfLessAndEq, h1]
    rw [this]; decide
  · have h2 : a = b := by omega
    have : compare a b = .eq := by simp [compare, compareOfLessAndEq, h2]
    rw [this]; decide
theorem cmp_of_ge {a b : Int} (h : b ≤ a) : (some (compare a b) == some Ordering.gt || some (compare a b) == some Ordering.eq) = true := by
  by_cases h2 : a = b
  · have : compare a b = .eq := by simp [compare, compareOfLessAndEq, h2]
    rw [this]; decide
  · have : compare a b = .gt := by
      have h1 : ¬ a < b := by omega
      simp [compare, compareOfLessAndEq, h1, h2]
    rw [this]; decide

theorem signed_eq (s : Bool) (m k : Nat) : Ieee.signed s m k = if s then -((m * 2 ^ k : Nat) : Int) else ((m * 2 ^ k : Nat) : Int) := by
  unfold Ieee.signed
  rw [Nat.shiftLeft_eq]

theorem scale_le {m n a c t : Nat} (h : m * 2 ^ a ≤ n * 2 ^ c) : m * 2 ^ (a + t) ≤ n * 2 ^ (c + t) := by
  rw [Nat.pow_add, Nat.pow_add, ← Nat.mul_assoc, ← Nat.mul_assoc]
  exact Nat.mul_le_mul_right _ h
theorem unscale_le {m n a c t : Nat} (h : m * 2 ^ (a + t) ≤ n * 2 ^ (c + t)) : m * 2 ^ a ≤ n * 2 ^ c := by
  rw [Nat.pow_add, Nat.pow_add, ← Nat.mul_assoc, ← Nat.mul_assoc] at h
  exact Nat.le_of_mul_le_mul_right h (Nat.two_pow_pos t)

/-- A number between -c and c, where c is 2^23 * 2^k. -/
theorem bd_of_between {lo hi x : Nat} {k : Int} (hk : -149 ≤ k) (hlo : Ieee.single.read lo = .number true 8388608 k) (hhi : Ieee.single.read hi = .number false 8388608 k) (h : (ge x lo && le x hi) = true) : Bd (8388608 * 2 ^ (k + 149).toNat) x := by
  obtain ⟨h1, h2⟩ := Bool.and_eq_true_iff.1 h
  unfold ge at h1
  unfold le at h2
  rw [show FloatKind.f32.format.order x lo = (Ieee.single.read x).order (Ieee.single.read lo) from rfl, hlo] at h1
  rw [show FloatKind.f32.format.order x hi = (Ieee.single.read x).order (Ieee.single.read hi) from rfl, hhi] at h2
  cases hx : Ieee.single.read x with
  | nan s f => rw [hx] at h1; revert h1; simp [Ieee.Datum.order]
  | infinity s => rw [hx] at h1 h2; cases s <;> simp [Ieee.Datum.order] at h1 h2
  | number s m e =>
    obtain ⟨_, he, _⟩ := read_number hx
    rw [hx] at h1 h2
    have g1 := ge_of_cmp (a := Ieee.signed s m (e - min e k).toNat) (b := Ieee.signed true 8388608 (k - min e k).toNat) h1
    have g2 := le_of_cmp (a := Ieee.signed s m (e - min e k).toNat) (b := Ieee.signed false 8388608 (k - min e k).toNat) h2
    rw [signed_eq, signed_eq] at g1 g2
    simp only [if_true, Bool.false_eq_true, if_false] at g1 g2
    have g3 : m * 2 ^ (e - min e k).toNat ≤ 8388608 * 2 ^ (k - min e k).toNat := by
      cases s
      · simp only [Bool.false_eq_true, if_false] at g2; omega
      · simp only [if_true] at g1; omega
    have g4 := scale_le (t := (min e k + 149).toNat) g3
    rw [show (e - min e k).toNat + (min e k + 149).toNat = (e + 149).toNat by omega, show (k - min e k).toNat + (min e k + 149).toNat = (k + 149).toNat by omega] at g4
    exact ⟨s, m, e, hx, he, g4⟩

theorem between_of_bd {lo hi x : Nat} {k : Int} (hk : -149 ≤ k) (hlo : Ieee.single.read lo = .number true 8388608 k) (hhi : Ieee.single.read hi = .number false 8388608 k) (h : Bd (8388608 * 2 ^ (k + 149).toNat) x) : (ge x lo && le x hi) = true := by
  obtain ⟨s, m, e, hx, he, hm⟩ := h
  have g4 : m * 2 ^ ((e - min e k).toNat + (min e k + 149).toNat) ≤ 8388608 * 2 ^ ((k - min e k).toNat + (min e k + 149).toNat) := by
    rw [show (e - min e k).toNat + (min e k + 149).toNat = (e + 149).toNat by omega, show (k - min e k).toNat + (min e k + 149).toNat = (k + 149).toNat by omega]
    exact hm
  have g3 := unscale_le g4
  rw [Bool.and_eq_true]
  constructor
  · unfold ge
    rw [show FloatKind.f32.format.order x lo = (Ieee.single.read x).order (Ieee.single.read lo) from rfl, hlo, hx]
    refine cmp_of_ge (a := Ieee.signed s m (e - min e k).toNat) (b := Ieee.signed true 8388608 (k - min e k).toNat) ?_
    rw [signed_eq, signed_eq]
    cases s <;> simp only [if_true, Bool.false_eq_true, if_false] <;> omega
  · unfold le
    rw [show FloatKind.f32.format.order x hi = (Ieee.single.read x).order (Ieee.single.read hi) from rfl, hhi, hx]
    refine cmp_of_le (a := Ieee.signed s m (e - min e k).toNat) (b := Ieee.signed false 8388608 (k - min e k).toNat) ?_
    rw [signed_eq, signed_eq]
    cases s <;> simp only [if_true, Bool.false_eq_true, if_false] <;> omega

theorem measure_bd {y : Nat} (h : vMeasure y = true) : Bd (2 ^ 159) y := by
  have := bd_of_between (k := -13) (by omega) (by decide) (by decide) h
  simpa using this
theorem plain_of_bd {x : Nat} (h : Bd (2 ^ 169) x) : vPlain x = true :=
  between_of_bd (k := -3) (by omega) (by decide) (by decide) (by simpa using h)

/-- What is written of a number below 2^20 is no greater than that. -/
theorem nearest_pow (s : Bool) (M : Nat) (p : Int) (h : M ≠ 0 → p + M.log2 ≤ 19) : Bd (2 ^ 169) (Ieee.single.nearest s M p) := by
  unfold Ieee.Format.nearest
  by_cases h0 : M = 0
  · rw [if_pos h0]
    exact ⟨s, 0, -149, read_low s 0 (by omega), by omega, by rw [Nat.zero_mul]; exact Nat.zero_le _⟩
  have hp := h h0
  rw [if_neg h0, slp', sbi', sir', show (Ieee.single.fractionBits : Int) = 23 by decide]
  have hl2 : M < 2 ^ (M.log2 + 1) := Nat.lt_log2_self
  generalize M.log2 = L at hl2 hp ⊢
  obtain ⟨q, hq⟩ : ∃ q : Nat, max (p + (L : Int) - 23) (-149) = (q : Int) - 149 := ⟨(max (p + (L : Int) - 23) (-149) + 149).toNat, by omega⟩
  have hq145 : q ≤ 145 := by omega
  rw [hq]
  have e1 : ((q : Int) - 149 - -149).toNat = q := by omega
  simp only [e1]
  have hk2 : Ieee.Toward.even.cut s (M <<< (p - ((q : Int) - 149)).toNat) ((q : Int) - 149 - p).toNat ≤ 16777216 := by
    refine cut_le s _ _ _ ?_
    rw [Nat.shiftLeft_eq]
    have : M * 2 ^ (p - ((q : Int) - 149)).toNat < 2 ^ (L + 1 + (p - ((q : Int) - 149)).toNat) := by rw [Nat.pow_add]; exact Nat.mul_lt_mul_of_pos_right hl2 (Nat.two_pow_pos _)
    have h5 : 2 ^ (L + 1 + (p - ((q : Int) - 149)).toNat) ≤ 2 ^ (24 + ((q : Int) - 149 - p).toNat) := Nat.pow_le_pow_right (by omega) (by omega)
    have h6 : (16777216 : Nat) * 2 ^ ((q : Int) - 149 - p).toNat = 2 ^ (24 + ((q : Int) - 149 - p).toNat) := by rw [Nat.pow_add]
    omega
  generalize Ieee.Toward.even.cut s (M <<< (p - ((q : Int) - 149)).toNat) ((q : Int) - 149 - p).toNat = K at hk2 ⊢
  have hr : q * 8388608 + K ≤ 147 * 8388608 := by omega
  rw [Nat.min_eq_left (by omega)]
  generalize q * 8388608 + K = r at hr ⊢
  rcases Nat.lt_or_ge r 8388608 with hlo | hhi
  · refine ⟨s, _, -149, read_low s _ hlo, by omega, ?_⟩
    have : (8388608 : Nat) ≤ 2 ^ 169 := by decide
    rw [show ((-149 : Int) + 149).toNat = 0 by omega, Nat.pow_zero, Nat.mul_one]
    omega
  · refine ⟨s, _, _, read_high s _ hhi (by omega), by omega, ?_⟩
    rw [show (-149 + ((r / 8388608 - 1 : Nat) : Int) + 149).toNat = r / 8388608 - 1 by omega]
    rcases Nat.lt_or_ge (r / 8388608) 147 with hlt | hge
    · have h7 : 2 ^ (r / 8388608 - 1) ≤ 2 ^ 145 := Nat.pow_le_pow_right (by omega) (by omega)
      have h8 : 8388608 + r % 8388608 ≤ 2 ^ 24 := by omega
      exact Nat.le_trans (Nat.mul_le_mul h8 h7) (by rw [← Nat.pow_add]; exact Nat.pow_le_pow_right (by omega) (by omega))
    · have h9 : r = 147 * 8388608 := by omega
      subst h9
      decide

def okN (d : Ieee.Datum) : Bool := match d with
  | .number t nn j => !t && decide (-23 ≤ j) && decide (j ≤ 0) && decide (2 ^ (-j).toNat ≤ nn) && decide (nn.log2 = 23)
  | _ => false
theorem ofI_reads : ∀ n : Fin 17, n.val ≠ 0 → okN (Ieee.single.read (ofI (n.val : Int))) = true := by decide +kernel

/-- A number within 16 * 1024, by a count from 1 to 16. -/
theorem div_plain {x n : Nat} (hx : Bd (16 * 2 ^ 159) x) (h1 : 1 ≤ n) (h2 : n ≤ 16) : vPlain (div x (ofI (n : Int))) = true := by
  obtain ⟨s, m, i, hrx, hi, hm⟩ := hx
  have hn := ofI_reads ⟨n, by omega⟩ (by show n ≠ 0; omega)
  have hn' : okN (Ieee.single.read (ofI (n : Int))) = true := hn
  clear hn
  cases hrn : Ieee.single.read (ofI (n : Int)) with
  | nan t f => rw [hrn] at hn'; cases hn'
  | infinity t => rw [hrn] at hn'; cases hn'
  | number t nn j =>
    rw [hrn] at hn'
    simp only [okN, Bool.and_eq_true, decide_eq_true_eq, Bool.not_eq_true'] at hn'
    obtain ⟨⟨⟨⟨rfl, hj1⟩, hj2⟩, hnn⟩, hlog⟩ := hn'
    have hnn0 : nn ≠ 0 := by have := Nat.two_pow_pos (-j).toNat; omega
    unfold div Ieee.Format.div
    rw [hrx, hrn]
    unfold Ieee.Datum.quotient
    simp only [if_neg hnn0, Option.map_some, Option.getD_some]
    refine plain_of_bd ?_
    show Bd _ (Ieee.single.nearest _ _ _)
    refine nearest_pow _ _ _ (fun hM => ?_)
    rw [hlog, show Ieee.single.fractionBits = 23 by decide]
    have hm24 := (read_number hrx).1
    have hml : m.log2 ≤ 23 := by
      rcases Nat.eq_zero_or_pos m with h0 | h0
      · rw [h0]; decide
      · have := (Nat.log2_lt (n := m) (k := 24) (by omega)).2 (by omega); omega
    generalize hmore : 23 + 2 + 23 - m.log2 = more at *
    have hmo : 25 ≤ more := by omega
    rw [hlog, show Ieee.single.fractionBits = 23 by decide, hmore] at hM
    by_cases hm0 : m = 0
    · exfalso
      subst hm0
      simp at hM
    have hi14 : i ≤ 14 := by
      rcases Int.lt_or_le 14 i with hgt | hle
      · exfalso
        have h3 : 2 ^ 164 ≤ 2 ^ (i + 149).toNat := Nat.pow_le_pow_right (by omega) (by omega)
        have h4 : 2 ^ (i + 149).toNat ≤ m * 2 ^ (i + 149).toNat := Nat.le_mul_of_pos_left _ (by omega)
        have h5 : (16 : Nat) * 2 ^ 159 < 2 ^ 164 := by decide
        omega
      · exact hle
    -- the exponent of the bound
    obtain ⟨E, hE⟩ : ∃ E : Nat, (E : Int) = 20 - i + j + more := ⟨(20 - i + j + more).toNat, by omega⟩
    have hmlt : m < 2 ^ (20 - i).toNat := by
      have h6 : 16 * 2 ^ 159 < 2 ^ (20 - i).toNat * 2 ^ (i + 149).toNat := by
        rw [← Nat.pow_add]
        have h7 : 2 ^ 169 ≤ 2 ^ ((20 - i).toNat + (i + 149).toNat) := Nat.pow_le_pow_right (by omega) (by omega)
        have h8 : (16 : Nat) * 2 ^ 159 < 2 ^ 169 := by decide
        omega
      exact Nat.lt_of_mul_lt_mul_right (Nat.lt_of_le_of_lt hm h6)
    have hD : (m <<< more) / nn < 2 ^ E := by
      rw [Nat.div_lt_iff_lt_mul (by omega), Nat.shiftLeft_eq]
      have h9 : m * 2 ^ more < 2 ^ (20 - i).toNat * 2 ^ more := Nat.mul_lt_mul_of_pos_right hmlt (Nat.two_pow_pos _)
      have h10 : 2 ^ (20 - i).toNat * 2 ^ more = 2 ^ E * 2 ^ (-j).toNat := by
        rw [← Nat.pow_add, ← Nat.pow_add]
        congr 1; omega
      have h11 : 2 ^ E * 2 ^ (-j).toNat ≤ 2 ^ E * nn := Nat.mul_le_mul_left _ hnn
      omega
    have hM2 : 2 * ((m <<< more) / nn) + ((m <<< more) % nn != 0).toNat < 2 ^ (E + 1) := by
      have := Bool.toNat_le ((m <<< more) % nn != 0)
      rw [Nat.pow_succ]
      omega
    have hlg := (Nat.log2_lt hM).2 hM2
    omega

/-- The sum of measures. -/
theorem sum_bd (ys : List Nat) (hy : ∀ y ∈ ys, vMeasure y = true) (hl : ys.length ≤ 16) : Bd (ys.length * 2 ^ 159) (sumL ys) := by
  have key : ∀ k, k ≤ ys.length → Bd (k * 2 ^ 159) (sumL (ys.take k)) := by
    intro k
    induction k with
    | zero => intro _; exact ⟨false, 0, -149, (by show Ieee.single.read 0 = _; decide), by omega, by rw [Nat.zero_mul]; exact Nat.zero_le _⟩
    | succ k ih =>
      intro hk
      rw [sumL_take ys k hk]
      refine add_bd (by omega) (ih (by omega)) (measure_bd (hy _ ?_))
      have e : ys.getD k 0 = ys[k] := by simp [show k < ys.length from hk]
      rw [e]; exact List.getElem_mem _
  have := key ys.length (Nat.le_refl _)
  rwa [List.take_of_length_le (Nat.le_refl _)] at this
theorem Bd.mono {A B x : Nat} (h : Bd A x) (hab : A ≤ B) : Bd B x := by
  obtain ⟨s, m, e, h1, h2, h3⟩ := h
  exact ⟨s, m, e, h1, h2, Nat.le_trans h3 hab⟩
theorem mean_plain (ds : List (Nat × Nat)) (h : vDots ds = true) (h0 : ds.length ≠ 0) : vPlain (div (sumL (ysL ds)) (ofI (ds.length : Int))) = true := by
  unfold vDots at h
  obtain ⟨h1, h2⟩ := Bool.and_eq_true_iff.1 h
  have h16 := of_decide_eq_true h2
  have hl : (ysL ds).length = ds.length := by unfold ysL; rw [List.length_map]
  refine div_plain ((sum_bd (ysL ds) (fun y hy => ?_) (by omega)).mono (by rw [hl]; exact Nat.mul_le_mul_right _ h16)) (by omega) h16
  unfold ysL at hy
  obtain ⟨d, hd, rfl⟩ := List.mem_map.1 hy
  have := List.all_eq_true.1 h1 d hd
  unfold vDot at this
  exact (Bool.and_eq_true_iff.1 this).2
end Fl
end Go.Proofs.Ytcihbcmdmgmonaa
