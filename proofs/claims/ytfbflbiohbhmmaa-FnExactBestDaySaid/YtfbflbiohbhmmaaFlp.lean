/-
  A part times seven: its whole part, by steps and by the floor of the double number.
-/
import Derived.Test.YtfbflbiohbhmmaaFlb
import Derived.Test.YtfbflbiohbhmmaaF64
namespace Go.Proofs.Ytfbflbiohbhmmaa
open Go.RowKit
namespace Fl

theorem cmpLe (a b : Int) : (some (compare a b) == some Ordering.lt || some (compare a b) == some Ordering.eq) = decide (a ≤ b) := by
  by_cases h1 : a < b
  · have : compare a b = .lt := by simp [compare, compareOfLessAndEq, h1]
    rw [this, decide_eq_true (by omega)]; rfl
  · by_cases h2 : a = b
    · have : compare a b = .eq := by simp [compare, compareOfLessAndEq, h2]
      rw [this, decide_eq_true (by omega)]; rfl
    · have : compare a b = .gt := by simp [compare, compareOfLessAndEq, h1, h2]
      rw [this, decide_eq_false (by omega)]; rfl
theorem cmpGe (a b : Int) : (some (compare a b) == some Ordering.gt || some (compare a b) == some Ordering.eq) = decide (b ≤ a) := by
  by_cases h1 : a < b
  · have : compare a b = .lt := by simp [compare, compareOfLessAndEq, h1]
    rw [this, decide_eq_false (by omega)]; rfl
  · by_cases h2 : a = b
    · have : compare a b = .eq := by simp [compare, compareOfLessAndEq, h2]
      rw [this, decide_eq_true (by omega)]; rfl
    · have : compare a b = .gt := by simp [compare, compareOfLessAndEq, h1, h2]
      rw [this, decide_eq_true (by omega)]; rfl
theorem signedE (s : Bool) (m k : Nat) : Ieee.signed s m k = if s then -((m * 2 ^ k : Nat) : Int) else ((m * 2 ^ k : Nat) : Int) := by
  unfold Ieee.signed
  rw [Nat.shiftLeft_eq]
theorem scaleLe {m n a c t : Nat} : m * 2 ^ a ≤ n * 2 ^ c ↔ m * 2 ^ (a + t) ≤ n * 2 ^ (c + t) := by
  rw [Nat.pow_add, Nat.pow_add, ← Nat.mul_assoc, ← Nat.mul_assoc]
  exact ⟨fun h => Nat.mul_le_mul_right _ h, fun h => Nat.le_of_mul_le_mul_right h (Nat.two_pow_pos t)⟩

/-- A word that stands for a number from nought up to B / 2^149. -/
def Pos (B x : Nat) : Prop := ∃ (s : Bool) (m : Nat) (e : Int), Ieee.single.read x = .number s m e ∧ -149 ≤ e ∧ (s = true → m = 0) ∧ m * 2 ^ (e + 149).toNat ≤ B

/-- What is written of a number up to C * 2^(T - 149) lies no higher. -/
theorem nearest_pos (s : Bool) (M : Nat) (p : Int) (C T : Nat) (hC : C ≤ 16) (hT : 19 ≤ T) (hT2 : T ≤ 159) (hp : -349 ≤ p) (hs : s = true → M = 0) (h : M * 2 ^ (p + 349).toNat ≤ C * 2 ^ (T + 200)) : Pos (C * 2 ^ T) (Ieee.single.nearest s M p) := by
  unfold Ieee.Format.nearest
  by_cases h0 : M = 0
  · rw [if_pos h0]
    exact ⟨s, 0, -149, read_low s 0 (by omega), by omega, fun _ => rfl, by rw [Nat.zero_mul]; exact Nat.zero_le _⟩
  have hsf : s = true → ∀ k : Nat, k = 0 := fun hs' => absurd (hs hs') h0
  rw [if_neg h0, slp', sbi', sir', show (Ieee.single.fractionBits : Int) = 23 by decide]
  obtain ⟨P, rfl⟩ : ∃ P : Nat, p = (P : Int) - 349 := ⟨(p + 349).toNat, by omega⟩
  have eP : ((P : Int) - 349 + 349).toNat = P := by omega
  rw [eP] at h
  have hl1 : 2 ^ M.log2 ≤ M := Nat.log2_self_le h0
  have hl2 : M < 2 ^ (M.log2 + 1) := Nat.lt_log2_self
  generalize M.log2 = L at hl1 hl2 ⊢
  have hPL : P + L ≤ T + 204 := by
    rcases Nat.lt_or_ge (P + L) (T + 205) with hlt | hge
    · omega
    · exfalso
      have h1 : 2 ^ (T + 205) ≤ 2 ^ (P + L) := Nat.pow_le_pow_right (by omega) hge
      have h2 : 2 ^ (P + L) ≤ M * 2 ^ P := by rw [Nat.pow_add, Nat.mul_comm]; exact Nat.mul_le_mul_right _ hl1
      have h3 : C * 2 ^ (T + 200) ≤ 16 * 2 ^ (T + 200) := Nat.mul_le_mul_right _ hC
      have h4 : (16 : Nat) * 2 ^ (T + 200) < 2 ^ (T + 205) := by
        rw [show T + 205 = T + 200 + 5 by omega, Nat.pow_add 2 (T + 200) 5]
        have := Nat.two_pow_pos (T + 200)
        omega
      omega
  obtain ⟨q, hq⟩ : ∃ q : Nat, max ((P : Int) - 349 + (L : Int) - 23) (-149) = (q : Int) - 149 := ⟨(P + L) - 223, by omega⟩
  have hq' : q = (P + L) - 223 := by omega
  rw [hq]
  have e1 : ((q : Int) - 149 - -149).toNat = q := by omega
  have e2 : ((P : Int) - 349 - ((q : Int) - 149)).toNat = P - (q + 200) := by omega
  have e3 : ((q : Int) - 149 - ((P : Int) - 349)).toNat = (q + 200) - P := by omega
  simp only [e1, e2, e3]
  have hqT : q ≤ T - 19 := by omega
  have hk : Ieee.Toward.even.cut s (M <<< (P - (q + 200))) ((q + 200) - P) * 2 ^ q ≤ C * 2 ^ T ∧ Ieee.Toward.even.cut s (M <<< (P - (q + 200))) ((q + 200) - P) ≤ 16777216 ∧ (0 < q → 8388608 ≤ Ieee.Toward.even.cut s (M <<< (P - (q + 200))) ((q + 200) - P)) := by
    have hsplit : C * 2 ^ T = C * 2 ^ (T - q) * 2 ^ q := by rw [Nat.mul_assoc, ← Nat.pow_add, show T - q + q = T by omega]
    have hsplit2 : C * 2 ^ (T + 200) = C * 2 ^ (T - q) * 2 ^ (q + 200) := by rw [Nat.mul_assoc, ← Nat.pow_add, show T - q + (q + 200) = T + 200 by omega]
    refine ⟨?_, ?_, fun hq0 => ?_⟩
    · rw [hsplit]
      refine Nat.mul_le_mul_right _ (cut_le s _ _ _ ?_)
      rw [Nat.shiftLeft_eq]
      rcases Nat.le_total (q + 200) P with hle | hle
      · rw [show (q + 200) - P = 0 by omega, Nat.pow_zero, Nat.mul_one]
        refine Nat.le_of_mul_le_mul_right (c := 2 ^ (q + 200)) ?_ (Nat.two_pow_pos _)
        rw [Nat.mul_assoc, ← Nat.pow_add, show P - (q + 200) + (q + 200) = P by omega, ← hsplit2]; exact h
      · rw [show P - (q + 200) = 0 by omega, Nat.pow_zero, Nat.mul_one]
        refine Nat.le_of_mul_le_mul_right (c := 2 ^ P) ?_ (Nat.two_pow_pos P)
        rw [Nat.mul_assoc (C * 2 ^ (T - q)), ← Nat.pow_add, show (q + 200) - P + P = q + 200 by omega, ← hsplit2]; exact h
    · refine cut_le s _ _ _ ?_
      rw [Nat.shiftLeft_eq]
      have : M * 2 ^ (P - (q + 200)) < 2 ^ (L + 1 + (P - (q + 200))) := by rw [Nat.pow_add]; exact Nat.mul_lt_mul_of_pos_right hl2 (Nat.two_pow_pos _)
      have h5 : 2 ^ (L + 1 + (P - (q + 200))) ≤ 2 ^ (24 + ((q + 200) - P)) := Nat.pow_le_pow_right (by omega) (by omega)
      have h6 : (16777216 : Nat) * 2 ^ ((q + 200) - P) = 2 ^ (24 + ((q + 200) - P)) := by rw [Nat.pow_add]
      omega
    · refine cut_ge s _ _ _ (by omega) ?_
      rw [Nat.shiftLeft_eq]
      have h5 : 2 ^ (23 + ((q + 200) - P)) ≤ 2 ^ (L + (P - (q + 200))) := Nat.pow_le_pow_right (by omega) (by omega)
      have h6 : (8388608 : Nat) * 2 ^ ((q + 200) - P) = 2 ^ (23 + ((q + 200) - P)) := by rw [Nat.pow_add]
      have h7 : 2 ^ (L + (P - (q + 200))) ≤ M * 2 ^ (P - (q + 200)) := by rw [Nat.pow_add]; exact Nat.mul_le_mul_right _ hl1
      omega
  generalize Ieee.Toward.even.cut s (M <<< (P - (q + 200))) ((q + 200) - P) = K at hk ⊢
  obtain ⟨hk1, hk2, hk3⟩ := hk
  have hr : q * 8388608 + K < 2139095040 := by omega
  rw [Nat.min_eq_left (by omega)]
  rcases Nat.lt_or_ge (q * 8388608 + K) 8388608 with hlo | hhi
  · have hq0 : q = 0 := by omega
    subst hq0
    refine ⟨s, _, -149, read_low s _ hlo, by omega, fun h => hsf h _, ?_⟩
    simpa using hk1
  · refine ⟨s, _, _, read_high s _ hhi hr, by omega, fun h => hsf h _, ?_⟩
    rcases Nat.lt_or_ge K 16777216 with hlt | hge
    · have hK : 8388608 ≤ K := by
        rcases Nat.eq_zero_or_pos q with h | h
        · subst h; omega
        · exact hk3 h
      have e4 : (q * 8388608 + K) / 8388608 - 1 = q := by omega
      have e5 : 8388608 + (q * 8388608 + K) % 8388608 = K := by omega
      rw [e4, e5, show (-149 + (q : Int) + 149).toNat = q by omega]
      exact hk1
    · have hK : K = 16777216 := by omega
      subst hK
      have e4 : (q * 8388608 + 16777216) / 8388608 - 1 = q + 1 := by omega
      have e5 : 8388608 + (q * 8388608 + 16777216) % 8388608 = 8388608 := by omega
      rw [e4, e5, show (-149 + ((q + 1 : Nat) : Int) + 149).toNat = q + 1 by omega, Nat.pow_succ]
      have : 8388608 * (2 ^ q * 2) = 16777216 * 2 ^ q := by omega
      rw [this]; exact hk1

/-- A part is a number from 0 to 1. -/
theorem part_pos {a : Nat} (h : (ge a 0 && le a 1065353216) = true) : Pos (2 ^ 149) a := by
  obtain ⟨h1, h2⟩ := Bool.and_eq_true_iff.1 h
  unfold ge at h1
  unfold le at h2
  have r0 : Ieee.single.read 0 = .number false 0 (-149) := by decide
  have r1 : Ieee.single.read 1065353216 = .number false 8388608 (-23) := by decide
  rw [show FloatKind.f32.format.order a 0 = (Ieee.single.read a).order (Ieee.single.read 0) from rfl, r0] at h1
  rw [show FloatKind.f32.format.order a 1065353216 = (Ieee.single.read a).order (Ieee.single.read 1065353216) from rfl, r1] at h2
  cases hx : Ieee.single.read a with
  | nan s f => rw [hx] at h1; revert h1; simp [Ieee.Datum.order]
  | infinity s => rw [hx] at h1 h2; cases s <;> simp [Ieee.Datum.order] at h1 h2
  | number s m e =>
    obtain ⟨_, he, _⟩ := read_number hx
    rw [hx] at h1 h2
    have g1 := of_decide_eq_true ((cmpGe (Ieee.signed s m (e - min e (-149)).toNat) (Ieee.signed false 0 (-149 - min e (-149)).toNat)).symm.trans h1)
    have g2 := of_decide_eq_true ((cmpLe (Ieee.signed s m (e - min e (-23)).toNat) (Ieee.signed false 8388608 (-23 - min e (-23)).toNat)).symm.trans h2)
    rw [signedE, signedE] at g1 g2
    simp only [Bool.false_eq_true, if_false] at g1 g2
    have hs0 : s = true → m = 0 := by
      intro hs
      subst hs
      simp only [if_true] at g1
      rcases Nat.eq_zero_or_pos m with h | h
      · exact h
      · exfalso
        have : 0 < m * 2 ^ (e - min e (-149)).toNat := Nat.mul_pos h (Nat.two_pow_pos _)
        omega
    refine ⟨s, m, e, hx, he, hs0, ?_⟩
    have g3 : m * 2 ^ (e - min e (-23)).toNat ≤ 8388608 * 2 ^ (-23 - min e (-23)).toNat := by
      cases s
      · simp only [Bool.false_eq_true, if_false] at g2; omega
      · rw [hs0 rfl, Nat.zero_mul]; exact Nat.zero_le _
    have g4 := (scaleLe (t := (min e (-23) + 149).toNat)).1 g3
    rw [show (e - min e (-23)).toNat + (min e (-23) + 149).toNat = (e + 149).toNat by omega, show (-23 - min e (-23)).toNat + (min e (-23) + 149).toNat = 126 by omega] at g4
    have h8 : (8388608 : Nat) * 2 ^ 126 = 2 ^ 149 := by decide
    omega

set_option exponentiation.threshold 500 in
/-- A part times seven. -/
theorem seven_pos {a : Nat} (h : Pos (2 ^ 149) a) : ∃ v, Ieee.single.mul a 1088421888 = some v ∧ Pos (7 * 2 ^ 149) v := by
  obtain ⟨s, m, e, hr, he, hs, hm⟩ := h
  unfold Ieee.Format.mul
  have r7 : Ieee.single.read 1088421888 = .number false 14680064 (-21) := by decide
  rw [hr, r7]
  refine ⟨_, rfl, ?_⟩
  show Pos _ (Ieee.single.nearest _ _ _)
  refine nearest_pos _ _ _ 7 149 (by omega) (by omega) (by omega) (by omega) (fun h => by
    have : s = true := by cases s <;> simp at h ⊢
    rw [hs this, Nat.zero_mul]) ?_
  have h9 : m * 2 ^ (e + 149).toNat * (14680064 * 2 ^ 179) ≤ 2 ^ 149 * (14680064 * 2 ^ 179) := Nat.mul_le_mul_right _ hm
  have h10 : m * 14680064 * 2 ^ (e + -21 + 349).toNat = m * 2 ^ (e + 149).toNat * (14680064 * 2 ^ 179) := by
    have e1 : (e + -21 + 349).toNat = (e + 149).toNat + 179 := by omega
    rw [e1, Nat.pow_add]
    rw [Nat.mul_assoc m 14680064, Nat.mul_assoc m (2 ^ (e + 149).toNat)]
    congr 1
    rw [← Nat.mul_assoc, ← Nat.mul_assoc, Nat.mul_comm 14680064]
  have h11 : (2 : Nat) ^ 149 * (14680064 * 2 ^ 179) = 7 * 2 ^ (149 + 200) := by
    rw [show (14680064 : Nat) = 7 * 2 ^ 21 by decide, Nat.mul_assoc 7 (2 ^ 21), ← Nat.pow_add, Nat.mul_left_comm, ← Nat.pow_add]
  rw [h10]
  exact Nat.le_trans h9 (Nat.le_of_eq h11)

/-- The whole part. -/
def flN (x : Nat) : Nat := match Ieee.single.read x with
  | .number _ m e => m * 2 ^ (e + 149).toNat / 2 ^ 149
  | _ => 0
theorem flN_le {x : Nat} (h : Pos (7 * 2 ^ 149) x) : flN x ≤ 7 := by
  obtain ⟨s, m, e, hr, he, hs, hm⟩ := h
  unfold flN
  rw [hr]
  simp only
  exact Nat.div_le_of_le_mul (Nat.le_trans hm (Nat.le_of_eq (Nat.mul_comm _ _)))

def okJ (j : Nat) : Bool := match Ieee.single.read (FloatKind.f32.nearest (j : Int)) with
  | .number t nn jj => !t && decide (-149 ≤ jj) && decide (nn * 2 ^ (jj + 149).toNat = j * 2 ^ 149)
  | _ => false
theorem okJ_all : ∀ j : Fin 8, okJ j.val = true := by decide +kernel

/-- A whole number is no more than x if it is no more than its whole part. -/
theorem le_flN {x B : Nat} (h : Pos B x) (j : Nat) (hj : j ≤ 7) : le (FloatKind.f32.nearest (j : Int)) x = decide (j ≤ flN x) := by
  obtain ⟨s, m, e, hr, he, hs, hm⟩ := h
  have hk := okJ_all ⟨j, by omega⟩
  unfold okJ at hk
  simp only at hk
  cases hn : Ieee.single.read (FloatKind.f32.nearest (j : Int)) with
  | nan t f => rw [hn] at hk; cases hk
  | infinity t => rw [hn] at hk; cases hk
  | number t nn jj =>
    rw [hn] at hk
    simp only [Bool.and_eq_true, decide_eq_true_eq, Bool.not_eq_true'] at hk
    obtain ⟨⟨rfl, hjj⟩, hval⟩ := hk
    unfold le flN
    rw [show FloatKind.f32.format.order (FloatKind.f32.nearest (j : Int)) x = (Ieee.single.read (FloatKind.f32.nearest (j : Int))).order (Ieee.single.read x) from rfl, hn, hr]
    simp only
    have e0 := cmpLe (Ieee.signed false nn (jj - min jj e).toNat) (Ieee.signed s m (e - min jj e).toNat)
    refine Eq.trans e0 ?_
    rw [signedE, signedE]
    simp only [Bool.false_eq_true, if_false]
    have hss : (if s = true then -((m * 2 ^ (e - min jj e).toNat : Nat) : Int) else ((m * 2 ^ (e - min jj e).toNat : Nat) : Int)) = ((m * 2 ^ (e - min jj e).toNat : Nat) : Int) := by
      cases s
      · rfl
      · rw [hs rfl]; simp
    rw [hss]
    have hiff : nn * 2 ^ (jj - min jj e).toNat ≤ m * 2 ^ (e - min jj e).toNat ↔ j ≤ m * 2 ^ (e + 149).toNat / 2 ^ 149 := by
      rw [scaleLe (t := (min jj e + 149).toNat), show (jj - min jj e).toNat + (min jj e + 149).toNat = (jj + 149).toNat by omega, show (e - min jj e).toNat + (min jj e + 149).toNat = (e + 149).toNat by omega, hval]
      exact (Nat.le_div_iff_mul_le (Nat.two_pow_pos 149)).symm
    by_cases hc : j ≤ m * 2 ^ (e + 149).toNat / 2 ^ 149
    · rw [decide_eq_true hc, decide_eq_true (by have := hiff.2 hc; omega)]
    · rw [decide_eq_false hc, decide_eq_false (by intro h'; exact hc (hiff.1 (by omega)))]

/-- The double word of a number. -/
def dbl (x : Nat) : Nat := Ieee.double.write (Ieee.single.read x)
theorem rConv_num {x B : Nat} (h : Pos B x) (W : World) : rConv W x = dbl x := by
  obtain ⟨s, m, e, hr, _⟩ := h
  unfold rConv dbl
  rw [hr]
theorem nConv_num {x B : Nat} (h : Pos B x) : nConv x = 0 := by
  obtain ⟨s, m, e, hr, _⟩ := h
  unfold nConv
  rw [hr]

theorem read_dword (s : Bool) (r : Nat) (h1 : 4503599627370496 ≤ r) (h2 : r < 9218868437227405312) : Ieee.double.read (Ieee.double.word s r) = .number s (4503599627370496 + r % 4503599627370496) (-1074 + ((r / 4503599627370496 - 1 : Nat) : Int)) := by
  unfold Ieee.Format.read Ieee.Format.word
  rw [dsw, dbi, dir, dlp]
  have m1 : (if s = true then 9223372036854775808 + r else r) % 9223372036854775808 = r := by split <;> omega
  have m2 : ((if s = true then 9223372036854775808 + r else r) / 9223372036854775808 % 2 == 1) = s := by
    cases s
    · simp only [Bool.false_eq_true, if_false]
      have : r / 9223372036854775808 % 2 = 0 := by omega
      rw [this]; rfl
    · simp only [if_true]
      have : (9223372036854775808 + r) / 9223372036854775808 % 2 = 1 := by omega
      rw [this]; rfl
  simp only [m1, m2]
  rw [if_neg (by omega), if_pos h2]

theorem cut_down (n d : Nat) : Ieee.Toward.down.cut false n d = n / 2 ^ d := by
  unfold Ieee.Toward.cut
  by_cases hd : d ≤ n.log2 + 2
  · have hg : (1 <<< min d (n.log2 + 2) : Nat) = 2 ^ d := by rw [Nat.min_eq_left hd, Nat.shiftLeft_eq, Nat.one_mul]
    simp [hg]
  · have hg : (1 <<< min d (n.log2 + 2) : Nat) = 2 ^ (n.log2 + 2) := by rw [Nat.min_eq_right (by omega), Nat.shiftLeft_eq, Nat.one_mul]
    have h1 : n < 2 ^ (n.log2 + 1) := Nat.lt_log2_self
    have h2 : 2 ^ (n.log2 + 1) ≤ 2 ^ (n.log2 + 2) := Nat.pow_le_pow_right (by omega) (by omega)
    have h3 : 2 ^ (n.log2 + 2) ≤ 2 ^ d := Nat.pow_le_pow_right (by omega) (by omega)
    simp only [hg]
    rw [Nat.div_eq_of_lt (by omega), Nat.div_eq_of_lt (by omega)]
    rfl

/-- The floor of the double word, as a datum: the whole part. -/
theorem floor_dbl {x : Nat} (h : Pos (7 * 2 ^ 149) x) : ∃ s, (Ieee.double.read (dbl x)).isNaN = false ∧ (Ieee.double.read (dbl x)).integral .down = .number s (flN x) 0 ∧ (s = true → flN x = 0) := by
  obtain ⟨s, m, e, hr, he, hs, hm⟩ := h
  have hm24 := (read_number hr).1
  unfold dbl flN
  rw [hr]
  simp only
  show ∃ s', (Ieee.double.read (Ieee.double.nearest s m e)).isNaN = false ∧ (Ieee.double.read (Ieee.double.nearest s m e)).integral .down = _ ∧ _
  by_cases h0 : m = 0
  · subst h0
    have hz : Ieee.double.nearest s 0 e = Ieee.double.word s 0 := by unfold Ieee.Format.nearest; rw [if_pos rfl]
    rw [hz, Nat.zero_mul, Nat.zero_div]
    refine ⟨s, ?_, ?_, fun _ => rfl⟩
    · cases s <;> decide
    · cases s <;> decide
  · have hsf : s = false := by cases s; rfl; exact absurd (hs rfl) h0
    subst hsf
    have hl1 : 2 ^ m.log2 ≤ m := Nat.log2_self_le h0
    have hl2 : m < 2 ^ (m.log2 + 1) := Nat.lt_log2_self
    have hl23 : m.log2 ≤ 23 := by
      have := (Nat.log2_lt (n := m) (k := 24) h0).2 (by omega)
      omega
    have hel : (m.log2 : Int) + e ≤ 2 := by
      rcases Int.lt_or_le 2 ((m.log2 : Int) + e) with hgt | hle
      · exfalso
        have h1 : 2 ^ 152 ≤ 2 ^ (m.log2 + (e + 149).toNat) := Nat.pow_le_pow_right (by omega) (by omega)
        have h2 : 2 ^ (m.log2 + (e + 149).toNat) ≤ m * 2 ^ (e + 149).toNat := by rw [Nat.pow_add]; exact Nat.mul_le_mul_right _ hl1
        have h3 : (7 : Nat) * 2 ^ 149 < 2 ^ 152 := by decide
        omega
      · exact hle
    have hnear : Ieee.double.nearest false m e = Ieee.double.word false ((e + m.log2 - 52 + 1074).toNat * 4503599627370496 + m * 2 ^ (52 - m.log2)) := by
      unfold Ieee.Format.nearest
      rw [if_neg h0, dlp, dbi, dir]
      have hfb : (Ieee.double.fractionBits : Int) = 52 := by decide
      have hlast : max (e + (m.log2 : Int) - (Ieee.double.fractionBits : Int)) (-1074) = e + (m.log2 : Int) - 52 := by rw [hfb]; omega
      simp only [hlast]
      have d1 : (e - (e + (m.log2 : Int) - 52)).toNat = 52 - m.log2 := by omega
      have d2 : (e + (m.log2 : Int) - 52 - e).toNat = 0 := by omega
      have d3 : (e + (m.log2 : Int) - 52 - -1074) = e + (m.log2 : Int) - 52 + 1074 := by omega
      rw [d1, d2, cut_zero, d3, Nat.shiftLeft_eq]
      congr 1
      refine Nat.min_eq_left ?_
      have h4 : m * 2 ^ (52 - m.log2) < 2 ^ (m.log2 + 1) * 2 ^ (52 - m.log2) := Nat.mul_lt_mul_of_pos_right hl2 (Nat.two_pow_pos _)
      have h5 : 2 ^ (m.log2 + 1) * 2 ^ (52 - m.log2) = 2 ^ 53 := by rw [← Nat.pow_add]; congr 1; omega
      have h6 : (2 : Nat) ^ 53 = 9007199254740992 := by decide
      omega
    have hlo : 4503599627370496 ≤ m * 2 ^ (52 - m.log2) := by
      have h5 : 2 ^ m.log2 * 2 ^ (52 - m.log2) = 2 ^ 52 := by rw [← Nat.pow_add]; congr 1; omega
      have h6 : (2 : Nat) ^ 52 = 4503599627370496 := by decide
      rw [← h6, ← h5]
      exact Nat.mul_le_mul_right _ hl1
    have hhi : m * 2 ^ (52 - m.log2) < 9007199254740992 := by
      have h4 : m * 2 ^ (52 - m.log2) < 2 ^ (m.log2 + 1) * 2 ^ (52 - m.log2) := Nat.mul_lt_mul_of_pos_right hl2 (Nat.two_pow_pos _)
      have h5 : 2 ^ (m.log2 + 1) * 2 ^ (52 - m.log2) = 2 ^ 53 := by rw [← Nat.pow_add]; congr 1; omega
      have h6 : (2 : Nat) ^ 53 = 9007199254740992 := by decide
      omega
    rw [hnear]
    obtain ⟨q, hq⟩ : ∃ q, q = (e + m.log2 - 52 + 1074).toNat := ⟨_, rfl⟩
    rw [← hq]
    have hq2 : q ≤ 1024 := by omega
    have hN : m * 2 ^ (52 - m.log2) / 2 ^ (52 - e - m.log2).toNat = m * 2 ^ (e + 149).toNat / 2 ^ 149 := by
      have h7 : m * 2 ^ (52 - m.log2) / 2 ^ (52 - e - m.log2).toNat = (m * 2 ^ (52 - m.log2) * 2 ^ 149) / (2 ^ (52 - e - m.log2).toNat * 2 ^ 149) := (Nat.mul_div_mul_right _ _ (Nat.two_pow_pos 149)).symm
      have h8 : m * 2 ^ (e + 149).toNat / 2 ^ 149 = (m * 2 ^ (e + 149).toNat * 2 ^ (52 - e - m.log2).toNat) / (2 ^ 149 * 2 ^ (52 - e - m.log2).toNat) := (Nat.mul_div_mul_right _ _ (Nat.two_pow_pos _)).symm
      rw [h7, h8, Nat.mul_comm (2 ^ 149) (2 ^ (52 - e - m.log2).toNat), Nat.mul_assoc, Nat.mul_assoc, ← Nat.pow_add, ← Nat.pow_add, show 52 - m.log2 + 149 = (e + 149).toNat + (52 - e - m.log2).toNat by omega, Nat.pow_add 2 (e + 149).toNat]
    generalize hn : m * 2 ^ (52 - m.log2) = n at hlo hhi hN ⊢
    rw [read_dword false _ (by omega) (by omega)]
    have e4 : (q * 4503599627370496 + n) / 4503599627370496 - 1 = q := by omega
    have e5 : 4503599627370496 + (q * 4503599627370496 + n) % 4503599627370496 = n := by omega
    rw [e4, e5]
    refine ⟨false, rfl, ?_, fun h => by cases h⟩
    show Ieee.Datum.number false (Ieee.Toward.down.cut false (n <<< (-1074 + (q : Int)).toNat) (-(-1074 + (q : Int))).toNat) 0 = _
    have e6 : (-1074 + (q : Int)).toNat = 0 := by omega
    have e7 : (-(-1074 + (q : Int))).toNat = (52 - e - m.log2).toNat := by omega
    rw [e6, e7, Nat.shiftLeft_zero, cut_down, hN]

theorem small_int : ∀ k : Fin 8, (Ieee.double.read (Ieee.double.write (.number false k.val 0))).toInt .zero = some (k.val : Int) := by decide +kernel
theorem small_int0 : (Ieee.double.read (Ieee.double.write (.number true 0 0))).toInt .zero = some 0 := by decide +kernel
/-- What the double floor is as an integer. -/
theorem floor_int {x : Nat} (h : Pos (7 * 2 ^ 149) x) : (Ieee.double.read (Ieee.double.write ((Ieee.double.read (dbl x)).integral .down))).toInt .zero = some (flN x : Int) := by
  obtain ⟨s, _, hd, hs⟩ := floor_dbl h
  rw [hd]
  have h7 := flN_le h
  cases s
  · exact small_int ⟨flN x, by omega⟩
  · rw [hs rfl]; exact small_int0
end Fl
end Go.Proofs.Ytfbflbiohbhmmaa
