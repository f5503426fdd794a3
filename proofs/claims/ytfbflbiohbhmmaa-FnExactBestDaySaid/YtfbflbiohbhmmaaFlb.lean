/-
  Numbers within bounds: what is rounded stays within a bound that the format has; sums of measures; a sum by a count.
-/
import Derived.Test.YtfbflbiohbhmmaaFlz
namespace Go.Proofs.Ytfbflbiohbhmmaa
open Go.RowKit
namespace Fl

/-- The number of a word is no greater in size than B / 2^149. -/
def Bd (B x : Nat) : Prop := ∃ (s : Bool) (m : Nat) (e : Int), Ieee.single.read x = .number s m e ∧ -149 ≤ e ∧ m * 2 ^ (e + 149).toNat ≤ B

theorem read_low (s : Bool) (r : Nat) (h : r < 8388608) : Ieee.single.read (Ieee.single.word s r) = .number s r (-149) := by
  unfold Ieee.Format.read Ieee.Format.word
  rw [ssw', sbi', sir', slp']
  have m : (if s = true then 2147483648 + r else r) % 2147483648 = r := by split <;> omega
  have d : ((if s = true then 2147483648 + r else r) / 2147483648 % 2 == 1) = s := by
    cases s
    · simp; omega
    · simp; omega
  simp only [m, d]
  rw [if_pos h]
theorem read_high (s : Bool) (r : Nat) (h1 : 8388608 ≤ r) (h2 : r < 2139095040) : Ieee.single.read (Ieee.single.word s r) = .number s (8388608 + r % 8388608) (-149 + ((r / 8388608 - 1 : Nat) : Int)) := by
  unfold Ieee.Format.read Ieee.Format.word
  rw [ssw', sbi', sir', slp']
  have m : (if s = true then 2147483648 + r else r) % 2147483648 = r := by split <;> omega
  have d : ((if s = true then 2147483648 + r else r) / 2147483648 % 2 == 1) = s := by
    cases s
    · simp; omega
    · simp; omega
  simp only [m, d]
  rw [if_neg (by omega), if_pos h2]

theorem cut_le (s : Bool) (n d N : Nat) (h : n ≤ N * 2 ^ d) : Ieee.Toward.even.cut s n d ≤ N := by
  unfold Ieee.Toward.cut
  by_cases hd : d ≤ n.log2 + 2
  · have hg : (1 <<< min d (n.log2 + 2) : Nat) = 2 ^ d := by rw [Nat.min_eq_left hd, Nat.shiftLeft_eq, Nat.one_mul]
    simp only [hg]
    have hp : 0 < 2 ^ d := Nat.two_pow_pos d
    have hq : n / 2 ^ d ≤ N := by
      rw [Nat.div_le_iff_le_mul_add_pred hp]
      rw [Nat.mul_comm] at h
      omega
    rcases Nat.lt_or_ge (n / 2 ^ d) N with hlt | hge
    · refine Nat.le_trans (Nat.add_le_add_left (Bool.toNat_le _) _) hlt
    · have he : n / 2 ^ d = N := by omega
      have hr : n % 2 ^ d = 0 := by
        have := Nat.div_add_mod n (2 ^ d)
        rw [he, Nat.mul_comm] at this
        omega
      rw [hr, he]
      have h3 : (decide (2 ^ d < 2 * 0) || 2 ^ d == 2 * 0 && N % 2 == 1) = false := by
        have h4 : (2 ^ d == 2 * 0) = false := by rw [beq_eq_false_iff_ne]; omega
        rw [h4, decide_eq_false (by omega)]; rfl
      rw [h3]
      exact Nat.le_refl _
  · have hg : (1 <<< min d (n.log2 + 2) : Nat) = 2 ^ (n.log2 + 2) := by rw [Nat.min_eq_right (by omega), Nat.shiftLeft_eq, Nat.one_mul]
    simp only [hg]
    have hl : 2 * n < 2 ^ (n.log2 + 2) := by
      have h1 : n < 2 ^ (n.log2 + 1) := Nat.lt_log2_self
      have h2 : 2 ^ (n.log2 + 2) = 2 * 2 ^ (n.log2 + 1) := by rw [Nat.pow_succ, Nat.mul_comm]
      omega
    have hr : n % 2 ^ (n.log2 + 2) = n := Nat.mod_eq_of_lt (by omega)
    have hq : n / 2 ^ (n.log2 + 2) = 0 := Nat.div_eq_of_lt (by omega)
    rw [hr, hq]
    have h3 : (decide (2 ^ (n.log2 + 2) < 2 * n) || 2 ^ (n.log2 + 2) == 2 * n && 0 % 2 == 1) = false := by
      have h4 : (2 ^ (n.log2 + 2) == 2 * n) = false := by rw [beq_eq_false_iff_ne]; omega
      rw [h4, decide_eq_false (by omega)]; rfl
    rw [h3]
    exact Nat.zero_le _
theorem cut_ge (s : Bool) (n d N : Nat) (hN : 0 < N) (h : N * 2 ^ d ≤ n) : N ≤ Ieee.Toward.even.cut s n d := by
  unfold Ieee.Toward.cut
  have hp : 0 < 2 ^ d := Nat.two_pow_pos d
  have h1 : 2 ^ d ≤ n := Nat.le_trans (Nat.le_mul_of_pos_left _ hN) h
  have hd : d ≤ n.log2 := (Nat.le_log2 (by omega)).2 h1
  have hg : (1 <<< min d (n.log2 + 2) : Nat) = 2 ^ d := by rw [Nat.min_eq_left (by omega), Nat.shiftLeft_eq, Nat.one_mul]
  simp only [hg]
  exact Nat.le_trans ((Nat.le_div_iff_mul_le hp).2 h) (Nat.le_add_right _ _)

/-- What is written of a number within a bound that is a multiple of 1024 lies within the bound. -/
theorem nearest_bd (s : Bool) (M : Nat) (p : Int) (C : Nat) (hC : C ≤ 16) (hp : -149 ≤ p) (h : M * 2 ^ (p + 149).toNat ≤ C * 2 ^ 159) : Bd (C * 2 ^ 159) (Ieee.single.nearest s M p) := by
  unfold Ieee.Format.nearest
  by_cases h0 : M = 0
  · rw [if_pos h0]
    exact ⟨s, 0, -149, read_low s 0 (by omega), by omega, by rw [Nat.zero_mul]; exact Nat.zero_le _⟩
  rw [if_neg h0, slp', sbi', sir', show (Ieee.single.fractionBits : Int) = 23 by decide]
  obtain ⟨P, rfl⟩ : ∃ P : Nat, p = (P : Int) - 149 := ⟨(p + 149).toNat, by omega⟩
  have eP : ((P : Int) - 149 + 149).toNat = P := by omega
  rw [eP] at h
  have hl1 : 2 ^ M.log2 ≤ M := Nat.log2_self_le h0
  have hl2 : M < 2 ^ (M.log2 + 1) := Nat.lt_log2_self
  generalize M.log2 = L at hl1 hl2 ⊢
  -- the place of the value: P + L ≤ 163
  have hPL : P + L ≤ 163 := by
    rcases Nat.lt_or_ge (P + L) 164 with hlt | hge
    · omega
    · exfalso
      have h1 : 2 ^ 164 ≤ 2 ^ (P + L) := Nat.pow_le_pow_right (by omega) hge
      have h2 : 2 ^ (P + L) ≤ M * 2 ^ P := by rw [Nat.pow_add, Nat.mul_comm]; exact Nat.mul_le_mul_right _ hl1
      have h3 : C * 2 ^ 159 ≤ 16 * 2 ^ 159 := Nat.mul_le_mul_right _ hC
      have h4 : (16 : Nat) * 2 ^ 159 < 2 ^ 164 := by decide
      omega
  obtain ⟨q, hq⟩ : ∃ q : Nat, max ((P : Int) - 149 + (L : Int) - 23) (-149) = (q : Int) - 149 := ⟨(P + L) - 23, by omega⟩
  have hq' : q = (P + L) - 23 := by omega
  rw [hq]
  have e1 : ((q : Int) - 149 - -149).toNat = q := by omega
  have e2 : ((P : Int) - 149 - ((q : Int) - 149)).toNat = P - q := by omega
  have e3 : ((q : Int) - 149 - ((P : Int) - 149)).toNat = q - P := by omega
  simp only [e1, e2, e3]
  have hk : Ieee.Toward.even.cut s (M <<< (P - q)) (q - P) * 2 ^ q ≤ C * 2 ^ 159 ∧ Ieee.Toward.even.cut s (M <<< (P - q)) (q - P) ≤ 16777216 ∧ (0 < q → 8388608 ≤ Ieee.Toward.even.cut s (M <<< (P - q)) (q - P)) := by
    have hq140 : q ≤ 140 := by omega
    have hsplit : C * 2 ^ 159 = C * 2 ^ (159 - q) * 2 ^ q := by rw [Nat.mul_assoc, ← Nat.pow_add, show 159 - q + q = 159 by omega]
    refine ⟨?_, ?_, fun hq0 => ?_⟩
    · rw [hsplit]
      refine Nat.mul_le_mul_right _ (cut_le s _ _ _ ?_)
      rw [Nat.shiftLeft_eq]
      rcases Nat.le_total q P with hle | hle
      · rw [show q - P = 0 by omega, Nat.pow_zero, Nat.mul_one]
        refine Nat.le_of_mul_le_mul_right (c := 2 ^ q) ?_ (Nat.two_pow_pos q)
        rw [Nat.mul_assoc, ← Nat.pow_add, show P - q + q = P by omega, ← hsplit]; exact h
      · rw [show P - q = 0 by omega, Nat.pow_zero, Nat.mul_one]
        refine Nat.le_of_mul_le_mul_right (c := 2 ^ P) ?_ (Nat.two_pow_pos P)
        rw [Nat.mul_assoc (C * 2 ^ (159 - q)), ← Nat.pow_add, show q - P + P = q by omega, ← hsplit]; exact h
    · refine cut_le s _ _ _ ?_
      rw [Nat.shiftLeft_eq]
      have : M * 2 ^ (P - q) < 2 ^ (L + 1 + (P - q)) := by rw [Nat.pow_add]; exact Nat.mul_lt_mul_of_pos_right hl2 (Nat.two_pow_pos _)
      have h5 : 2 ^ (L + 1 + (P - q)) ≤ 2 ^ (24 + (q - P)) := Nat.pow_le_pow_right (by omega) (by omega)
      have h6 : (16777216 : Nat) * 2 ^ (q - P) = 2 ^ (24 + (q - P)) := by rw [Nat.pow_add]
      omega
    · refine cut_ge s _ _ _ (by omega) ?_
      rw [Nat.shiftLeft_eq]
      have h5 : 2 ^ (23 + (q - P)) ≤ 2 ^ (L + (P - q)) := Nat.pow_le_pow_right (by omega) (by omega)
      have h6 : (8388608 : Nat) * 2 ^ (q - P) = 2 ^ (23 + (q - P)) := by rw [Nat.pow_add]
      have h7 : 2 ^ (L + (P - q)) ≤ M * 2 ^ (P - q) := by rw [Nat.pow_add]; exact Nat.mul_le_mul_right _ hl1
      omega
  generalize Ieee.Toward.even.cut s (M <<< (P - q)) (q - P) = K at hk ⊢
  obtain ⟨hk1, hk2, hk3⟩ := hk
  have hq140 : q ≤ 140 := by omega
  have hr : q * 8388608 + K < 2139095040 := by omega
  rw [Nat.min_eq_left (by omega)]
  rcases Nat.lt_or_ge (q * 8388608 + K) 8388608 with hlo | hhi
  · have hq0 : q = 0 := by omega
    subst hq0
    refine ⟨s, _, -149, read_low s _ hlo, by omega, ?_⟩
    simpa using hk1
  · refine ⟨s, _, _, read_high s _ hhi hr, by omega, ?_⟩
    rcases Nat.lt_or_ge K 16777216 with hlt | hge
    · have hK : 8388608 ≤ K := by
        rcases Nat.eq_zero_or_pos q with h | h
        · subst h; omega
        · exact hk3 h
      have e4 : (q * 8388608 + K) / 8388608 - 1 = q := by omega
      have e5 : 8388608 + (q * 8388608 + K) % 8388608 = K := by omega
      rw [e4, e5, show (-149 + (q : Int) + 149).toNat = q by omega]
      exact hk1
    · have hK : K = 16777216 := by omega
      subst hK
      have e4 : (q * 8388608 + 16777216) / 8388608 - 1 = q + 1 := by omega
      have e5 : 8388608 + (q * 8388608 + 16777216) % 8388608 = 8388608 := by omega
      rw [e4, e5, show (-149 + ((q + 1 : Nat) : Int) + 149).toNat = q + 1 by omega, Nat.pow_succ]
      have : 8388608 * (2 ^ q * 2) = 16777216 * 2 ^ q := by omega
      rw [this]; exact hk1

/-- A sum of two numbers within bounds. -/
theorem add_bd {x y A : Nat} (hA : A ≤ 15) (hx : Bd (A * 2 ^ 159) x) (hy : Bd (2 ^ 159) y) : Bd ((A + 1) * 2 ^ 159) (add x y) := by
  obtain ⟨s, m, i, hrx, hi, hm⟩ := hx
  obtain ⟨t, n, j, hry, hj, hn⟩ := hy
  unfold add Ieee.Format.add
  rw [hrx, hry]
  unfold Ieee.Datum.sum
  simp only [Option.map_some, Option.getD_some]
  show Bd _ (Ieee.single.nearest _ _ _)
  refine nearest_bd _ _ _ _ (by omega) (by omega) ?_
  have key : ∀ (s : Bool) (m k : Nat), (Ieee.signed s m k).natAbs = m * 2 ^ k := by
    intro s m k
    unfold Ieee.signed
    rw [Nat.shiftLeft_eq]
    cases s <;> simp [Int.natAbs_neg, Int.natAbs_mul, Int.natAbs_pow]
  have h1 : (Ieee.signed s m (i - min i j).toNat + Ieee.signed t n (j - min i j).toNat).natAbs ≤ m * 2 ^ (i - min i j).toNat + n * 2 ^ (j - min i j).toNat := by
    refine Nat.le_trans (Int.natAbs_add_le _ _) ?_
    rw [key, key]; exact Nat.le_refl _
  refine Nat.le_trans (Nat.mul_le_mul_right _ h1) ?_
  rw [Nat.add_mul, Nat.mul_assoc, Nat.mul_assoc, ← Nat.pow_add, ← Nat.pow_add, show (i - min i j).toNat + (min i j + 149).toNat = (i + 149).toNat by omega, show (j - min i j).toNat + (min i j + 149).toNat = (j + 149).toNat by omega, Nat.add_mul, Nat.one_mul]
  omega
end Fl
end Go.Proofs.Ytfbflbiohbhmmaa
