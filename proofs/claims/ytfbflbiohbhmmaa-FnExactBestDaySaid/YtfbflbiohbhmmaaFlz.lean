/-
  Nought less a number: the number with its sign turned.
-/
import Derived.Test.YtfbflbiohbhmmaaFlt
import Derived.Test.YtfbflbiohbhmmaaFlw
namespace Go.Proofs.Ytfbflbiohbhmmaa
namespace Fl

theorem ssw' : Ieee.single.signWeight = 2147483648 := by decide
theorem sbi' : Ieee.single.binade = 8388608 := by decide
theorem sir' : Ieee.single.infRung = 2139095040 := by decide
theorem slp' : Ieee.single.leastPlace = -149 := by decide

theorem cut_shift (s : Bool) (m k : Nat) : Ieee.Toward.even.cut s (m <<< k) k = m := by
  unfold Ieee.Toward.cut
  by_cases hm : m = 0
  · subst hm; simp
  have hk : min k ((m <<< k).log2 + 2) = k := by
    apply Nat.min_eq_left
    have h1 : 2 ^ k ≤ m <<< k := by rw [Nat.shiftLeft_eq]; exact Nat.le_mul_of_pos_left _ (by omega)
    have hne : m <<< k ≠ 0 := by have := Nat.two_pow_pos k; omega
    have := (Nat.le_log2 hne).2 h1
    omega
  simp only [hk]
  have hg : (1 <<< k : Nat) = 2 ^ k := by rw [Nat.shiftLeft_eq, Nat.one_mul]
  have h0 : (m <<< k) % (1 <<< k) = 0 := by rw [hg, Nat.shiftLeft_eq]; exact Nat.mul_mod_left _ _
  have h1 : (m <<< k) / (1 <<< k) = m := by rw [hg, Nat.shiftLeft_eq]; exact Nat.mul_div_cancel _ (Nat.two_pow_pos k)
  have hp : 0 < (1 <<< k : Nat) := by rw [hg]; exact Nat.two_pow_pos k
  rw [h0, h1]
  simp

/-- A number of the format, its places filled up to the least one, is written as it was. -/
theorem nearest_low (s : Bool) (r : Nat) (hr : r < 8388608) : Ieee.single.nearest s r (-149) = Ieee.single.word s r := by
  unfold Ieee.Format.nearest
  by_cases h0 : r = 0
  · subst h0; simp
  rw [if_neg h0, slp', sbi', sir']
  have hl : r.log2 ≤ 22 := by
    have := (Nat.log2_lt (n := r) (k := 23) h0).2 (by simpa using hr)
    omega
  have hfb : (Ieee.single.fractionBits : Int) = 23 := by decide
  have hlast : max (-149 + (r.log2 : Int) - (Ieee.single.fractionBits : Int)) (-149) = -149 := by rw [hfb]; omega
  simp only [hlast]
  have hc := cut_shift s r 0
  have e0 : ((-149 : Int) - -149).toNat = 0 := by decide
  rw [e0, hc]
  congr 1
  omega

theorem nearest_high (s : Bool) (m k : Nat) (h1 : 8388608 ≤ m) (h2 : m < 16777216) (hk : k ≤ 253) : Ieee.single.nearest s (m <<< k) (-149) = Ieee.single.word s (k * 8388608 + m) := by
  unfold Ieee.Format.nearest
  have hm : m ≠ 0 := by omega
  have hne : m <<< k ≠ 0 := by rw [Nat.shiftLeft_eq]; have := Nat.two_pow_pos k; exact Nat.mul_ne_zero hm (by omega)
  rw [if_neg hne, slp', sbi', sir']
  have hl : m.log2 = 23 := by
    have a := (Nat.log2_lt (n := m) (k := 24) hm).2 (by simpa using h2)
    have b := (Nat.le_log2 (n := m) (k := 23) hm).2 (by simpa using h1)
    omega
  have hl2 : (m <<< k).log2 = 23 + k := by
    have a : (m <<< k).log2 < 24 + k := (Nat.log2_lt hne).2 (by rw [Nat.shiftLeft_eq, Nat.pow_add]; exact Nat.mul_lt_mul_of_pos_right (by simpa using h2) (Nat.two_pow_pos k))
    have b : 23 + k ≤ (m <<< k).log2 := (Nat.le_log2 hne).2 (by rw [Nat.shiftLeft_eq, Nat.pow_add]; exact Nat.mul_le_mul_right _ (by simpa using h1))
    omega
  have hfb : (Ieee.single.fractionBits : Int) = 23 := by decide
  have hlast : max (-149 + ((m <<< k).log2 : Int) - (Ieee.single.fractionBits : Int)) (-149) = -149 + k := by rw [hfb, hl2]; omega
  simp only [hlast]
  have e1 : ((-149 : Int) - (-149 + k)).toNat = 0 := by omega
  have e2 : ((-149 + k : Int) - -149).toNat = k := by omega
  rw [e1, e2, Nat.shiftLeft_zero, cut_shift]
  congr 1
  omega

theorem sum_zero_pos (m k : Nat) (hm : m ≠ 0) : Ieee.Datum.sum (.number false 0 (-149)) (.number false m (-149 + (k : Int))) = some (.number false (m <<< k) (-149)) := by
  have hb : min (-149 : Int) (-149 + k) = -149 := by omega
  have hk2 : ((-149 + k : Int) - -149).toNat = k := by omega
  have hne : m <<< k ≠ 0 := by rw [Nat.shiftLeft_eq]; have := Nat.two_pow_pos k; exact Nat.mul_ne_zero hm (by omega)
  have h0 : (0 : Int) + ((m <<< k : Nat) : Int) = ((m <<< k : Nat) : Int) := by omega
  show some (Ieee.Datum.number _ _ _) = _
  rw [hb, hk2]
  congr 1
  rw [show Ieee.signed false 0 ((-149 : Int) - -149).toNat = 0 from by decide, show Ieee.signed false m k = ((m <<< k : Nat) : Int) from rfl, h0]
  clear h0
  generalize m <<< k = M at *
  congr 1
  rw [if_neg (by omega)]
  exact decide_eq_false (by omega)

/-- Nought less a number below it. -/
theorem sub_zero_neg (x : Nat) (h1 : 2147483648 < x) (h2 : x ≤ 2147483648 + 2139095040) : Ieee.single.sub 0 x = some (x - 2147483648) := by
  obtain ⟨r, rfl⟩ : ∃ r, x = 2147483648 + r := ⟨x - 2147483648, by omega⟩
  have hneg : ((2147483648 + r) / 2147483648 % 2 == 1) = true := by rw [beq_iff_eq]; omega
  have hmod : (2147483648 + r) % 2147483648 = r := by omega
  have r0 : Ieee.single.read 0 = .number false 0 (-149) := by decide
  unfold Ieee.Format.sub
  rw [r0]
  by_cases ha : r < 8388608
  · have hr : Ieee.single.read (2147483648 + r) = .number true r (-149) := by
      unfold Ieee.Format.read
      rw [ssw', sbi', slp']
      simp only [hneg, hmod, if_pos ha]
    rw [hr]
    have : Ieee.Datum.sum (.number false 0 (-149)) (Ieee.Datum.opposite (.number true r (-149))) = some (.number false r (-149)) := by
      have := sum_zero_pos r 0 (by omega)
      simpa [Ieee.Datum.opposite] using this
    rw [this]
    show some (Ieee.single.nearest false r (-149)) = _
    rw [nearest_low false r ha]
    simp [Ieee.Format.word]
  · by_cases hb : r < 2139095040
    · have hr : Ieee.single.read (2147483648 + r) = .number true (8388608 + r % 8388608) (-149 + (r / 8388608 - 1 : Nat)) := by
        unfold Ieee.Format.read
        rw [ssw', sbi', slp', sir']
        simp only [hneg, hmod, if_neg ha, if_pos hb]
      rw [hr]
      obtain ⟨k, hk⟩ : ∃ k, k = r / 8388608 - 1 := ⟨_, rfl⟩
      obtain ⟨m, hm⟩ : ∃ m, m = 8388608 + r % 8388608 := ⟨_, rfl⟩
      rw [← hk, ← hm]
      have : Ieee.Datum.sum (.number false 0 (-149)) (Ieee.Datum.opposite (.number true m (-149 + (k : Int)))) = some (.number false (m <<< k) (-149)) := sum_zero_pos m k (by omega)
      rw [this]
      show some (Ieee.single.nearest false (m <<< k) (-149)) = _
      rw [nearest_high false m k (by omega) (by omega) (by omega)]
      simp [Ieee.Format.word]
      omega
    · obtain rfl : r = 2139095040 := by omega
      decide +kernel
end Fl
end Go.Proofs.Ytfbflbiohbhmmaa
