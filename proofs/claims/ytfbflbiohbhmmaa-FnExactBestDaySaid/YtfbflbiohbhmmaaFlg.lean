/-
  A day's growth: parts stay parts, and nothing is drawn.
-/
import Derived.Test.YtfbflbiohbhmmaaFlp
import Derived.Test.YtfbflbiohbhmmaaPart2
namespace Go.Proofs.Ytfbflbiohbhmmaa
open Go.RowKit
namespace Fl

/-- What is written of a number up to C * 2^(T - 149) lies no higher: C of 24 binary digits. -/
theorem nearest_up (s : Bool) (M : Nat) (p : Int) (C T : Nat) (hC : C < 16777216) (hT2 : T ≤ 159) (hp : -349 ≤ p) (hs : s = true → M = 0) (h : M * 2 ^ (p + 349).toNat ≤ C * 2 ^ (T + 200)) : Pos (C * 2 ^ T) (Ieee.single.nearest s M p) := by
  unfold Ieee.Format.nearest
  by_cases h0 : M = 0
  · rw [if_pos h0]
    exact ⟨s, 0, -149, read_low s 0 (by omega), by omega, fun _ => rfl, by rw [Nat.zero_mul]; exact Nat.zero_le _⟩
  have hsf : s = true → ∀ k : Nat, k = 0 := fun hs' => absurd (hs hs') h0
  rw [if_neg h0, slp', sbi', sir', show (Ieee.single.fractionBits : Int) = 23 by decide]
  obtain ⟨P, rfl⟩ : ∃ P : Nat, p = (P : Int) - 349 := ⟨(p + 349).toNat, by omega⟩
  have eP : ((P : Int) - 349 + 349).toNat = P := by omega
  rw [eP] at h
  have hl1 : 2 ^ M.log2 ≤ M := Nat.log2_self_le h0
  have hl2 : M < 2 ^ (M.log2 + 1) := Nat.lt_log2_self
  generalize M.log2 = L at hl1 hl2 ⊢
  have hPL : P + L ≤ T + 223 := by
    rcases Nat.lt_or_ge (P + L) (T + 224) with hlt | hge
    · omega
    · exfalso
      have h1 : 2 ^ (T + 224) ≤ 2 ^ (P + L) := Nat.pow_le_pow_right (by omega) hge
      have h2 : 2 ^ (P + L) ≤ M * 2 ^ P := by rw [Nat.pow_add, Nat.mul_comm]; exact Nat.mul_le_mul_right _ hl1
      have h3 : C * 2 ^ (T + 200) < 16777216 * 2 ^ (T + 200) := Nat.mul_lt_mul_of_pos_right hC (Nat.two_pow_pos _)
      have h4 : (16777216 : Nat) * 2 ^ (T + 200) = 2 ^ (T + 224) := by
        rw [show T + 224 = 24 + (T + 200) by omega, Nat.pow_add 2 24 (T + 200)]
      omega
  obtain ⟨q, hq⟩ : ∃ q : Nat, max ((P : Int) - 349 + (L : Int) - 23) (-149) = (q : Int) - 149 := ⟨(P + L) - 223, by omega⟩
  have hq' : q = (P + L) - 223 := by omega
  rw [hq]
  have e1 : ((q : Int) - 149 - -149).toNat = q := by omega
  have e2 : ((P : Int) - 349 - ((q : Int) - 149)).toNat = P - (q + 200) := by omega
  have e3 : ((q : Int) - 149 - ((P : Int) - 349)).toNat = (q + 200) - P := by omega
  simp only [e1, e2, e3]
  have hqT : q ≤ T := by omega
  have hk : Ieee.Toward.even.cut s (M <<< (P - (q + 200))) ((q + 200) - P) * 2 ^ q ≤ C * 2 ^ T ∧ Ieee.Toward.even.cut s (M <<< (P - (q + 200))) ((q + 200) - P) ≤ 16777216 ∧ (0 < q → 8388608 ≤ Ieee.Toward.even.cut s (M <<< (P - (q + 200))) ((q + 200) - P)) := by
    have hsplit : C * 2 ^ T = C * 2 ^ (T - q) * 2 ^ q := by rw [Nat.mul_assoc, ← Nat.pow_add, show T - q + q = T by omega]
    have hsplit2 : C * 2 ^ (T + 200) = C * 2 ^ (T - q) * 2 ^ (q + 200) := by rw [Nat.mul_assoc, ← Nat.pow_add, show T - q + (q + 200) = T + 200 by omega]
    refine ⟨?_, ?_, fun hq0 => ?_⟩
    · rw [hsplit]
      refine Nat.mul_le_mul_right _ (cut_le s _ _ _ ?_)
      rw [Nat.shiftLeft_eq]
      rcases Nat.le_total (q + 200) P with hle | hle
      · rw [show (q + 200) - P = 0 by omega, Nat.pow_zero, Nat.mul_one]
        refine Nat.le_of_mul_le_mul_right (c := 2 ^ (q + 200)) ?_ (Nat.two_pow_pos _)
        rw [Nat.mul_assoc, ← Nat.pow_add, show P - (q + 200) + (q + 200) = P by omega, ← hsplit2]; exact h
      · rw [show P - (q + 200) = 0 by omega, Nat.pow_zero, Nat.mul_one]
        refine Nat.le_of_mul_le_mul_right (c := 2 ^ P) ?_ (Nat.two_pow_pos P)
        rw [Nat.mul_assoc (C * 2 ^ (T - q)), ← Nat.pow_add, show (q + 200) - P + P = q + 200 by omega, ← hsplit2]; exact h
    · refine cut_le s _ _ _ ?_
      rw [Nat.shiftLeft_eq]
      have : M * 2 ^ (P - (q + 200)) < 2 ^ (L + 1 + (P - (q + 200))) := by rw [Nat.pow_add]; exact Nat.mul_lt_mul_of_pos_right hl2 (Nat.two_pow_pos _)
      have h5 : 2 ^ (L + 1 + (P - (q + 200))) ≤ 2 ^ (24 + ((q + 200) - P)) := Nat.pow_le_pow_right (by omega) (by omega)
      have h6 : (16777216 : Nat) * 2 ^ ((q + 200) - P) = 2 ^ (24 + ((q + 200) - P)) := by rw [Nat.pow_add]
      omega
    · refine cut_ge s _ _ _ (by omega) ?_
      rw [Nat.shiftLeft_eq]
      have h5 : 2 ^ (23 + ((q + 200) - P)) ≤ 2 ^ (L + (P - (q + 200))) := Nat.pow_le_pow_right (by omega) (by omega)
      have h6 : (8388608 : Nat) * 2 ^ ((q + 200) - P) = 2 ^ (23 + ((q + 200) - P)) := by rw [Nat.pow_add]
      have h7 : 2 ^ (L + (P - (q + 200))) ≤ M * 2 ^ (P - (q + 200)) := by rw [Nat.pow_add]; exact Nat.mul_le_mul_right _ hl1
      omega
  generalize Ieee.Toward.even.cut s (M <<< (P - (q + 200))) ((q + 200) - P) = K at hk ⊢
  obtain ⟨hk1, hk2, hk3⟩ := hk
  have hr : q * 8388608 + K < 2139095040 := by omega
  rw [Nat.min_eq_left (by omega)]
  rcases Nat.lt_or_ge (q * 8388608 + K) 8388608 with hlo | hhi
  · have hq0 : q = 0 := by omega
    subst hq0
    refine ⟨s, _, -149, read_low s _ hlo, by omega, fun h => hsf h _, ?_⟩
    simpa using hk1
  · refine ⟨s, _, _, read_high s _ hhi hr, by omega, fun h => hsf h _, ?_⟩
    rcases Nat.lt_or_ge K 16777216 with hlt | hge
    · have hK : 8388608 ≤ K := by
        rcases Nat.eq_zero_or_pos q with h | h
        · subst h; omega
        · exact hk3 h
      have e4 : (q * 8388608 + K) / 8388608 - 1 = q := by omega
      have e5 : 8388608 + (q * 8388608 + K) % 8388608 = K := by omega
      rw [e4, e5, show (-149 + (q : Int) + 149).toNat = q by omega]
      exact hk1
    · have hK : K = 16777216 := by omega
      subst hK
      have e4 : (q * 8388608 + 16777216) / 8388608 - 1 = q + 1 := by omega
      have e5 : 8388608 + (q * 8388608 + 16777216) % 8388608 = 8388608 := by omega
      rw [e4, e5, show (-149 + ((q + 1 : Nat) : Int) + 149).toNat = q + 1 by omega, Nat.pow_succ]
      have : 8388608 * (2 ^ q * 2) = 16777216 * 2 ^ q := by omega
      rw [this]; exact hk1


/-- The word of N / 2^149. -/
def Val (N x : Nat) : Prop := ∃ (s : Bool) (m : Nat) (e : Int), Ieee.single.read x = .number s m e ∧ -149 ≤ e ∧ (s = true → m = 0) ∧ m * 2 ^ (e + 149).toNat = N
theorem Pos.val {B x : Nat} (h : Pos B x) : ∃ N, N ≤ B ∧ Val N x := by
  obtain ⟨s, m, e, hr, he, hs, hm⟩ := h
  exact ⟨_, hm, s, m, e, hr, he, hs, rfl⟩
theorem Val.pos {N B x : Nat} (h : Val N x) (hb : N ≤ B) : Pos B x := by
  obtain ⟨s, m, e, hr, he, hs, hm⟩ := h
  exact ⟨s, m, e, hr, he, hs, by rw [hm]; exact hb⟩

theorem signedP {s : Bool} {m k : Nat} (h : s = true → m = 0) : Ieee.signed s m k = ((m * 2 ^ k : Nat) : Int) := by
  rw [signedE]
  cases s
  · rfl
  · rw [h rfl]; simp
theorem signedN {s : Bool} {m k : Nat} (h : s = true → m = 0) : Ieee.signed (!s) m k = -((m * 2 ^ k : Nat) : Int) := by
  rw [signedE]
  cases s
  · rfl
  · rw [h rfl]; simp

theorem add_up {N K x y : Nat} (hx : Val N x) (hy : Val K y) : ∃ v, Ieee.single.add x y = some v ∧ ∀ C T, C < 16777216 → T ≤ 159 → N + K ≤ C * 2 ^ T → Pos (C * 2 ^ T) v := by
  obtain ⟨s, m, i, hrx, hi, hs, hm⟩ := hx
  obtain ⟨t, n, j, hry, hj, ht, hn⟩ := hy
  unfold Ieee.Format.add
  rw [hrx, hry]
  refine ⟨_, rfl, fun C T hC hT hB => ?_⟩
  show Pos _ (Ieee.single.nearest _ _ _)
  rw [signedP hs, signedP ht]
  have e1 : (((m * 2 ^ (i - min i j).toNat : Nat) : Int) + ((n * 2 ^ (j - min i j).toNat : Nat) : Int)).natAbs = m * 2 ^ (i - min i j).toNat + n * 2 ^ (j - min i j).toNat := by omega
  rw [e1]
  refine nearest_up _ _ _ C T hC hT (by omega) ?_ ?_
  · intro h
    split at h
    · omega
    · exact absurd (of_decide_eq_true h) (by omega)
  · have e2 : (min i j + 349).toNat = (min i j + 149).toNat + 200 := by omega
    rw [e2, Nat.pow_add 2 (min i j + 149).toNat, ← Nat.mul_assoc, Nat.add_mul, Nat.mul_assoc m, Nat.mul_assoc n, ← Nat.pow_add, ← Nat.pow_add, show (i - min i j).toNat + (min i j + 149).toNat = (i + 149).toNat by omega, show (j - min i j).toNat + (min i j + 149).toNat = (j + 149).toNat by omega, hm, hn, Nat.pow_add 2 T, ← Nat.mul_assoc]
    exact Nat.mul_le_mul_right _ hB
theorem sub_up {N K x y : Nat} (hx : Val N x) (hy : Val K y) (hle : K ≤ N) : ∃ v, Ieee.single.sub x y = some v ∧ ∀ C T, C < 16777216 → T ≤ 159 → N - K ≤ C * 2 ^ T → Pos (C * 2 ^ T) v := by
  obtain ⟨s, m, i, hrx, hi, hs, hm⟩ := hx
  obtain ⟨t, n, j, hry, hj, ht, hn⟩ := hy
  unfold Ieee.Format.sub
  rw [hrx, hry]
  refine ⟨_, rfl, fun C T hC hT hB => ?_⟩
  show Pos _ (Ieee.single.nearest _ _ _)
  rw [signedP hs, signedN ht]
  have f1 : m * 2 ^ (i - min i j).toNat * 2 ^ (min i j + 149).toNat = N := by
    rw [Nat.mul_assoc, ← Nat.pow_add, show (i - min i j).toNat + (min i j + 149).toNat = (i + 149).toNat by omega, hm]
  have f2 : n * 2 ^ (j - min i j).toNat * 2 ^ (min i j + 149).toNat = K := by
    rw [Nat.mul_assoc, ← Nat.pow_add, show (j - min i j).toNat + (min i j + 149).toNat = (j + 149).toNat by omega, hn]
  have f3 : n * 2 ^ (j - min i j).toNat ≤ m * 2 ^ (i - min i j).toNat := by
    refine Nat.le_of_mul_le_mul_right ?_ (Nat.two_pow_pos (min i j + 149).toNat)
    rw [f1, f2]; exact hle
  have e1 : (((m * 2 ^ (i - min i j).toNat : Nat) : Int) + -((n * 2 ^ (j - min i j).toNat : Nat) : Int)).natAbs = m * 2 ^ (i - min i j).toNat - n * 2 ^ (j - min i j).toNat := by omega
  rw [e1]
  refine nearest_up _ _ _ C T hC hT (by omega) ?_ ?_
  · intro h
    split at h
    · omega
    · exact absurd (of_decide_eq_true h) (by omega)
  · have e2 : (min i j + 349).toNat = (min i j + 149).toNat + 200 := by omega
    rw [e2, Nat.pow_add 2 (min i j + 149).toNat, ← Nat.mul_assoc, Nat.sub_mul, f1, f2, Nat.pow_add 2 T, ← Nat.mul_assoc]
    exact Nat.mul_le_mul_right _ hB
theorem mul_up {N K x y : Nat} (hx : Val N x) (hy : Val K y) : ∃ v, Ieee.single.mul x y = some v ∧ ∀ C T, C < 16777216 → T ≤ 159 → N * K ≤ C * 2 ^ (T + 149) → Pos (C * 2 ^ T) v := by
  obtain ⟨s, m, i, hrx, hi, hs, hm⟩ := hx
  obtain ⟨t, n, j, hry, hj, ht, hn⟩ := hy
  unfold Ieee.Format.mul
  rw [hrx, hry]
  refine ⟨_, rfl, fun C T hC hT hB => ?_⟩
  show Pos _ (Ieee.single.nearest _ _ _)
  refine nearest_up _ _ _ C T hC hT (by omega) ?_ ?_
  · intro h
    cases s
    · have : t = true := by simpa using h
      rw [ht this, Nat.mul_zero]
    · rw [hs rfl, Nat.zero_mul]
  · have e2 : (i + j + 349).toNat = (i + 149).toNat + (j + 149).toNat + 51 := by omega
    have e3 : m * n * 2 ^ (i + j + 349).toNat = N * K * 2 ^ 51 := by
      rw [e2, Nat.pow_add 2 _ 51, Nat.pow_add 2, ← Nat.mul_assoc, ← hm, ← hn]
      congr 1
      rw [Nat.mul_assoc, Nat.mul_assoc, Nat.mul_left_comm n]
    rw [e3, show T + 200 = T + 149 + 51 by omega, Nat.pow_add 2 (T + 149), ← Nat.mul_assoc]
    exact Nat.mul_le_mul_right _ hB

theorem one_val : Val (2 ^ 149) 1065353216 := ⟨false, 8388608, -23, by decide, by decide, by decide, by decide⟩
theorem eighth_val : Val (2 ^ 146) 1040187392 := ⟨false, 8388608, -26, by decide, by decide, by decide, by decide⟩
theorem pos_part {a : Nat} (h : Pos (2 ^ 149) a) : vPart a = true := by
  obtain ⟨s, m, e, hr, he, hs, hm⟩ := h
  have r0 : Ieee.single.read 0 = .number false 0 (-149) := by decide
  have r1 : Ieee.single.read 1065353216 = .number false 8388608 (-23) := by decide
  unfold vPart ge le
  rw [show FloatKind.f32.format.order a 0 = (Ieee.single.read a).order (Ieee.single.read 0) from rfl, r0]
  rw [show FloatKind.f32.format.order a 1065353216 = (Ieee.single.read a).order (Ieee.single.read 1065353216) from rfl, r1, hr]
  refine Bool.and_eq_true_iff.2 ⟨?_, ?_⟩
  · refine (cmpGe (Ieee.signed s m (e - min e (-149)).toNat) (Ieee.signed false 0 (-149 - min e (-149)).toNat)).trans (decide_eq_true ?_)
    rw [signedP hs, signedE]
    simp only [Bool.false_eq_true, if_false, Nat.zero_mul]
    omega
  · refine (cmpLe (Ieee.signed s m (e - min e (-23)).toNat) (Ieee.signed false 8388608 (-23 - min e (-23)).toNat)).trans (decide_eq_true ?_)
    rw [signedP hs, signedE]
    simp only [Bool.false_eq_true, if_false]
    have : m * 2 ^ (e - min e (-23)).toNat ≤ 8388608 * 2 ^ (-23 - min e (-23)).toNat := by
      rw [scaleLe (t := (min e (-23) + 149).toNat), show (e - min e (-23)).toNat + (min e (-23) + 149).toNat = (e + 149).toNat by omega, show (-23 - min e (-23)).toNat + (min e (-23) + 149).toNat = 126 by omega]
      have h8 : (8388608 : Nat) * 2 ^ 126 = 2 ^ 149 := by decide
      omega
    omega

def q1 (a : Nat) : Nat := (Ieee.single.mul a 1040187392).getD 0
def q2 (g : Nat) : Nat := (Ieee.single.add 1065353216 g).getD 0
/-- The rate of air. -/
def rateOf (a g : Nat) : Nat := (Ieee.single.mul (q1 a) (q2 g)).getD 0
theorem one_mul_pow (T : Nat) : 1 * 2 ^ T = 2 ^ T := Nat.one_mul _
set_option exponentiation.threshold 500 in
theorem rate_up {a g : Nat} (ha : vPart a = true) (hg : vPart g = true) : Ieee.single.mul a 1040187392 = some (q1 a) ∧ Ieee.single.add 1065353216 g = some (q2 g) ∧ Ieee.single.mul (q1 a) (q2 g) = some (rateOf a g) ∧ Pos (2 ^ 147) (rateOf a g) := by
  obtain ⟨A, hA, va⟩ := (part_pos ha).val
  obtain ⟨G, hG, vg⟩ := (part_pos hg).val
  obtain ⟨x, hx, px⟩ := mul_up va eighth_val
  obtain ⟨y, hy, py⟩ := add_up one_val vg
  have ex : q1 a = x := by unfold q1; rw [hx]; rfl
  have ey : q2 g = y := by unfold q2; rw [hy]; rfl
  have px := px 1 146 (by omega) (by omega) (by rw [Nat.one_mul, show 146 + 149 = 149 + 146 by omega, Nat.pow_add]; exact Nat.mul_le_mul_right _ hA)
  have py := py 1 150 (by omega) (by omega) (by rw [Nat.one_mul]; omega)
  obtain ⟨X, hX, vx⟩ := px.val
  obtain ⟨Y, hY, vy⟩ := py.val
  obtain ⟨z, hz, pz⟩ := mul_up vx vy
  have ez : rateOf a g = z := by unfold rateOf; rw [ex, ey, hz]; rfl
  rw [ex, ey, ez]
  refine ⟨hx, hy, hz, ?_⟩
  have := pz 1 147 (by omega) (by omega) (by
    rw [Nat.one_mul, show 147 + 149 = 146 + 150 by omega, Nat.pow_add]
    rw [Nat.one_mul] at hX hY
    exact Nat.mul_le_mul hX hY)
  rwa [Nat.one_mul] at this

def d1 (a : Nat) : Nat := (Ieee.single.sub 1065353216 a).getD 0
def d2 (a r : Nat) : Nat := (Ieee.single.mul r (d1 a)).getD 0
/-- The ripeness behind a day. -/
def grownOf (a r : Nat) : Nat := (Ieee.single.add a (d2 a r)).getD 0
set_option exponentiation.threshold 500 in
theorem grown_up {a r : Nat} (ha : vPart a = true) (hr : Pos (2 ^ 147) r) : Ieee.single.sub 1065353216 a = some (d1 a) ∧ Ieee.single.mul r (d1 a) = some (d2 a r) ∧ Ieee.single.add a (d2 a r) = some (grownOf a r) ∧ vPart (grownOf a r) = true := by
  obtain ⟨A, hA, va⟩ := (part_pos ha).val
  obtain ⟨R, hR, vr⟩ := hr.val
  obtain ⟨x, hx, px⟩ := sub_up one_val va hA
  have ex : d1 a = x := by unfold d1; rw [hx]; rfl
  have h2 : ∃ M, M + A ≤ 2 ^ 149 ∧ ∃ y, Ieee.single.mul r x = some y ∧ Pos M y := by
    by_cases hlo : A ≤ 2 ^ 148
    · have px := px 1 149 (by omega) (by omega) (by rw [Nat.one_mul]; exact Nat.sub_le _ _)
      obtain ⟨X, hX, vx⟩ := px.val
      obtain ⟨y, hy, py⟩ := mul_up vr vx
      have py := py 1 147 (by omega) (by omega) (by
        rw [Nat.one_mul] at hX ⊢
        rw [Nat.pow_add]
        exact Nat.mul_le_mul hR hX)
      rw [Nat.one_mul] at py
      exact ⟨2 ^ 147, by omega, y, hy, py⟩
    · obtain ⟨s, m, e, hr', he, hs, hm⟩ := va
      have hm24 := (read_number hr').1
      have he2 : 125 ≤ (e + 149).toNat := by
        rcases Nat.lt_or_ge (e + 149).toNat 125 with h | h
        · exfalso
          have h1 : 2 ^ (e + 149).toNat ≤ 2 ^ 124 := Nat.pow_le_pow_right (by omega) (by omega)
          have h2 : m * 2 ^ (e + 149).toNat ≤ 16777216 * 2 ^ 124 := Nat.mul_le_mul (by omega) h1
          have h3 : (16777216 : Nat) * 2 ^ 124 = 2 ^ 148 := by decide
          omega
        · exact h
      obtain ⟨u, hu⟩ : ∃ u, (e + 149).toNat = u + 125 := ⟨(e + 149).toNat - 125, by omega⟩
      obtain ⟨c, hc⟩ : ∃ c, c = m * 2 ^ u := ⟨_, rfl⟩
      have hAc : A = c * 2 ^ 125 := by rw [← hm, hu, Nat.pow_add, ← Nat.mul_assoc, ← hc]
      have h24 : (2 : Nat) ^ 149 = 16777216 * 2 ^ 125 := by decide
      have hpos : 0 < (2 : Nat) ^ 125 := Nat.two_pow_pos _
      have hc1 : c ≤ 16777216 := by
        refine Nat.le_of_mul_le_mul_right ?_ hpos
        rw [← hAc, ← h24]; exact hA
      have hc0 : 0 < c := by
        rcases Nat.eq_zero_or_pos c with h | h
        · rw [h, Nat.zero_mul] at hAc; omega
        · exact h
      have hD : 2 ^ 149 - A = (16777216 - c) * 2 ^ 125 := by rw [hAc, h24, Nat.sub_mul]
      have px := px (16777216 - c) 125 (by omega) (by omega) (by rw [hD]; exact Nat.le_refl _)
      obtain ⟨X, hX, vx⟩ := px.val
      obtain ⟨y, hy, py⟩ := mul_up vr vx
      have py := py (16777216 - c) 125 (by omega) (by omega) (by
        rw [Nat.pow_add, ← Nat.mul_assoc, Nat.mul_comm R]
        exact Nat.mul_le_mul hX (Nat.le_trans hR (by decide)))
      exact ⟨_, by rw [← hD]; omega, y, hy, py⟩
  obtain ⟨M, hM, y, hy, py⟩ := h2
  have ey : d2 a r = y := by unfold d2; rw [ex, hy]; rfl
  obtain ⟨Y, hY, vy⟩ := py.val
  obtain ⟨z, hz, pz⟩ := add_up va vy
  have ez : grownOf a r = z := by unfold grownOf; rw [ey, hz]; rfl
  rw [ex, ey, ez]
  refine ⟨hx, hy, hz, pos_part ?_⟩
  have := pz 1 149 (by omega) (by omega) (by rw [Nat.one_mul]; omega)
  rwa [Nat.one_mul] at this
end Fl
end Go.Proofs.Ytfbflbiohbhmmaa
