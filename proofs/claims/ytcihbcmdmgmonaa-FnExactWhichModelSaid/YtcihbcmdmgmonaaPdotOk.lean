/-
  Dots that are valid: what both programs answer.
-/
import Derived.Test.YtcihbcmdmgmonaaPval
import Derived.Test.YtcihbcmdmgmonaaReg
namespace Go.Proofs.Ytcihbcmdmgmonaa
open Go.RowKit

def vDot (d : Nat × Nat) : Bool := vMeasure d.1 && vMeasure d.2
def vDots (ds : List (Nat × Nat)) : Bool := ds.all vDot && decide (ds.length ≤ 16)

theorem all_upto {α : Type} (d : α) (p : α → Bool) (xs : List α) (h : ∀ j, j < xs.length → p (xs.getD j d) = true) : xs.all p = true := by
  rw [List.all_eq_true]
  intro x hx
  obtain ⟨i, hi, rfl⟩ := List.getElem_of_mem hx
  simpa [hi] using h i hi
theorem all_not {α : Type} (d : α) (p : α → Bool) (xs : List α) (k : Nat) (hk : k < xs.length) (h : p (xs.getD k d) = false) : xs.all p = false := by
  rw [List.all_eq_false]
  exact ⟨xs[k], List.getElem_mem hk, by simpa [hk] using h⟩

set_option maxHeartbeats 1000000 in
theorem l06Ok_calls (b o cap : Nat) (ds : List (Nat × Nat)) (w : World) (hd : HoldsD w b o ds) (hb : b < w.heap.size) (hl : ds.length ≤ maxLen) :
    Calls Try.prog 64 #[.slice (some ⟨b, o, none⟩) ds.length cap] w fun e w' => e = .returned (.bool (vDots ds)) ∧ w' = w := by
  unfold maxLen at hl
  go_enter Try.func64, Try.ntmps64
  go_wp2_with fail
  go_loop [3] (fun i => ∃ k : Nat, k ≤ ds.length ∧ i = .int .i64 k ∧ (∀ j, j < k → vDot (ds.getD j (0, 0)) = true)) (fun i => ds.length - (intOf i).toNat)
  case atStart => exact ⟨0, Nat.zero_le _, rfl, fun j hj => by omega⟩
  case round =>
    obtain ⟨k, hk, rfl, hno⟩ := hrel
    have HN := Lib.hid hno
    clear hno
    by_cases hlt : k < ds.length
    · obtain ⟨c0, c1⟩ := hd k hlt
      have HD := Lib.hid hd
      clear hd
      obtain ⟨p, hp⟩ : ∃ p, p = ds.getD k (0, 0) := ⟨_, rfl⟩
      rw [← hp] at c0 c1
      obtain ⟨p0, p1⟩ := p
      have HP := Lib.hid hp
      clear hp
      simp only at c0 c1
      cases h0 : vMeasure p0
      · have hres : vDots ds = false := by unfold vDots; rw [all_not (0, 0) vDot ds k hlt (by rw [← HP.out]; simp [vDot, h0])]; rfl
        have HR := Lib.hid hres
        have H0 := Lib.hid h0
        clear hres h0
        go_wp2_with (go_at_call 70; refine (l06Measure_calls _ _).mono ?_; rintro e w' ⟨rfl, rfl⟩; rw [H0.out])
        go_ret
        exact ⟨by rw [HR.out]; rfl, rfl⟩
      · cases h1 : vMeasure p1
        · have hres : vDots ds = false := by unfold vDots; rw [all_not (0, 0) vDot ds k hlt (by rw [← HP.out]; simp [vDot, h1])]; rfl
          have HR := Lib.hid hres
          have H0 := Lib.hid h0
          have H1 := Lib.hid h1
          clear hres h0 h1
          go_wp2_with fail
          refine (l06Measure_calls _ _).mono ?_
          rintro e w' ⟨rfl, rfl⟩
          rw [H0.out]
          go_wp2_with fail
          refine (l06Measure_calls _ _).mono ?_
          rintro e w' ⟨rfl, rfl⟩
          rw [H1.out]
          go_wp2_with fail
          go_ret
          exact ⟨by rw [HR.out]; rfl, rfl⟩
        · have HN' : ∀ j, j < k + 1 → vDot (ds.getD j (0, 0)) = true := fun j hj => by
            rcases Nat.lt_succ_iff_lt_or_eq.1 hj with h | h
            · exact HN.out j h
            · subst h; rw [← HP.out]; simp [vDot, h0, h1]
          have HM := Lib.hid HN'
          have H0 := Lib.hid h0
          have H1 := Lib.hid h1
          clear HN' h0 h1
          go_wp2_with fail
          refine (l06Measure_calls _ _).mono ?_
          rintro e w' ⟨rfl, rfl⟩
          rw [H0.out]
          go_wp2_with fail
          refine (l06Measure_calls _ _).mono ?_
          rintro e w' ⟨rfl, rfl⟩
          rw [H1.out]
          clear c0 c1
          go_wp2_with fail
          go_round
          case rel => exact ⟨k + 1, by omega, by go_num, HM.out⟩
          case measure => simp [intOf]; omega
    · have hres : vDots ds = decide ((ds.length : Int) ≤ 16) := by
        unfold vDots
        rw [all_upto (0, 0) vDot ds (fun j hj => HN.out j (by omega)), Bool.true_and]
        exact decide_eq_decide.2 (by omega)
      have HR := Lib.hid hres
      clear hres
      go_wp2
      all_goals go_ret
      all_goals exact ⟨by rw [HR.out]; rfl, rfl⟩

set_option maxHeartbeats 400000 in
theorem validDots1_tests (w : World) : TestsD Try.prog 103 #[] (fun d => !vDot d) w := by
  refine ⟨fun args W => by kernel_rfl, fun x y W _ => ?_⟩
  cases h0 : vMeasure x <;> cases h1 : vMeasure y
  all_goals
    have HR : Hid ((!vDot (x, y)) = (!(vMeasure x && vMeasure y))) := rfl
    have H0 := Lib.hid h0
    have H1 := Lib.hid h1
    clear h0 h1
    go_enter Try.func103, Try.ntmps103
    go_wp2_with fail
    refine (isMeasure_calls _ _).mono ?_
    rintro e w' ⟨rfl, rfl⟩
    rw [H0.out]
    go_wp2_with fail
    first | (refine (isMeasure_calls _ _).mono ?_; rintro e w' ⟨rfl, rfl⟩; rw [H1.out]; go_wp2_with fail) | skip
    go_ret
    exact ⟨by rw [HR.out, H0.out, H1.out]; rfl, below_a1 _ _⟩

set_option maxHeartbeats 400000 in
theorem indexFuncD_calls (g : Nat) (cp : Array Value) (p : Nat × Nat → Bool) (b o cap : Nat) (xs : List (Nat × Nat)) (w : World)
    (hs : HoldsD w b o xs) (hb : b < w.heap.size) (hl : xs.length ≤ maxLen) (hp : TestsD Try.prog g cp p w) :
    Calls Try.prog 116 #[.slice (some ⟨b, o, none⟩) xs.length cap, .func (.func g) #[] cp] w (RetInt (idxBy p xs) w) := by
  unfold maxLen at hl
  go_enter Try.func116, Try.ntmps116
  go_wp2
  go_loopw [8] (fun i wr => ∃ k : Nat, k ≤ xs.length ∧ i = .int .i64 k ∧ (∀ j, j < k → p (xs.getD j (0, 0)) = false) ∧ Below w.heap.size w wr) (fun i _ => xs.length - (intOf i).toNat)
  case atStart => exact ⟨0, Nat.zero_le _, rfl, fun j hj => by omega, Below.refl _ _⟩
  case round =>
    obtain ⟨k, hk, rfl, hno, hbl⟩ := hrel
    have HN := Lib.hid hno
    clear hno
    by_cases hlt : k < xs.length
    · obtain ⟨c0, c1⟩ := (hs.below hbl hb) k hlt
      obtain ⟨q, hq⟩ : ∃ q, q = xs.getD k (0, 0) := ⟨_, rfl⟩
      rw [← hq] at c0 c1
      obtain ⟨q0, q1⟩ := q
      have HQ := Lib.hid hq
      clear hq
      simp only at c0 c1
      have hsz := hbl.size
      have hcf := hp.1
      have HP := Lib.hid hp.2
      have HS := Lib.hid hs
      clear hp hs
      go_wp2_with fail
      refine (HP.out _ _ _ (by first | exact hbl | exact hbl.drew)).mono ?_
      clear hcf
      rintro e w1 ⟨rfl, hb1⟩
      have hb2 := hbl.trans (hb1.mono hsz)
      clear c0 c1
      cases hpx : p (q0, q1) with
      | true =>
        have hres : idxBy p xs = k := idxBy_hit (0, 0) p xs k hlt HN.out (by rw [← HQ.out]; exact hpx)
        have HR := Lib.hid hres
        clear hres hpx
        go_wp2
        go_ret
        exact ⟨by rw [HR.out]; rfl, hb2⟩
      | false =>
        have HX := Lib.hid hpx
        clear hpx
        go_wp2
        go_roundw
        case rel => exact ⟨k + 1, by omega, by go_num, fun j hj => by rcases Nat.lt_succ_iff_lt_or_eq.1 hj with h | h; exact HN.out j h; subst h; rw [← HQ.out]; exact HX.out, hb2⟩
        case measure => simp [intOf]; omega
    · have hres : idxBy p xs = -1 := idxBy_none (0, 0) p xs (fun j hj => HN.out j (by omega))
      have HR := Lib.hid hres
      clear hres
      go_wp2
      go_ret
      exact ⟨by rw [HR.out]; rfl, hbl⟩

set_option maxHeartbeats 400000 in
theorem containsFuncD_calls (g : Nat) (cp : Array Value) (p : Nat × Nat → Bool) (b o cap : Nat) (xs : List (Nat × Nat)) (w : World)
    (hs : HoldsD w b o xs) (hb : b < w.heap.size) (hl : xs.length ≤ maxLen) (hp : TestsD Try.prog g cp p w) :
    Calls Try.prog 102 #[.slice (some ⟨b, o, none⟩) xs.length cap, .func (.func g) #[] cp] w (RetBool (xs.any p) w) := by
  have HC := Lib.hid (indexFuncD_calls g cp p b o cap xs w hs hb hl hp)
  have HI := Lib.hid (idxBy_ge p xs)
  clear hs hp
  go_enter Try.func102, Try.ntmps102
  go_wp2_with fail
  refine HC.out.mono ?_
  rintro e w1 ⟨rfl, hb1⟩
  go_wp2_with fail
  go_ret
  exact ⟨congrArg (fun b => Ending.returned (.bool b)) HI.out, hb1⟩

set_option maxHeartbeats 400000 in
theorem implValidDots_calls (b o cap : Nat) (ds : List (Nat × Nat)) (w : World) (hd : HoldsD w b o ds) (hb : b < w.heap.size) (hl : ds.length ≤ maxLen) :
    Calls Try.prog 71 #[.slice (some ⟨b, o, none⟩) ds.length cap] w (RetBool (vDots ds) w) := by
  have HC := Lib.hid (containsFuncD_calls _ _ _ b o cap ds w hd hb hl (validDots1_tests w))
  clear hd
  unfold maxLen at hl
  have hany : ds.any (fun d => !vDot d) = !ds.all vDot := by rw [List.all_eq_not_any_not, Bool.not_not]
  by_cases h16 : (ds.length : Int) ≤ 16
  · have hres : vDots ds = !(ds.any (fun d => !vDot d)) := by unfold vDots; rw [hany, Bool.not_not, decide_eq_true (by omega), Bool.and_true]
    have HR := Lib.hid hres
    clear hres hany
    go_enter Try.func71, Try.ntmps71
    go_wp2_with fail
    refine HC.out.mono ?_
    rintro e w1 ⟨rfl, hb1⟩
    go_wp2_with fail
    go_ret
    exact ⟨by rw [HR.out]; rfl, hb1⟩
  · have hres : vDots ds = false := by unfold vDots; rw [decide_eq_false (by omega), Bool.and_false]
    have HR := Lib.hid hres
    clear hres hany
    go_enter Try.func71, Try.ntmps71
    go_wp2_with fail
    go_ret
    exact ⟨by rw [HR.out]; rfl, Below.refl _ _⟩
end Go.Proofs.Ytcihbcmdmgmonaa
