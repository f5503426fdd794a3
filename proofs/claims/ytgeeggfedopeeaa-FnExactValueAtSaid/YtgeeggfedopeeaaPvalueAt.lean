/-
  The walk of the law on ValueAt.
-/
import Derived.Test.YtgeeggfedopeeaaPline
import Derived.Test.YtgeeggfedopeeaaPval
import Derived.Test.YtgeeggfedopeeaaPsame
namespace Go.Proofs.Ytgeeggfedopeeaa
open Go.RowKit

/-- The code of a value: of a line and a number. -/
def valueCode (s b x : Nat) : Int := if vLine s b then if vMeasure x then 0 else 2 else 1
def valueOf (s b x : Nat) : Nat := if vLine s b && vMeasure x then lineAt s b x else 0

set_option maxHeartbeats 800000 in
theorem specValueAt_calls (s b x : Nat) (w : World) :
    Calls Try.prog 16 #[.agg #[.float .f32 s, .float .f32 b], .float .f32 x] w (RetFC (valueOf s b x) (valueCode s b x) w) := by
  cases h1 : vLine s b <;> cases h2 : vMeasure x <;> simp only [valueOf, valueCode, h1, h2, Bool.and_self, Bool.and_false, Bool.and_true, Bool.false_eq_true, reduceIte]
  all_goals
    have H1 := Lib.hid h1
    have H2 := Lib.hid h2
    clear h1 h2
    go_enter Try.func16, Try.ntmps16
    go_wp2_with fail
    refine (l06Line_calls _ _ _).mono ?_
    rintro e w1 ⟨rfl, hb1⟩
    have c0 : w1.cell? ⟨w.heap.size, 0, none⟩ = some (.float .f32 s) := (hb1.cell (by simp)).trans (by simp [go_sem])
    have c1 : w1.cell? ⟨w.heap.size, 1, none⟩ = some (.float .f32 b) := (hb1.cell (by simp)).trans (by simp [go_sem])
    have hB := below_call (below_a1 _ _) hb1
    clear hb1
    rw [H1.out]
    go_wp2_with fail
  · go_ret2
    exact ⟨_, rfl, rfl, hB⟩
  · go_ret2
    exact ⟨_, rfl, rfl, hB⟩
  · refine (l06Measure_calls _ _).mono ?_
    rintro e w2 ⟨rfl, rfl⟩
    rw [H2.out]
    go_wp2_with fail
    go_ret2
    exact ⟨_, rfl, rfl, hB⟩
  · refine (l06Measure_calls _ _).mono ?_
    rintro e w2 ⟨rfl, rfl⟩
    rw [H2.out]
    go_wp2_with fail
    refine (l06Value_calls _ _ _ _).mono ?_
    rintro e w3 ⟨v, rfl, hv, hb3⟩
    have HX := Lib.hid hv
    clear hv
    go_wp2_with fail
    go_ret2
    exact ⟨v, rfl, HX.out, below_call hB hb3⟩

set_option maxHeartbeats 800000 in
theorem implValueAt_calls (s b x : Nat) (w : World) :
    Calls Try.prog 17 #[.agg #[.float .f32 s, .float .f32 b], .float .f32 x] w (RetFC (valueOf s b x) (valueCode s b x) w) := by
  cases h1 : vLine s b <;> cases h2 : vMeasure x <;> simp only [valueOf, valueCode, h1, h2, Bool.and_self, Bool.and_false, Bool.and_true, Bool.false_eq_true, reduceIte]
  all_goals
    have H1 := Lib.hid h1
    have H2 := Lib.hid h2
    clear h1 h2
    go_enter Try.func17, Try.ntmps17
    go_wp2_with fail
    refine (implValidLine_calls _ _ _).mono ?_
    rintro e w1 ⟨rfl, hb1⟩
    have c0 : w1.cell? ⟨w.heap.size, 0, none⟩ = some (.float .f32 s) := (hb1.cell (by simp)).trans (by simp [go_sem])
    have c1 : w1.cell? ⟨w.heap.size, 1, none⟩ = some (.float .f32 b) := (hb1.cell (by simp)).trans (by simp [go_sem])
    have hB := below_call (below_a1 _ _) hb1
    clear hb1
    rw [H1.out]
    go_wp2_with fail
  · go_ret2
    exact ⟨_, rfl, rfl, hB⟩
  · go_ret2
    exact ⟨_, rfl, rfl, hB⟩
  · refine (isMeasure_calls _ _).mono ?_
    rintro e w2 ⟨rfl, rfl⟩
    rw [H2.out]
    go_wp2_with fail
    go_ret2
    exact ⟨_, rfl, rfl, hB⟩
  · refine (isMeasure_calls _ _).mono ?_
    rintro e w2 ⟨rfl, rfl⟩
    rw [H2.out]
    go_wp2_with fail
    refine (at_calls _ _ _ _).mono ?_
    rintro e w3 ⟨v, rfl, hv, hb3⟩
    have HX := Lib.hid hv
    clear hv
    go_wp2_with fail
    go_ret2
    exact ⟨v, rfl, HX.out, below_call hB hb3⟩

set_option maxHeartbeats 800000 in
theorem fnExactValueAt_walk (s b x : Nat) (w : World) :
    Calls Try.prog 4 #[.agg #[.float .f32 s, .float .f32 b], .float .f32 x] w (RetBool true w) := by
  go_enter Try.func4, Try.ntmps4
  go_wp2_with fail
  refine (toLine_calls _ _ _).mono ?_
  rintro e w1 ⟨rfl, hb1⟩
  go_wp2_with fail
  refine (specValueAt_calls _ _ _ _).mono ?_
  rintro e w2 ⟨v, rfl, hv, hb2⟩
  have hB := below_call hb1 hb2
  have hB0 := below_call (below_a1 _ _) hB
  have c0 : w2.cell? ⟨w.heap.size, 0, none⟩ = some (.float .f32 s) := (hB.cell (by simp)).trans (by simp [go_sem])
  have c1 : w2.cell? ⟨w.heap.size, 1, none⟩ = some (.float .f32 b) := (hB.cell (by simp)).trans (by simp [go_sem])
  have HV := Lib.hid hv
  clear hB hb1 hb2 hv
  go_wp2_with fail
  refine (toLine_calls _ _ _).mono ?_
  rintro e w3 ⟨rfl, hb3⟩
  clear c0 c1
  go_wp2_with fail
  refine (implValueAt_calls _ _ _ _).mono ?_
  rintro e w4 ⟨u, rfl, hu, hb4⟩
  have hB4 := below_call (below_call hB0 hb3) hb4
  have HU := Lib.hid hu
  clear hb3 hb4 hB0 hu
  go_wp2_with fail
  refine (sameFloat_calls _ _ _ (Fl.same_conv (HU.out.trans HV.out.symm) _ _)).mono ?_
  rintro e w5 ⟨rfl, rfl⟩
  go_wp2_with fail
  all_goals go_ret
  all_goals exact ⟨rfl, below_n hB4 _⟩
end Go.Proofs.Ytgeeggfedopeeaa
