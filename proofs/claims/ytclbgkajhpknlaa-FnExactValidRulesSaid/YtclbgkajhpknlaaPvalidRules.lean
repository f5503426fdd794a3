/-
  The walk of the law on ValidRules.
-/
import Derived.Test.YtclbgkajhpknlaaPrules
namespace Go.Proofs.Ytclbgkajhpknlaa
open Go.RowKit

set_option maxHeartbeats 400000 in
theorem specValidRules_calls (s b : Nat) (w : World) :
    Calls Try.prog 13 #[.agg #[.float .f32 s, .float .f32 b]] w (RetBool (vRules s b) w) := by
  go_enter Try.func13, Try.ntmps13
  go_wp2_with (go_at_call 40; refine (l07Rules_calls _ s b _ (by simp [go_sem]) (by simp [go_sem])).mono ?_; rintro e w1 ⟨rfl, rfl⟩)
  go_ret
  exact ⟨rfl, below_a1 _ _⟩

set_option maxHeartbeats 400000 in
theorem fnExactValidRules_walk (s b : Nat) (w : World) :
    Calls Try.prog 3 #[.agg #[.float .f32 s, .float .f32 b]] w (RetBool true w) := by
  go_enter Try.func3, Try.ntmps3
  go_wp2_with fail
  refine (toRules_calls _ _ _).mono ?_
  rintro e w1 ⟨rfl, hb1⟩
  go_wp2_with fail
  refine (specValidRules_calls _ _ _).mono ?_
  rintro e w2 ⟨rfl, hb2⟩
  have hB := below_call hb1 hb2
  have hB0 := below_call (below_a1 _ _) hB
  have c0 : w2.cell? ⟨w.heap.size, 0, none⟩ = some (.float .f32 s) := (hB.cell (by simp)).trans (by simp [go_sem])
  have c1 : w2.cell? ⟨w.heap.size, 1, none⟩ = some (.float .f32 b) := (hB.cell (by simp)).trans (by simp [go_sem])
  clear hB hb1 hb2
  go_wp2_with fail
  refine (toRules_calls _ _ _).mono ?_
  rintro e w3 ⟨rfl, hb3⟩
  clear c0 c1
  go_wp2_with fail
  refine (implValidRules_calls _ _ _).mono ?_
  rintro e w4 ⟨rfl, hb4⟩
  have hB4 := below_call (below_call hB0 hb3) hb4
  clear hb3 hb4 hB0
  go_wp2_with fail
  all_goals go_ret
  all_goals exact ⟨rfl, hB4⟩
end Go.Proofs.Ytclbgkajhpknlaa
