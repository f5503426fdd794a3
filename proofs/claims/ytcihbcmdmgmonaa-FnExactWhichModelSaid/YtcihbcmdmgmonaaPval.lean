/-
  Measures, and the value of a line: what both programs answer.
-/
import Derived.Test.YtcihbcmdmgmonaaRows
import Derived.Test.YtcihbcmdmgmonaaBase
namespace Go.Proofs.Ytcihbcmdmgmonaa
open Go.RowKit

def vMeasure (a : Nat) : Bool := Fl.ge a 3296722944 && Fl.le a 1149239296
def lineAt (s b x : Nat) : Nat := Fl.add (Fl.mul s x) b

set_option maxHeartbeats 400000 in
theorem l06Measure_calls (a : Nat) (w : World) :
    Calls Try.prog 70 #[.float .f32 a] w fun e w' => e = .returned (.bool (vMeasure a)) ∧ w' = w := by
  go_enter Try.func70, Try.ntmps70
  unfold vMeasure
  go_wp2
  all_goals go_ret
  all_goals (refine ⟨?_, rfl⟩; simp_all)

set_option maxHeartbeats 400000 in
theorem isMeasure_calls (a : Nat) (w : World) :
    Calls Try.prog 72 #[.float .f32 a] w fun e w' => e = .returned (.bool (vMeasure a)) ∧ w' = w := by
  go_enter Try.func72, Try.ntmps72
  unfold vMeasure
  go_wp2
  all_goals go_ret
  all_goals (refine ⟨?_, rfl⟩; simp_all)

theorem canon_lineAt (s b x : Nat) : Fl.canon (lineAt s b x) = lineAt s b x := Fl.canon_addv _ _

set_option maxHeartbeats 400000 in
theorem at_calls (s b x : Nat) (w : World) :
    Calls Try.prog 82 #[.agg #[.float .f32 s, .float .f32 b], .float .f32 x] w (RetF (lineAt s b x) w) := by
  go_enter Try.func82, Try.ntmps82
  go_wp2
  go_ret
  exact ⟨_, rfl, by rw [Fl.canon_rAdd, canon_lineAt]; exact Fl.add_of (Fl.canon_rMul _ _ _) rfl |>.trans (Fl.add_canon_right _ _), below_n (below_a1 _ _) _⟩

set_option maxHeartbeats 400000 in
theorem l06Value_calls (s b x : Nat) (w : World) :
    Calls Try.prog 81 #[.agg #[.float .f32 s, .float .f32 b], .float .f32 x] w (RetF (lineAt s b x) w) := by
  go_enter Try.func81, Try.ntmps81
  go_wp2
  go_ret
  exact ⟨_, rfl, by rw [Fl.canon_rAdd, canon_lineAt]; exact Fl.add_of (Fl.canon_rMul _ _ _) rfl |>.trans (Fl.add_canon_right _ _), below_n (below_a1 _ _) _⟩
end Go.Proofs.Ytcihbcmdmgmonaa
