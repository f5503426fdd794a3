/-
  A part of one: what both programs answer.
-/
import Derived.Test.YtfbflbiohbhmmaaRows
import Derived.Test.YtfbflbiohbhmmaaBase
namespace Go.Proofs.Ytfbflbiohbhmmaa
open Go.RowKit

def vPart (a : Nat) : Bool := Fl.ge a 0 && Fl.le a 1065353216

set_option maxHeartbeats 400000 in
theorem l01Part_calls (a : Nat) (w : World) :
    Calls Try.prog 43 #[.float .f32 a] w fun e w' => e = .returned (.bool (vPart a)) ∧ w' = w := by
  go_enter Try.func43, Try.ntmps43
  unfold vPart
  go_wp2
  all_goals go_ret
  all_goals (refine ⟨?_, rfl⟩; simp_all)

set_option maxHeartbeats 400000 in
theorem IsPart_calls (a : Nat) (w : World) :
    Calls Try.prog 45 #[.float .f32 a] w fun e w' => e = .returned (.bool (vPart a)) ∧ w' = w := by
  go_enter Try.func45, Try.ntmps45
  unfold vPart
  go_wp2
  all_goals go_ret
  all_goals (refine ⟨?_, rfl⟩; simp_all)
end Go.Proofs.Ytfbflbiohbhmmaa
