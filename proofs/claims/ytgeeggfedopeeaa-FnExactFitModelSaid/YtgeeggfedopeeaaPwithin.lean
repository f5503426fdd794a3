/-
  A number between two others: what both programs answer.
-/
import Derived.Test.YtgeeggfedopeeaaRows
import Derived.Test.YtgeeggfedopeeaaBase
namespace Go.Proofs.Ytgeeggfedopeeaa
open Go.RowKit
set_option maxHeartbeats 400000 in
theorem l00In_calls (n lo hi : Int) (w : World) :
    Calls Try.prog 63 #[.int .i64 n, .int .i64 lo, .int .i64 hi] w fun e w' => e = .returned (.bool (decide (lo ≤ n) && decide (n ≤ hi))) ∧ w' = w := by
  go_enter Try.func63, Try.ntmps63
  go_wp2
  all_goals go_ret
  all_goals (refine ⟨?_, rfl⟩; simp_all; try omega)

set_option maxHeartbeats 400000 in
theorem within_calls (n lo hi : Int) (w : World) :
    Calls Try.prog 65 #[.int .i64 n, .int .i64 lo, .int .i64 hi] w fun e w' => e = .returned (.bool (decide (lo ≤ n) && decide (n ≤ hi))) ∧ w' = w := by
  go_enter Try.func65, Try.ntmps65
  go_wp2
  all_goals go_ret
  all_goals (refine ⟨?_, rfl⟩; simp_all; try omega)

end Go.Proofs.Ytgeeggfedopeeaa
