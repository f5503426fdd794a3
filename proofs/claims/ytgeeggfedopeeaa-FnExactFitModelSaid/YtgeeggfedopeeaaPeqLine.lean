/-
  Two lines are compared by the laws.
-/
import Derived.Test.YtgeeggfedopeeaaPsame
namespace Go.Proofs.Ytgeeggfedopeeaa
open Go.RowKit
set_option maxHeartbeats 400000 in
theorem eqLine_calls (a b c d : Nat) (w : World) (h1 : Fl.canon a = Fl.canon c) (h2 : Fl.canon b = Fl.canon d) :
    Calls Try.prog 32 #[.agg #[.float .f32 a, .float .f32 b], .agg #[.float .f32 c, .float .f32 d]] w (RetBool true w) := by
  have H1 := Lib.hid h1
  have H2 := Lib.hid h2
  clear h1 h2
  go_enter Try.func32, Try.ntmps32
  go_wp2_with fail
  refine (sameFloat_calls _ _ _ (Fl.same_conv H1.out _ _)).mono ?_
  rintro e w1 ⟨rfl, rfl⟩
  go_wp2_with fail
  refine (sameFloat_calls _ _ _ (Fl.same_conv H2.out _ _)).mono ?_
  rintro e w1 ⟨rfl, rfl⟩
  go_wp2_with fail
  go_ret
  exact ⟨rfl, below_n (below_a2 _ _ _) _⟩
end Go.Proofs.Ytgeeggfedopeeaa
