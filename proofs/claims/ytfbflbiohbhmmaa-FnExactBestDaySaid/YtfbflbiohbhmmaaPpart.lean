/-
  Parts of one, several of them: what both programs answer.
-/
import Derived.Test.YtfbflbiohbhmmaaPart2
import Derived.Test.YtfbflbiohbhmmaaPidx
namespace Go.Proofs.Ytfbflbiohbhmmaa
open Go.RowKit

theorem areParts1_tests (w : World) : TestsF Try.prog 97 #[] (fun a => !vPart a) w := by
  refine ⟨fun args W => by kernel_rfl, fun x W _ => ?_⟩
  go_enter Try.func97, Try.ntmps97
  go_wp2_with (go_at_call 45; refine (IsPart_calls _ _).mono ?_; rintro e w' ⟨rfl, rfl⟩)
  go_ret
  exact ⟨rfl, Below.refl _ _⟩

set_option maxHeartbeats 400000 in
theorem areParts_calls (b o cap : Nat) (xs : List Nat) (w : World) (hs : HoldsF w b o xs) (hb : b < w.heap.size) (hl : xs.length ≤ maxLen) :
    Calls Try.prog 81 #[.slice (some ⟨b, o, none⟩) xs.length cap] w (RetBool (!xs.any (fun a => !vPart a)) w) := by
  have HC := Lib.hid (containsFuncF_calls _ _ _ b o cap xs w hs hb hl (areParts1_tests w))
  clear hs
  go_enter Try.func81, Try.ntmps81
  go_wp2_with fail
  refine HC.out.mono ?_
  rintro e w1 ⟨rfl, hb1⟩
  go_wp2_with fail
  go_ret
  exact ⟨rfl, hb1⟩
end Go.Proofs.Ytfbflbiohbhmmaa
