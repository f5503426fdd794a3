/-
  Parts: what both programs answer.
-/
import Derived.Test.YtclbgkajhpknlaaPidx
namespace Go.Proofs.Ytclbgkajhpknlaa
open Go.RowKit

def vPart (a : Nat) : Bool := Fl.ge a 0 && Fl.le a 1065353216

set_option maxHeartbeats 400000 in
theorem l01Part_calls (a : Nat) (w : World) :
    Calls Try.prog 63 #[.float .f32 a] w fun e w' => e = .returned (.bool (vPart a)) ∧ w' = w := by
  go_enter Try.func63, Try.ntmps63
  unfold vPart
  go_wp2
  all_goals go_ret
  all_goals (refine ⟨?_, rfl⟩; simp_all)

set_option maxHeartbeats 400000 in
theorem IsPart_calls (a : Nat) (w : World) :
    Calls Try.prog 66 #[.float .f32 a] w fun e w' => e = .returned (.bool (vPart a)) ∧ w' = w := by
  go_enter Try.func66, Try.ntmps66
  unfold vPart
  go_wp2
  all_goals go_ret
  all_goals (refine ⟨?_, rfl⟩; simp_all)

theorem areParts1_tests (w : World) : TestsF Try.prog 72 #[] (fun a => !vPart a) w := by
  refine ⟨fun args W => by kernel_rfl, fun x W _ => ?_⟩
  go_enter Try.func72, Try.ntmps72
  go_wp2_with (go_at_call 66; refine (IsPart_calls _ _).mono ?_; rintro e w' ⟨rfl, rfl⟩)
  go_ret
  exact ⟨rfl, Below.refl _ _⟩

set_option maxHeartbeats 400000 in
theorem areParts_calls (b o cap : Nat) (xs : List Nat) (w : World) (hs : HoldsF w b o xs) (hb : b < w.heap.size) (hl : xs.length ≤ maxLen) :
    Calls Try.prog 41 #[.slice (some ⟨b, o, none⟩) xs.length cap] w (RetBool (!xs.any (fun a => !vPart a)) w) := by
  have HC := Lib.hid (containsFuncF_calls _ _ _ b o cap xs w hs hb hl (areParts1_tests w))
  clear hs
  go_enter Try.func41, Try.ntmps41
  go_wp2_with fail
  refine HC.out.mono ?_
  rintro e w1 ⟨rfl, hb1⟩
  go_wp2_with fail
  go_ret
  exact ⟨rfl, hb1⟩
end Go.Proofs.Ytclbgkajhpknlaa
