/-
  Numbers that are the same: what both programs answer.
-/
import Derived.Test.YtfbflbiohbhmmaaRows
import Derived.Test.YtfbflbiohbhmmaaBase
namespace Go.Proofs.Ytfbflbiohbhmmaa
open Go.RowKit

def sameN (a b : Nat) : Bool := if Fl.isNaN a || Fl.isNaN b then Fl.isNaN a && Fl.isNaN b else ((a : Int) == (b : Int))

theorem f32bits (a : Nat) (w : World) : (callFunc 93 #[.float .f32 a]).run Try.prog w = .ok (.value (.int .u32 (a : Int))) w := by kernel_rfl

set_option maxHeartbeats 400000 in
theorem l01Same_calls (a b : Nat) (w : World) :
    Calls Try.prog 71 #[.float .f32 a, .float .f32 b] w fun e w' => e = .returned (.bool (sameN a b)) ∧ w' = w := by
  have hbits := f32bits
  have ha := Fl.eq_self a
  have hb := Fl.eq_self b
  have HR : Hid (sameN a b = if Fl.isNaN a || Fl.isNaN b then Fl.isNaN a && Fl.isNaN b else ((a : Int) == (b : Int))) := rfl
  cases h1 : Fl.isNaN a <;> cases h2 : Fl.isNaN b
  all_goals
    rw [h1] at ha
    rw [h2] at hb
    have H1 := Lib.hid h1
    have H2 := Lib.hid h2
    clear h1 h2
    go_enter Try.func71, Try.ntmps71
    go_wp2
    go_ret
    exact ⟨by rw [HR.out, H1.out, H2.out]; rfl, rfl⟩

set_option maxHeartbeats 400000 in
theorem SameNumber_calls (a b : Nat) (w : World) :
    Calls Try.prog 83 #[.float .f32 a, .float .f32 b] w fun e w' => e = .returned (.bool (sameN a b)) ∧ w' = w := by
  have hbits := f32bits
  have ha := Fl.eq_self a
  have hb := Fl.eq_self b
  have HR : Hid (sameN a b = if Fl.isNaN a || Fl.isNaN b then Fl.isNaN a && Fl.isNaN b else ((a : Int) == (b : Int))) := rfl
  cases h1 : Fl.isNaN a <;> cases h2 : Fl.isNaN b
  all_goals
    rw [h1] at ha
    rw [h2] at hb
    have H1 := Lib.hid h1
    have H2 := Lib.hid h2
    clear h1 h2
    go_enter Try.func83, Try.ntmps83
    go_wp2
    go_ret
    exact ⟨by rw [HR.out, H1.out, H2.out]; rfl, rfl⟩
end Go.Proofs.Ytfbflbiohbhmmaa
