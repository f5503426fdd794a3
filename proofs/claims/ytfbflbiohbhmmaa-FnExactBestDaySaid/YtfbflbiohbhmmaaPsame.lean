/-
  The laws' comparison of two numbers says yes where they are the same.
-/
import Derived.Test.YtfbflbiohbhmmaaRows
import Derived.Test.YtfbflbiohbhmmaaBase
import Derived.Test.YtfbflbiohbhmmaaF64
namespace Go.Proofs.Ytfbflbiohbhmmaa
open Go.RowKit

theorem run_quo_zero {P : Program} (w : World) (t : TypeId) : (binOp .quo t (.float .f64 4607182418800017408) (.float .f64 0)).run P w = .ok (.float .f64 9218868437227405312) w :=
  run_float_arith w .quo t .f64 _ _ _ (by decide +kernel)
theorem run_quo_negzero {P : Program} (w : World) (t : TypeId) : (binOp .quo t (.float .f64 4607182418800017408) (.float .f64 9223372036854775808)).run P w = .ok (.float .f64 18442240474082181120) w :=
  run_float_arith w .quo t .f64 _ _ _ (by decide +kernel)
theorem order_zero : FloatKind.f64.format.order 0 0 = some .eq := by decide +kernel
theorem order_negzero : FloatKind.f64.format.order 9223372036854775808 9223372036854775808 = some .eq := by decide +kernel
theorem order_negzero0 : FloatKind.f64.format.order 9223372036854775808 0 = some .eq := by decide +kernel

set_option maxHeartbeats 1000000 in
theorem sameFloat_calls (u v : Nat) (w : World) (h : Fl.Same64 u v) :
    Calls Try.prog 13 #[.float .f64 u, .float .f64 v] w fun e w' => e = .returned (.bool true) ∧ w' = w := by
  cases h with
  | nan _ _ hu hv =>
    go_enter Try.func13, Try.ntmps13
    go_wp2
    all_goals go_ret
    all_goals exact ⟨rfl, rfl⟩
  | pz =>
    have h1 := order_zero
    have h2 := @run_quo_zero Try.prog
    go_enter Try.func13, Try.ntmps13
    go_wp2
    all_goals go_ret
    all_goals exact ⟨rfl, rfl⟩
  | nz =>
    obtain ⟨z, hz⟩ : ∃ z, z = 9223372036854775808 := ⟨_, rfl⟩
    have h1 := order_negzero
    have h2 := @run_quo_negzero Try.prog
    have h3 := order_negzero0
    rw [← hz] at h1 h2 h3 ⊢
    clear hz
    obtain ⟨z2, hz2⟩ : ∃ z, z = 18442240474082181120 := ⟨_, rfl⟩
    rw [← hz2] at h2
    clear hz2
    go_enter Try.func13, Try.ntmps13
    go_wp2
    all_goals go_ret
    all_goals exact ⟨by simp, rfl⟩
  | num _ h h0 =>
    have h1 : (FloatKind.f64.format.order u 0 == some Ordering.eq) = false := by simp [h0]
    clear h0
    go_enter Try.func13, Try.ntmps13
    go_wp2
    all_goals go_ret
    all_goals exact ⟨rfl, rfl⟩
end Go.Proofs.Ytfbflbiohbhmmaa
