/-
  FnExactPriceAt: the row of the law, for every input: the law's function returns true and leaves its arguments as they were.
-/
import Derived.Test.YtfbflbiohbhmmaaPpriceAt
import Derived.Test.YtfbflbiohbhmmaaFrame
import Derived.Test.YtfbflbiohbhmmaaFrP
namespace Go.Proofs.Ytfbflbiohbhmmaa
open Go.ChangeShapes Go.WideShapes Go.ChangeAt Go.RowKit
set_option linter.unusedVariables false

namespace FnExactPriceAt
theorem own : ownKnob Try.prog.godebug = none := by kernel_rfl
theorem laidOut : laidOutB Try.prog = true := by kernel_rfl

set_option maxRecDepth 100000 in
theorem lifted (os : Os) (started : os.Started) (H : Type) (enc : TypeId × Value → H) :
    ReturnsInHanded {} Try.checked os 3 .any (Rows.fnExactPriceAtSpec.pre6 enc Try.prog Try.f3 Rows.fnExactPriceAtRow.domain false) (Rows.fnExactPriceAtSpec.post enc Try.prog Try.f3 false true false false) := by
  refine returnsInHanded_of_change (C := Try.checked) own started (by kernel_rfl) Try.func3
    (ChangeSpec.witness6 (enc := enc) (C := Try.checked) false ⟨#[], #[.agg (fL (zeros 8)).toArray, .float .f32 0], []⟩ 8 (by kernel_rfl) (by kernel_rfl) (by kernel_rfl) (by kernel_rfl)) ?_
  intro W base args ds gs before hval0 hW hcnd _
  have hval : ∀ (j : Nat) t v, Try.f3.params[j]? = some t → args[j]? = some v → Value.okWide Try.prog W .any base t v := hval0
  have hW' := hW
  obtain ⟨p, q, hA0, hV, rfl, hfz, hnd⟩ := hW
  have hA : DataW.TrodAll enc Try.prog W 0 (fun _ => true) true Try.f3.params.toList args.toList ds p := hA0
  rw [Try.params3] at hA hval
  obtain ⟨v0, vs0, d0, ds0, p0, q0, hargs, rfl, rfl, h0, r0⟩ := trodAll_cons hA
  obtain ⟨v1, vs1, d1, ds1, p1, q1, rfl, rfl, rfl, h1, r1⟩ := trodAll_cons r0
  obtain ⟨rfl, rfl, rfl⟩ := trodAll_nil r1
  obtain rfl : args = #[v0, v1] := by cases args; simp_all
  obtain ⟨rs, rfl, hr0⟩ := Fr.open_prices (P := Try.prog) (t := 23) (f := 22) (by kernel_rfl) (by kernel_rfl) (by kernel_rfl) Try.underlying22 (hval 0 23 v0 rfl rfl)
  obtain ⟨x, rfl, hwx⟩ := Fr.float_of_okWide Try.underlying22 (Fr.cell_of_value (by kernel_rfl) (hval 1 22 v1 rfl rfl))
  refine (fnExactPriceAt_walk rs x W hr0).mono fun e W' ⟨he, hg⟩ => ?_
  subst he
  exact ⟨_, rfl, Fr.law_post laidOut (by kernel_rfl) (tb := 4) (by kernel_rfl) Try.underlying4 rfl ⟨rfl, rfl, rfl⟩ hW' hg⟩

theorem closed : joinedFacts Try.prog 3 Try.f3 Rows.fnExactPriceAtSpec Rows.fnExactPriceAtRow = true := by kernel_rfl

theorem holds : Rows.FnExactPriceAtSaid :=
  OpenClaim.holds_of_wide 3 Try.f3 rfl rfl rfl rfl rfl rfl rfl ⟨rfl, rfl, rfl, rfl, rfl⟩ rfl rfl rfl rfl rfl (by kernel_rfl) Try.func3 closed
    (of_decide_eq_true (by kernel_rfl)) (by unfold Func.isWrapper; first | (rw [if_pos (by decide +kernel)]; kernel_rfl) | (rw [if_neg (by decide +kernel)]; exact ⟨rfl, rfl⟩))
    (fun os started H enc _ => lifted os started H enc)
end FnExactPriceAt
theorem fnExactPriceAt_holds : Rows.FnExactPriceAtSaid := FnExactPriceAt.holds
#print axioms fnExactPriceAt_holds
end Go.Proofs.Ytfbflbiohbhmmaa
