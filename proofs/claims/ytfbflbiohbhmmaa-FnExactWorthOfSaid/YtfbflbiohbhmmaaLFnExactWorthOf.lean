/-
  FnExactWorthOf: the row of the law, for every input: the law's function returns true and leaves its arguments as they were.
-/
import Derived.Test.YtfbflbiohbhmmaaPworthOf
import Derived.Test.YtfbflbiohbhmmaaFrame
import Derived.Test.YtfbflbiohbhmmaaFrP
namespace Go.Proofs.Ytfbflbiohbhmmaa
open Go.ChangeShapes Go.WideShapes Go.ChangeAt Go.RowKit
set_option linter.unusedVariables false

namespace FnExactWorthOf
theorem own : ownKnob Try.prog.godebug = none := by kernel_rfl
theorem laidOut : laidOutB Try.prog = true := by kernel_rfl

set_option maxRecDepth 100000 in
theorem lifted (os : Os) (started : os.Started) (H : Type) (enc : TypeId × Value → H) :
    ReturnsInHanded {} Try.checked os 4 .any (Rows.fnExactWorthOfSpec.pre6 enc Try.prog Try.f4 Rows.fnExactWorthOfRow.domain false) (Rows.fnExactWorthOfSpec.post enc Try.prog Try.f4 false true false false) := by
  refine returnsInHanded_of_change (C := Try.checked) own started (by kernel_rfl) Try.func4
    (ChangeSpec.witness6 (enc := enc) (C := Try.checked) false ⟨#[], #[.agg (crL 0 (zeros 16)).toArray, .agg (fL (zeros 8)).toArray], []⟩ 8 (by kernel_rfl) (by kernel_rfl) (by kernel_rfl) (by kernel_rfl)) ?_
  intro W base args ds gs before hval0 hW hcnd _
  have hval : ∀ (j : Nat) t v, Try.f4.params[j]? = some t → args[j]? = some v → Value.okWide Try.prog W .any base t v := hval0
  have hW' := hW
  obtain ⟨p, q, hA0, hV, rfl, hfz, hnd⟩ := hW
  have hA : DataW.TrodAll enc Try.prog W 0 (fun _ => true) true Try.f4.params.toList args.toList ds p := hA0
  rw [Try.params4] at hA hval
  obtain ⟨v0, vs0, d0, ds0, p0, q0, hargs, rfl, rfl, h0, r0⟩ := trodAll_cons hA
  obtain ⟨v1, vs1, d1, ds1, p1, q1, rfl, rfl, rfl, h1, r1⟩ := trodAll_cons r0
  obtain ⟨rfl, rfl, rfl⟩ := trodAll_nil r1
  obtain rfl : args = #[v0, v1] := by cases args; simp_all
  obtain ⟨c, cs, rfl, hn0, hi0, hf0⟩ := Fr.open_crate (P := Try.prog) (t := 34) (i8 := 31) (f := 22) (by kernel_rfl) (by kernel_rfl) (by kernel_rfl) Try.underlying31 Try.underlying22 (hval 0 34 v0 rfl rfl)
  obtain ⟨ps, rfl, hr1⟩ := Fr.open_prices (P := Try.prog) (t := 23) (f := 22) (by kernel_rfl) (by kernel_rfl) (by kernel_rfl) Try.underlying22 (hval 1 23 v1 rfl rfl)
  refine (fnExactWorthOf_walk c cs ps W hn0 hi0 hf0 hr1).mono fun e W' ⟨he, hg⟩ => ?_
  subst he
  exact ⟨_, rfl, Fr.law_post laidOut (by kernel_rfl) (tb := 4) (by kernel_rfl) Try.underlying4 rfl ⟨rfl, rfl, rfl⟩ hW' hg⟩

theorem closed : joinedFacts Try.prog 4 Try.f4 Rows.fnExactWorthOfSpec Rows.fnExactWorthOfRow = true := by kernel_rfl

theorem holds : Rows.FnExactWorthOfSaid :=
  OpenClaim.holds_of_wide 4 Try.f4 rfl rfl rfl rfl rfl rfl rfl ⟨rfl, rfl, rfl, rfl, rfl⟩ rfl rfl rfl rfl rfl (by kernel_rfl) Try.func4 closed
    (of_decide_eq_true (by kernel_rfl)) (by unfold Func.isWrapper; first | (rw [if_pos (by decide +kernel)]; kernel_rfl) | (rw [if_neg (by decide +kernel)]; exact ⟨rfl, rfl⟩))
    (fun os started H enc _ => lifted os started H enc)
end FnExactWorthOf
theorem fnExactWorthOf_holds : Rows.FnExactWorthOfSaid := FnExactWorthOf.holds
#print axioms fnExactWorthOf_holds
end Go.Proofs.Ytfbflbiohbhmmaa
