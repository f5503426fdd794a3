/-
  FnExactNewStore: the row of the law, for every input: the law's function returns true and leaves its arguments as they were.
-/
import Derived.Test.YtclbgkajhpknlaaPnew
import Derived.Test.YtclbgkajhpknlaaFrame
import Derived.Test.YtclbgkajhpknlaaFrC
namespace Go.Proofs.Ytclbgkajhpknlaa
open Go.ChangeShapes Go.WideShapes Go.ChangeAt Go.RowKit
set_option linter.unusedVariables false

namespace FnExactNewStore
theorem own : ownKnob Try.prog.godebug = none := by kernel_rfl
theorem laidOut : laidOutB Try.prog = true := by kernel_rfl

set_option maxRecDepth 100000 in
theorem lifted (os : Os) (started : os.Started) (H : Type) (enc : TypeId × Value → H) :
    ReturnsInHanded {} Try.checked os 8 .any (Rows.fnExactNewStoreSpec.pre6 enc Try.prog Try.f8 Rows.fnExactNewStoreRow.domain false) (Rows.fnExactNewStoreSpec.post enc Try.prog Try.f8 false true false false) := by
  refine returnsInHanded_of_change (C := Try.checked) own started (by kernel_rfl) Try.func8
    (ChangeSpec.witness6 (enc := enc) (C := Try.checked) false ⟨#[], #[.agg (crL 0 (zeros 16)).toArray], []⟩ 8 (by kernel_rfl) (by kernel_rfl) (by kernel_rfl) (by kernel_rfl)) ?_
  intro W base args ds gs before hval0 hW hcnd _
  have hval : ∀ (j : Nat) t v, Try.f8.params[j]? = some t → args[j]? = some v → Value.okWide Try.prog W .any base t v := hval0
  have hW' := hW
  obtain ⟨p, q, hA0, hV, rfl, hfz, hnd⟩ := hW
  have hA : DataW.TrodAll enc Try.prog W 0 (fun _ => true) true Try.f8.params.toList args.toList ds p := hA0
  rw [Try.params8] at hA hval
  obtain ⟨v0, vs0, d0, ds0, p0, q0, hargs, rfl, rfl, h0, r0⟩ := trodAll_cons hA
  obtain ⟨rfl, rfl, rfl⟩ := trodAll_nil r0
  obtain rfl : args = #[v0] := by cases args; simp_all
  obtain ⟨p, ps, rfl, hn0, hi0, hf0⟩ := Fr.open_crate (P := Try.prog) (t := 32) (i8 := 29) (f := 22) (by kernel_rfl) (by kernel_rfl) (by kernel_rfl) Try.underlying29 Try.underlying22 (hval 0 32 v0 rfl rfl)
  refine (fnExactNewStore_walk p ps W hn0 hi0 hf0).mono fun e W' ⟨he, hg⟩ => ?_
  subst he
  exact ⟨_, rfl, Fr.law_post laidOut (by kernel_rfl) (tb := 4) (by kernel_rfl) Try.underlying4 rfl ⟨rfl, rfl, rfl⟩ hW' hg⟩

theorem closed : joinedFacts Try.prog 8 Try.f8 Rows.fnExactNewStoreSpec Rows.fnExactNewStoreRow = true := by kernel_rfl

theorem holds : Rows.FnExactNewStoreSaid :=
  OpenClaim.holds_of_wide 8 Try.f8 rfl rfl rfl rfl rfl rfl rfl ⟨rfl, rfl, rfl, rfl, rfl⟩ rfl rfl rfl rfl rfl (by kernel_rfl) Try.func8 closed
    (of_decide_eq_true (by kernel_rfl)) (by unfold Func.isWrapper; first | (rw [if_pos (by decide +kernel)]; kernel_rfl) | (rw [if_neg (by decide +kernel)]; exact ⟨rfl, rfl⟩))
    (fun os started H enc _ => lifted os started H enc)
end FnExactNewStore
theorem fnExactNewStore_holds : Rows.FnExactNewStoreSaid := FnExactNewStore.holds
#print axioms fnExactNewStore_holds
end Go.Proofs.Ytclbgkajhpknlaa
