/-
  FnExactWhichModel: the row of the law, for every input: the law's function returns true and leaves its arguments as they were.
-/
import Derived.Test.YtcihbcmdmgmonaaPwhich
import Derived.Test.YtcihbcmdmgmonaaFrame
import Derived.Test.YtcihbcmdmgmonaaFrS
namespace Go.Proofs.Ytcihbcmdmgmonaa
open Go.ChangeShapes Go.WideShapes Go.ChangeAt Go.RowKit
set_option linter.unusedVariables false

namespace FnExactWhichModel
theorem own : ownKnob Try.prog.godebug = none := by kernel_rfl
theorem laidOut : laidOutB Try.prog = true := by kernel_rfl

set_option maxRecDepth 100000 in
theorem lifted (os : Os) (started : os.Started) (H : Type) (enc : TypeId × Value → H) :
    ReturnsInHanded {} Try.checked os 10 .any (Rows.fnExactWhichModelSpec.pre6 enc Try.prog Try.f10 Rows.fnExactWhichModelRow.domain false) (Rows.fnExactWhichModelSpec.post enc Try.prog Try.f10 false true false false) := by
  refine returnsInHanded_of_change (C := Try.checked) own started (by kernel_rfl) Try.func10
    (ChangeSpec.witness6 (enc := enc) (C := Try.checked) false ⟨#[], #[.slice none 0 0], []⟩ 8 (by kernel_rfl) (by kernel_rfl) (by kernel_rfl) (by kernel_rfl)) ?_
  intro W base args ds gs before hval0 hW hcnd _
  have hval : ∀ (j : Nat) t v, Try.f10.params[j]? = some t → args[j]? = some v → Value.okWide Try.prog W .any base t v := hval0
  have hW' := hW
  obtain ⟨p, q, hA0, hV, rfl, hfz, hnd⟩ := hW
  have hA : DataW.TrodAll enc Try.prog W 0 (fun _ => true) true Try.f10.params.toList args.toList ds p := hA0
  rw [Try.params10] at hA hval
  obtain ⟨v0, vs0, d0, ds0, p0, q0, hargs, rfl, rfl, h0, r0⟩ := trodAll_cons hA
  obtain ⟨rfl, rfl, rfl⟩ := trodAll_nil r0
  obtain rfl : args = #[v0] := by cases args; simp_all
  obtain ⟨ds, ad0, cap0, rfl, hd0, hl0⟩ := Fr.open_pairs (P := Try.prog) (t := 25) (e := 88) (f := 22) (by kernel_rfl) (by kernel_rfl) ⟨_, _, Try.underlying88, by kernel_rfl⟩ Try.underlying22 (hval 0 25 v0 rfl rfl) h0
  refine (fnExactWhichModel_walk ds ad0 cap0 W hd0 hl0).mono fun e W' ⟨he, hg⟩ => ?_
  subst he
  exact ⟨_, rfl, Fr.law_post laidOut (by kernel_rfl) (tb := 4) (by kernel_rfl) Try.underlying4 rfl ⟨rfl, rfl, rfl⟩ hW' hg⟩

theorem closed : joinedFacts Try.prog 10 Try.f10 Rows.fnExactWhichModelSpec Rows.fnExactWhichModelRow = true := by kernel_rfl

theorem holds : Rows.FnExactWhichModelSaid :=
  OpenClaim.holds_of_wide 10 Try.f10 rfl rfl rfl rfl rfl rfl rfl ⟨rfl, rfl, rfl, rfl, rfl⟩ rfl rfl rfl rfl rfl (by kernel_rfl) Try.func10 closed
    (of_decide_eq_true (by kernel_rfl)) (by unfold Func.isWrapper; first | (rw [if_pos (by decide +kernel)]; kernel_rfl) | (rw [if_neg (by decide +kernel)]; exact ⟨rfl, rfl⟩))
    (fun os started H enc _ => lifted os started H enc)
end FnExactWhichModel
theorem fnExactWhichModel_holds : Rows.FnExactWhichModelSaid := FnExactWhichModel.holds
#print axioms fnExactWhichModel_holds
end Go.Proofs.Ytcihbcmdmgmonaa
