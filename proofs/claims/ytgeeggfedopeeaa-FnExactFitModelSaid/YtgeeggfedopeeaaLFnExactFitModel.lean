/-
  FnExactFitModel: the row of the law, for every input: the law's function returns true and leaves its arguments as they were.
-/
import Derived.Test.YtgeeggfedopeeaaPfitModel
import Derived.Test.YtgeeggfedopeeaaFrame
import Derived.Test.YtgeeggfedopeeaaFrS
namespace Go.Proofs.Ytgeeggfedopeeaa
open Go.ChangeShapes Go.WideShapes Go.ChangeAt Go.RowKit
set_option linter.unusedVariables false

namespace FnExactFitModel
theorem own : ownKnob Try.prog.godebug = none := by kernel_rfl
theorem laidOut : laidOutB Try.prog = true := by kernel_rfl

set_option maxRecDepth 100000 in
theorem lifted (os : Os) (started : os.Started) (H : Type) (enc : TypeId × Value → H) :
    ReturnsInHanded {} Try.checked os 11 .any (Rows.fnExactFitModelSpec.pre6 enc Try.prog Try.f11 Rows.fnExactFitModelRow.domain false) (Rows.fnExactFitModelSpec.post enc Try.prog Try.f11 false true false false) := by
  refine returnsInHanded_of_change (C := Try.checked) own started (by kernel_rfl) Try.func11
    (ChangeSpec.witness6 (enc := enc) (C := Try.checked) false ⟨#[], #[.slice none 0 0, .int .i64 0], []⟩ 8 (by kernel_rfl) (by kernel_rfl) (by kernel_rfl) (by kernel_rfl)) ?_
  intro W base args ds gs before hval0 hW hcnd _
  have hval : ∀ (j : Nat) t v, Try.f11.params[j]? = some t → args[j]? = some v → Value.okWide Try.prog W .any base t v := hval0
  have hW' := hW
  obtain ⟨p, q, hA0, hV, rfl, hfz, hnd⟩ := hW
  have hA : DataW.TrodAll enc Try.prog W 0 (fun _ => true) true Try.f11.params.toList args.toList ds p := hA0
  rw [Try.params11] at hA hval
  obtain ⟨v0, vs0, d0, ds0, p0, q0, hargs, rfl, rfl, h0, r0⟩ := trodAll_cons hA
  obtain ⟨v1, vs1, d1, ds1, p1, q1, rfl, rfl, rfl, h1, r1⟩ := trodAll_cons r0
  obtain ⟨rfl, rfl, rfl⟩ := trodAll_nil r1
  obtain rfl : args = #[v0, v1] := by cases args; simp_all
  obtain ⟨ds, ad0, cap0, rfl, hd0, hl0⟩ := Fr.open_pairs (P := Try.prog) (t := 34) (e := 57) (f := 22) (by kernel_rfl) (by kernel_rfl) ⟨_, _, Try.underlying57, by kernel_rfl⟩ Try.underlying22 (hval 0 34 v0 rfl rfl) h0
  obtain ⟨m, rfl, hwm⟩ := Fr.int_of_okWide Try.underlying2 (Fr.cell_of_value (by kernel_rfl) (hval 1 2 v1 rfl rfl))
  refine (fnExactFitModel_walk ds ad0 cap0 m hwm W hd0 hl0).mono fun e W' ⟨he, hg⟩ => ?_
  subst he
  exact ⟨_, rfl, Fr.law_post laidOut (by kernel_rfl) (tb := 4) (by kernel_rfl) Try.underlying4 rfl ⟨rfl, rfl, rfl⟩ hW' hg⟩

theorem closed : joinedFacts Try.prog 11 Try.f11 Rows.fnExactFitModelSpec Rows.fnExactFitModelRow = true := by kernel_rfl

theorem holds : Rows.FnExactFitModelSaid :=
  OpenClaim.holds_of_wide 11 Try.f11 rfl rfl rfl rfl rfl rfl rfl ⟨rfl, rfl, rfl, rfl, rfl⟩ rfl rfl rfl rfl rfl (by kernel_rfl) Try.func11 closed
    (of_decide_eq_true (by kernel_rfl)) (by unfold Func.isWrapper; first | (rw [if_pos (by decide +kernel)]; kernel_rfl) | (rw [if_neg (by decide +kernel)]; exact ⟨rfl, rfl⟩))
    (fun os started H enc _ => lifted os started H enc)
end FnExactFitModel
theorem fnExactFitModel_holds : Rows.FnExactFitModelSaid := FnExactFitModel.holds
#print axioms fnExactFitModel_holds
end Go.Proofs.Ytgeeggfedopeeaa
