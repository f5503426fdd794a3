/-
  FnExactCountBad: the row of the law, for every input: the law's function returns true and leaves its arguments as they were.
-/
import Derived.Test.YtclbgkajhpknlaaPcount
import Derived.Test.YtclbgkajhpknlaaFrame
import Derived.Test.YtclbgkajhpknlaaFrC
namespace Go.Proofs.Ytclbgkajhpknlaa
open Go.ChangeShapes Go.WideShapes Go.ChangeAt Go.RowKit
set_option linter.unusedVariables false

namespace FnExactCountBad
theorem own : ownKnob Try.prog.godebug = none := by kernel_rfl
theorem laidOut : laidOutB Try.prog = true := by kernel_rfl

set_option maxRecDepth 100000 in
theorem lifted (os : Os) (started : os.Started) (H : Type) (enc : TypeId × Value → H) :
    ReturnsInHanded {} Try.checked os 7 .any (Rows.fnExactCountBadSpec.pre6 enc Try.prog Try.f7 Rows.fnExactCountBadRow.domain false) (Rows.fnExactCountBadSpec.post enc Try.prog Try.f7 false true false false) := by
  refine returnsInHanded_of_change (C := Try.checked) own started (by kernel_rfl) Try.func7
    (ChangeSpec.witness6 (enc := enc) (C := Try.checked) false ⟨#[], #[.agg (stL 0 (zeros 16) 0 0 0 0).toArray], []⟩ 8 (by kernel_rfl) (by kernel_rfl) (by kernel_rfl) (by kernel_rfl)) ?_
  intro W base args ds gs before hval0 hW hcnd _
  have hval : ∀ (j : Nat) t v, Try.f7.params[j]? = some t → args[j]? = some v → Value.okWide Try.prog W .any base t v := hval0
  have hW' := hW
  obtain ⟨p, q, hA0, hV, rfl, hfz, hnd⟩ := hW
  have hA : DataW.TrodAll enc Try.prog W 0 (fun _ => true) true Try.f7.params.toList args.toList ds p := hA0
  rw [Try.params7] at hA hval
  obtain ⟨v0, vs0, d0, ds0, p0, q0, hargs, rfl, rfl, h0, r0⟩ := trodAll_cons hA
  obtain ⟨rfl, rfl, rfl⟩ := trodAll_nil r0
  obtain rfl : args = #[v0] := by cases args; simp_all
  obtain ⟨p, ps, pb, po, pt, pm, rfl, hn0, hi0, hf0, hb0, ho0, ht0, hm0⟩ := Fr.open_store (P := Try.prog) (t := 36) (i8 := 29) (f := 22) (u16 := 33) (i16 := 34) (by kernel_rfl) (by kernel_rfl) (by kernel_rfl) Try.underlying29 Try.underlying33 Try.underlying34 Try.underlying22 (hval 0 36 v0 rfl rfl)
  refine (fnExactCountBad_walk p ps pb po pt pm W ⟨hn0, hi0, hf0, hb0, ho0, ht0, hm0⟩).mono fun e W' ⟨he, hg⟩ => ?_
  subst he
  exact ⟨_, rfl, Fr.law_post laidOut (by kernel_rfl) (tb := 4) (by kernel_rfl) Try.underlying4 rfl ⟨rfl, rfl, rfl⟩ hW' hg⟩

theorem closed : joinedFacts Try.prog 7 Try.f7 Rows.fnExactCountBadSpec Rows.fnExactCountBadRow = true := by kernel_rfl

theorem holds : Rows.FnExactCountBadSaid :=
  OpenClaim.holds_of_wide 7 Try.f7 rfl rfl rfl rfl rfl rfl rfl ⟨rfl, rfl, rfl, rfl, rfl⟩ rfl rfl rfl rfl rfl (by kernel_rfl) Try.func7 closed
    (of_decide_eq_true (by kernel_rfl)) (by unfold Func.isWrapper; first | (rw [if_pos (by decide +kernel)]; kernel_rfl) | (rw [if_neg (by decide +kernel)]; exact ⟨rfl, rfl⟩))
    (fun os started H enc _ => lifted os started H enc)
end FnExactCountBad
theorem fnExactCountBad_holds : Rows.FnExactCountBadSaid := FnExactCountBad.holds
#print axioms fnExactCountBad_holds
end Go.Proofs.Ytclbgkajhpknlaa
