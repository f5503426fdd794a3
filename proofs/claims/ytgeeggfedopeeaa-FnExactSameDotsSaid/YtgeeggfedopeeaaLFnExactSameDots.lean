/-
  FnExactSameDots: the row of the law, for every input: the law's function returns true and leaves its arguments as they were.
-/
import Derived.Test.YtgeeggfedopeeaaPsameDotsI
import Derived.Test.YtgeeggfedopeeaaFrame
import Derived.Test.YtgeeggfedopeeaaFrS
namespace Go.Proofs.Ytgeeggfedopeeaa
open Go.ChangeShapes Go.WideShapes Go.ChangeAt Go.RowKit
set_option linter.unusedVariables false

namespace FnExactSameDots
theorem own : ownKnob Try.prog.godebug = none := by kernel_rfl
theorem laidOut : laidOutB Try.prog = true := by kernel_rfl

set_option maxRecDepth 100000 in
theorem lifted (os : Os) (started : os.Started) (H : Type) (enc : TypeId × Value → H) :
    ReturnsInHanded {} Try.checked os 6 .any (Rows.fnExactSameDotsSpec.pre6 enc Try.prog Try.f6 Rows.fnExactSameDotsRow.domain false) (Rows.fnExactSameDotsSpec.post enc Try.prog Try.f6 false true false false) := by
  refine returnsInHanded_of_change (C := Try.checked) own started (by kernel_rfl) Try.func6
    (ChangeSpec.witness6 (enc := enc) (C := Try.checked) false ⟨#[], #[.slice none 0 0, .slice none 0 0], []⟩ 8 (by kernel_rfl) (by kernel_rfl) (by kernel_rfl) (by kernel_rfl)) ?_
  intro W base args ds gs before hval0 hW hcnd _
  have hval : ∀ (j : Nat) t v, Try.f6.params[j]? = some t → args[j]? = some v → Value.okWide Try.prog W .any base t v := hval0
  have hW' := hW
  obtain ⟨p, q, hA0, hV, rfl, hfz, hnd⟩ := hW
  have hA : DataW.TrodAll enc Try.prog W 0 (fun _ => true) true Try.f6.params.toList args.toList ds p := hA0
  rw [Try.params6] at hA hval
  obtain ⟨v0, vs0, d0, ds0, p0, q0, hargs, rfl, rfl, h0, r0⟩ := trodAll_cons hA
  obtain ⟨v1, vs1, d1, ds1, p1, q1, rfl, rfl, rfl, h1, r1⟩ := trodAll_cons r0
  obtain ⟨rfl, rfl, rfl⟩ := trodAll_nil r1
  obtain rfl : args = #[v0, v1] := by cases args; simp_all
  obtain ⟨ds, ad0, cap0, rfl, hd0, hl0⟩ := Fr.open_pairs (P := Try.prog) (t := 34) (e := 57) (f := 22) (by kernel_rfl) (by kernel_rfl) ⟨_, _, Try.underlying57, by kernel_rfl⟩ Try.underlying22 (hval 0 34 v0 rfl rfl) h0
  obtain ⟨es, ad1, cap1, rfl, hd1, hl1⟩ := Fr.open_pairs (P := Try.prog) (t := 34) (e := 57) (f := 22) (by kernel_rfl) (by kernel_rfl) ⟨_, _, Try.underlying57, by kernel_rfl⟩ Try.underlying22 (hval 1 34 v1 rfl rfl) h1
  refine (fnExactSameDots_walk ds ad0 cap0 es ad1 cap1 W hd0 hl0 hd1 hl1).mono fun e W' ⟨he, hg⟩ => ?_
  subst he
  exact ⟨_, rfl, Fr.law_post laidOut (by kernel_rfl) (tb := 4) (by kernel_rfl) Try.underlying4 rfl ⟨rfl, rfl, rfl⟩ hW' hg⟩

theorem closed : joinedFacts Try.prog 6 Try.f6 Rows.fnExactSameDotsSpec Rows.fnExactSameDotsRow = true := by kernel_rfl

theorem holds : Rows.FnExactSameDotsSaid :=
  OpenClaim.holds_of_wide 6 Try.f6 rfl rfl rfl rfl rfl rfl rfl ⟨rfl, rfl, rfl, rfl, rfl⟩ rfl rfl rfl rfl rfl (by kernel_rfl) Try.func6 closed
    (of_decide_eq_true (by kernel_rfl)) (by unfold Func.isWrapper; first | (rw [if_pos (by decide +kernel)]; kernel_rfl) | (rw [if_neg (by decide +kernel)]; exact ⟨rfl, rfl⟩))
    (fun os started H enc _ => lifted os started H enc)
end FnExactSameDots
theorem fnExactSameDots_holds : Rows.FnExactSameDotsSaid := FnExactSameDots.holds
#print axioms fnExactSameDots_holds
end Go.Proofs.Ytgeeggfedopeeaa
