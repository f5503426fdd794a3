/-
  FnExactValueAt: the row of the law, for every input: the law's function returns true and leaves its arguments as they were.
-/
import Derived.Test.YtgeeggfedopeeaaPvalueAt
import Derived.Test.YtgeeggfedopeeaaFrame
namespace Go.Proofs.Ytgeeggfedopeeaa
open Go.ChangeShapes Go.WideShapes Go.ChangeAt Go.RowKit
set_option linter.unusedVariables false

namespace FnExactValueAt
theorem own : ownKnob Try.prog.godebug = none := by kernel_rfl
theorem laidOut : laidOutB Try.prog = true := by kernel_rfl

set_option maxRecDepth 100000 in
theorem lifted (os : Os) (started : os.Started) (H : Type) (enc : TypeId × Value → H) :
    ReturnsInHanded {} Try.checked os 4 .any (Rows.fnExactValueAtSpec.pre6 enc Try.prog Try.f4 Rows.fnExactValueAtRow.domain false) (Rows.fnExactValueAtSpec.post enc Try.prog Try.f4 false true false false) := by
  refine returnsInHanded_of_change (C := Try.checked) own started (by kernel_rfl) Try.func4
    (ChangeSpec.witness6 (enc := enc) (C := Try.checked) false ⟨#[], #[.agg #[.float .f32 0, .float .f32 0], .float .f32 0], []⟩ 8 (by kernel_rfl) (by kernel_rfl) (by kernel_rfl) (by kernel_rfl)) ?_
  intro W base args ds gs before hval0 hW hcnd _
  have hval : ∀ (j : Nat) t v, Try.f4.params[j]? = some t → args[j]? = some v → Value.okWide Try.prog W .any base t v := hval0
  have hW' := hW
  obtain ⟨p, q, hA0, hV, rfl, hfz, hnd⟩ := hW
  have hA : DataW.TrodAll enc Try.prog W 0 (fun _ => true) true Try.f4.params.toList args.toList ds p := hA0
  rw [Try.params4] at hA hval
  obtain ⟨v0, vs0, d0, ds0, p0, q0, hargs, rfl, rfl, h0, r0⟩ := trodAll_cons hA
  obtain ⟨v1, vs1, d1, ds1, p1, q1, rfl, rfl, rfl, h1, r1⟩ := trodAll_cons r0
  obtain ⟨rfl, rfl, rfl⟩ := trodAll_nil r1
  obtain rfl : args = #[v0, v1] := by cases args; simp_all
  obtain ⟨cs0, rfl, hcs0, hcell0⟩ := Fr.agg_of_okWide (ts := [22, 22]) (by kernel_rfl) (by kernel_rfl) (by kernel_rfl) (hval 0 24 v0 rfl rfl)
  obtain ⟨x0_0, e0_0, k0_0⟩ := hcell0 0 22 rfl
  obtain ⟨l0, rfl, hwl0⟩ := Fr.float_of_okWide Try.underlying22 k0_0
  obtain ⟨x0_1, e0_1, k0_1⟩ := hcell0 1 22 rfl
  obtain ⟨l1, rfl, hwl1⟩ := Fr.float_of_okWide Try.underlying22 k0_1
  obtain rfl : cs0 = #[.float .f32 l0, .float .f32 l1] := by
    apply Array.ext_getElem?
    intro i
    match i with
    | 0 => exact e0_0
    | 1 => exact e0_1
    | i + 2 => rw [Array.getElem?_eq_none (by rw [hcs0]; simp), Array.getElem?_eq_none (by simp)]
  obtain ⟨x, rfl, hwx⟩ := Fr.float_of_okWide Try.underlying22 (Fr.cell_of_value (by kernel_rfl) (hval 1 22 v1 rfl rfl))
  refine (fnExactValueAt_walk l0 l1 x W).mono fun e W' ⟨he, hg⟩ => ?_
  subst he
  exact ⟨_, rfl, Fr.law_post laidOut (by kernel_rfl) (tb := 4) (by kernel_rfl) Try.underlying4 rfl ⟨rfl, rfl, rfl⟩ hW' hg⟩

theorem closed : joinedFacts Try.prog 4 Try.f4 Rows.fnExactValueAtSpec Rows.fnExactValueAtRow = true := by kernel_rfl

theorem holds : Rows.FnExactValueAtSaid :=
  OpenClaim.holds_of_wide 4 Try.f4 rfl rfl rfl rfl rfl rfl rfl ⟨rfl, rfl, rfl, rfl, rfl⟩ rfl rfl rfl rfl rfl (by kernel_rfl) Try.func4 closed
    (of_decide_eq_true (by kernel_rfl)) (by unfold Func.isWrapper; first | (rw [if_pos (by decide +kernel)]; kernel_rfl) | (rw [if_neg (by decide +kernel)]; exact ⟨rfl, rfl⟩))
    (fun os started H enc _ => lifted os started H enc)
end FnExactValueAt
theorem fnExactValueAt_holds : Rows.FnExactValueAtSaid := FnExactValueAt.holds
#print axioms fnExactValueAt_holds
end Go.Proofs.Ytgeeggfedopeeaa
