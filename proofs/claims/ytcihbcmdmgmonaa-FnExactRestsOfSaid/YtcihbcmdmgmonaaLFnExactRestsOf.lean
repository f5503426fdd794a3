/-
  FnExactRestsOf: the row of the law, for every input: the law's function returns true and leaves its arguments as they were.
-/
import Derived.Test.YtcihbcmdmgmonaaPrestsOf
import Derived.Test.YtcihbcmdmgmonaaFrame
import Derived.Test.YtcihbcmdmgmonaaFrS
namespace Go.Proofs.Ytcihbcmdmgmonaa
open Go.ChangeShapes Go.WideShapes Go.ChangeAt Go.RowKit
set_option linter.unusedVariables false

namespace FnExactRestsOf
theorem own : ownKnob Try.prog.godebug = none := by kernel_rfl
theorem laidOut : laidOutB Try.prog = true := by kernel_rfl

set_option maxRecDepth 100000 in
theorem lifted (os : Os) (started : os.Started) (H : Type) (enc : TypeId × Value → H) :
    ReturnsInHanded {} Try.checked os 6 .any (Rows.fnExactRestsOfSpec.pre6 enc Try.prog Try.f6 Rows.fnExactRestsOfRow.domain false) (Rows.fnExactRestsOfSpec.post enc Try.prog Try.f6 false true false false) := by
  refine returnsInHanded_of_change (C := Try.checked) own started (by kernel_rfl) Try.func6
    (ChangeSpec.witness6 (enc := enc) (C := Try.checked) false ⟨#[], #[.agg #[.float .f32 0, .float .f32 0], .slice none 0 0], []⟩ 8 (by kernel_rfl) (by kernel_rfl) (by kernel_rfl) (by kernel_rfl)) ?_
  intro W base args ds gs before hval0 hW hcnd _
  have hval : ∀ (j : Nat) t v, Try.f6.params[j]? = some t → args[j]? = some v → Value.okWide Try.prog W .any base t v := hval0
  have hW' := hW
  obtain ⟨p, q, hA0, hV, rfl, hfz, hnd⟩ := hW
  have hA : DataW.TrodAll enc Try.prog W 0 (fun _ => true) true Try.f6.params.toList args.toList ds p := hA0
  rw [Try.params6] at hA hval
  obtain ⟨v0, vs0, d0, ds0, p0, q0, hargs, rfl, rfl, h0, r0⟩ := trodAll_cons hA
  obtain ⟨v1, vs1, d1, ds1, p1, q1, rfl, rfl, rfl, h1, r1⟩ := trodAll_cons r0
  obtain ⟨rfl, rfl, rfl⟩ := trodAll_nil r1
  obtain rfl : args = #[v0, v1] := by cases args; simp_all
  obtain ⟨cs0, rfl, hcs0, hcell0⟩ := Fr.agg_of_okWide (ts := [22, 22]) (by kernel_rfl) (by kernel_rfl) (by kernel_rfl) (hval 0 24 v0 rfl rfl)
  obtain ⟨x0_0, e0_0, k0_0⟩ := hcell0 0 22 rfl
  obtain ⟨p0, rfl, hwp0⟩ := Fr.float_of_okWide Try.underlying22 k0_0
  obtain ⟨x0_1, e0_1, k0_1⟩ := hcell0 1 22 rfl
  obtain ⟨p1, rfl, hwp1⟩ := Fr.float_of_okWide Try.underlying22 k0_1
  obtain rfl : cs0 = #[.float .f32 p0, .float .f32 p1] := by
    apply Array.ext_getElem?
    intro i
    match i with
    | 0 => exact e0_0
    | 1 => exact e0_1
    | i + 2 => rw [Array.getElem?_eq_none (by rw [hcs0]; simp), Array.getElem?_eq_none (by simp)]
  obtain ⟨ds, ad1, cap1, rfl, hd1, hl1⟩ := Fr.open_pairs (P := Try.prog) (t := 25) (e := 88) (f := 22) (by kernel_rfl) (by kernel_rfl) ⟨_, _, Try.underlying88, by kernel_rfl⟩ Try.underlying22 (hval 1 25 v1 rfl rfl) h1
  refine (fnExactRestsOf_walk p0 p1 ds ad1 cap1 W hd1 hl1).mono fun e W' ⟨he, hg⟩ => ?_
  subst he
  exact ⟨_, rfl, Fr.law_post laidOut (by kernel_rfl) (tb := 4) (by kernel_rfl) Try.underlying4 rfl ⟨rfl, rfl, rfl⟩ hW' hg⟩

theorem closed : joinedFacts Try.prog 6 Try.f6 Rows.fnExactRestsOfSpec Rows.fnExactRestsOfRow = true := by kernel_rfl

theorem holds : Rows.FnExactRestsOfSaid :=
  OpenClaim.holds_of_wide 6 Try.f6 rfl rfl rfl rfl rfl rfl rfl ⟨rfl, rfl, rfl, rfl, rfl⟩ rfl rfl rfl rfl rfl (by kernel_rfl) Try.func6 closed
    (of_decide_eq_true (by kernel_rfl)) (by unfold Func.isWrapper; first | (rw [if_pos (by decide +kernel)]; kernel_rfl) | (rw [if_neg (by decide +kernel)]; exact ⟨rfl, rfl⟩))
    (fun os started H enc _ => lifted os started H enc)
end FnExactRestsOf
theorem fnExactRestsOf_holds : Rows.FnExactRestsOfSaid := FnExactRestsOf.holds
#print axioms fnExactRestsOf_holds
end Go.Proofs.Ytcihbcmdmgmonaa
