/-
  FnExactBestDay: the row of the law, for every input: the law's function returns true and leaves its arguments as they were.
-/
import Derived.Test.YtfbflbiohbhmmaaPbestDayL
import Derived.Test.YtfbflbiohbhmmaaFrame
import Derived.Test.YtfbflbiohbhmmaaFrP
namespace Go.Proofs.Ytfbflbiohbhmmaa
open Go.ChangeShapes Go.WideShapes Go.ChangeAt Go.RowKit
set_option linter.unusedVariables false

namespace FnExactBestDay
theorem own : ownKnob Try.prog.godebug = none := by kernel_rfl
theorem laidOut : laidOutB Try.prog = true := by kernel_rfl

set_option maxRecDepth 100000 in
theorem lifted (os : Os) (started : os.Started) (H : Type) (enc : TypeId × Value → H) :
    ReturnsInHanded {} Try.checked os 6 .any (Rows.fnExactBestDaySpec.pre6 enc Try.prog Try.f6 Rows.fnExactBestDayRow.domain false) (Rows.fnExactBestDaySpec.post enc Try.prog Try.f6 false true false false) := by
  refine returnsInHanded_of_change (C := Try.checked) own started (by kernel_rfl) Try.func6
    (ChangeSpec.witness6 (enc := enc) (C := Try.checked) false ⟨#[], #[.agg (crL 0 (zeros 16)).toArray, .agg #[.float .f32 0, .float .f32 0], .agg (fL (zeros 8)).toArray, .int .i64 0], []⟩ 8 (by kernel_rfl) (by kernel_rfl) (by kernel_rfl) (by kernel_rfl)) ?_
  intro W base args ds gs before hval0 hW hcnd _
  have hval : ∀ (j : Nat) t v, Try.f6.params[j]? = some t → args[j]? = some v → Value.okWide Try.prog W .any base t v := hval0
  have hW' := hW
  obtain ⟨p, q, hA0, hV, rfl, hfz, hnd⟩ := hW
  have hA : DataW.TrodAll enc Try.prog W 0 (fun _ => true) true Try.f6.params.toList args.toList ds p := hA0
  rw [Try.params6] at hA hval
  obtain ⟨v0, vs0, d0, ds0, p0, q0, hargs, rfl, rfl, h0, r0⟩ := trodAll_cons hA
  obtain ⟨v1, vs1, d1, ds1, p1, q1, rfl, rfl, rfl, h1, r1⟩ := trodAll_cons r0
  obtain ⟨v2, vs2, d2, ds2, p2, q2, rfl, rfl, rfl, h2, r2⟩ := trodAll_cons r1
  obtain ⟨v3, vs3, d3, ds3, p3, q3, rfl, rfl, rfl, h3, r3⟩ := trodAll_cons r2
  obtain ⟨rfl, rfl, rfl⟩ := trodAll_nil r3
  obtain rfl : args = #[v0, v1, v2, v3] := by cases args; simp_all
  obtain ⟨c, cs, rfl, hn0, hi0, hf0⟩ := Fr.open_crate (P := Try.prog) (t := 34) (i8 := 31) (f := 22) (by kernel_rfl) (by kernel_rfl) (by kernel_rfl) Try.underlying31 Try.underlying22 (hval 0 34 v0 rfl rfl)
  obtain ⟨cs1, rfl, hcs1, hcell1⟩ := Fr.agg_of_okWide (ts := [22, 22]) (by kernel_rfl) (by kernel_rfl) (by kernel_rfl) (hval 1 40 v1 rfl rfl)
  obtain ⟨x1_0, e1_0, k1_0⟩ := hcell1 0 22 rfl
  obtain ⟨a0, rfl, hwa0⟩ := Fr.float_of_okWide Try.underlying22 k1_0
  obtain ⟨x1_1, e1_1, k1_1⟩ := hcell1 1 22 rfl
  obtain ⟨a1, rfl, hwa1⟩ := Fr.float_of_okWide Try.underlying22 k1_1
  obtain rfl : cs1 = #[.float .f32 a0, .float .f32 a1] := by
    apply Array.ext_getElem?
    intro i
    match i with
    | 0 => exact e1_0
    | 1 => exact e1_1
    | i + 2 => rw [Array.getElem?_eq_none (by rw [hcs1]; simp), Array.getElem?_eq_none (by simp)]
  obtain ⟨ps, rfl, hr2⟩ := Fr.open_prices (P := Try.prog) (t := 23) (f := 22) (by kernel_rfl) (by kernel_rfl) (by kernel_rfl) Try.underlying22 (hval 2 23 v2 rfl rfl)
  obtain ⟨n, rfl, hwn⟩ := Fr.int_of_okWide Try.underlying2 (Fr.cell_of_value (by kernel_rfl) (hval 3 2 v3 rfl rfl))
  refine (fnExactBestDay_walk c cs a0 a1 ps n hwn W hn0 hi0 hf0 hr2).mono fun e W' ⟨he, hg⟩ => ?_
  subst he
  exact ⟨_, rfl, Fr.law_post laidOut (by kernel_rfl) (tb := 4) (by kernel_rfl) Try.underlying4 rfl ⟨rfl, rfl, rfl⟩ hW' hg⟩

theorem closed : joinedFacts Try.prog 6 Try.f6 Rows.fnExactBestDaySpec Rows.fnExactBestDayRow = true := by kernel_rfl

theorem holds : Rows.FnExactBestDaySaid :=
  OpenClaim.holds_of_wide 6 Try.f6 rfl rfl rfl rfl rfl rfl rfl ⟨rfl, rfl, rfl, rfl, rfl⟩ rfl rfl rfl rfl rfl (by kernel_rfl) Try.func6 closed
    (of_decide_eq_true (by kernel_rfl)) (by unfold Func.isWrapper; first | (rw [if_pos (by decide +kernel)]; kernel_rfl) | (rw [if_neg (by decide +kernel)]; exact ⟨rfl, rfl⟩))
    (fun os started H enc _ => lifted os started H enc)
end FnExactBestDay
theorem fnExactBestDay_holds : Rows.FnExactBestDaySaid := FnExactBestDay.holds
#print axioms fnExactBestDay_holds
end Go.Proofs.Ytfbflbiohbhmmaa
