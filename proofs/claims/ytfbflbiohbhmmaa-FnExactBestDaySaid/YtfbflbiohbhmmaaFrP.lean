/-
  What crates and prices look like that a law is called with.
-/
import Derived.Test.YtfbflbiohbhmmaaFrame
import Derived.Test.YtfbflbiohbhmmaaPcrate
namespace Go.Proofs.Ytfbflbiohbhmmaa
open Go.ChangeShapes Go.WideShapes Go.ChangeAt Go.RowKit

namespace Fr
def flAt (cs : Array Value) (i : Nat) : Nat := match cs[i]? with | some (.float _ b) => b | _ => 0

theorem floats_of {P : Program} {w : World} {r : Reach} {base : Nat} {f : TypeId} (hf : P.underlying f = some (.float .f32)) (cs : Array Value) (s n : Nat)
    (h : ∀ i, i < n → ∃ x, cs[s + i]? = some x ∧ Cell.okWide P w r base f x) :
    ((List.range n).map fun i => flAt cs (s + i)).length = n ∧ ∀ i, i < n → cs[s + i]? = some (.float .f32 (((List.range n).map fun i => flAt cs (s + i)).getD i 0)) ∧ FloatKind.f32.has (((List.range n).map fun i => flAt cs (s + i)).getD i 0) := by
  refine ⟨by simp, fun i hi => ?_⟩
  obtain ⟨x, hx, hok⟩ := h i hi
  obtain ⟨b, rfl, hb⟩ := float_of_okWide hf hok
  have e : ((List.range n).map fun i => flAt cs (s + i)).getD i 0 = b := by simp [hi, flAt, hx]
  rw [e]
  exact ⟨hx, hb⟩

theorem cells17 (c : Int) (rs : List Nat) (hr : rs.length = 16) (cs : Array Value) (h0 : cs[0]? = some (.int .i8 c)) (hs : ∀ i, i < 16 → cs[1 + i]? = some (.float .f32 (rs.getD i 0))) :
    ∀ i, i < 17 → cs[i]? = (crL c rs)[i]? := by
  intro i hi
  match i with
  | 0 => exact h0
  | i + 1 =>
    have := hs i (by omega)
    rw [Nat.add_comm] at this
    rw [this, Nat.add_comm i 1, crL_succ c rs i (by omega)]

theorem open_crate {P : Program} {w : World} {r : Reach} {base : Nat} {t i8 f : TypeId} {v : Value} (hct : P.cellTypes P.depth t = some (i8 :: List.replicate 16 f)) (hc : P.cellsOf t = 17)
    (ha : (match P.underlying t with | some (.struct _) | some (.array _ _) => true | _ => false) = true) (hi8 : P.underlying i8 = some (.int .i8)) (hf : P.underlying f = some (.float .f32))
    (h : Value.okWide P w r base t v) : ∃ c rs, v = .agg (crL c rs).toArray ∧ rs.length = 16 ∧ IntKind.i8.has c ∧ (∀ i, i < 16 → FloatKind.f32.has (rs.getD i 0)) := by
  obtain ⟨cs, rfl, hs, hcell⟩ := agg_of_okWide hct (by simpa using hc) ha h
  obtain ⟨x, hx, hok⟩ := hcell 0 i8 rfl
  obtain ⟨c, rfl, hcw⟩ := int_of_okWide hi8 hok
  obtain ⟨hl, hfs⟩ := floats_of hf cs 1 16 (fun i hi => hcell (1 + i) f (by rw [Nat.add_comm, List.getElem?_cons_succ, List.getElem?_replicate, if_pos hi]))
  refine ⟨c, _, ?_, hl, hcw, fun i hi => (hfs i hi).2⟩
  congr 1
  apply Array.ext_getElem?
  intro i
  by_cases hi : i < 17
  · rw [cells17 c _ hl cs hx (fun i hi => (hfs i hi).1) i hi]; simp
  · have hl2 := crL_length c ((List.range 16).map fun i => flAt cs (1 + i))
    rw [Array.getElem?_eq_none (by rw [hs]; simp; omega), Array.getElem?_eq_none (by rw [List.size_toArray, hl2, hl]; omega)]

theorem open_prices {P : Program} {w : World} {r : Reach} {base : Nat} {t f : TypeId} {v : Value} (hct : P.cellTypes P.depth t = some (List.replicate 8 f)) (hc : P.cellsOf t = 8)
    (ha : (match P.underlying t with | some (.struct _) | some (.array _ _) => true | _ => false) = true) (hf : P.underlying f = some (.float .f32))
    (h : Value.okWide P w r base t v) : ∃ rs, v = .agg (fL rs).toArray ∧ rs.length = 8 := by
  obtain ⟨cs, rfl, hs, hcell⟩ := agg_of_okWide hct (by simpa using hc) ha h
  obtain ⟨hl, hfs⟩ := floats_of hf cs 0 8 (fun i hi => hcell (0 + i) f (by rw [Nat.zero_add, List.getElem?_replicate, if_pos hi]))
  refine ⟨_, ?_, hl⟩
  congr 1
  apply Array.ext_getElem?
  intro i
  have hl2 := fL_length ((List.range 8).map fun i => flAt cs (0 + i))
  by_cases hi : i < 8
  · have h1 := (hfs i hi).1
    rw [Nat.zero_add] at h1
    rw [h1, List.getElem?_toArray, fL_get _ i (by rw [hl]; exact hi)]
  · rw [Array.getElem?_eq_none (by rw [hs]; simp; omega), Array.getElem?_eq_none (by rw [List.size_toArray, hl2, hl]; omega)]
end Fr
end Go.Proofs.Ytfbflbiohbhmmaa
