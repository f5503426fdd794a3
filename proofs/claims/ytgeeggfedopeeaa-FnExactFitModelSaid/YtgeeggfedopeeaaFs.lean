/-
  Slices of numbers that a call has made: what both programs answer, but for what a NaN bears.
-/
import Derived.Test.YtgeeggfedopeeaaRows
import Derived.Test.YtgeeggfedopeeaaRegT
import Derived.Test.YtgeeggfedopeeaaReg2
import Derived.Test.YtgeeggfedopeeaaBase
import Derived.OwnWalk
import Derived.Deep.Cut
import Derived.Deep.AppendLies
import Derived.Maps.AppendAt
namespace Go.Proofs.Ytgeeggfedopeeaa
open Go.RowKit

/-- The words are those of these numbers, but for what a NaN bears. -/
def IsFs (xs es : List Nat) : Prop := xs.length = es.length ∧ ∀ i, i < es.length → Fl.canon (xs.getD i 0) = Fl.canon (es.getD i 0)
theorem IsFs.push {xs es : List Nat} {x e : Nat} (h : IsFs xs es) (hx : Fl.canon x = Fl.canon e) : IsFs (xs ++ [x]) (es ++ [e]) := by
  refine ⟨by simp [h.1], fun i hi => ?_⟩
  simp only [List.length_append, List.length_singleton] at hi
  by_cases hlt : i < es.length
  · have hlt' : i < xs.length := by have := h.1; omega
    have := h.2 i hlt
    simpa [List.getD_eq_getElem?_getD, List.getElem?_append_left hlt, List.getElem?_append_left hlt'] using this
  · obtain rfl : i = es.length := by omega
    have e1 : (xs ++ [x]).getD es.length 0 = x := by rw [← h.1]; simp
    have e2 : (es ++ [e]).getD es.length 0 = e := by simp
    rw [e1, e2]; exact hx

theorem infoF : (Try.prog.info? 22).map (fun i => (i.zero, i.size, i.bytes)) = some (some (.float .f32 0), 1, 4) := by kernel_rfl
theorem own_below {w w' : World} {base : Nat} {e : TypeId} {size : Nat} {v : Value} {n : Nat} {xs : List Value} (h : w.ownsRow base e size v n xs) (hb : Below w.heap.size w w') : w'.ownsRow base e size v n xs := by
  obtain ⟨h1, h2⟩ := h
  refine ⟨h1, ?_⟩
  rcases h2 with h2 | ⟨g, cap, cur, hv, hbg, hg, rest⟩
  · exact .inl h2
  · exact .inr ⟨g, cap, cur, hv, hbg, (hb.block g (Array.getElem?_eq_some_iff.1 hg).1).trans hg, rest⟩
theorem own_ge {w : World} {base : Nat} {e : TypeId} {size : Nat} {v : Value} {n : Nat} {xs : List Value} (h : w.ownsRow base e size v n xs) : ∀ k, v.ownBlock = some k → base ≤ k := by
  intro k hk
  rcases h.2 with ⟨rfl, _⟩ | ⟨g, cap, cur, rfl, hbg, _⟩
  · cases hk
  · simp [Value.ownBlock] at hk; omega
theorem own_mono {w : World} {base base' : Nat} {e : TypeId} {size : Nat} {v : Value} {n : Nat} {xs : List Value} (h : w.ownsRow base e size v n xs) (hb : base' ≤ base) : w.ownsRow base' e size v n xs := by
  refine ⟨h.1, ?_⟩
  rcases h.2 with h2 | ⟨g, cap, cur, hv, hbg, rest⟩
  · exact .inl h2
  · exact .inr ⟨g, cap, cur, hv, by omega, rest⟩

theorem own_form {w : World} {base : Nat} {e : TypeId} {v : Value} {n : Nat} {xs : List Nat} (h : w.ownsRow base e 1 v n (fL xs)) :
    ∃ ad cap, v = .slice ad n cap ∧ xs.length = n ∧ (n = 0 ∨ ∃ g, ad = some ⟨g, 0, none⟩ ∧ g < w.heap.size ∧ HoldsF w g 0 xs) := by
  obtain ⟨hl, h2⟩ := h
  have hl' : xs.length = n := by rw [fL_length] at hl; omega
  rcases h2 with ⟨rfl, rfl⟩ | ⟨g, cap, cur, rfl, _, hg, _, _, _, ht⟩
  · exact ⟨none, 0, rfl, hl', .inl rfl⟩
  · refine ⟨some ⟨g, 0, none⟩, cap, rfl, hl', .inr ⟨g, rfl, (Array.getElem?_eq_some_iff.1 hg).1, fun i hi => ?_⟩⟩
    have h3 := fL_get xs i hi
    rw [← ht, List.getElem?_take_of_lt (by omega)] at h3
    rw [cell_of_row w g (0 + i) _ _ _ hg, Nat.zero_add]
    simpa using h3

end Go.Proofs.Ytgeeggfedopeeaa
