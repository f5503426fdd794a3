/-
  Dots are copied by slices.Clone; dots are appended one by one.
-/
import Derived.Test.YtcihbcmdmgmonaaLie
import Derived.Test.YtcihbcmdmgmonaaPdotS
import Derived.Test.YtcihbcmdmgmonaaPdotOk
import Derived.Test.YtcihbcmdmgmonaaPrests
namespace Go.Proofs.Ytcihbcmdmgmonaa
open Go.RowKit

theorem own_row' {w : World} {base : Nat} {e : TypeId} {size n : Nat} {v : Value} {xs : List Value} (h : w.ownsRow base e size v n xs) (hv : v ≠ .slice none 0 0) :
    ∃ g cap cur, v = .slice (some ⟨g, 0, none⟩) n cap ∧ base ≤ g ∧ Mem.Blk w g cur e ∧ cur.take (n * size) = xs ∧ xs.length = n * size := by
  obtain ⟨hl, h2⟩ := h
  rcases h2 with ⟨rfl, rfl⟩ | ⟨g, cap, cur, rfl, hbg, hg, _, _, _, ht⟩
  · exact absurd rfl hv
  · exact ⟨g, cap, cur.toList, rfl, hbg, by simpa [Mem.Blk] using hg, ht, by omega⟩

theorem cells_dots {w : World} {b o : Nat} {ds : List (Nat × Nat)} (h : HoldsD w b o ds) : ∀ j u, (dL ds)[j]? = some u → w.cell? ((⟨b, o, none⟩ : Addr).add j) = some u := by
  intro j u hj
  have hlt : j < ds.length * 2 := by rw [← dL_length]; exact (List.getElem?_eq_some_iff.1 hj).1
  have ea : (⟨b, o, none⟩ : Addr).add j = ⟨b, o + j, none⟩ := by unfold Addr.add; split <;> simp_all
  rw [ea]
  have hm : j / 2 < ds.length := by omega
  obtain ⟨h0, h1⟩ := h (j / 2) hm
  obtain ⟨g0, g1⟩ := dL_get ds (j / 2) hm
  rcases Nat.mod_two_eq_zero_or_one j with hj2 | hj2
  · have e : j / 2 * 2 = j := by omega
    rw [e] at h0 g0
    rw [h0, ← g0, hj]
  · have e : j / 2 * 2 + 1 = j := by omega
    rw [Nat.add_assoc, e] at h1
    rw [e] at g1
    rw [h1, ← g1, hj]

theorem cell_two_new (w : World) (x y : Value) (t : TypeId) : ∀ j u, [x, y][j]? = some u → (w.alloc (.cells #[x, y] t)).cell? ((⟨w.heap.size, 0, none⟩ : Addr).add j) = some u := by
  intro j u hj
  match j, hj with
  | 0, hj => simp at hj; subst hj; simp [Addr.add]
  | 1, hj => simp at hj; subst hj; simp [Addr.add]

theorem wrote_cell {w : World} {g : Nat} {l : List Value} {t : TypeId} (h : Mem.Blk w g l t) (i : Nat) (v : Value) : Mem.Wrote w (w.setCell ⟨g, i, none⟩ v) g (l.set i v) t := by
  refine ⟨rfl, rfl, rfl, by simp [World.setCell], ?_, fun k hk => Below.heap_setCell w _ v k hk⟩
  show (w.heap.modify g _)[g]? = _
  rw [Array.getElem?_modify, if_pos rfl, h]
  simp [Option.isSome]

set_option maxHeartbeats 1000000 in
theorem cloneD_calls (b o cap : Nat) (ds : List (Nat × Nat)) (w : World) (hd : HoldsD w b o ds) (hb : b < w.heap.size) (hl : ds.length ≤ 1048576) :
    Calls Try.prog 73 #[.slice (some ⟨b, o, none⟩) ds.length cap] w fun e W' =>
      ∃ g cp cur, e = .returned (.slice (some ⟨g, 0, none⟩) ds.length cp) ∧ w.heap.size ≤ g ∧ Mem.Blk W' g cur 77 ∧ cur.take (ds.length * 2) = dL ds ∧ Below w.heap.size w W' := by
  obtain ⟨i0, hi, hz0, hz1, hz2⟩ := info_parts infoDot
  have HC := Lib.hid (cells_dots (hd.below (below_a1 w (.cells #[] 77)) hb))
  clear hd
  have hq : ∀ W : World, (binOp .eql 31 (.slice (some ⟨b, o, none⟩) ds.length cap) (.slice none 0 0)).run Try.prog W = .ok (.bool false) W := fun W => by kernel_rfl
  go_enter Try.func73, Try.ntmps73
  have hown : (w.alloc (.cells #[] 77)).ownsRow w.heap.size 77 2 (.slice (some ⟨w.heap.size, 0, none⟩) 0 0) 0 (dL []) := by
    refine ⟨rfl, .inr ⟨w.heap.size, 0, #[], rfl, Nat.le_refl _, ?_, Nat.le_refl _, Nat.zero_le _, rfl, rfl⟩⟩
    exact Mem.Blk.new w [] _
  go_wp2_with (at_builtin; refine wpList_append_own _ rfl _ _ 31 rfl w.heap.size 77 i0 (.agg #[.float .f32 0, .float .f32 0]) 2 8 Try.underlying31 hi hz0 hz1 hz2 rfl (by decide) _ _ _ rfl hown ⟨b, o, none⟩ ds.length cap (dL ds) rfl (dL_length ds) HC.out (dL_one ds) (by unfold maxLen; omega) (by omega) (by simp) ?_; intro v' w4 hown' hgrow hnil)
  have hne : v' ≠ .slice none 0 0 := by intro h; have := (hnil.1 h).1; cases this
  obtain ⟨g, cp, cur, rfl, hg, hblk, htk, _⟩ := own_row' hown' hne
  have hB : Below w.heap.size w w4 := (below_a1 w _).grown hgrow (by simp) (own_ge hown)
  clear hown' hgrow hnil hown hne
  go_wp2
  go_ret
  exact ⟨g, cp, cur, by simp, hg, hblk, by simpa [dL] using htk, hB⟩
end Go.Proofs.Ytcihbcmdmgmonaa
