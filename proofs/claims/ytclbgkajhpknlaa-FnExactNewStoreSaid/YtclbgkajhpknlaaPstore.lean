/-
  Stores as lists of cells; the laws' own copies of them.
-/
import Derived.Test.YtclbgkajhpknlaaRows
import Derived.Test.YtclbgkajhpknlaaPcrate
import Derived.Deep.Cut
namespace Go.Proofs.Ytclbgkajhpknlaa
open Go.RowKit

/-- The cells of a store. -/
def stL (c : Int) (rs : List Nat) (b s t : Int) (m : Nat) : List Value := crL c rs ++ [.int .u16 b, .int .i16 s, .int .i16 t, .float .f32 m]
/-- A store's fields are of their kinds. -/
structure StOk (c : Int) (rs : List Nat) (b s t : Int) (m : Nat) : Prop where
  len : rs.length = 16
  hc : IntKind.i8.has c
  hf : ∀ i, i < 16 → FloatKind.f32.has (rs.getD i 0)
  hb : IntKind.u16.has b
  hs : IntKind.i16.has s
  ht : IntKind.i16.has t
  hm : FloatKind.f32.has m
section
variable (c : Int) (rs : List Nat) (b s t : Int) (m : Nat)
theorem stL_length : (stL c rs b s t m).length = rs.length + 5 := by simp [stL, crL_length]
theorem stL_one : ∀ v ∈ stL c rs b s t m, v.oneCell' = true := by
  intro v hv
  rcases List.mem_append.1 hv with h | h
  · exact crL_one c rs v h
  · simp only [List.mem_cons, List.not_mem_nil, or_false] at h
    rcases h with rfl | rfl | rfl | rfl <;> rfl
theorem stL_crate (i : Nat) (v : Value) (h : (crL c rs)[i]? = some v) : (stL c rs b s t m)[i]? = some v := by
  have hi : i < (crL c rs).length := (List.getElem?_eq_some_iff.1 h).1
  unfold stL; rw [List.getElem?_append_left hi]; exact h
theorem stL_get (hr : rs.length = 16) (k : Nat) : (stL c rs b s t m)[17 + k]? = [Value.int .u16 b, .int .i16 s, .int .i16 t, .float .f32 m][k]? := by
  unfold stL
  have hl : (crL c rs).length = 17 := by rw [crL_length, hr]
  rw [List.getElem?_append_right (by omega), hl]; congr 1; omega
theorem stL_set (hr : rs.length = 16) (k : Nat) (v : Value) : (stL c rs b s t m).set (17 + k) v = crL c rs ++ [Value.int .u16 b, .int .i16 s, .int .i16 t, .float .f32 m].set k v := by
  unfold stL
  have hl : (crL c rs).length = 17 := by rw [crL_length, hr]
  rw [List.set_append_right _ _ (by omega), hl]; congr 2; omega
theorem stL_set0 (hr : rs.length = 16) (v : Int) : (stL c rs b s t m).set 17 (.int .u16 v) = stL c rs v s t m := stL_set c rs b s t m hr 0 _
theorem stL_set1 (hr : rs.length = 16) (v : Int) : (stL c rs b s t m).set 18 (.int .i16 v) = stL c rs b v t m := stL_set c rs b s t m hr 1 _
theorem stL_set2 (hr : rs.length = 16) (v : Int) : (stL c rs b s t m).set 19 (.int .i16 v) = stL c rs b s v m := stL_set c rs b s t m hr 2 _
theorem stL_set3 (hr : rs.length = 16) (v : Nat) : (stL c rs b s t m).set 20 (.float .f32 v) = stL c rs b s t v := stL_set c rs b s t m hr 3 _
theorem stL_put (c' : Int) (rs' : List Nat) (hr : rs.length = 16) (hr' : rs'.length = 16) :
    List.take 0 (stL c rs b s t m) ++ crL c' rs' ++ List.drop (0 + (crL c' rs').length) (stL c rs b s t m) = stL c' rs' b s t m := by
  have hl : (crL c rs).length = 17 := by rw [crL_length, hr]
  have hl' : (crL c' rs').length = 17 := by rw [crL_length, hr']
  unfold stL
  rw [hl', List.drop_append_of_le_length (by omega), List.drop_of_length_le (by omega)]; simp
theorem stL_all (c' : Int) (rs' : List Nat) (b' s' t' : Int) (m' : Nat) (hr : rs.length = 16) (hr' : rs'.length = 16) :
    List.take 0 (stL c rs b s t m) ++ stL c' rs' b' s' t' m' ++ List.drop (0 + (stL c' rs' b' s' t' m').length) (stL c rs b s t m) = stL c' rs' b' s' t' m' := by
  rw [List.drop_of_length_le (by rw [stL_length, stL_length, hr, hr']; omega)]; simp
end

set_option maxHeartbeats 1000000 in
theorem toStore_calls (c : Int) (rs : List Nat) (b s t : Int) (m : Nat) (hr : rs.length = 16) (w : World) :
    Calls Try.prog 17 #[.agg (stL c rs b s t m).toArray] w (Ret (.agg (stL c rs b s t m).toArray) w) := by
  go_enter Try.func17, Try.ntmps17
  go_upto_region 2 with (fail)
  generalize hw1 : ((w.alloc _).alloc _).alloc _ = w1
  have h1 : Mem.Blk w1 w.heap.size (stL c rs b s t m) 36 := hw1 ▸ ((Mem.Blk.new w _ _).alloc _).alloc _
  have h2 : Mem.Blk w1 (w.heap.size + 1) (stL 0 (zeros 16) 0 0 0 0) 40 := hw1 ▸ (Mem.Blk.new1 w _ _ _).alloc _
  have h3 : Mem.Blk w1 (w.heap.size + 1 + 1) (stL 0 (zeros 16) 0 0 0 0) 40 := hw1 ▸ Mem.Blk.new2 w _ _ _ _
  have hb : Below w.heap.size w w1 := hw1 ▸ below_a3 w _ _ _
  clear hw1
  have HR := Lib.hid hr
  clear hr
  have K0 := Lib.hid (show ∀ j v, (crL c rs)[j]? = some v → w1.cell? ⟨w.heap.size, 0 + j, none⟩ = some v from fun j v h => (h1.cell (0 + j)).trans (by rw [Nat.zero_add]; exact stL_crate c rs b s t m j v h))
  go_wp2_with (with_reducible refine Mem.wpList_loadA rfl 32 _ rfl w.heap.size 0 rfl (crL c rs) _ Try.underlying32 rfl (by rw [crL_length, HR.out]; kernel_rfl) K0.out ?_)
  refine (toCrate_calls c rs HR.out w1).mono ?_
  rintro e w2 ⟨rfl, hb2⟩
  have s1 := h1.lt
  have s2 := h2.lt
  have s3 := h3.lt
  have k3 : Mem.Blk w2 (w.heap.size + 1 + 1) (stL 0 (zeros 16) 0 0 0 0) 40 := h3.below hb2 (by omega)
  have k2 : Mem.Blk w2 (w.heap.size + 1) (stL 0 (zeros 16) 0 0 0 0) 40 := h2.below hb2 (by omega)
  have k1 : Mem.Blk w2 w.heap.size (stL c rs b s t m) 36 := h1.below hb2 (by omega)
  have b2 : Below w.heap.size w w2 := hb.trans (hb2.mono (by omega))
  clear h1 h2 h3 hb hb2 K0
  have e0 := Lib.hid (stL_put 0 (zeros 16) 0 0 0 0 c rs (by simp [zeros]) HR.out)
  go_upto_region 3 with (with_reducible refine Mem.wpList_storeA rfl 38 _ _ rfl (w.heap.size + 1 + 1) 0 rfl (crL c rs) _ rfl _ k3 (by rw [crL_length, HR.out]; kernel_rfl) (by rw [crL_length, stL_length, HR.out]; simp [zeros]) (crL_one c rs) ?_; rw [e0.out]; intro w3 hw3)
  have g3 := hw3
  have q3 := hw3.keep (by omega) k1
  have r3 := hw3.keep (by omega) k2
  have b3 := b2.trans (hw3.below (show w.heap.size ≤ w.heap.size + 1 + 1 by omega))
  clear hw3 k1 k2 k3 b2
  have f3 : w3.cell? ⟨w.heap.size, 17, none⟩ = some (.int .u16 b) := (q3.cell 17).trans (stL_get c rs b s t m HR.out 0)
  go_upto_region 4 with (with_reducible refine Mem.wpList_store1 rfl 33 _ _ rfl (w.heap.size + 1 + 1) 17 rfl _ _ rfl _ g3.blk (by kernel_rfl) (by rw [stL_length, HR.out]; omega) rfl ?_; intro w4 hw4)
  have g4 : Mem.Wrote w3 w4 (w.heap.size + 1 + 1) (stL c rs b 0 0 0) 40 := stL_set0 c rs 0 0 0 0 HR.out b ▸ hw4
  have q4 := g4.keep (by omega) q3
  have r4 := g4.keep (by omega) r3
  have b4 := b3.trans (g4.below (show w.heap.size ≤ w.heap.size + 1 + 1 by omega))
  clear hw4 f3 g3 q3 r3 b3
  have f4 : w4.cell? ⟨w.heap.size, 18, none⟩ = some (.int .i16 s) := (q4.cell 18).trans (stL_get c rs b s t m HR.out 1)
  go_upto_region 5 with (with_reducible refine Mem.wpList_store1 rfl 34 _ _ rfl (w.heap.size + 1 + 1) 18 rfl _ _ rfl _ g4.blk (by kernel_rfl) (by rw [stL_length, HR.out]; omega) rfl ?_; intro w5 hw5)
  have g5 : Mem.Wrote w4 w5 (w.heap.size + 1 + 1) (stL c rs b s 0 0) 40 := stL_set1 c rs b 0 0 0 HR.out s ▸ hw5
  have q5 := g5.keep (by omega) q4
  have r5 := g5.keep (by omega) r4
  have b5 := b4.trans (g5.below (show w.heap.size ≤ w.heap.size + 1 + 1 by omega))
  clear hw5 f4 g4 q4 r4 b4
  have f5 : w5.cell? ⟨w.heap.size, 19, none⟩ = some (.int .i16 t) := (q5.cell 19).trans (stL_get c rs b s t m HR.out 2)
  go_upto_region 6 with (with_reducible refine Mem.wpList_store1 rfl 34 _ _ rfl (w.heap.size + 1 + 1) 19 rfl _ _ rfl _ g5.blk (by kernel_rfl) (by rw [stL_length, HR.out]; omega) rfl ?_; intro w6 hw6)
  have g6 : Mem.Wrote w5 w6 (w.heap.size + 1 + 1) (stL c rs b s t 0) 40 := stL_set2 c rs b s 0 0 HR.out t ▸ hw6
  have q6 := g6.keep (by omega) q5
  have r6 := g6.keep (by omega) r5
  have b6 := b5.trans (g6.below (show w.heap.size ≤ w.heap.size + 1 + 1 by omega))
  clear hw6 f5 g5 q5 r5 b5
  have f6 : w6.cell? ⟨w.heap.size, 20, none⟩ = some (.float .f32 m) := (q6.cell 20).trans (stL_get c rs b s t m HR.out 3)
  go_upto_region 7 with (with_reducible refine Mem.wpList_store1 rfl 22 _ _ rfl (w.heap.size + 1 + 1) 20 rfl _ _ rfl _ g6.blk (by kernel_rfl) (by rw [stL_length, HR.out]; omega) rfl ?_; intro w7 hw7)
  have g7 : Mem.Wrote w6 w7 (w.heap.size + 1 + 1) (stL c rs b s t m) 40 := stL_set3 c rs b s t 0 HR.out m ▸ hw7
  have q7 := g7.keep (by omega) q6
  have r7 := g7.keep (by omega) r6
  have b7 := b6.trans (g7.below (show w.heap.size ≤ w.heap.size + 1 + 1 by omega))
  clear hw7 f6 g6 q6 r6 b6
  have e9 := Lib.hid (stL_all 0 (zeros 16) 0 0 0 0 c rs b s t m (by simp [zeros]) HR.out)
  go_wp2_with (first
    | (with_reducible refine Mem.wpList_loadA rfl 40 _ rfl (w.heap.size + 1 + 1) 0 rfl (stL c rs b s t m) _ Try.underlying40 rfl (by rw [stL_length, HR.out]; kernel_rfl) (fun j v h => by rw [Nat.zero_add, g7.blk.cell]; exact h) ?_)
    | (with_reducible refine Mem.wpList_storeA rfl 40 _ _ rfl (w.heap.size + 1) 0 rfl (stL c rs b s t m) _ rfl _ r7 (by rw [stL_length, HR.out]; kernel_rfl) (by rw [stL_length, stL_length, HR.out]; simp [zeros]) (stL_one c rs b s t m) ?_; rw [e9.out]; intro w8 hw8))
  exact bodyPost_ret (v := .agg (stL c rs b s t m).toArray) (Mem.results_cellA Try.results17 _ (w.heap.size + 1) (stL c rs b s t m) 40 _ rfl hw8.blk Try.underlying40 rfl (by rw [stL_length, HR.out]; kernel_rfl)) rfl
    ⟨rfl, b7.trans (hw8.below (by omega))⟩
end Go.Proofs.Ytclbgkajhpknlaa
