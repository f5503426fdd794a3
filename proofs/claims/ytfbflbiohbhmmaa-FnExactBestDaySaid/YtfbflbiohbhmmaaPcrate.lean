/-
  Crates as lists of cells; the laws' own copies of them.
-/
import Derived.Test.YtfbflbiohbhmmaaRows
import Derived.Test.YtfbflbiohbhmmaaBase
import Derived.Deep.Cut
namespace Go.Proofs.Ytfbflbiohbhmmaa
open Go.RowKit

/-- The cells of a crate. -/
def crL (c : Int) (rs : List Nat) : List Value := .int .i8 c :: fL rs
def zeros (n : Nat) : List Nat := List.replicate n 0
theorem crL_length (c : Int) (rs : List Nat) : (crL c rs).length = rs.length + 1 := by simp [crL, fL]
theorem crL_zero (c : Int) (rs : List Nat) : (crL c rs)[0]? = some (.int .i8 c) := rfl
theorem crL_succ (c : Int) (rs : List Nat) (i : Nat) (h : i < rs.length) : (crL c rs)[1 + i]? = some (.float .f32 (rs.getD i 0)) := by
  rw [Nat.add_comm]; exact fL_get rs i h
theorem crL_one (c : Int) (rs : List Nat) : ∀ v ∈ crL c rs, v.oneCell' = true := by
  intro v hv
  rcases List.mem_cons.1 hv with rfl | h
  · rfl
  · exact fL_one rs v h

theorem set_step (rs : List Nat) (n k : Nat) (hr : rs.length = n) (hk : k < n) : (fL (rs.take k ++ zeros (n - k))).set k (.float .f32 (rs.getD k 0)) = fL (rs.take (k + 1) ++ zeros (n - (k + 1))) := by
  have h1 : k < rs.length := by omega
  unfold fL zeros
  rw [← List.map_set]
  congr 1
  rw [List.set_append_right k _ (by simp; omega)]
  have e : k - (rs.take k).length = 0 := by simp; omega
  have e2 : rs.take (k + 1) = rs.take k ++ [rs.getD k 0] := by rw [List.take_succ_eq_append_getElem h1]; simp [h1]
  rw [e, e2]
  obtain ⟨m, hm⟩ : ∃ m, n - k = m + 1 := ⟨n - k - 1, by omega⟩
  have hm' : n - (k + 1) = m := by omega
  rw [hm, hm', List.replicate_succ, List.set_cons_zero, List.append_assoc]
  rfl

set_option maxHeartbeats 1000000 in
theorem toArr16_calls (rs : List Nat) (hr : rs.length = 16) (w : World) :
    Calls Try.prog 49 #[.agg (fL rs).toArray] w (Ret (.agg (fL rs).toArray) w) := by
  go_enter Try.func49, Try.ntmps49
  go_wp2_with fail
  have b1 : Mem.Blk ((w.alloc (.cells (fL rs).toArray 32)).alloc (.cells (fL (zeros 16)).toArray 32)) w.heap.size (fL rs) 32 := (Mem.Blk.new w _ _).alloc _
  have b2 : Mem.Blk ((w.alloc (.cells (fL rs).toArray 32)).alloc (.cells (fL (zeros 16)).toArray 32)) (w.heap.size + 1) (fL (zeros 16)) 32 := by
    have := Mem.Blk.new (w.alloc (.cells (fL rs).toArray 32)) (fL (zeros 16)) 32
    simpa using this
  have b3 : Mem.Blk (((w.alloc (.cells (fL rs).toArray 32)).alloc (.cells (fL (zeros 16)).toArray 32)).alloc (.cells (fL (zeros 16)).toArray 32)) (w.heap.size + 1 + 1) (fL (zeros 16)) 32 := by
    have := Mem.Blk.new ((w.alloc (.cells (fL rs).toArray 32)).alloc (.cells (fL (zeros 16)).toArray 32)) (fL (zeros 16)) 32
    simpa using this
  go_loopw [4] (fun i wr => ∃ k : Nat, k ≤ 16 ∧ i = .int .i64 k ∧ Mem.Blk wr w.heap.size (fL rs) 32 ∧ Mem.Blk wr (w.heap.size + 1) (fL (zeros 16)) 32 ∧ Mem.Blk wr (w.heap.size + 1 + 1) (fL (rs.take k ++ zeros (16 - k))) 32 ∧ Below w.heap.size w wr) (fun i _ => 16 - (intOf i).toNat)
  case atStart => exact ⟨0, by omega, rfl, b1.alloc _, b2.alloc _, b3, below_a3 _ _ _ _⟩
  case round =>
    clear b1 b2 b3
    obtain ⟨k, hk, rfl, h1, h2, h3, hb⟩ := hrel
    by_cases hlt : k < 16
    · have c1 : wr.cell? ⟨w.heap.size, k, none⟩ = some (.float .f32 (rs.getD k 0)) := (h1.cell k).trans (fL_get rs k (by omega))
      have HR := Lib.hid hr
      clear hr
      go_wp2_with (with_reducible refine Mem.wpList_store1 rfl 22 _ _ rfl (w.heap.size + 1 + 1) k rfl _ _ rfl _ h3 (by kernel_rfl) (by have := HR.out; simp [fL, zeros]; omega) rfl ?_; intro w1 hw1)
      have hs := set_step rs 16 k HR.out hlt
      have hw2 : Mem.Wrote wr w1 (w.heap.size + 1 + 1) (fL (rs.take (k + 1) ++ zeros (16 - (k + 1)))) 32 := by
        rw [← hs]; exact hw1
      clear hw1 hs c1
      go_roundw
      case rel => exact ⟨k + 1, by omega, by go_num, hw2.keep (by omega) h1, hw2.keep (by omega) h2, hw2.blk, hb.trans (hw2.below (by omega))⟩
      case measure => simp [intOf]; omega
    · obtain rfl : k = 16 := by omega
      have ht : rs.take 16 ++ zeros (16 - 16) = rs := by rw [List.take_of_length_le (by omega)]; simp [zeros]
      rw [ht] at h3
      have h3c : ∀ j v, (fL rs)[j]? = some v → wr.cell? ⟨w.heap.size + 1 + 1, 0 + j, none⟩ = some v := fun j v h => by rw [Nat.zero_add, h3.cell]; exact h
      have HC := Lib.hid h3c
      have HR := Lib.hid hr
      clear hr ht h3c
      go_wp2_with (first | (with_reducible refine Mem.wpList_loadA rfl 32 _ rfl (w.heap.size + 1 + 1) 0 rfl (fL rs) _ Try.underlying32 rfl (by rw [fL_length, HR.out]; kernel_rfl) HC.out ?_) | (with_reducible refine Mem.wpList_storeA rfl 32 _ _ rfl (w.heap.size + 1) 0 rfl (fL rs) _ rfl _ h2 (by rw [fL_length, HR.out]; kernel_rfl) (by rw [fL_length, fL_length, HR.out]; simp [zeros]) (fL_one rs) ?_; intro w1 hw1))
      have hw2 : Mem.Blk w1 (w.heap.size + 1) (fL rs) 32 := by
        have e : List.take 0 (fL (zeros 16)) ++ fL rs ++ List.drop (0 + (fL rs).length) (fL (zeros 16)) = fL rs := by
          rw [List.drop_of_length_le (by rw [fL_length, fL_length, HR.out]; simp [zeros])]; simp
        rw [← e]; exact hw1.blk
      exact bodyPost_ret (v := .agg (fL rs).toArray) (Mem.results_cellA Try.results49 _ (w.heap.size + 1) (fL rs) 32 _ rfl hw2 Try.underlying32 rfl (by rw [fL_length, HR.out]; kernel_rfl)) rfl
        ⟨rfl, hb.trans (hw1.below (by omega))⟩

set_option maxHeartbeats 1000000 in
theorem toCrate_calls (c : Int) (rs : List Nat) (hr : rs.length = 16) (w : World) :
    Calls Try.prog 15 #[.agg (crL c rs).toArray] w (Ret (.agg (crL c rs).toArray) w) := by
  go_enter Try.func15, Try.ntmps15
  go_upto_region 2 with (fail)
  generalize hw1 : ((w.alloc _).alloc _).alloc _ = w1
  have h1 : Mem.Blk w1 w.heap.size (crL c rs) 34 := hw1 ▸ ((Mem.Blk.new w _ _).alloc _).alloc _
  have h2 : Mem.Blk w1 (w.heap.size + 1) (crL 0 (zeros 16)) 36 := hw1 ▸ (Mem.Blk.new1 w _ _ _).alloc _
  have h3 : Mem.Blk w1 (w.heap.size + 1 + 1) (crL 0 (zeros 16)) 36 := hw1 ▸ Mem.Blk.new2 w _ _ _ _
  have hb : Below w.heap.size w w1 := hw1 ▸ below_a3 w _ _ _
  clear hw1
  have c0 : w1.cell? ⟨w.heap.size, 0, none⟩ = some (.int .i8 c) := h1.cell 0
  have HR := Lib.hid hr
  clear hr
  have K0 := Lib.hid (show ∀ j v, (fL rs)[j]? = some v → w1.cell? ⟨w.heap.size, 1 + j, none⟩ = some v from fun j v h => (h1.cell (1 + j)).trans (by rw [Nat.add_comm]; exact h))
  go_wp2_with (first
    | (with_reducible refine Mem.wpList_store1 rfl 31 _ _ rfl (w.heap.size + 1 + 1) 0 rfl _ _ rfl _ h3 (by kernel_rfl) (by simp [crL]) rfl ?_; intro w2 hw2)
    | (with_reducible refine Mem.wpList_loadA rfl 32 _ rfl w.heap.size 1 rfl (fL rs) _ Try.underlying32 rfl (by rw [fL_length, HR.out]; kernel_rfl) (fun j v h => (hw2.cell (show w.heap.size ≠ w.heap.size + 1 + 1 by omega)).trans (K0.out j v h)) ?_))
  refine (toArr16_calls rs HR.out w2).mono ?_
  rintro e w3 ⟨rfl, hb3⟩
  have s1 := h1.lt
  have s2 := h2.lt
  have s3 := h3.lt
  have z2 : w2.heap.size = w1.heap.size := hw2.size
  have k3 : Mem.Blk w3 (w.heap.size + 1 + 1) (crL c (zeros 16)) 36 := hw2.blk.below hb3 (by omega)
  have k2 : Mem.Blk w3 (w.heap.size + 1) (crL 0 (zeros 16)) 36 := (hw2.keep (by omega) h2).below hb3 (by omega)
  have b3 : Below w.heap.size w w3 := (hb.trans (hw2.below (by omega))).trans (hb3.mono (by omega))
  clear h1 h2 h3 hb hw2 hb3 K0 c0
  have e1 : List.take 1 (crL c (zeros 16)) ++ fL rs ++ List.drop (1 + (fL rs).length) (crL c (zeros 16)) = crL c rs := by
    rw [List.drop_of_length_le (by rw [fL_length, crL_length, HR.out]; simp [zeros])]; simp [crL]
  have e2 : List.take 0 (crL 0 (zeros 16)) ++ crL c rs ++ List.drop (0 + (crL c rs).length) (crL 0 (zeros 16)) = crL c rs := by
    rw [List.drop_of_length_le (by rw [crL_length, crL_length, HR.out]; simp [zeros])]; simp
  go_wp2_with (first
    | (with_reducible refine Mem.wpList_storeA rfl 32 _ _ rfl (w.heap.size + 1 + 1) 1 rfl (fL rs) _ rfl _ k3 (by rw [fL_length, HR.out]; kernel_rfl) (by rw [fL_length, crL_length, HR.out]; simp [zeros]) (fL_one rs) ?_; rw [e1]; intro w4 hw4)
    | (with_reducible refine Mem.wpList_loadA rfl 36 _ rfl (w.heap.size + 1 + 1) 0 rfl (crL c rs) _ Try.underlying36 rfl (by rw [crL_length, HR.out]; kernel_rfl) (fun j v h => by rw [Nat.zero_add, hw4.blk.cell]; exact h) ?_)
    | (with_reducible refine Mem.wpList_storeA rfl 36 _ _ rfl (w.heap.size + 1) 0 rfl (crL c rs) _ rfl _ (hw4.keep (by omega) k2) (by rw [crL_length, HR.out]; kernel_rfl) (by rw [crL_length, crL_length, HR.out]; simp [zeros]) (crL_one c rs) ?_; rw [e2]; intro w5 hw5))
  exact bodyPost_ret (v := .agg (crL c rs).toArray) (Mem.results_cellA Try.results15 _ (w.heap.size + 1) (crL c rs) 36 _ rfl hw5.blk Try.underlying36 rfl (by rw [crL_length, HR.out]; kernel_rfl)) rfl
    ⟨rfl, b3.trans ((hw4.below (by omega)).trans (hw5.below (by omega)))⟩
end Go.Proofs.Ytfbflbiohbhmmaa
