/-
  All fruits: what both programs answer.
-/
import Derived.Test.YtclbgkajhpknlaaPvalidSt
import Derived.Test.YtclbgkajhpknlaaSel
namespace Go.Proofs.Ytclbgkajhpknlaa
open Go.RowKit

theorem vStore_bounds {c : Int} {rs : List Nat} {b s t : Int} {m : Nat} (h : vStore c rs b s t m = true) : 0 ≤ c ∧ c ≤ 16 ∧ b / 2 ^ c.toNat = 0 ∧ 0 ≤ s ∧ s ≤ 10000 ∧ 0 ≤ t ∧ t ≤ 10000 := by
  unfold vStore countedN at h
  simp only [Bool.and_eq_true, decide_eq_true_eq, beq_iff_eq] at h
  obtain ⟨⟨⟨⟨⟨h1, h2⟩, h3⟩, h4⟩, _⟩, _⟩ := h
  obtain ⟨h5, h6⟩ := vCrate_bounds h1
  exact ⟨h5, h6, h2, h3.1, h3.2, h4.1, h4.2⟩

set_option maxHeartbeats 1000000 in
theorem l07All_calls (g o : Nat) (c : Int) (rs : List Nat) (b s t : Int) (m : Nat) (_h : StOk c rs b s t m) (hv : vStore c rs b s t m = true) (w : World) (H : HoldsSt w g o c rs b s t m) :
    Calls Try.prog 49 #[.pointer (some ⟨g, o, none⟩)] w (Ret (.int .i64 (c + s + t)) w) := by
  obtain ⟨h1, h2, -, h3, h4, h5, h6⟩ := vStore_bounds hv
  have a1 : IntKind.i64.wrap c = c := by rw [IntKind.wrap_i64]; omega
  have a2 : IntKind.i64.wrap s = s := by rw [IntKind.wrap_i64]; omega
  have a3 : IntKind.i64.wrap t = t := by rw [IntKind.wrap_i64]; omega
  have a4 : IntKind.i64.wrap (c + s) = c + s := by rw [IntKind.wrap_i64]; omega
  have a5 : IntKind.i64.wrap (c + s + t) = c + s + t := by rw [IntKind.wrap_i64]; omega
  obtain ⟨lg, c9, hf, c0, c1, c2, c3⟩ := H
  clear hv hf c0 c3
  go_enter Try.func49, Try.ntmps49
  go_wp2_with fail
  (refine Rg.region_tail 18 (fun w' => Below (w).heap.size w w') (fun _ _ _ => False) (by kernel_rfl) (by kernel_rfl) (by exact (Below.refl (w).heap.size w).drew) ?_; simp only [List.take_succ_cons, List.take_zero, List.drop_succ_cons, List.drop_zero])
  (repeat (first | ((with_reducible refine Rg.walk_plain rfl (fun Kz hKz wz hwz => ?_)); (have hclz : ∀ bb oo, bb < (w).heap.size → wz.cell? ⟨bb, oo, none⟩ = (w).cell? ⟨bb, oo, none⟩ := fun bb oo h => hwz.cell (p := ⟨bb, oo, none⟩) h); go_simp; refine hKz _ ?_; clear hKz hwz hclz Kz wz) | ((with_reducible refine Rg.walk_on ?_ (fun Kz hKz wz hwz => ?_)); (next => (go_simp; done)); (have hclz : ∀ bb oo, bb < (w).heap.size → wz.cell? ⟨bb, oo, none⟩ = (w).cell? ⟨bb, oo, none⟩ := fun bb oo h => hwz.cell (p := ⟨bb, oo, none⟩) h); go_simp; refine hKz _ ?_; clear hKz hwz hclz Kz wz) | ((with_reducible refine Rg.walk_step (fun Kz hKz => ?_)); go_simp; refine hKz _ ?_; clear hKz Kz)))
  refine Rg.walk_nil ?_
  intro w2 hw2
  clear c1 c2 c9
  go_wp2_with fail
  go_ret
  exact ⟨rfl, hw2⟩

set_option maxHeartbeats 1000000 in
theorem implAll_calls (c : Int) (rs : List Nat) (b s t : Int) (m : Nat) (h : StOk c rs b s t m) (hv : vStore c rs b s t m = true) (w : World) :
    Calls Try.prog 50 #[.agg (stL c rs b s t m).toArray] w (Ret (.int .i64 (c + s + t)) w) := by
  obtain ⟨h1, h2, -, h3, h4, h5, h6⟩ := vStore_bounds hv
  have HR := Lib.hid h.len
  clear h hv
  go_enter Try.func50, Try.ntmps50
  go_upto_region 1 with (fail)
  generalize hw1 : w.alloc _ = w1
  have k1 : Mem.Blk w1 w.heap.size (stL c rs b s t m) 40 := hw1 ▸ Mem.Blk.new w _ _
  have hb : Below w.heap.size w w1 := hw1 ▸ below_a1 w _
  clear hw1
  obtain ⟨lg, c9, hf, c0, c1, c2, c3⟩ := HoldsSt.of_blk k1 HR.out
  clear hf c0 c3 k1
  go_wp2_with fail
  go_ret
  exact ⟨rfl, hb⟩


set_option maxHeartbeats 1000000 in
theorem specAllFruits_calls (c : Int) (rs : List Nat) (b s t : Int) (m : Nat) (h : StOk c rs b s t m) (w : World) :
    Calls Try.prog 21 #[.agg (stL c rs b s t m).toArray] w (Ret (.tuple #[.int .i64 (sel (vStore c rs b s t m) (c + s + t) 0), .int .i64 (sel (vStore c rs b s t m) 0 1)]) w) := by
  have HO := Lib.hid h
  have HR := Lib.hid h.len
  clear h
  go_enter Try.func21, Try.ntmps21
  go_upto_region 1 with (fail)
  generalize hw1 : w.alloc _ = w1
  have h1 : Mem.Blk w1 w.heap.size (stL c rs b s t m) 40 := hw1 ▸ Mem.Blk.new w _ _
  have hb : Below w.heap.size w w1 := hw1 ▸ below_a1 w _
  clear hw1
  have HS := Lib.hid (HoldsSt.of_blk h1 HO.out.len)
  clear h1
  go_wp2_with fail
  refine (l07Ok_calls w.heap.size 0 c rs b s t m HO.out w1 HS.out).mono ?_
  rintro e w2 ⟨rfl, hb2⟩
  have hB := below_call hb hb2
  cases hv : vStore c rs b s t m
  · have HV := Lib.hid hv
    clear hv
    go_wp2_with fail
    go_ret2
    exact ⟨by rw [HV.out]; rfl, hB⟩
  · have HV := Lib.hid hv
    clear hv
    go_wp2_with fail
    refine (l07All_calls w.heap.size 0 c rs b s t m HO.out HV.out w2 (HS.out.below hb2)).mono ?_
    rintro e w3 ⟨rfl, hb3⟩
    go_wp2_with fail
    go_ret2
    exact ⟨by rw [HV.out]; rfl, below_call hB hb3⟩


set_option maxHeartbeats 1000000 in
theorem implAllFruits_calls (c : Int) (rs : List Nat) (b s t : Int) (m : Nat) (h : StOk c rs b s t m) (w : World) :
    Calls Try.prog 22 #[.agg (stL c rs b s t m).toArray] w (Ret (.tuple #[.int .i64 (sel (vStore c rs b s t m) (c + s + t) 0), .int .i64 (sel (vStore c rs b s t m) 0 1)]) w) := by
  have HO := Lib.hid h
  have HR := Lib.hid h.len
  clear h
  go_enter Try.func22, Try.ntmps22
  go_upto_region 1 with (fail)
  generalize hw1 : w.alloc _ = w1
  have h1 : Mem.Blk w1 w.heap.size (stL c rs b s t m) 40 := hw1 ▸ Mem.Blk.new w _ _
  have hb : Below w.heap.size w w1 := hw1 ▸ below_a1 w _
  clear hw1
  have s1 := h1.lt
  have K1 := Lib.hid (show ∀ W, Below w1.heap.size w1 W → ∀ j v, (stL c rs b s t m)[j]? = some v → W.cell? ⟨w.heap.size, 0 + j, none⟩ = some v from fun W hW j v h => ((h1.below hW s1).cell (0 + j)).trans (by rw [Nat.zero_add]; exact h))
  clear h1
  go_wp2_with (with_reducible refine Mem.wpList_loadA rfl 40 _ rfl w.heap.size 0 rfl (stL c rs b s t m) _ Try.underlying40 rfl (by rw [stL_length, HR.out]; kernel_rfl) (K1.out _ (Below.refl _ _)) ?_)
  refine (implValidStore_calls c rs b s t m HO.out _).mono ?_
  rintro e w2 ⟨rfl, hb2⟩
  have hB := below_call hb hb2
  cases hv : vStore c rs b s t m
  · have HV := Lib.hid hv
    clear hv
    go_wp2_with fail
    go_ret2
    exact ⟨by rw [HV.out]; rfl, hB⟩
  · have HV := Lib.hid hv
    clear hv
    go_wp2_with (with_reducible refine Mem.wpList_loadA rfl 40 _ rfl w.heap.size 0 rfl (stL c rs b s t m) _ Try.underlying40 rfl (by rw [stL_length, HR.out]; kernel_rfl) (K1.out _ hb2) ?_)
    refine (implAll_calls c rs b s t m HO.out HV.out w2).mono ?_
    rintro e w3 ⟨rfl, hb3⟩
    go_wp2_with fail
    go_ret2
    exact ⟨by rw [HV.out]; rfl, below_call hB hb3⟩


set_option maxHeartbeats 1000000 in
theorem fnExactAllFruits_walk (c : Int) (rs : List Nat) (b s t : Int) (m : Nat) (w : World) (h : StOk c rs b s t m) :
    Calls Try.prog 6 #[.agg (stL c rs b s t m).toArray] w (RetBool true w) := by
  have HO := Lib.hid h
  have HR := Lib.hid h.len
  clear h
  go_enter Try.func6, Try.ntmps6
  go_upto_region 1 with (fail)
  generalize hw1 : w.alloc _ = w1
  have h1 : Mem.Blk w1 w.heap.size (stL c rs b s t m) 36 := hw1 ▸ Mem.Blk.new w _ _
  have hb : Below w.heap.size w w1 := hw1 ▸ below_a1 w _
  clear hw1
  have s1 := h1.lt
  have K1 := Lib.hid (show ∀ W, Below w1.heap.size w1 W → ∀ j v, (stL c rs b s t m)[j]? = some v → W.cell? ⟨w.heap.size, 0 + j, none⟩ = some v from fun W hW j v h => ((h1.below hW s1).cell (0 + j)).trans (by rw [Nat.zero_add]; exact h))
  clear h1
  go_wp2_with (with_reducible refine Mem.wpList_loadA rfl 36 _ rfl w.heap.size 0 rfl (stL c rs b s t m) _ Try.underlying36 rfl (by rw [stL_length, HR.out]; kernel_rfl) (K1.out _ (Below.refl _ _)) ?_)
  refine (toStore_calls c rs b s t m HR.out _).mono ?_
  rintro e w2 ⟨rfl, hx2⟩
  have B2 := hx2
  go_wp2_with fail
  refine (specAllFruits_calls c rs b s t m HO.out _).mono ?_
  rintro e w3 ⟨rfl, hx3⟩
  have B3 := below_call B2 hx3
  go_wp2_with (with_reducible refine Mem.wpList_loadA rfl 36 _ rfl w.heap.size 0 rfl (stL c rs b s t m) _ Try.underlying36 rfl (by rw [stL_length, HR.out]; kernel_rfl) (K1.out _ B3) ?_)
  refine (toStore_calls c rs b s t m HR.out _).mono ?_
  rintro e w4 ⟨rfl, hx4⟩
  have B4 := below_call B3 hx4
  go_wp2_with fail
  refine (implAllFruits_calls c rs b s t m HO.out _).mono ?_
  rintro e w5 ⟨rfl, hx5⟩
  have B5 := below_call B4 hx5
  go_wp2_with fail
  all_goals go_ret
  all_goals exact ⟨rfl, below_call hb B5⟩

end Go.Proofs.Ytclbgkajhpknlaa
