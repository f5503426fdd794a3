/-
  The laws' comparison of two crates and two stores.
-/
import Derived.Test.YtclbgkajhpknlaaPsame
import Derived.Test.YtclbgkajhpknlaaPsameCr
import Derived.Test.YtclbgkajhpknlaaF64
namespace Go.Proofs.Ytclbgkajhpknlaa
open Go.RowKit

/-- Lists of numbers that are the same but for what a NaN bears. -/
def SameFs (rs qs : List Nat) : Prop := rs.length = qs.length ∧ ∀ i, i < rs.length → Fl.canon (rs.getD i 0) = Fl.canon (qs.getD i 0)
theorem sameFs_refl (rs : List Nat) : SameFs rs rs := ⟨rfl, fun _ _ => rfl⟩

set_option maxHeartbeats 1000000 in
theorem eqArr16_calls (rs qs : List Nat) (hr : rs.length = 16) (hs : SameFs rs qs) (w : World) :
    Calls Try.prog 80 #[.agg (fL rs).toArray, .agg (fL qs).toArray] w (RetBool true w) := by
  have HR := Lib.hid hr
  have HS := Lib.hid hs
  have HQ := Lib.hid (hs.1.symm.trans hr)
  clear hr hs
  go_enter Try.func80, Try.ntmps80
  go_upto_region 1 with (fail)
  generalize hw1 : (w.alloc _).alloc _ = w1
  have h1 : Mem.Blk w1 w.heap.size (fL rs) 30 := hw1 ▸ (Mem.Blk.new w _ _).alloc _
  have h2 : Mem.Blk w1 (w.heap.size + 1) (fL qs) 30 := hw1 ▸ (Mem.Blk.new1 w _ _ _)
  have hb : Below w.heap.size w w1 := hw1 ▸ below_a2 w _ _
  clear hw1
  have s1 := h1.lt
  have s2 := h2.lt
  have H1 := Lib.hid h1
  have H2 := Lib.hid h2
  clear h1 h2
  go_upto_region 2 with (fail)
  go_loopw [5] (fun i wr => ∃ k : Nat, k ≤ 16 ∧ i = .int .i64 k ∧ Below w1.heap.size w1 wr) (fun i _ => 16 - (intOf i).toNat)
  case atStart => exact ⟨0, Nat.zero_le _, rfl, Below.refl _ _⟩
  case round =>
    obtain ⟨k, hk, rfl, hB⟩ := hrel
    by_cases hlt : k < 16
    · have hsz := hB.size
      have c0 : wr.cell? ⟨w.heap.size, k, none⟩ = some (.float .f32 (rs.getD k 0)) := ((H1.out.below hB s1).cell k).trans (fL_get rs k (by rw [HR.out]; exact hlt))
      have d0 : wr.cell? ⟨w.heap.size + 1, k, none⟩ = some (.float .f32 (qs.getD k 0)) := ((H2.out.below hB s2).cell k).trans (fL_get qs k (by rw [HQ.out]; exact hlt))
      have hc := HS.out.2 k (by rw [HR.out]; exact hlt)
      generalize rs.getD k 0 = p at c0 hc
      generalize qs.getD k 0 = q at d0 hc
      have HC := Lib.hid hc
      clear hc
      have lb : w.heap.size < wr.heap.size := by omega
      have lb' : w.heap.size + 1 < wr.heap.size := by omega
      go_wp2_with fail
      (refine Rg.region_tail 9 (fun w' => Below (wr).heap.size wr w') (fun _ _ v => v = .bool true) (by kernel_rfl) (by kernel_rfl) (by exact (Below.refl (wr).heap.size wr).drew) ?_; simp only [List.take_succ_cons, List.take_zero, List.drop_succ_cons, List.drop_zero])
      (repeat (first | ((with_reducible refine Rg.walk_plain rfl (fun Kz hKz wz hwz => ?_)); (have hclz : ∀ bb oo, bb < (wr).heap.size → wz.cell? ⟨bb, oo, none⟩ = (wr).cell? ⟨bb, oo, none⟩ := fun bb oo h => hwz.cell (p := ⟨bb, oo, none⟩) h); go_simp; refine hKz _ ?_; clear hKz hwz hclz Kz wz) | ((with_reducible refine Rg.walk_on ?_ (fun Kz hKz wz hwz => ?_)); (next => (go_simp; done)); (have hclz : ∀ bb oo, bb < (wr).heap.size → wz.cell? ⟨bb, oo, none⟩ = (wr).cell? ⟨bb, oo, none⟩ := fun bb oo h => hwz.cell (p := ⟨bb, oo, none⟩) h); go_simp; refine hKz _ ?_; clear hKz hwz hclz Kz wz) | ((with_reducible refine Rg.walk_step (fun Kz hKz => ?_)); go_simp; refine hKz _ ?_; clear hKz Kz)))
      refine Rg.walk_plain rfl (fun K hK w1 hw1 => ?_)
      go_simp
      refine ⟨below_n hw1 _, hK _ ?_⟩
      obtain ⟨x, hx⟩ : ∃ x, x = Fl.rConv w1 p := ⟨_, rfl⟩
      rw [← hx]
      have HX : Hid (∃ W, x = Fl.rConv W p) := Lib.hid ⟨w1, hx⟩
      clear hx hK hw1 K w1
      (repeat (first | ((with_reducible refine Rg.walk_plain rfl (fun Kz hKz wz hwz => ?_)); (have hclz : ∀ bb oo, bb < (wr).heap.size → wz.cell? ⟨bb, oo, none⟩ = (wr).cell? ⟨bb, oo, none⟩ := fun bb oo h => hwz.cell (p := ⟨bb, oo, none⟩) h); go_simp; refine hKz _ ?_; clear hKz hwz hclz Kz wz) | ((with_reducible refine Rg.walk_on ?_ (fun Kz hKz wz hwz => ?_)); (next => (go_simp; done)); (have hclz : ∀ bb oo, bb < (wr).heap.size → wz.cell? ⟨bb, oo, none⟩ = (wr).cell? ⟨bb, oo, none⟩ := fun bb oo h => hwz.cell (p := ⟨bb, oo, none⟩) h); go_simp; refine hKz _ ?_; clear hKz hwz hclz Kz wz) | ((with_reducible refine Rg.walk_step (fun Kz hKz => ?_)); go_simp; refine hKz _ ?_; clear hKz Kz)))
      refine Rg.walk_plain rfl (fun K hK w1 hw1 => ?_)
      go_simp
      refine ⟨below_n hw1 _, hK _ ?_⟩
      obtain ⟨y, hy⟩ : ∃ y, y = Fl.rConv w1 q := ⟨_, rfl⟩
      rw [← hy]
      have HY : Hid (∃ W, y = Fl.rConv W q) := Lib.hid ⟨w1, hy⟩
      clear hy hK hw1 K w1
      have HXY : Hid (Fl.Same64 x y) := by
        obtain ⟨W, rfl⟩ := HX.out
        obtain ⟨W', rfl⟩ := HY.out
        exact Lib.hid (Fl.same_conv HC.out W W')
      refine Rg.walk_calls rfl 56 #[.float .f64 x, .float .f64 y] (fun W hW => ⟨by go_simp, (sameFloat_calls _ _ _ HXY.out).mono fun e w2 ⟨he, hb2⟩ => ⟨_, he, rfl, by rw [hb2]; exact hW⟩⟩) (fun u hu => ?_)
      subst hu
      refine Rg.walk_nil ?_
      intro w2 hw2
      have hB2 := below_call hB hw2
      clear c0 d0 hw2
      go_wp2_with fail
      go_roundw
      case rel => exact ⟨k + 1, by omega, by go_num, hB2⟩
      case measure => simp [intOf]; omega
    · go_wp2_with fail
      go_ret
      exact ⟨rfl, below_call hb hB⟩

set_option maxHeartbeats 1000000 in
theorem eqCrate_calls (c : Int) (rs qs : List Nat) (hr : rs.length = 16) (hs : SameFs rs qs) (w : World) :
    Calls Try.prog 55 #[.agg (crL c rs).toArray, .agg (crL c qs).toArray] w (RetBool true w) := by
  have HR := Lib.hid hr
  have HS := Lib.hid hs
  have HQ := Lib.hid (hs.1.symm.trans hr)
  clear hr hs
  go_enter Try.func55, Try.ntmps55
  go_upto_region 1 with (fail)
  generalize hw1 : (w.alloc _).alloc _ = w1
  have h1 : Mem.Blk w1 w.heap.size (crL c rs) 38 := hw1 ▸ (Mem.Blk.new w _ _).alloc _
  have h2 : Mem.Blk w1 (w.heap.size + 1) (crL c qs) 38 := hw1 ▸ (Mem.Blk.new1 w _ _ _)
  have hb : Below w.heap.size w w1 := hw1 ▸ below_a2 w _ _
  clear hw1
  have c0 : w1.cell? ⟨w.heap.size, 0, none⟩ = some (.int .i8 c) := h1.cell 0
  have d0 : w1.cell? ⟨w.heap.size + 1, 0, none⟩ = some (.int .i8 c) := h2.cell 0
  have K1 := Lib.hid (show ∀ j v, (fL rs)[j]? = some v → w1.cell? ⟨w.heap.size, 1 + j, none⟩ = some v from fun j v h => (h1.cell (1 + j)).trans (by rw [Nat.add_comm]; exact h))
  have K2 := Lib.hid (show ∀ j v, (fL qs)[j]? = some v → w1.cell? ⟨w.heap.size + 1, 1 + j, none⟩ = some v from fun j v h => (h2.cell (1 + j)).trans (by rw [Nat.add_comm]; exact h))
  clear h1 h2
  go_wp2_with (first
    | (with_reducible refine Mem.wpList_loadA rfl 30 _ rfl w.heap.size 1 rfl (fL rs) _ Try.underlying30 rfl (by rw [fL_length, HR.out]; kernel_rfl) K1.out ?_)
    | (with_reducible refine Mem.wpList_loadA rfl 30 _ rfl (w.heap.size + 1) 1 rfl (fL qs) _ Try.underlying30 rfl (by rw [fL_length, HQ.out]; kernel_rfl) K2.out ?_))
  refine (eqArr16_calls rs qs HR.out HS.out _).mono ?_
  rintro e w2 ⟨rfl, hb2⟩
  go_wp2_with fail
  go_ret
  exact ⟨rfl, below_call hb hb2⟩

set_option maxHeartbeats 1000000 in
theorem eqStore_calls (c : Int) (rs qs : List Nat) (b s t : Int) (m m' : Nat) (hr : rs.length = 16) (hs : SameFs rs qs) (hm : Fl.canon m = Fl.canon m') (w : World) :
    Calls Try.prog 28 #[.agg (stL c rs b s t m).toArray, .agg (stL c qs b s t m').toArray] w (RetBool true w) := by
  have HR := Lib.hid hr
  have HS := Lib.hid hs
  have HQ := Lib.hid (hs.1.symm.trans hr)
  have HM := Lib.hid hm
  clear hr hs hm
  go_enter Try.func28, Try.ntmps28
  go_upto_region 1 with (fail)
  generalize hw1 : (w.alloc _).alloc _ = w1
  have h1 : Mem.Blk w1 w.heap.size (stL c rs b s t m) 40 := hw1 ▸ (Mem.Blk.new w _ _).alloc _
  have h2 : Mem.Blk w1 (w.heap.size + 1) (stL c qs b s t m') 40 := hw1 ▸ (Mem.Blk.new1 w _ _ _)
  have hb : Below w.heap.size w w1 := hw1 ▸ below_a2 w _ _
  clear hw1
  have s1 := h1.lt
  have s2 := h2.lt
  have K1 := Lib.hid (show ∀ j v, (crL c rs)[j]? = some v → w1.cell? ⟨w.heap.size, 0 + j, none⟩ = some v from fun j v h => (h1.cell (0 + j)).trans (by rw [Nat.zero_add]; exact stL_crate c rs b s t m j v h))
  have K2 := Lib.hid (show ∀ j v, (crL c qs)[j]? = some v → w1.cell? ⟨w.heap.size + 1, 0 + j, none⟩ = some v from fun j v h => (h2.cell (0 + j)).trans (by rw [Nat.zero_add]; exact stL_crate c qs b s t m' j v h))
  have H1 := Lib.hid h1
  have H2 := Lib.hid h2
  clear h1 h2
  go_wp2_with (first
    | (with_reducible refine Mem.wpList_loadA rfl 38 _ rfl w.heap.size 0 rfl (crL c rs) _ Try.underlying38 rfl (by rw [crL_length, HR.out]; kernel_rfl) K1.out ?_)
    | (with_reducible refine Mem.wpList_loadA rfl 38 _ rfl (w.heap.size + 1) 0 rfl (crL c qs) _ Try.underlying38 rfl (by rw [crL_length, HQ.out]; kernel_rfl) K2.out ?_))
  refine (eqCrate_calls c rs qs HR.out HS.out _).mono ?_
  rintro e w2 ⟨rfl, hb2⟩
  have hB := below_call hb hb2
  have g1 := H1.out.below hb2 s1
  have g2 := H2.out.below hb2 s2
  have c0 : w2.cell? ⟨w.heap.size, 17, none⟩ = some (.int .u16 b) := (g1.cell 17).trans (stL_get c rs b s t m HR.out 0)
  have c1 : w2.cell? ⟨w.heap.size, 18, none⟩ = some (.int .i16 s) := (g1.cell 18).trans (stL_get c rs b s t m HR.out 1)
  have c2 : w2.cell? ⟨w.heap.size, 19, none⟩ = some (.int .i16 t) := (g1.cell 19).trans (stL_get c rs b s t m HR.out 2)
  have c3 : w2.cell? ⟨w.heap.size, 20, none⟩ = some (.float .f32 m) := (g1.cell 20).trans (stL_get c rs b s t m HR.out 3)
  have d0 : w2.cell? ⟨w.heap.size + 1, 17, none⟩ = some (.int .u16 b) := (g2.cell 17).trans (stL_get c qs b s t m' HQ.out 0)
  have d1 : w2.cell? ⟨w.heap.size + 1, 18, none⟩ = some (.int .i16 s) := (g2.cell 18).trans (stL_get c qs b s t m' HQ.out 1)
  have d2 : w2.cell? ⟨w.heap.size + 1, 19, none⟩ = some (.int .i16 t) := (g2.cell 19).trans (stL_get c qs b s t m' HQ.out 2)
  have d3 : w2.cell? ⟨w.heap.size + 1, 20, none⟩ = some (.float .f32 m') := (g2.cell 20).trans (stL_get c qs b s t m' HQ.out 3)
  clear H1 H2 g1 g2 K1 K2 hb2 hb
  go_wp2_with fail
  refine (sameFloat_calls _ _ _ (Fl.same_conv HM.out _ _)).mono ?_
  rintro e w3 ⟨rfl, rfl⟩
  go_wp2_with fail
  go_ret
  exact ⟨rfl, by first | exact below_n hB _ | exact below_n (below_n hB _) _⟩
end Go.Proofs.Ytclbgkajhpknlaa
