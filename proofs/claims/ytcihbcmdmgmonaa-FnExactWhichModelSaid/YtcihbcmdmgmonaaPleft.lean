/-
  Sums from the first dot on: what both programs answer.
-/
import Derived.Test.YtcihbcmdmgmonaaPsums
namespace Go.Proofs.Ytcihbcmdmgmonaa
open Go.RowKit

def sumL (es : List Nat) : Nat := es.foldl Fl.add 0
theorem sumL_push (es : List Nat) (x : Nat) : sumL (es ++ [x]) = Fl.add (sumL es) x := by simp [sumL]
theorem sumL_take (es : List Nat) (k : Nat) (hk : k < es.length) : sumL (es.take (k + 1)) = Fl.add (sumL (es.take k)) (es.getD k 0) := by
  have e : es.getD k 0 = es[k] := by simp [hk]
  rw [e, List.take_succ_eq_append_getElem hk, sumL_push]
theorem radd_of' {W : World} {u v x y : Nat} (hu : Fl.canon u = Fl.canon x) (hv : Fl.canon v = Fl.canon y) : Fl.canon (Fl.rAdd W u v) = Fl.canon (Fl.add x y) := by
  rw [Fl.canon_rAdd, Fl.canon_addv]; exact (Fl.add_of hu hv).trans (Fl.add_canon _ _)

set_option maxHeartbeats 1000000 in
theorem sumFrom_sums : SumsF Try.prog 108 sumL := by
  refine ⟨fun args W => by kernel_rfl, fun ad cap xs es w hsl hfs hl _ => ?_⟩
  by_cases h0 : es.length = 0
  · obtain rfl : es = [] := List.eq_nil_of_length_eq_zero h0
    clear hsl hfs h0
    go_enter Try.func108, Try.ntmps108
    go_wp2
    refine wp_loop_once ?_
    go_wp2
    go_ret
    exact ⟨0, rfl, rfl, Below.refl _ _⟩
  · rcases hsl with h | ⟨b, o, rfl, hb, hF⟩
    · exact absurd (by rw [← hfs.1, h]; rfl) h0
    have HF := Lib.hid hF
    have HX := Lib.hid hfs
    clear hF hfs
    go_enter Try.func108, Try.ntmps108
    go_upto_region 3 with (fail)
    go_loopw [8, 3] (fun i v wr => ∃ (k q : Nat), k ≤ es.length ∧ i = .int .i64 k ∧ v = .float .f32 q ∧ Fl.canon q = Fl.canon (sumL (es.take k)) ∧ Below w.heap.size w wr) (fun i _ _ => es.length - (intOf i).toNat)
    case atStart => exact ⟨0, 0, Nat.zero_le _, rfl, rfl, rfl, Below.refl _ _⟩
    case round =>
      obtain ⟨k, q, hk, rfl, rfl, hq, hB⟩ := hrel
      have HQ := Lib.hid hq
      clear hq
      by_cases hlt : k < es.length
      · have hsz := hB.size
        have c0 := HF.out.below hB hb k (by rw [HX.out.1]; exact hlt)
        have hcx := HX.out.2 k hlt
        obtain ⟨x, hx⟩ : ∃ x, x = xs.getD k 0 := ⟨_, rfl⟩
        rw [← hx] at c0 hcx
        have HCX := Lib.hid hcx
        clear hx hcx
        have lg : b < wr.heap.size := by omega
        have HS : Hid (∀ W, Fl.canon (Fl.rAdd W q x) = Fl.canon (sumL (es.take (k + 1)))) := by
          refine Lib.hid fun W => ?_
          rw [sumL_take es k hlt]
          exact radd_of' HQ.out HCX.out
        go_wp2_with fail
        go_roundw
        case rel => exact ⟨k + 1, _, by omega, by go_num, rfl, HS.out _, below_n hB _⟩
        case measure => simp [intOf]; omega
      · obtain rfl : k = es.length := by omega
        have hq := HQ.out
        rw [List.take_of_length_le (Nat.le_refl _)] at hq
        have HQ2 := Lib.hid hq
        clear hq
        go_wp2_with fail
        go_ret
        exact ⟨q, rfl, HQ2.out, hB⟩

/-- Four numbers, as cells. -/
def s4 (a b c d : Nat) : List Value := [.float .f32 a, .float .f32 b, .float .f32 c, .float .f32 d]

set_option maxHeartbeats 1000000 in
theorem l06One_calls (p0 p1 : Nat) (w : World) :
    Calls Try.prog 112 #[.agg #[.float .f32 p0, .float .f32 p1]] w (RetS4 p0 p1 (Fl.mul p0 p0) (Fl.mul p0 p1) w) := by
  go_enter Try.func112, Try.ntmps112
  go_upto_region 1 with (fail)
  generalize hw1 : (w.alloc _).alloc _ = w1
  have hB1 : Below w.heap.size w w1 := hw1 ▸ below_a2 w _ _
  have c0 : w1.cell? ⟨w.heap.size, 0, none⟩ = some (.float .f32 p0) := by rw [← hw1]; simp [go_sem]
  have c1 : w1.cell? ⟨w.heap.size, 1, none⟩ = some (.float .f32 p1) := by rw [← hw1]; simp [go_sem]
  have hr : Mem.Blk w1 (w.heap.size + 1) (s4 0 0 0 0) 105 := hw1 ▸ Mem.Blk.new1 w _ _ _
  have HR := Lib.hid hr
  clear hw1 hr
  go_wp2_with (with_reducible refine Mem.wpList_storeA rfl 105 _ _ rfl (w.heap.size + 1) 0 rfl (s4 p0 p1 _ _) _ rfl _ ((HR.out).drewN _) (by kernel_rfl) (by simp [s4]) (by simp [Value.oneCell', s4]) ?_; intro w6 hw6)
  exact bodyPost_ret (v := .agg (s4 p0 p1 _ _).toArray) (Mem.results_cellA Try.results112 _ (w.heap.size + 1) (s4 p0 p1 _ _) 105 _ rfl (by simpa [s4] using hw6.blk) Try.underlying105 rfl (by kernel_rfl)) rfl
    ⟨_, _, _, _, rfl, rfl, rfl, by rw [Fl.canon_rMul, Fl.canon_mulv], by rw [Fl.canon_rMul, Fl.canon_mulv], (below_n hB1 _).trans (hw6.below (by omega))⟩

set_option maxHeartbeats 1000000 in
theorem l06Both_calls (a b c d a' b' c' d' : Nat) (w : World) :
    Calls Try.prog 111 #[.agg (s4 a b c d).toArray, .agg (s4 a' b' c' d').toArray] w (RetS4 (Fl.add a a') (Fl.add b b') (Fl.add c c') (Fl.add d d') w) := by
  go_enter Try.func111, Try.ntmps111
  go_upto_region 1 with (fail)
  generalize hw1 : ((w.alloc _).alloc _).alloc _ = w1
  have hB1 : Below w.heap.size w w1 := hw1 ▸ below_a3 w _ _ _
  have h0 : Mem.Blk w1 w.heap.size (s4 a b c d) 105 := hw1 ▸ ((Mem.Blk.new w _ _).alloc _).alloc _
  have h1 : Mem.Blk w1 (w.heap.size + 1) (s4 a' b' c' d') 105 := hw1 ▸ (Mem.Blk.new1 w _ _ _).alloc _
  have hr : Mem.Blk w1 (w.heap.size + 1 + 1) (s4 0 0 0 0) 105 := hw1 ▸ Mem.Blk.new2 w _ _ _ _
  have c0 : w1.cell? ⟨w.heap.size, 0, none⟩ = some (.float .f32 a) := h0.cell 0
  have c1 : w1.cell? ⟨w.heap.size, 1, none⟩ = some (.float .f32 b) := h0.cell 1
  have c2 : w1.cell? ⟨w.heap.size, 2, none⟩ = some (.float .f32 c) := h0.cell 2
  have c3 : w1.cell? ⟨w.heap.size, 3, none⟩ = some (.float .f32 d) := h0.cell 3
  have d0 : w1.cell? ⟨w.heap.size + 1, 0, none⟩ = some (.float .f32 a') := h1.cell 0
  have d1 : w1.cell? ⟨w.heap.size + 1, 1, none⟩ = some (.float .f32 b') := h1.cell 1
  have d2 : w1.cell? ⟨w.heap.size + 1, 2, none⟩ = some (.float .f32 c') := h1.cell 2
  have d3 : w1.cell? ⟨w.heap.size + 1, 3, none⟩ = some (.float .f32 d') := h1.cell 3
  have HR := Lib.hid hr
  clear hw1 hr h0 h1
  go_wp2_with (with_reducible refine Mem.wpList_storeA rfl 105 _ _ rfl (w.heap.size + 1 + 1) 0 rfl (s4 _ _ _ _) _ rfl _ ((HR.out).drewN _) (by kernel_rfl) (by simp [s4]) (by simp [Value.oneCell', s4]) ?_; intro w6 hw6)
  exact bodyPost_ret (v := .agg (s4 _ _ _ _).toArray) (Mem.results_cellA Try.results111 _ (w.heap.size + 1 + 1) (s4 _ _ _ _) 105 _ rfl (by simpa [s4] using hw6.blk) Try.underlying105 rfl (by kernel_rfl)) rfl
    ⟨_, _, _, _, rfl, by rw [Fl.canon_rAdd, Fl.canon_addv], by rw [Fl.canon_rAdd, Fl.canon_addv], by rw [Fl.canon_rAdd, Fl.canon_addv], by rw [Fl.canon_rAdd, Fl.canon_addv], (below_n hB1 _).trans (hw6.below (by omega))⟩

set_option maxHeartbeats 2000000 in
theorem l06Left_calls (b o cap : Nat) (ds : List (Nat × Nat)) (w : World) (hd : HoldsD w b o ds) (hb : b < w.heap.size) (hl : ds.length ≤ 1048576) :
    Calls Try.prog 90 #[.slice (some ⟨b, o, none⟩) ds.length cap] w (RetS4 (sumL (xsL ds)) (sumL (ysL ds)) (sumL (xxL ds)) (sumL (xyL ds)) w) := by
  have HD := Lib.hid hd
  clear hd
  go_enter Try.func90, Try.ntmps90
  go_upto_region 3 with (fail)
  generalize hw1 : (w.alloc _).alloc _ = w1
  have hB1 : Below w.heap.size w w1 := hw1 ▸ below_a2 w _ _
  have h0 : Mem.Blk w1 w.heap.size (s4 0 0 0 0) 105 := hw1 ▸ (Mem.Blk.new w _ _).alloc _
  have h1 : Mem.Blk w1 (w.heap.size + 1) (s4 0 0 0 0) 105 := hw1 ▸ Mem.Blk.new1 w _ _ _
  have hz1 : w1.heap.size = w.heap.size + 2 := by rw [← hw1]; simp
  have HR := Lib.hid h0
  clear hw1 h0
  go_loopw [4] (fun i wr => ∃ k a c d e : Nat, k ≤ ds.length ∧ i = .int .i64 k ∧ Mem.Blk wr (w.heap.size + 1) (s4 a c d e) 105 ∧ Fl.canon a = Fl.canon (sumL (xsL (ds.take k))) ∧ Fl.canon c = Fl.canon (sumL (ysL (ds.take k))) ∧ Fl.canon d = Fl.canon (sumL (xxL (ds.take k))) ∧ Fl.canon e = Fl.canon (sumL (xyL (ds.take k))) ∧ Below (w.heap.size + 1) w1 wr) (fun i _ => ds.length - (intOf i).toNat)
  case atStart => exact ⟨0, 0, 0, 0, 0, Nat.zero_le _, rfl, h1, rfl, rfl, rfl, rfl, Below.refl _ _⟩
  case round =>
    clear h1
    obtain ⟨k, a, c, d, e, hk, rfl, hblk, ha, hc, hd, he, hB⟩ := hrel
    have HA := Lib.hid (And.intro ha (And.intro hc (And.intro hd he)))
    have HB := Lib.hid hblk
    have hlt1 := hblk.lt
    have hsz := hB.size
    clear ha hc hd he hblk
    by_cases hlt : k < ds.length
    · obtain ⟨c0, c1⟩ := (HD.out.below hB1 hb).below hB (show b < w.heap.size + 1 by omega) k hlt
      have e5 := Lib.hid (mapL_push (·.1) ds k hlt)
      have e6 := Lib.hid (mapL_push (·.2) ds k hlt)
      have e7 := Lib.hid (mapL_push (fun d => Fl.mul d.1 d.1) ds k hlt)
      have e8 := Lib.hid (mapL_push (fun d => Fl.mul d.1 d.2) ds k hlt)
      obtain ⟨p, hp⟩ : ∃ p, p = ds.getD k (0, 0) := ⟨_, rfl⟩
      rw [← hp] at c0 c1 e5 e6 e7 e8
      obtain ⟨p0, p1⟩ := p
      clear hp
      simp only at c0 c1 e5 e6 e7 e8
      have lb : b < wr.heap.size := by omega
      have K1 := Lib.hid (show ∀ W, Below wr.heap.size wr W → ∀ j v, (s4 a c d e)[j]? = some v → W.cell? ⟨w.heap.size + 1, 0 + j, none⟩ = some v from fun W hW j v h => ((HB.out.below hW HB.out.lt).cell (0 + j)).trans (by rw [Nat.zero_add]; exact h))
      go_wp2_with fail
      (refine Rg.region_tail 7 (fun w' => Below (wr).heap.size wr w') (fun f args v => ∃ x y z t, v = .agg (s4 x y z t).toArray ∧ ((f = 112 ∧ Fl.canon x = Fl.canon p0 ∧ Fl.canon y = Fl.canon p1 ∧ Fl.canon z = Fl.canon (Fl.mul p0 p0) ∧ Fl.canon t = Fl.canon (Fl.mul p0 p1)) ∨ (f = 111 ∧ ∃ x' y' z' t', args.getD 1 undef = .agg (s4 x' y' z' t').toArray ∧ Fl.canon x = Fl.canon (Fl.add a x') ∧ Fl.canon y = Fl.canon (Fl.add c y') ∧ Fl.canon z = Fl.canon (Fl.add d z') ∧ Fl.canon t = Fl.canon (Fl.add e t')))) (by kernel_rfl) (by kernel_rfl) (by exact (Below.refl (wr).heap.size wr).drew) ?_; simp only [List.take_succ_cons, List.take_zero, List.drop_succ_cons, List.drop_zero])
      (with_reducible refine Rg.walk_loadA rfl 105 _ rfl (w.heap.size + 1) 0 rfl (s4 a c d e) _ Try.underlying105 rfl (by kernel_rfl) (fun W hW => K1.out W hW) ?_)
      (repeat (first | ((with_reducible refine Rg.walk_plain rfl (fun Kz hKz wz hwz => ?_)); (have hclz : ∀ bb oo, bb < (wr).heap.size → wz.cell? ⟨bb, oo, none⟩ = (wr).cell? ⟨bb, oo, none⟩ := fun bb oo h => hwz.cell (p := ⟨bb, oo, none⟩) h); go_simp; refine hKz _ ?_; clear hKz hwz hclz Kz wz) | ((with_reducible refine Rg.walk_on ?_ (fun Kz hKz wz hwz => ?_)); (next => (go_simp; done)); (have hclz : ∀ bb oo, bb < (wr).heap.size → wz.cell? ⟨bb, oo, none⟩ = (wr).cell? ⟨bb, oo, none⟩ := fun bb oo h => hwz.cell (p := ⟨bb, oo, none⟩) h); go_simp; refine hKz _ ?_; clear hKz hwz hclz Kz wz) | ((with_reducible refine Rg.walk_step (fun Kz hKz => ?_)); go_simp; refine hKz _ ?_; clear hKz Kz)))
      refine Rg.walk_calls rfl 112 #[.agg #[.float .f32 p0, .float .f32 p1]] (fun W hW => ⟨by go_simp, (l06One_calls p0 p1 W).mono fun e w2 ⟨x, y, z, t, he, h1, h2, h3, h4, hb2⟩ => ⟨_, he, ⟨x, y, z, t, rfl, .inl ⟨rfl, h1, h2, h3, h4⟩⟩, below_call hW hb2⟩⟩) (fun u hu => ?_)
      obtain ⟨x, y, z, t, rfl, hu⟩ := hu
      have HU : Hid (Fl.canon x = Fl.canon p0 ∧ Fl.canon y = Fl.canon p1 ∧ Fl.canon z = Fl.canon (Fl.mul p0 p0) ∧ Fl.canon t = Fl.canon (Fl.mul p0 p1)) := Lib.hid (by rcases hu with ⟨_, h⟩ | ⟨h, _⟩; exact h; exact absurd h (by decide))
      clear hu
      refine Rg.walk_calls rfl 111 #[.agg (s4 a c d e).toArray, .agg (s4 x y z t).toArray] (fun W hW => ⟨by go_simp, (l06Both_calls a c d e x y z t W).mono fun e w2 ⟨x1, y1, z1, t1, he, h1, h2, h3, h4, hb2⟩ => ⟨_, he, ⟨x1, y1, z1, t1, rfl, .inr ⟨rfl, x, y, z, t, rfl, h1, h2, h3, h4⟩⟩, below_call hW hb2⟩⟩) (fun u hu => ?_)
      obtain ⟨x1, y1, z1, t1, rfl, hu⟩ := hu
      have HU1 : Hid (Fl.canon x1 = Fl.canon (Fl.add a x) ∧ Fl.canon y1 = Fl.canon (Fl.add c y) ∧ Fl.canon z1 = Fl.canon (Fl.add d z) ∧ Fl.canon t1 = Fl.canon (Fl.add e t)) := Lib.hid (by
        rcases hu with ⟨h, _⟩ | ⟨_, x', y', z', t', h, h1⟩
        · exact absurd h (by decide)
        · have h' : (Value.agg (s4 x y z t).toArray) = Value.agg (s4 x' y' z' t').toArray := h
          simp [s4] at h'
          obtain ⟨rfl, rfl, rfl, rfl⟩ := h'
          exact h1)
      clear hu
      refine Rg.walk_nil ?_
      intro w2 hw2
      have HB2 := Lib.hid (HB.out.below hw2 HB.out.lt)
      have hB2 := hB.trans (hw2.mono (by omega))
      have key : ∀ {u v s p q : Nat}, Fl.canon u = Fl.canon (Fl.add v q) → Fl.canon v = Fl.canon s → Fl.canon q = Fl.canon p → Fl.canon u = Fl.canon (Fl.add s p) := fun h1 h2 h3 => by
        rw [h1, Fl.canon_addv, Fl.canon_addv]; exact (Fl.add_of h2 h3).trans (Fl.add_canon _ _)
      have F : Hid (Fl.canon x1 = Fl.canon (sumL (xsL (ds.take (k + 1)))) ∧ Fl.canon y1 = Fl.canon (sumL (ysL (ds.take (k + 1)))) ∧ Fl.canon z1 = Fl.canon (sumL (xxL (ds.take (k + 1)))) ∧ Fl.canon t1 = Fl.canon (sumL (xyL (ds.take (k + 1))))) := by
        refine Lib.hid ⟨?_, ?_, ?_, ?_⟩
        · unfold xsL; rw [e5.out, sumL_push]; exact key HU1.out.1 HA.out.1 HU.out.1
        · unfold ysL; rw [e6.out, sumL_push]; exact key HU1.out.2.1 HA.out.2.1 HU.out.2.1
        · unfold xxL; rw [e7.out, sumL_push]; exact key HU1.out.2.2.1 HA.out.2.2.1 HU.out.2.2.1
        · unfold xyL; rw [e8.out, sumL_push]; exact key HU1.out.2.2.2 HA.out.2.2.2 HU.out.2.2.2
      clear c0 c1 key HU HU1 HA e5 e6 e7 e8 K1 hw2
      go_wp2_with (with_reducible refine Mem.wpList_storeA rfl 105 _ _ rfl (w.heap.size + 1) 0 rfl (s4 x1 y1 z1 t1) _ rfl _ HB2.out (by kernel_rfl) (by simp [s4]) (by simp [Value.oneCell', s4]) ?_; intro w3 hw3)
      have hw3' : Mem.Wrote w2 w3 (w.heap.size + 1) (s4 x1 y1 z1 t1) 105 := by simpa [s4] using hw3
      have HW := Lib.hid hw3'
      clear hw3 hw3'
      go_roundw
      case rel => exact ⟨k + 1, x1, y1, z1, t1, by omega, by go_num, HW.out.blk, F.out.1, F.out.2.1, F.out.2.2.1, F.out.2.2.2, hB2.trans (HW.out.below (Nat.le_refl _))⟩
      case measure => simp [intOf]; omega
    · obtain rfl : k = ds.length := by omega
      have hA := HA.out
      rw [List.take_of_length_le (Nat.le_refl _)] at hA
      have HAA := Lib.hid hA
      have HRR := Lib.hid (HR.out.below hB (by omega))
      have hcell : ∀ j v, (s4 a c d e)[j]? = some v → wr.cell? ⟨w.heap.size + 1, 0 + j, none⟩ = some v := fun j v h => (HB.out.cell (0 + j)).trans (by rw [Nat.zero_add]; exact h)
      have HCE := Lib.hid hcell
      clear hA hcell
      go_wp2_with (first | (with_reducible refine Mem.wpList_loadA rfl 105 _ rfl (w.heap.size + 1) 0 rfl (s4 a c d e) _ Try.underlying105 rfl (by kernel_rfl) HCE.out ?_) | (with_reducible refine Mem.wpList_storeA rfl 105 _ _ rfl w.heap.size 0 rfl (s4 a c d e) _ rfl _ HRR.out (by kernel_rfl) (by simp [s4]) (by simp [Value.oneCell', s4]) ?_; intro w6 hw6))
      exact bodyPost_ret (v := .agg (s4 a c d e).toArray) (Mem.results_cellA Try.results90 _ w.heap.size (s4 a c d e) 105 _ rfl (by simpa [s4] using hw6.blk) Try.underlying105 rfl (by kernel_rfl)) rfl
        ⟨a, c, d, e, rfl, HAA.out.1, HAA.out.2.1, HAA.out.2.2.1, HAA.out.2.2.2, (hB1.trans (hB.mono (by omega))).trans (hw6.below (Nat.le_refl _))⟩
end Go.Proofs.Ytcihbcmdmgmonaa
