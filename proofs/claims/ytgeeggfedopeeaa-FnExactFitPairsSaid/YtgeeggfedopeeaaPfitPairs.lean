/-
  FitPairs: what both programs answer, and the law's walk.
-/
import Derived.Test.YtgeeggfedopeeaaPpair2
import Derived.Test.YtgeeggfedopeeaaPfit2
import Derived.Test.YtgeeggfedopeeaaPeqLine
import Derived.Test.YtgeeggfedopeeaaPdotOk
import Derived.Test.YtgeeggfedopeeaaPdotS
namespace Go.Proofs.Ytgeeggfedopeeaa
open Go.RowKit

def lpFitPairsS (ds : List (Nat × Nat)) : Nat := fiS ds.length (pairL (xsL ds)) (pairL (ysL ds)) (pairL (xxL ds)) (pairL (xyL ds))
def lpFitPairsB (ds : List (Nat × Nat)) : Nat := fiB ds.length (pairL (xsL ds)) (pairL (ysL ds)) (pairL (xxL ds)) (pairL (xyL ds))
def lpFitPairsC (ds : List (Nat × Nat)) : Int := fiC ds.length (pairL (xsL ds)) (pairL (ysL ds)) (pairL (xxL ds)) (pairL (xyL ds))

set_option maxHeartbeats 1000000 in
theorem specFitPairs_calls (b o cap : Nat) (ds : List (Nat × Nat)) (w : World) (hd : HoldsD w b o ds) (hb : b < w.heap.size) (hl : ds.length ≤ 1048576) (hc : ds.length ≤ cap) :
    Calls Try.prog 33 #[.slice (some ⟨b, o, none⟩) ds.length cap] w (RetLC (sel (vDots ds) (lpFitPairsS ds) 0) (sel (vDots ds) (lpFitPairsB ds) 0) (sel (vDots ds) (lpFitPairsC ds) 1) w) := by
  have HD := Lib.hid hd
  have hm : ds.length ≤ maxLen := by unfold maxLen; omega
  clear hd
  go_enter Try.func33, Try.ntmps33
  go_upto_region 1 with (fail)
  generalize hw1 : w.alloc _ = w1
  have hB1 : Below w.heap.size w w1 := hw1 ▸ below_a1 w _
  have hr : Mem.Blk w1 w.heap.size (l2 0 0) 26 := hw1 ▸ Mem.Blk.new w _ _
  have hz1 : w1.heap.size = w.heap.size + 1 := by rw [← hw1]; simp
  have HR := Lib.hid hr
  clear hw1 hr
  go_wp2_with fail
  refine (l06Ok_calls b o _ ds _ (HD.out.below hB1 hb) (by omega) hm).mono ?_
  rintro e w2 ⟨rfl, rfl⟩
  have hB := hB1
  have HR2 := HR
  cases h1 : vDots ds
  · have H1 := Lib.hid h1
    clear h1
    go_wp2_with (with_reducible refine Mem.wpList_storeA rfl 26 _ _ rfl w.heap.size 0 rfl (l2 0 0) _ rfl _ HR2.out (by kernel_rfl) (by simp [l2]) (by simp [Value.oneCell', l2]) ?_; intro w6 hw6)
    have hb6 : Mem.Blk w6 w.heap.size (l2 0 0) 26 := by simpa [l2] using hw6.blk
    exact bodyPost_ret (v := .tuple #[.agg (l2 0 0).toArray, .int .i64 1]) (Mem.results_cellA_tmp Try.results33 _ w.heap.size (l2 0 0) 26 _ _ rfl rfl hb6 Try.underlying26 rfl (by kernel_rfl)) rfl
      ⟨0, 0, by rw [H1.out]; rfl, by rw [H1.out]; rfl, by rw [H1.out]; rfl, hB.trans (hw6.below (Nat.le_refl _))⟩
  · have H1 := Lib.hid h1
    clear h1
    go_wp2_with fail
    refine (l06Pairs_calls b o _ ds _ (HD.out.below hB hb) (by omega) hl hc).mono ?_
    rintro e w3 ⟨x, y, z, t, rfl, hx, hy, hz, ht, hb3⟩
    have HS := Lib.hid (fiS_same (n := ds.length) hx hy hz ht)
    have HBs := Lib.hid (fiB_same (n := ds.length) hx hy hz ht)
    have HCs := Lib.hid (fiC_same (n := ds.length) hx hy hz ht)
    have hB3 := below_call hB hb3
    have HR3 := Lib.hid (HR2.out.below hb3 HR2.out.lt)
    clear hx hy hz ht hb3
    go_wp2_with fail
    refine (l06Fit_calls x y z t ds.length _).mono ?_
    rintro e w4 ⟨u, v, rfl, hu, hv, hb4⟩
    have HU := Lib.hid (hu.trans HS.out)
    have HV := Lib.hid (hv.trans HBs.out)
    have hB4 := below_call hB3 hb4
    have HR4 := Lib.hid (HR3.out.below hb4 HR3.out.lt)
    clear hu hv hb4
    go_wp2_with (with_reducible refine Mem.wpList_storeA rfl 26 _ _ rfl w.heap.size 0 rfl (l2 u v) _ rfl _ HR4.out (by kernel_rfl) (by simp [l2]) (by simp [Value.oneCell', l2]) ?_; intro w6 hw6)
    have hb6 : Mem.Blk w6 w.heap.size (l2 u v) 26 := by simpa [l2] using hw6.blk
    exact bodyPost_ret (v := .tuple #[.agg (l2 u v).toArray, _]) (Mem.results_cellA_tmp Try.results33 _ w.heap.size (l2 u v) 26 _ _ rfl rfl hb6 Try.underlying26 rfl (by kernel_rfl)) rfl
      ⟨u, v, by rw [H1.out, HCs.out]; rfl, by rw [H1.out]; exact HU.out, by rw [H1.out]; exact HV.out, hB4.trans (hw6.below (Nat.le_refl _))⟩

set_option maxHeartbeats 1000000 in
theorem implFitPairs_calls (b o cap : Nat) (ds : List (Nat × Nat)) (w : World) (hd : HoldsD w b o ds) (hb : b < w.heap.size) (hl : ds.length ≤ 1048576) :
    Calls Try.prog 34 #[.slice (some ⟨b, o, none⟩) ds.length cap] w (RetLC (sel (vDots ds) (lpFitPairsS ds) 0) (sel (vDots ds) (lpFitPairsB ds) 0) (sel (vDots ds) (lpFitPairsC ds) 1) w) := by
  have HD := Lib.hid hd
  have hm : ds.length ≤ maxLen := by unfold maxLen; omega
  clear hd
  go_enter Try.func34, Try.ntmps34
  go_upto_region 1 with (fail)
  generalize hw1 : w.alloc _ = w1
  have hB1 : Below w.heap.size w w1 := hw1 ▸ below_a1 w _
  have hr : Mem.Blk w1 w.heap.size (l2 0 0) 26 := hw1 ▸ Mem.Blk.new w _ _
  have hz1 : w1.heap.size = w.heap.size + 1 := by rw [← hw1]; simp
  have HR := Lib.hid hr
  clear hw1 hr
  go_wp2_with fail
  refine (implValidDots_calls b o _ ds _ (HD.out.below hB1 hb) (by omega) hm).mono ?_
  rintro e w2 ⟨rfl, hb2⟩
  have hB := below_call hB1 hb2
  have HR2 := Lib.hid (HR.out.below hb2 HR.out.lt)
  cases h1 : vDots ds
  · have H1 := Lib.hid h1
    clear h1
    go_wp2_with (with_reducible refine Mem.wpList_storeA rfl 26 _ _ rfl w.heap.size 0 rfl (l2 0 0) _ rfl _ HR2.out (by kernel_rfl) (by simp [l2]) (by simp [Value.oneCell', l2]) ?_; intro w6 hw6)
    have hb6 : Mem.Blk w6 w.heap.size (l2 0 0) 26 := by simpa [l2] using hw6.blk
    exact bodyPost_ret (v := .tuple #[.agg (l2 0 0).toArray, .int .i64 1]) (Mem.results_cellA_tmp Try.results34 _ w.heap.size (l2 0 0) 26 _ _ rfl rfl hb6 Try.underlying26 rfl (by kernel_rfl)) rfl
      ⟨0, 0, by rw [H1.out]; rfl, by rw [H1.out]; rfl, by rw [H1.out]; rfl, hB.trans (hw6.below (Nat.le_refl _))⟩
  · have H1 := Lib.hid h1
    clear h1
    go_wp2_with fail
    refine (sumsBy_calls _ _ b o _ ds _ (HD.out.below hB hb) (by have := hB.size; omega) hl pairSum_sums).mono ?_
    rintro e w3 ⟨x, y, z, t, rfl, hx, hy, hz, ht, hb3⟩
    have HS := Lib.hid (fiS_same (n := ds.length) hx hy hz ht)
    have HBs := Lib.hid (fiB_same (n := ds.length) hx hy hz ht)
    have HCs := Lib.hid (fiC_same (n := ds.length) hx hy hz ht)
    have hB3 := below_call hB hb3
    have HR3 := Lib.hid (HR2.out.below hb3 HR2.out.lt)
    clear hx hy hz ht hb3
    go_wp2_with fail
    refine (fit_calls x y z t ds.length _ _ _).mono ?_
    rintro e w4 ⟨u, v, rfl, hu, hv, hb4⟩
    have HU := Lib.hid (hu.trans HS.out)
    have HV := Lib.hid (hv.trans HBs.out)
    have hB4 := below_call hB3 hb4
    have HR4 := Lib.hid (HR3.out.below hb4 HR3.out.lt)
    clear hu hv hb4
    go_wp2_with (with_reducible refine Mem.wpList_storeA rfl 26 _ _ rfl w.heap.size 0 rfl (l2 u v) _ rfl _ HR4.out (by kernel_rfl) (by simp [l2]) (by simp [Value.oneCell', l2]) ?_; intro w6 hw6)
    have hb6 : Mem.Blk w6 w.heap.size (l2 u v) 26 := by simpa [l2] using hw6.blk
    exact bodyPost_ret (v := .tuple #[.agg (l2 u v).toArray, _]) (Mem.results_cellA_tmp Try.results34 _ w.heap.size (l2 u v) 26 _ _ rfl rfl hb6 Try.underlying26 rfl (by kernel_rfl)) rfl
      ⟨u, v, by rw [H1.out, HCs.out]; rfl, by rw [H1.out]; exact HU.out, by rw [H1.out]; exact HV.out, hB4.trans (hw6.below (Nat.le_refl _))⟩

set_option maxHeartbeats 1000000 in
theorem fnExactFitPairs_walk (ds : List (Nat × Nat)) (ad : Option Addr) (cap : Nat) (w : World) (hd : SlD w ad ds) (hl : ds.length ≤ maxLen) :
    Calls Try.prog 10 #[.slice ad ds.length cap] w (RetBool true w) := by
  have hl' := hl
  unfold maxLen at hl'
  have HD := Lib.hid hd
  have HL := Lib.hid hl
  clear hd hl
  go_enter Try.func10, Try.ntmps10
  go_wp2_with fail
  refine (szDotS_calls _ _ _ _ _ (by omega) (by omega) (by omega)).mono ?_
  rintro e w2 ⟨rfl, rfl⟩
  have hb1 : Below w2.heap.size w2 w2 := Below.refl _ _
  by_cases h20 : 1048576 - (ds.length : Int) < 0
  · rw [if_pos h20]
    go_wp2_with fail
    go_ret
    exact ⟨rfl, hb1⟩
  · rw [if_neg h20]
    have hn : ds.length ≤ 1048576 := by omega
    go_wp2_with fail
    refine (toDotS_calls ad cap ds _ (HD.out.below hb1) hn).mono ?_
    rintro e w4 ⟨g4, rfl, hg4, hblk4, hb4⟩
    have HB4 := Lib.hid hblk4
    have hB4 := below_call hb1 hb4
    clear hblk4
    go_wp2_with fail
    refine (specFitPairs_calls g4 0 _ ds _ (holds_blk HB4.out) HB4.out.lt hn (Nat.le_refl _)).mono ?_
    rintro e w5 ⟨v0a, v0b, rfl, hv0a, hv0b, hb5⟩
    have HV0a := Lib.hid hv0a
    have HV0b := Lib.hid hv0b
    have hB5 := below_call hB4 hb5
    clear hv0a hv0b
    clear hb4 hb5 hB4 HB4 hg4
    go_wp2_with fail
    generalize hwa : World.alloc w5 _ = wa
    have hba : Below w5.heap.size w5 wa := hwa ▸ below_a1 w5 _
    have hla : Mem.Blk wa w5.heap.size (l2 v0a v0b) 26 := hwa ▸ Mem.Blk.new w5 _ _
    have HLA := Lib.hid hla
    have hB5 := below_call hB5 hba
    clear hwa hla
    refine (toDotS_calls ad cap ds _ (HD.out.below hB5) hn).mono ?_
    rintro e w6 ⟨g6, rfl, hg6, hblk6, hb6⟩
    have HB6 := Lib.hid hblk6
    have hB6 := below_call hB5 hb6
    have HLA := Lib.hid (HLA.out.below hb6 HLA.out.lt)
    have hB7 := hB6
    have HB7 := HB6
    clear hblk6 hg6
    go_wp2_with fail
    refine (implFitPairs_calls g6 0 _ ds _ (holds_blk HB7.out) HB7.out.lt hn).mono ?_
    rintro e w8 ⟨u0a, u0b, rfl, hu0a, hu0b, hb8⟩
    have HU0a := Lib.hid hu0a
    have HU0b := Lib.hid hu0b
    have hB8 := below_call hB7 hb8
    have HB8 := Lib.hid (HB7.out.below hb8 HB7.out.lt)
    clear hu0a hu0b
    have HLA := Lib.hid (HLA.out.below hb8 HLA.out.lt)
    have q0 : w8.cell? ⟨w5.heap.size, 0, none⟩ = some (.float .f32 v0a) := HLA.out.cell 0
    have q1 : w8.cell? ⟨w5.heap.size, 1, none⟩ = some (.float .f32 v0b) := HLA.out.cell 1
    have ql : w5.heap.size < w8.heap.size := HLA.out.lt
    go_wp2_with fail
    refine (eqLine_calls _ _ _ _ _ (HU0a.out.trans HV0a.out.symm) (HU0b.out.trans HV0b.out.symm)).mono ?_
    rintro e w20 ⟨rfl, hb20⟩
    have hB8 := below_call (below_call hB8 (below_a1 w8 _)) hb20
    have HB8 := Lib.hid ((HB8.out.alloc _).below hb20 (HB8.out.alloc _).lt)
    clear q0 q1 ql HLA
    go_wp2_with fail
    refine (toDotS_calls ad cap ds _ (HD.out.below hB8) hn).mono ?_
    rintro e w10 ⟨g10, rfl, hg10, hblk10, hb10⟩
    have HB10 := Lib.hid hblk10
    have hB10 := below_call hB8 hb10
    have HB8' := Lib.hid (HB8.out.below hb10 HB8.out.lt)
    clear hblk10
    go_wp2_with fail
    refine (eqDotS_calls _ _ _ _ ds ds _ (.inr ⟨g6, 0, rfl, HB8'.out.lt, holds_blk HB8'.out⟩) (.inr ⟨g10, 0, rfl, HB10.out.lt, holds_blk HB10.out⟩) (sameP_refl ds) HL.out).mono ?_
    rintro e w11 ⟨rfl, hb11⟩
    go_wp2_with fail
    all_goals go_ret
    all_goals exact ⟨rfl, below_call hB10 hb11⟩

end Go.Proofs.Ytgeeggfedopeeaa
