/-
  The fit of a model: what both programs answer.
-/
import Derived.Test.YtcihbcmdmgmonaaPfit2
import Derived.Test.YtcihbcmdmgmonaaFlb2
namespace Go.Proofs.Ytcihbcmdmgmonaa
open Go.RowKit

def thOk (xx xy : Nat) : Bool := !Fl.eq xx 0 && vLine (Fl.div xy xx) 0
def mdS (ds : List (Nat × Nat)) (m : Int) : Nat := sel (ds.length == 0) 0 (sel (m == 0) 0 (sel (m == 1) (sel (thOk (sumL (xxL ds)) (sumL (xyL ds))) (Fl.div (sumL (xyL ds)) (sumL (xxL ds))) 0) (fiS ds.length (sumL (xsL ds)) (sumL (ysL ds)) (sumL (xxL ds)) (sumL (xyL ds)))))
def mdB (ds : List (Nat × Nat)) (m : Int) : Nat := sel (ds.length == 0) 0 (sel (m == 0) (Fl.div (sumL (ysL ds)) (ofI ds.length)) (sel (m == 1) 0 (fiB ds.length (sumL (xsL ds)) (sumL (ysL ds)) (sumL (xxL ds)) (sumL (xyL ds)))))
def mdC (ds : List (Nat × Nat)) (m : Int) : Int := sel (ds.length == 0) 6 (sel (m == 0) 0 (sel (m == 1) (sel (thOk (sumL (xxL ds)) (sumL (xyL ds))) 0 4) (fiC ds.length (sumL (xsL ds)) (sumL (ysL ds)) (sumL (xxL ds)) (sumL (xyL ds)))))

set_option maxHeartbeats 2000000 in
theorem l06Model_calls (b o cap : Nat) (ds : List (Nat × Nat)) (m : Int) (w : World) (hd : HoldsD w b o ds) (hb : b < w.heap.size) (hl : ds.length ≤ 1048576) :
    Calls Try.prog 86 #[.slice (some ⟨b, o, none⟩) ds.length cap, .int .i64 m] w (RetLC (mdS ds m) (mdB ds m) (mdC ds m) w) := by
  have HD := Lib.hid hd
  clear hd
  have ES : Hid (mdS ds m = sel (ds.length == 0) 0 (sel (m == 0) 0 (sel (m == 1) (sel (thOk (sumL (xxL ds)) (sumL (xyL ds))) (Fl.div (sumL (xyL ds)) (sumL (xxL ds))) 0) (fiS ds.length (sumL (xsL ds)) (sumL (ysL ds)) (sumL (xxL ds)) (sumL (xyL ds)))))) := rfl
  have EB : Hid (mdB ds m = sel (ds.length == 0) 0 (sel (m == 0) (Fl.div (sumL (ysL ds)) (ofI ds.length)) (sel (m == 1) 0 (fiB ds.length (sumL (xsL ds)) (sumL (ysL ds)) (sumL (xxL ds)) (sumL (xyL ds)))))) := rfl
  have EC : Hid (mdC ds m = sel (ds.length == 0) 6 (sel (m == 0) 0 (sel (m == 1) (sel (thOk (sumL (xxL ds)) (sumL (xyL ds))) 0 4) (fiC ds.length (sumL (xsL ds)) (sumL (ysL ds)) (sumL (xxL ds)) (sumL (xyL ds)))))) := rfl
  have EO : Hid (thOk (sumL (xxL ds)) (sumL (xyL ds)) = (!Fl.eq (sumL (xxL ds)) 0 && vLine (Fl.div (sumL (xyL ds)) (sumL (xxL ds))) 0)) := rfl
  have hcv : ∀ (W : World) (n : Int), (convert 3 22 (.int .i64 n)).run Try.prog W = .ok (.float .f32 (ofI n)) W := fun W n => run_toF32 _ _ _ _ Try.underlying22 (by rw [Try.underlying3]; rfl)
  go_enter Try.func86, Try.ntmps86
  go_upto_region 1 with (fail)
  generalize hw1 : w.alloc _ = w1
  have hB1 : Below w.heap.size w w1 := hw1 ▸ below_a1 w _
  have hr : Mem.Blk w1 w.heap.size (l2 0 0) 29 := hw1 ▸ Mem.Blk.new w _ _
  have hz1 : w1.heap.size = w.heap.size + 1 := by rw [← hw1]; simp
  have HR := Lib.hid hr
  clear hw1 hr
  by_cases h0 : ds.length = 0
  · have HN := Lib.hid (show (ds.length == 0) = true by rw [h0]; rfl)
    have hq : ((ds.length : Int) == 0) = true := by rw [beq_iff_eq]; omega
    go_wp2_with (with_reducible refine Mem.wpList_storeA rfl 29 _ _ rfl w.heap.size 0 rfl (l2 0 0) _ rfl _ HR.out (by kernel_rfl) (by simp [l2]) (by simp [Value.oneCell', l2]) ?_; intro w6 hw6)
    have hb6 : Mem.Blk w6 w.heap.size (l2 0 0) 29 := by simpa [l2] using hw6.blk
    exact bodyPost_ret (v := .tuple #[.agg (l2 0 0).toArray, .int .i64 6]) (Mem.results_cellA_tmp Try.results86 _ w.heap.size (l2 0 0) 29 _ _ rfl rfl hb6 Try.underlying29 rfl (by kernel_rfl)) rfl
      ⟨0, 0, by rw [EC.out, HN.out]; rfl, by rw [ES.out, HN.out]; rfl, by rw [EB.out, HN.out]; rfl, hB1.trans (hw6.below (Nat.le_refl _))⟩
  · have HN := Lib.hid (show (ds.length == 0) = false by rw [beq_eq_false_iff_ne]; exact h0)
    have hq : ((ds.length : Int) == 0) = false := by rw [beq_eq_false_iff_ne]; omega
    go_wp2_with fail
    refine (l06Left_calls b o _ ds _ (HD.out.below hB1 hb) (by omega) hl).mono ?_
    rintro e w2 ⟨x, y, z, t, rfl, hx, hy, hz, ht, hb2⟩
    have HX := Lib.hid hx
    have HY := Lib.hid hy
    have HZ := Lib.hid hz
    have HT := Lib.hid ht
    have hB2 := below_call hB1 hb2
    have HR2 := Lib.hid (HR.out.below hb2 HR.out.lt)
    clear hx hy hz ht hb2
    go_upto_region 4 with (fail)
    generalize hw3 : w2.alloc _ = w3
    have hB3 : Below w.heap.size w w3 := hw3 ▸ hB2.alloc (by have := hB2.size; omega) _
    have hs3 : Mem.Blk w3 w2.heap.size (s4 x y z t) 105 := hw3 ▸ Mem.Blk.new w2 (s4 x y z t) 105
    have HR3 : Hid (Mem.Blk w3 w.heap.size (l2 0 0) 29) := Lib.hid (hw3 ▸ HR2.out.alloc _)
    have z3 : w3.heap.size = w2.heap.size + 1 := by rw [← hw3]; simp
    have c0 : w3.cell? ⟨w2.heap.size, 0, none⟩ = some (.float .f32 x) := hs3.cell 0
    have c1 : w3.cell? ⟨w2.heap.size, 1, none⟩ = some (.float .f32 y) := hs3.cell 1
    have c2 : w3.cell? ⟨w2.heap.size, 2, none⟩ = some (.float .f32 z) := hs3.cell 2
    have c3 : w3.cell? ⟨w2.heap.size, 3, none⟩ = some (.float .f32 t) := hs3.cell 3
    have l3 : w2.heap.size < w3.heap.size := by omega
    have g3 : w.heap.size < w2.heap.size := HR2.out.lt
    have HS3 := Lib.hid hs3
    clear hw3 hs3 z3
    by_cases hm0 : m = 0
    · have HM := Lib.hid (show (m == 0) = true by rw [beq_iff_eq]; exact hm0)
      have hmq : (m == 0) = true := by rw [beq_iff_eq]; exact hm0
      go_upto_region 7 with (with_reducible refine Mem.wpList_storeA rfl 29 _ _ rfl w3.heap.size 0 rfl (l2 0 _) _ rfl _ (Mem.Blk.new (World.drewN w3 _) (l2 0 0) _) (by kernel_rfl) (by simp [l2]) (by simp [Value.oneCell', l2]) ?_; intro w4 hw4)
      generalize hv : Fl.rDiv _ y (ofI ds.length) = v at hw4 ⊢
      have HV : Hid (Fl.canon v = Fl.canon (Fl.div (sumL (ysL ds)) (ofI ds.length))) := Lib.hid (by rw [← hv]; exact div2 HY.out rfl)
      clear hv
      have g3' : w2.heap.size + 1 ≤ w3.heap.size := by omega
      have hB4 : Below w.heap.size w w4 := ((below_n hB3 _).alloc (by have := hB3.size; simp; omega) _).trans (hw4.below (by omega))
      have HR4 : Hid (Mem.Blk w4 w.heap.size (l2 0 0) 29) := Lib.hid (hw4.keep (by omega) ((HR3.out.drewN _).alloc _))
      have hb4 : Mem.Blk w4 w3.heap.size (l2 0 v) 29 := by simpa [l2] using hw4.blk
      have e0 : w4.cell? ⟨w3.heap.size, 0, none⟩ = some (.float .f32 0) := hb4.cell 0
      have e1 : w4.cell? ⟨w3.heap.size, 1, none⟩ = some (.float .f32 v) := hb4.cell 1
      have l4 : w3.heap.size < w4.heap.size := hb4.lt
      clear hw4 hb4 c0 c1 c2 c3 g3'
      go_wp2_with (with_reducible refine Mem.wpList_storeA rfl 29 _ _ rfl w.heap.size 0 rfl (l2 0 v) _ rfl _ HR4.out (by kernel_rfl) (by simp [l2]) (by simp [Value.oneCell', l2]) ?_; intro w6 hw6)
      have hb6 : Mem.Blk w6 w.heap.size (l2 0 v) 29 := by simpa [l2] using hw6.blk
      exact bodyPost_ret (v := .tuple #[.agg (l2 0 v).toArray, .int .i64 0]) (Mem.results_cellA_tmp Try.results86 _ w.heap.size (l2 0 v) 29 _ _ rfl rfl hb6 Try.underlying29 rfl (by kernel_rfl)) rfl
        ⟨0, v, by rw [EC.out, HN.out, HM.out]; rfl, by rw [ES.out, HN.out, HM.out]; rfl, by rw [EB.out, HN.out, HM.out]; exact HV.out, hB4.trans (hw6.below (Nat.le_refl _))⟩
    · have HM := Lib.hid (show (m == 0) = false by rw [beq_eq_false_iff_ne]; exact hm0)
      have hmq : (m == 0) = false := by rw [beq_eq_false_iff_ne]; exact hm0
      by_cases hm1 : m = 1
      · have HM1 := Lib.hid (show (m == 1) = true by rw [beq_iff_eq]; exact hm1)
        have hmq1 : (m == 1) = true := by rw [beq_iff_eq]; exact hm1
        cases he : Fl.eq z 0
        · have HE := Lib.hid (show Fl.eq (sumL (xxL ds)) 0 = false from (eq0_same HZ.out).symm.trans he)
          go_upto_region 12 with (with_reducible refine Mem.wpList_storeA rfl 29 _ _ rfl w3.heap.size 0 rfl (l2 _ 0) _ rfl _ (Mem.Blk.new (World.drewN w3 _) (l2 0 0) _) (by kernel_rfl) (by simp [l2]) (by simp [Value.oneCell', l2]) ?_; intro w4 hw4)
          generalize hv : Fl.rDiv _ t z = v at hw4 ⊢
          have HV : Hid (Fl.canon v = Fl.canon (Fl.div (sumL (xyL ds)) (sumL (xxL ds)))) := Lib.hid (by rw [← hv]; exact div2 HT.out HZ.out)
          clear hv
          have g3' : w2.heap.size + 1 ≤ w3.heap.size := by omega
          have hB4 : Below w.heap.size w w4 := ((below_n hB3 _).alloc (by have := hB3.size; simp; omega) _).trans (hw4.below (by omega))
          have HR4 : Hid (Mem.Blk w4 w.heap.size (l2 0 0) 29) := Lib.hid (hw4.keep (by omega) ((HR3.out.drewN _).alloc _))
          have hb4 : Mem.Blk w4 w3.heap.size (l2 v 0) 29 := by simpa [l2] using hw4.blk
          have e0 : w4.cell? ⟨w3.heap.size, 0, none⟩ = some (.float .f32 v) := hb4.cell 0
          have e1 : w4.cell? ⟨w3.heap.size, 1, none⟩ = some (.float .f32 0) := hb4.cell 1
          have l4 : w3.heap.size < w4.heap.size := hb4.lt
          have HB4 := Lib.hid hb4
          clear hw4 hb4 c0 c1 c2 c3
          go_wp2_with fail
          refine (l06Line_calls v 0 _).mono ?_
          rintro e w5 ⟨rfl, hb5⟩
          have hB5 := below_call hB4 hb5
          have HR5 := Lib.hid (HR4.out.below hb5 HR4.out.lt)
          have HB5 := Lib.hid (HB4.out.below hb5 HB4.out.lt)
          have hvs := vLine_same (b := 0) (d := 0) HV.out rfl
          clear e0 e1
          cases hvl : vLine v 0
          · have HO := Lib.hid (show thOk (sumL (xxL ds)) (sumL (xyL ds)) = false by rw [EO.out, HE.out, ← hvs, hvl]; rfl)
            clear hvs hvl
            go_wp2_with (with_reducible refine Mem.wpList_storeA rfl 29 _ _ rfl w.heap.size 0 rfl (l2 0 0) _ rfl _ HR5.out (by kernel_rfl) (by simp [l2]) (by simp [Value.oneCell', l2]) ?_; intro w6 hw6)
            have hb6 : Mem.Blk w6 w.heap.size (l2 0 0) 29 := by simpa [l2] using hw6.blk
            exact bodyPost_ret (v := .tuple #[.agg (l2 0 0).toArray, .int .i64 4]) (Mem.results_cellA_tmp Try.results86 _ w.heap.size (l2 0 0) 29 _ _ rfl rfl hb6 Try.underlying29 rfl (by kernel_rfl)) rfl
              ⟨0, 0, by rw [EC.out, HN.out, HM.out, HM1.out, HO.out]; rfl, by rw [ES.out, HN.out, HM.out, HM1.out, HO.out]; rfl, by rw [EB.out, HN.out, HM.out, HM1.out]; rfl, hB5.trans (hw6.below (Nat.le_refl _))⟩
          · have HO := Lib.hid (show thOk (sumL (xxL ds)) (sumL (xyL ds)) = true by rw [EO.out, HE.out, ← hvs, hvl]; rfl)
            have e0 : w5.cell? ⟨w3.heap.size, 0, none⟩ = some (.float .f32 v) := HB5.out.cell 0
            have e1 : w5.cell? ⟨w3.heap.size, 1, none⟩ = some (.float .f32 0) := HB5.out.cell 1
            have l5 : w3.heap.size < w5.heap.size := HB5.out.lt
            clear hvs hvl
            go_wp2_with (with_reducible refine Mem.wpList_storeA rfl 29 _ _ rfl w.heap.size 0 rfl (l2 v 0) _ rfl _ HR5.out (by kernel_rfl) (by simp [l2]) (by simp [Value.oneCell', l2]) ?_; intro w6 hw6)
            have hb6 : Mem.Blk w6 w.heap.size (l2 v 0) 29 := by simpa [l2] using hw6.blk
            exact bodyPost_ret (v := .tuple #[.agg (l2 v 0).toArray, .int .i64 0]) (Mem.results_cellA_tmp Try.results86 _ w.heap.size (l2 v 0) 29 _ _ rfl rfl hb6 Try.underlying29 rfl (by kernel_rfl)) rfl
              ⟨v, 0, by rw [EC.out, HN.out, HM.out, HM1.out, HO.out]; rfl, by rw [ES.out, HN.out, HM.out, HM1.out, HO.out]; exact HV.out, by rw [EB.out, HN.out, HM.out, HM1.out]; rfl, hB5.trans (hw6.below (Nat.le_refl _))⟩
        · have HO := Lib.hid (show thOk (sumL (xxL ds)) (sumL (xyL ds)) = false by rw [EO.out, ← eq0_same HZ.out, he]; rfl)
          go_wp2_with (with_reducible refine Mem.wpList_storeA rfl 29 _ _ rfl w.heap.size 0 rfl (l2 0 0) _ rfl _ HR3.out (by kernel_rfl) (by simp [l2]) (by simp [Value.oneCell', l2]) ?_; intro w6 hw6)
          have hb6 : Mem.Blk w6 w.heap.size (l2 0 0) 29 := by simpa [l2] using hw6.blk
          exact bodyPost_ret (v := .tuple #[.agg (l2 0 0).toArray, .int .i64 4]) (Mem.results_cellA_tmp Try.results86 _ w.heap.size (l2 0 0) 29 _ _ rfl rfl hb6 Try.underlying29 rfl (by kernel_rfl)) rfl
            ⟨0, 0, by rw [EC.out, HN.out, HM.out, HM1.out, HO.out]; rfl, by rw [ES.out, HN.out, HM.out, HM1.out, HO.out]; rfl, by rw [EB.out, HN.out, HM.out, HM1.out]; rfl, hB3.trans (hw6.below (Nat.le_refl _))⟩
      · have HM1 := Lib.hid (show (m == 1) = false by rw [beq_eq_false_iff_ne]; exact hm1)
        have hmq1 : (m == 1) = false := by rw [beq_eq_false_iff_ne]; exact hm1
        have hcell : ∀ j v, (s4 x y z t)[j]? = some v → w3.cell? ⟨w2.heap.size, 0 + j, none⟩ = some v := fun j v h => (HS3.out.cell (0 + j)).trans (by rw [Nat.zero_add]; exact h)
        have HCE := Lib.hid hcell
        clear hcell c0 c1 c2 c3
        go_wp2_with (with_reducible refine Mem.wpList_loadA rfl 105 _ rfl w2.heap.size 0 rfl (s4 x y z t) _ Try.underlying105 rfl (by kernel_rfl) HCE.out ?_)
        refine (l06Fit_calls x y z t ds.length _).mono ?_
        rintro e w4 ⟨u, v, rfl, hu, hv, hb4⟩
        have HU := Lib.hid (hu.trans (fiS_same HX.out HY.out HZ.out HT.out))
        have HV := Lib.hid (hv.trans (fiB_same HX.out HY.out HZ.out HT.out))
        have HCC := Lib.hid (fiC_same (n := ds.length) HX.out HY.out HZ.out HT.out)
        have hB4 := below_call hB3 hb4
        have HR4 := Lib.hid (HR3.out.below hb4 HR3.out.lt)
        clear hu hv hb4
        go_wp2_with (with_reducible refine Mem.wpList_storeA rfl 29 _ _ rfl w.heap.size 0 rfl (l2 u v) _ rfl _ HR4.out (by kernel_rfl) (by simp [l2]) (by simp [Value.oneCell', l2]) ?_; intro w6 hw6)
        have hb6 : Mem.Blk w6 w.heap.size (l2 u v) 29 := by simpa [l2] using hw6.blk
        exact bodyPost_ret (v := .tuple #[.agg (l2 u v).toArray, _]) (Mem.results_cellA_tmp Try.results86 _ w.heap.size (l2 u v) 29 _ _ rfl rfl hb6 Try.underlying29 rfl (by kernel_rfl)) rfl
          ⟨u, v, by rw [EC.out, HN.out, HM.out, HM1.out, HCC.out]; rfl, by rw [ES.out, HN.out, HM.out, HM1.out]; exact HU.out, by rw [EB.out, HN.out, HM.out, HM1.out]; exact HV.out, hB4.trans (hw6.below (Nat.le_refl _))⟩

set_option maxHeartbeats 2000000 in
theorem fitModel_calls (b o cap : Nat) (ds : List (Nat × Nat)) (m : Int) (w : World) (hd : HoldsD w b o ds) (hb : b < w.heap.size) (hl : ds.length ≤ 1048576) (hvd : vDots ds = true) :
    Calls Try.prog 87 #[.slice (some ⟨b, o, none⟩) ds.length cap, .int .i64 m] w (RetLC (mdS ds m) (mdB ds m) (mdC ds m) w) := by
  have HD := Lib.hid hd
  have HVD := Lib.hid hvd
  clear hd hvd
  have ES : Hid (mdS ds m = sel (ds.length == 0) 0 (sel (m == 0) 0 (sel (m == 1) (sel (thOk (sumL (xxL ds)) (sumL (xyL ds))) (Fl.div (sumL (xyL ds)) (sumL (xxL ds))) 0) (fiS ds.length (sumL (xsL ds)) (sumL (ysL ds)) (sumL (xxL ds)) (sumL (xyL ds)))))) := rfl
  have EB : Hid (mdB ds m = sel (ds.length == 0) 0 (sel (m == 0) (Fl.div (sumL (ysL ds)) (ofI ds.length)) (sel (m == 1) 0 (fiB ds.length (sumL (xsL ds)) (sumL (ysL ds)) (sumL (xxL ds)) (sumL (xyL ds)))))) := rfl
  have EC : Hid (mdC ds m = sel (ds.length == 0) 6 (sel (m == 0) 0 (sel (m == 1) (sel (thOk (sumL (xxL ds)) (sumL (xyL ds))) 0 4) (fiC ds.length (sumL (xsL ds)) (sumL (ysL ds)) (sumL (xxL ds)) (sumL (xyL ds)))))) := rfl
  have EO : Hid (thOk (sumL (xxL ds)) (sumL (xyL ds)) = (!Fl.eq (sumL (xxL ds)) 0 && vLine (Fl.div (sumL (xyL ds)) (sumL (xxL ds))) 0)) := rfl
  have hcv : ∀ (W : World) (n : Int), (convert 3 22 (.int .i64 n)).run Try.prog W = .ok (.float .f32 (ofI n)) W := fun W n => run_toF32 _ _ _ _ Try.underlying22 (by rw [Try.underlying3]; rfl)
  go_enter Try.func87, Try.ntmps87
  go_upto_region 1 with (fail)
  generalize hw1 : w.alloc _ = w1
  have hB1 : Below w.heap.size w w1 := hw1 ▸ below_a1 w _
  have hr : Mem.Blk w1 w.heap.size (l2 0 0) 29 := hw1 ▸ Mem.Blk.new w _ _
  have hz1 : w1.heap.size = w.heap.size + 1 := by rw [← hw1]; simp
  have HR := Lib.hid hr
  clear hw1 hr
  by_cases h0 : ds.length = 0
  · have HN := Lib.hid (show (ds.length == 0) = true by rw [h0]; rfl)
    have hq : ((ds.length : Int) == 0) = true := by rw [beq_iff_eq]; omega
    go_wp2_with (with_reducible refine Mem.wpList_storeA rfl 29 _ _ rfl w.heap.size 0 rfl (l2 0 0) _ rfl _ HR.out (by kernel_rfl) (by simp [l2]) (by simp [Value.oneCell', l2]) ?_; intro w6 hw6)
    have hb6 : Mem.Blk w6 w.heap.size (l2 0 0) 29 := by simpa [l2] using hw6.blk
    exact bodyPost_ret (v := .tuple #[.agg (l2 0 0).toArray, .int .i64 6]) (Mem.results_cellA_tmp Try.results87 _ w.heap.size (l2 0 0) 29 _ _ rfl rfl hb6 Try.underlying29 rfl (by kernel_rfl)) rfl
      ⟨0, 0, by rw [EC.out, HN.out]; rfl, by rw [ES.out, HN.out]; rfl, by rw [EB.out, HN.out]; rfl, hB1.trans (hw6.below (Nat.le_refl _))⟩
  · have HN := Lib.hid (show (ds.length == 0) = false by rw [beq_eq_false_iff_ne]; exact h0)
    have hq : ((ds.length : Int) == 0) = false := by rw [beq_eq_false_iff_ne]; omega
    go_wp2_with fail
    refine (sumsBy_calls _ _ b o _ ds _ (HD.out.below hB1 hb) (by omega) hl sumFrom_sums).mono ?_
    rintro e w2 ⟨x, y, z, t, rfl, hx, hy, hz, ht, hb2⟩
    have HX := Lib.hid hx
    have HY := Lib.hid hy
    have HZ := Lib.hid hz
    have HT := Lib.hid ht
    have hB2 := below_call hB1 hb2
    have HR2 := Lib.hid (HR.out.below hb2 HR.out.lt)
    clear hx hy hz ht hb2
    go_upto_region 4 with (fail)
    generalize hw3 : w2.alloc _ = w3
    have hB3 : Below w.heap.size w w3 := hw3 ▸ hB2.alloc (by have := hB2.size; omega) _
    have hs3 : Mem.Blk w3 w2.heap.size (s4 x y z t) 118 := hw3 ▸ Mem.Blk.new w2 (s4 x y z t) 118
    have HR3 : Hid (Mem.Blk w3 w.heap.size (l2 0 0) 29) := Lib.hid (hw3 ▸ HR2.out.alloc _)
    have z3 : w3.heap.size = w2.heap.size + 1 := by rw [← hw3]; simp
    have c0 : w3.cell? ⟨w2.heap.size, 0, none⟩ = some (.float .f32 x) := hs3.cell 0
    have c1 : w3.cell? ⟨w2.heap.size, 1, none⟩ = some (.float .f32 y) := hs3.cell 1
    have c2 : w3.cell? ⟨w2.heap.size, 2, none⟩ = some (.float .f32 z) := hs3.cell 2
    have c3 : w3.cell? ⟨w2.heap.size, 3, none⟩ = some (.float .f32 t) := hs3.cell 3
    have l3 : w2.heap.size < w3.heap.size := by omega
    have g3 : w.heap.size < w2.heap.size := HR2.out.lt
    have HS3 := Lib.hid hs3
    clear hw3 hs3 z3
    by_cases hm0 : m = 0
    · have HM := Lib.hid (show (m == 0) = true by rw [beq_iff_eq]; exact hm0)
      have hmq : (m == 0) = true := by rw [beq_iff_eq]; exact hm0
      have HPL := Lib.hid (Fl.mean_plain ds HVD.out h0)
      go_wp2_with fail
      generalize hv : Fl.rDiv _ y (ofI ds.length) = q
      have HQ : Hid (Fl.canon q = Fl.canon (Fl.div (sumL (ysL ds)) (ofI ds.length))) := Lib.hid (by rw [← hv]; exact div2 HY.out rfl)
      clear hv
      have HK : Hid (ckOk 0 q 1065353216 = true) := Lib.hid (by unfold ckOk vLine; rw [vPlain_same HQ.out, HPL.out]; decide)
      refine (checkedLine_calls 0 q 1065353216 _).mono ?_
      rw [HK.out]
      rintro e w4 ⟨u, v, rfl, hu, hv, hb4⟩
      have hbb : Below w3.heap.size w3 w4 := (below_n (Below.refl w3.heap.size w3) _).trans hb4
      have HU := Lib.hid hu
      have HV := Lib.hid hv
      have hB4 := below_call hB3 hbb
      have HR4 := Lib.hid (HR3.out.below hbb HR3.out.lt)
      clear hu hv hb4 hbb c0 c1 c2 c3
      go_wp2_with (with_reducible refine Mem.wpList_storeA rfl 29 _ _ rfl w.heap.size 0 rfl (l2 u v) _ rfl _ HR4.out (by kernel_rfl) (by simp [l2]) (by simp [Value.oneCell', l2]) ?_; intro w6 hw6)
      have hb6 : Mem.Blk w6 w.heap.size (l2 u v) 29 := by simpa [l2] using hw6.blk
      exact bodyPost_ret (v := .tuple #[.agg (l2 u v).toArray, _]) (Mem.results_cellA_tmp Try.results87 _ w.heap.size (l2 u v) 29 _ _ rfl rfl hb6 Try.underlying29 rfl (by kernel_rfl)) rfl
        ⟨u, v, by rw [EC.out, HN.out, HM.out]; rfl, by rw [ES.out, HN.out, HM.out]; exact HU.out, by rw [EB.out, HN.out, HM.out]; exact HV.out.trans HQ.out, hB4.trans (hw6.below (Nat.le_refl _))⟩
    · have HM := Lib.hid (show (m == 0) = false by rw [beq_eq_false_iff_ne]; exact hm0)
      have hmq : (m == 0) = false := by rw [beq_eq_false_iff_ne]; exact hm0
      by_cases hm1 : m = 1
      · have HM1 := Lib.hid (show (m == 1) = true by rw [beq_iff_eq]; exact hm1)
        have hmq1 : (m == 1) = true := by rw [beq_iff_eq]; exact hm1
        go_wp2_with fail
        generalize hv : Fl.rDiv _ t z = q
        have HQ : Hid (Fl.canon q = Fl.canon (Fl.div (sumL (xyL ds)) (sumL (xxL ds)))) := Lib.hid (by rw [← hv]; exact div2 HT.out HZ.out)
        clear hv
        have HK : Hid (ckOk q 0 z = thOk (sumL (xxL ds)) (sumL (xyL ds))) := Lib.hid (by unfold ckOk thOk; rw [eq0_same HZ.out, vLine_same (b := 0) (d := 0) HQ.out rfl])
        refine (checkedLine_calls q 0 z _).mono ?_
        rw [HK.out]
        rintro e w4 ⟨u, v, rfl, hu, hv, hb4⟩
        have hbb : Below w3.heap.size w3 w4 := (below_n (Below.refl w3.heap.size w3) _).trans hb4
        have HU := Lib.hid hu
        have HV := Lib.hid hv
        have hB4 := below_call hB3 hbb
        have HR4 := Lib.hid (HR3.out.below hbb HR3.out.lt)
        clear hu hv hb4 hbb c0 c1 c2 c3
        have HU2 : Hid (Fl.canon u = Fl.canon (sel (thOk (sumL (xxL ds)) (sumL (xyL ds))) (Fl.div (sumL (xyL ds)) (sumL (xxL ds))) 0)) := Lib.hid (by
          rw [HU.out]
          cases thOk (sumL (xxL ds)) (sumL (xyL ds)) <;> first | rfl | exact HQ.out)
        have HV2 : Hid (Fl.canon v = Fl.canon 0) := Lib.hid (by
          rw [HV.out]
          cases thOk (sumL (xxL ds)) (sumL (xyL ds)) <;> rfl)
        go_wp2_with (with_reducible refine Mem.wpList_storeA rfl 29 _ _ rfl w.heap.size 0 rfl (l2 u v) _ rfl _ HR4.out (by kernel_rfl) (by simp [l2]) (by simp [Value.oneCell', l2]) ?_; intro w6 hw6)
        have hb6 : Mem.Blk w6 w.heap.size (l2 u v) 29 := by simpa [l2] using hw6.blk
        exact bodyPost_ret (v := .tuple #[.agg (l2 u v).toArray, _]) (Mem.results_cellA_tmp Try.results87 _ w.heap.size (l2 u v) 29 _ _ rfl rfl hb6 Try.underlying29 rfl (by kernel_rfl)) rfl
          ⟨u, v, by rw [EC.out, HN.out, HM.out, HM1.out]; rfl, by rw [ES.out, HN.out, HM.out, HM1.out]; exact HU2.out, by rw [EB.out, HN.out, HM.out, HM1.out]; exact HV2.out, hB4.trans (hw6.below (Nat.le_refl _))⟩
      · have HM1 := Lib.hid (show (m == 1) = false by rw [beq_eq_false_iff_ne]; exact hm1)
        have hmq1 : (m == 1) = false := by rw [beq_eq_false_iff_ne]; exact hm1
        have hcell : ∀ j v, (s4 x y z t)[j]? = some v → w3.cell? ⟨w2.heap.size, 0 + j, none⟩ = some v := fun j v h => (HS3.out.cell (0 + j)).trans (by rw [Nat.zero_add]; exact h)
        have HCE := Lib.hid hcell
        clear hcell c0 c1 c2 c3
        go_wp2_with (with_reducible refine Mem.wpList_loadA rfl 118 _ rfl w2.heap.size 0 rfl (s4 x y z t) _ Try.underlying118 rfl (by kernel_rfl) HCE.out ?_)
        refine (fit_calls x y z t ds.length _ _ _).mono ?_
        rintro e w4 ⟨u, v, rfl, hu, hv, hb4⟩
        have HU := Lib.hid (hu.trans (fiS_same HX.out HY.out HZ.out HT.out))
        have HV := Lib.hid (hv.trans (fiB_same HX.out HY.out HZ.out HT.out))
        have HCC := Lib.hid (fiC_same (n := ds.length) HX.out HY.out HZ.out HT.out)
        have hB4 := below_call hB3 hb4
        have HR4 := Lib.hid (HR3.out.below hb4 HR3.out.lt)
        clear hu hv hb4
        go_wp2_with (with_reducible refine Mem.wpList_storeA rfl 29 _ _ rfl w.heap.size 0 rfl (l2 u v) _ rfl _ HR4.out (by kernel_rfl) (by simp [l2]) (by simp [Value.oneCell', l2]) ?_; intro w6 hw6)
        have hb6 : Mem.Blk w6 w.heap.size (l2 u v) 29 := by simpa [l2] using hw6.blk
        exact bodyPost_ret (v := .tuple #[.agg (l2 u v).toArray, _]) (Mem.results_cellA_tmp Try.results87 _ w.heap.size (l2 u v) 29 _ _ rfl rfl hb6 Try.underlying29 rfl (by kernel_rfl)) rfl
          ⟨u, v, by rw [EC.out, HN.out, HM.out, HM1.out, HCC.out]; rfl, by rw [ES.out, HN.out, HM.out, HM1.out]; exact HU.out, by rw [EB.out, HN.out, HM.out, HM1.out]; exact HV.out, hB4.trans (hw6.below (Nat.le_refl _))⟩

end Go.Proofs.Ytcihbcmdmgmonaa
