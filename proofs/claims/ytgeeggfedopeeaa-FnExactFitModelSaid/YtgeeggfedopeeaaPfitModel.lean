/-
  FitModel: what both programs answer, and the law's walk.
-/
import Derived.Test.YtgeeggfedopeeaaPmodel
import Derived.Test.YtgeeggfedopeeaaPeqLine
import Derived.Test.YtgeeggfedopeeaaPdotS
import Derived.Test.YtgeeggfedopeeaaPwithin
namespace Go.Proofs.Ytgeeggfedopeeaa
open Go.RowKit

def mIn (m : Int) : Bool := decide (0 ≤ m) && decide (m ≤ 2)
def fmS (ds : List (Nat × Nat)) (m : Int) : Nat := sel (vDots ds) (sel (mIn m) (mdS ds m) 0) 0
def fmB (ds : List (Nat × Nat)) (m : Int) : Nat := sel (vDots ds) (sel (mIn m) (mdB ds m) 0) 0
def fmC (ds : List (Nat × Nat)) (m : Int) : Int := sel (vDots ds) (sel (mIn m) (mdC ds m) 2) 1

set_option maxHeartbeats 1000000 in
theorem specFitModel_calls (b o cap : Nat) (ds : List (Nat × Nat)) (m : Int) (w : World) (hd : HoldsD w b o ds) (hb : b < w.heap.size) (hl : ds.length ≤ 1048576) :
    Calls Try.prog 35 #[.slice (some ⟨b, o, none⟩) ds.length cap, .int .i64 m] w (RetLC (fmS ds m) (fmB ds m) (fmC ds m) w) := by
  have HD := Lib.hid hd
  have hm : ds.length ≤ maxLen := by unfold maxLen; omega
  clear hd
  have FS : Hid (fmS ds m = sel (vDots ds) (sel (mIn m) (mdS ds m) 0) 0) := rfl
  have FB : Hid (fmB ds m = sel (vDots ds) (sel (mIn m) (mdB ds m) 0) 0) := rfl
  have FC : Hid (fmC ds m = sel (vDots ds) (sel (mIn m) (mdC ds m) 2) 1) := rfl
  go_enter Try.func35, Try.ntmps35
  go_upto_region 1 with (fail)
  generalize hw1 : w.alloc _ = w1
  have hB1 : Below w.heap.size w w1 := hw1 ▸ below_a1 w _
  have hr : Mem.Blk w1 w.heap.size (l2 0 0) 26 := hw1 ▸ Mem.Blk.new w _ _
  have hz1 : w1.heap.size = w.heap.size + 1 := by rw [← hw1]; simp
  have HR := Lib.hid hr
  clear hw1 hr
  go_wp2_with fail
  refine (l06Ok_calls b o _ ds _ (HD.out.below hB1 hb) (by omega) hm).mono ?_
  rintro e w2 ⟨rfl, hw2⟩
  subst hw2
  have hB := hB1
  have HR2 := HR
  cases h1 : vDots ds
  · have H1 := Lib.hid h1
    clear h1
    go_wp2_with (with_reducible refine Mem.wpList_storeA rfl 26 _ _ rfl w.heap.size 0 rfl (l2 0 0) _ rfl _ HR2.out (by kernel_rfl) (by simp [l2]) (by simp [Value.oneCell', l2]) ?_; intro w6 hw6)
    have hb6 : Mem.Blk w6 w.heap.size (l2 0 0) 26 := by simpa [l2] using hw6.blk
    exact bodyPost_ret (v := .tuple #[.agg (l2 0 0).toArray, .int .i64 1]) (Mem.results_cellA_tmp Try.results35 _ w.heap.size (l2 0 0) 26 _ _ rfl rfl hb6 Try.underlying26 rfl (by kernel_rfl)) rfl
      ⟨0, 0, by rw [FC.out, H1.out]; rfl, by rw [FS.out, H1.out]; rfl, by rw [FB.out, H1.out]; rfl, hB.trans (hw6.below (Nat.le_refl _))⟩
  · have H1 := Lib.hid h1
    clear h1
    go_wp2_with fail
    refine (l00In_calls m 0 2 _).mono ?_
    rintro e w3 ⟨rfl, hw3⟩
    subst hw3
    have EI : Hid (mIn m = (decide (0 ≤ m) && decide (m ≤ 2))) := rfl
    rw [← EI.out]
    cases h2 : mIn m
    · have H2 := Lib.hid h2
      clear h2
      go_wp2_with (with_reducible refine Mem.wpList_storeA rfl 26 _ _ rfl w.heap.size 0 rfl (l2 0 0) _ rfl _ HR2.out (by kernel_rfl) (by simp [l2]) (by simp [Value.oneCell', l2]) ?_; intro w6 hw6)
      have hb6 : Mem.Blk w6 w.heap.size (l2 0 0) 26 := by simpa [l2] using hw6.blk
      exact bodyPost_ret (v := .tuple #[.agg (l2 0 0).toArray, .int .i64 2]) (Mem.results_cellA_tmp Try.results35 _ w.heap.size (l2 0 0) 26 _ _ rfl rfl hb6 Try.underlying26 rfl (by kernel_rfl)) rfl
        ⟨0, 0, by rw [FC.out, H1.out, H2.out]; rfl, by rw [FS.out, H1.out, H2.out]; rfl, by rw [FB.out, H1.out, H2.out]; rfl, hB.trans (hw6.below (Nat.le_refl _))⟩
    · have H2 := Lib.hid h2
      clear h2
      go_wp2_with fail
      refine (l06Model_calls b o _ ds m _ (HD.out.below hB hb) (by have := hB.size; omega) hl).mono ?_
      rintro e w4 ⟨u, v, rfl, hu, hv, hb4⟩
      have HU := Lib.hid hu
      have HV := Lib.hid hv
      have hB4 := below_call hB hb4
      have HR4 := Lib.hid (HR2.out.below hb4 HR2.out.lt)
      clear hu hv hb4
      go_wp2_with (with_reducible refine Mem.wpList_storeA rfl 26 _ _ rfl w.heap.size 0 rfl (l2 u v) _ rfl _ HR4.out (by kernel_rfl) (by simp [l2]) (by simp [Value.oneCell', l2]) ?_; intro w6 hw6)
      have hb6 : Mem.Blk w6 w.heap.size (l2 u v) 26 := by simpa [l2] using hw6.blk
      exact bodyPost_ret (v := .tuple #[.agg (l2 u v).toArray, _]) (Mem.results_cellA_tmp Try.results35 _ w.heap.size (l2 u v) 26 _ _ rfl rfl hb6 Try.underlying26 rfl (by kernel_rfl)) rfl
        ⟨u, v, by rw [FC.out, H1.out, H2.out]; rfl, by rw [FS.out, H1.out, H2.out]; exact HU.out, by rw [FB.out, H1.out, H2.out]; exact HV.out, hB4.trans (hw6.below (Nat.le_refl _))⟩

set_option maxHeartbeats 1000000 in
theorem implFitModel_calls (b o cap : Nat) (ds : List (Nat × Nat)) (m : Int) (w : World) (hd : HoldsD w b o ds) (hb : b < w.heap.size) (hl : ds.length ≤ 1048576) :
    Calls Try.prog 36 #[.slice (some ⟨b, o, none⟩) ds.length cap, .int .i64 m] w (RetLC (fmS ds m) (fmB ds m) (fmC ds m) w) := by
  have HD := Lib.hid hd
  have hm : ds.length ≤ maxLen := by unfold maxLen; omega
  clear hd
  have FS : Hid (fmS ds m = sel (vDots ds) (sel (mIn m) (mdS ds m) 0) 0) := rfl
  have FB : Hid (fmB ds m = sel (vDots ds) (sel (mIn m) (mdB ds m) 0) 0) := rfl
  have FC : Hid (fmC ds m = sel (vDots ds) (sel (mIn m) (mdC ds m) 2) 1) := rfl
  go_enter Try.func36, Try.ntmps36
  go_upto_region 1 with (fail)
  generalize hw1 : w.alloc _ = w1
  have hB1 : Below w.heap.size w w1 := hw1 ▸ below_a1 w _
  have hr : Mem.Blk w1 w.heap.size (l2 0 0) 26 := hw1 ▸ Mem.Blk.new w _ _
  have hz1 : w1.heap.size = w.heap.size + 1 := by rw [← hw1]; simp
  have HR := Lib.hid hr
  clear hw1 hr
  go_wp2_with fail
  refine (implValidDots_calls b o _ ds _ (HD.out.below hB1 hb) (by omega) hm).mono ?_
  rintro e w2 ⟨rfl, hb2⟩
  have hB := below_call hB1 hb2
  have HR2 := Lib.hid (HR.out.below hb2 HR.out.lt)
  cases h1 : vDots ds
  · have H1 := Lib.hid h1
    clear h1
    go_wp2_with (with_reducible refine Mem.wpList_storeA rfl 26 _ _ rfl w.heap.size 0 rfl (l2 0 0) _ rfl _ HR2.out (by kernel_rfl) (by simp [l2]) (by simp [Value.oneCell', l2]) ?_; intro w6 hw6)
    have hb6 : Mem.Blk w6 w.heap.size (l2 0 0) 26 := by simpa [l2] using hw6.blk
    exact bodyPost_ret (v := .tuple #[.agg (l2 0 0).toArray, .int .i64 1]) (Mem.results_cellA_tmp Try.results36 _ w.heap.size (l2 0 0) 26 _ _ rfl rfl hb6 Try.underlying26 rfl (by kernel_rfl)) rfl
      ⟨0, 0, by rw [FC.out, H1.out]; rfl, by rw [FS.out, H1.out]; rfl, by rw [FB.out, H1.out]; rfl, hB.trans (hw6.below (Nat.le_refl _))⟩
  · have H1 := Lib.hid h1
    clear h1
    go_wp2_with fail
    refine (within_calls m 0 2 _).mono ?_
    rintro e w3 ⟨rfl, hw3⟩
    subst hw3
    have EI : Hid (mIn m = (decide (0 ≤ m) && decide (m ≤ 2))) := rfl
    rw [← EI.out]
    cases h2 : mIn m
    · have H2 := Lib.hid h2
      clear h2
      go_wp2_with (with_reducible refine Mem.wpList_storeA rfl 26 _ _ rfl w.heap.size 0 rfl (l2 0 0) _ rfl _ HR2.out (by kernel_rfl) (by simp [l2]) (by simp [Value.oneCell', l2]) ?_; intro w6 hw6)
      have hb6 : Mem.Blk w6 w.heap.size (l2 0 0) 26 := by simpa [l2] using hw6.blk
      exact bodyPost_ret (v := .tuple #[.agg (l2 0 0).toArray, .int .i64 2]) (Mem.results_cellA_tmp Try.results36 _ w.heap.size (l2 0 0) 26 _ _ rfl rfl hb6 Try.underlying26 rfl (by kernel_rfl)) rfl
        ⟨0, 0, by rw [FC.out, H1.out, H2.out]; rfl, by rw [FS.out, H1.out, H2.out]; rfl, by rw [FB.out, H1.out, H2.out]; rfl, hB.trans (hw6.below (Nat.le_refl _))⟩
    · have H2 := Lib.hid h2
      clear h2
      go_wp2_with fail
      refine (fitModel_calls b o _ ds m _ (HD.out.below hB hb) (by have := hB.size; omega) hl H1.out).mono ?_
      rintro e w4 ⟨u, v, rfl, hu, hv, hb4⟩
      have HU := Lib.hid hu
      have HV := Lib.hid hv
      have hB4 := below_call hB hb4
      have HR4 := Lib.hid (HR2.out.below hb4 HR2.out.lt)
      clear hu hv hb4
      go_wp2_with (with_reducible refine Mem.wpList_storeA rfl 26 _ _ rfl w.heap.size 0 rfl (l2 u v) _ rfl _ HR4.out (by kernel_rfl) (by simp [l2]) (by simp [Value.oneCell', l2]) ?_; intro w6 hw6)
      have hb6 : Mem.Blk w6 w.heap.size (l2 u v) 26 := by simpa [l2] using hw6.blk
      exact bodyPost_ret (v := .tuple #[.agg (l2 u v).toArray, _]) (Mem.results_cellA_tmp Try.results36 _ w.heap.size (l2 u v) 26 _ _ rfl rfl hb6 Try.underlying26 rfl (by kernel_rfl)) rfl
        ⟨u, v, by rw [FC.out, H1.out, H2.out]; rfl, by rw [FS.out, H1.out, H2.out]; exact HU.out, by rw [FB.out, H1.out, H2.out]; exact HV.out, hB4.trans (hw6.below (Nat.le_refl _))⟩

set_option maxHeartbeats 1000000 in
theorem fnExactFitModel_walk (ds : List (Nat × Nat)) (ad : Option Addr) (cap : Nat) (m : Int) (_hwm : IntKind.i64.has m) (w : World) (hd : SlD w ad ds) (hl : ds.length ≤ maxLen) :
    Calls Try.prog 11 #[.slice ad ds.length cap, .int .i64 m] w (RetBool true w) := by
  have hl' := hl
  unfold maxLen at hl'
  have HD := Lib.hid hd
  have HL := Lib.hid hl
  clear hd hl
  go_enter Try.func11, Try.ntmps11
  go_wp2_with fail
  refine (szDotS_calls _ _ _ _ _ (by omega) (by omega) (by omega)).mono ?_
  rintro e w2 ⟨rfl, rfl⟩
  have hb1 : Below w2.heap.size w2 w2 := Below.refl _ _
  by_cases h20 : 1048576 - (ds.length : Int) < 0
  · rw [if_pos h20]
    go_wp2_with fail
    go_ret
    exact ⟨rfl, hb1⟩
  · rw [if_neg h20]
    have hn : ds.length ≤ 1048576 := by omega
    go_wp2_with fail
    refine (toDotS_calls ad cap ds _ (HD.out.below hb1) hn).mono ?_
    rintro e w4 ⟨g4, rfl, hg4, hblk4, hb4⟩
    have HB4 := Lib.hid hblk4
    have hB4 := below_call hb1 hb4
    clear hblk4
    go_wp2_with fail
    refine (specFitModel_calls g4 0 _ ds m _ (holds_blk HB4.out) HB4.out.lt hn).mono ?_
    rintro e w5 ⟨v0a, v0b, rfl, hv0a, hv0b, hb5⟩
    have HV0a := Lib.hid hv0a
    have HV0b := Lib.hid hv0b
    have hB5 := below_call hB4 hb5
    clear hv0a hv0b
    clear hb4 hb5 hB4 HB4 hg4
    go_wp2_with fail
    generalize hwa : World.alloc w5 _ = wa
    have hba : Below w5.heap.size w5 wa := hwa ▸ below_a1 w5 _
    have hla : Mem.Blk wa w5.heap.size (l2 v0a v0b) 26 := hwa ▸ Mem.Blk.new w5 _ _
    have HLA := Lib.hid hla
    have hB5 := below_call hB5 hba
    clear hwa hla
    refine (toDotS_calls ad cap ds _ (HD.out.below hB5) hn).mono ?_
    rintro e w6 ⟨g6, rfl, hg6, hblk6, hb6⟩
    have HB6 := Lib.hid hblk6
    have hB6 := below_call hB5 hb6
    have HLA := Lib.hid (HLA.out.below hb6 HLA.out.lt)
    have hB7 := hB6
    have HB7 := HB6
    clear hblk6 hg6
    go_wp2_with fail
    refine (implFitModel_calls g6 0 _ ds m _ (holds_blk HB7.out) HB7.out.lt hn).mono ?_
    rintro e w8 ⟨u0a, u0b, rfl, hu0a, hu0b, hb8⟩
    have HU0a := Lib.hid hu0a
    have HU0b := Lib.hid hu0b
    have hB8 := below_call hB7 hb8
    have HB8 := Lib.hid (HB7.out.below hb8 HB7.out.lt)
    clear hu0a hu0b
    have HLA := Lib.hid (HLA.out.below hb8 HLA.out.lt)
    have q0 : w8.cell? ⟨w5.heap.size, 0, none⟩ = some (.float .f32 v0a) := HLA.out.cell 0
    have q1 : w8.cell? ⟨w5.heap.size, 1, none⟩ = some (.float .f32 v0b) := HLA.out.cell 1
    have ql : w5.heap.size < w8.heap.size := HLA.out.lt
    go_wp2_with fail
    refine (eqLine_calls _ _ _ _ _ (HU0a.out.trans HV0a.out.symm) (HU0b.out.trans HV0b.out.symm)).mono ?_
    rintro e w20 ⟨rfl, hb20⟩
    have hB8 := below_call (below_call hB8 (below_a1 w8 _)) hb20
    have HB8 := Lib.hid ((HB8.out.alloc _).below hb20 (HB8.out.alloc _).lt)
    clear q0 q1 ql HLA
    go_wp2_with fail
    refine (toDotS_calls ad cap ds _ (HD.out.below hB8) hn).mono ?_
    rintro e w10 ⟨g10, rfl, hg10, hblk10, hb10⟩
    have HB10 := Lib.hid hblk10
    have hB10 := below_call hB8 hb10
    have HB8' := Lib.hid (HB8.out.below hb10 HB8.out.lt)
    clear hblk10
    go_wp2_with fail
    refine (eqDotS_calls _ _ _ _ ds ds _ (.inr ⟨g6, 0, rfl, HB8'.out.lt, holds_blk HB8'.out⟩) (.inr ⟨g10, 0, rfl, HB10.out.lt, holds_blk HB10.out⟩) (sameP_refl ds) HL.out).mono ?_
    rintro e w11 ⟨rfl, hb11⟩
    go_wp2_with fail
    all_goals go_ret
    all_goals exact ⟨rfl, below_call hB10 hb11⟩

end Go.Proofs.Ytgeeggfedopeeaa
