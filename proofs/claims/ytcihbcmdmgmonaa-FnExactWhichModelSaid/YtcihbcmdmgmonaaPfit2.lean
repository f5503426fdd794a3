/-
  The fit of some sums, in the program.
-/
import Derived.Test.YtcihbcmdmgmonaaPfit
namespace Go.Proofs.Ytcihbcmdmgmonaa
open Go.RowKit

def ckOk (s t by_ : Nat) : Bool := !Fl.eq by_ 0 && vLine s t

set_option maxHeartbeats 1000000 in
theorem checkedLine_calls (s t y : Nat) (w : World) :
    Calls Try.prog 109 #[.agg #[.float .f32 s, .float .f32 t], .float .f32 y] w (RetLC (sel (ckOk s t y) s 0) (sel (ckOk s t y) t 0) (sel (ckOk s t y) 0 4) w) := by
  have EO : Hid (ckOk s t y = (!Fl.eq y 0 && vLine s t)) := rfl
  go_enter Try.func109, Try.ntmps109
  go_upto_region 1 with (fail)
  generalize hw1 : (w.alloc _).alloc _ = w1
  have hB1 : Below w.heap.size w w1 := hw1 ▸ below_a2 w _ _
  have h0 : Mem.Blk w1 w.heap.size (l2 s t) 29 := hw1 ▸ (Mem.Blk.new w _ _).alloc _
  have hr : Mem.Blk w1 (w.heap.size + 1) (l2 0 0) 29 := hw1 ▸ Mem.Blk.new1 w _ _ _
  have c0 : w1.cell? ⟨w.heap.size, 0, none⟩ = some (.float .f32 s) := h0.cell 0
  have c1 : w1.cell? ⟨w.heap.size, 1, none⟩ = some (.float .f32 t) := h0.cell 1
  have hz1 : w1.heap.size = w.heap.size + 2 := by rw [← hw1]; simp
  have lw : w.heap.size < w1.heap.size := by omega
  have HR := Lib.hid hr
  have H0 := Lib.hid h0
  clear hw1 h0 hr hz1
  cases he : Fl.eq y 0
  · have HE := Lib.hid he
    go_wp2_with fail
    refine (implValidLine_calls s t _).mono ?_
    rintro e w2 ⟨rfl, hb2⟩
    have hB2 := below_call hB1 hb2
    have HR2 := Lib.hid (HR.out.below hb2 HR.out.lt)
    have H02 := Lib.hid (H0.out.below hb2 H0.out.lt)
    clear c0 c1
    cases hv : vLine s t
    · have HO := Lib.hid (show ckOk s t y = false by rw [EO.out, HE.out, hv]; rfl)
      clear hv
      go_wp2_with (with_reducible refine Mem.wpList_storeA rfl 29 _ _ rfl (w.heap.size + 1) 0 rfl (l2 0 0) _ rfl _ HR2.out (by kernel_rfl) (by simp [l2]) (by simp [Value.oneCell', l2]) ?_; intro w6 hw6)
      have hb6 : Mem.Blk w6 (w.heap.size + 1) (l2 0 0) 29 := by simpa [l2] using hw6.blk
      exact bodyPost_ret (v := .tuple #[.agg (l2 0 0).toArray, .int .i64 4]) (Mem.results_cellA_tmp Try.results109 _ (w.heap.size + 1) (l2 0 0) 29 _ _ rfl rfl hb6 Try.underlying29 rfl (by kernel_rfl)) rfl
        ⟨0, 0, by rw [HO.out]; rfl, by rw [HO.out]; rfl, by rw [HO.out]; rfl, hB2.trans (hw6.below (by omega))⟩
    · have HO := Lib.hid (show ckOk s t y = true by rw [EO.out, HE.out, hv]; rfl)
      clear hv
      have c0 : w2.cell? ⟨w.heap.size, 0, none⟩ = some (.float .f32 s) := H02.out.cell 0
      have c1 : w2.cell? ⟨w.heap.size, 1, none⟩ = some (.float .f32 t) := H02.out.cell 1
      have lw2 : w.heap.size < w2.heap.size := H02.out.lt
      go_wp2_with (with_reducible refine Mem.wpList_storeA rfl 29 _ _ rfl (w.heap.size + 1) 0 rfl (l2 s t) _ rfl _ HR2.out (by kernel_rfl) (by simp [l2]) (by simp [Value.oneCell', l2]) ?_; intro w6 hw6)
      have hb6 : Mem.Blk w6 (w.heap.size + 1) (l2 s t) 29 := by simpa [l2] using hw6.blk
      exact bodyPost_ret (v := .tuple #[.agg (l2 s t).toArray, .int .i64 0]) (Mem.results_cellA_tmp Try.results109 _ (w.heap.size + 1) (l2 s t) 29 _ _ rfl rfl hb6 Try.underlying29 rfl (by kernel_rfl)) rfl
        ⟨s, t, by rw [HO.out]; rfl, by rw [HO.out]; rfl, by rw [HO.out]; rfl, hB2.trans (hw6.below (by omega))⟩
  · have HO := Lib.hid (show ckOk s t y = false by rw [EO.out, he]; rfl)
    clear c0 c1
    go_wp2_with (with_reducible refine Mem.wpList_storeA rfl 29 _ _ rfl (w.heap.size + 1) 0 rfl (l2 0 0) _ rfl _ HR.out (by kernel_rfl) (by simp [l2]) (by simp [Value.oneCell', l2]) ?_; intro w6 hw6)
    have hb6 : Mem.Blk w6 (w.heap.size + 1) (l2 0 0) 29 := by simpa [l2] using hw6.blk
    exact bodyPost_ret (v := .tuple #[.agg (l2 0 0).toArray, .int .i64 4]) (Mem.results_cellA_tmp Try.results109 _ (w.heap.size + 1) (l2 0 0) 29 _ _ rfl rfl hb6 Try.underlying29 rfl (by kernel_rfl)) rfl
      ⟨0, 0, by rw [HO.out]; rfl, by rw [HO.out]; rfl, by rw [HO.out]; rfl, hB1.trans (hw6.below (by omega))⟩

set_option maxHeartbeats 2000000 in
theorem fit_calls (a b c d n : Nat) (ad : Option Addr) (cap : Nat) (w : World) :
    Calls Try.prog 110 #[.slice ad n cap, .agg (s4 a b c d).toArray] w (RetLC (fiS n a b c d) (fiB n a b c d) (fiC n a b c d) w) := by
  have hcv : ∀ (W : World) (m : Int), (convert 3 22 (.int .i64 m)).run Try.prog W = .ok (.float .f32 (ofI m)) W := fun W m => run_toF32 _ _ _ _ Try.underlying22 (by rw [Try.underlying3]; rfl)
  have ES : Hid (fiS n a b c d = sel (n == 0) 0 (sel (ftOk (ofI n) a b c d) (ftS (ofI n) a b c d) 0)) := rfl
  have EB : Hid (fiB n a b c d = sel (n == 0) 0 (sel (ftOk (ofI n) a b c d) (ftB (ofI n) a b c d) 0)) := rfl
  have EC : Hid (fiC n a b c d = sel (n == 0) 6 (sel (ftOk (ofI n) a b c d) 0 4)) := rfl
  have EO : Hid (ftOk (ofI n) a b c d = (!Fl.eq (ftBy (ofI n) a c) 0 && vLine (ftS (ofI n) a b c d) (ftB (ofI n) a b c d))) := rfl
  go_enter Try.func110, Try.ntmps110
  go_upto_region 1 with (fail)
  generalize hw1 : (w.alloc _).alloc _ = w1
  have hB1 : Below w.heap.size w w1 := hw1 ▸ below_a2 w _ _
  have h0 : Mem.Blk w1 w.heap.size (s4 a b c d) 118 := hw1 ▸ (Mem.Blk.new w _ _).alloc _
  have hr : Mem.Blk w1 (w.heap.size + 1) (l2 0 0) 29 := hw1 ▸ Mem.Blk.new1 w _ _ _
  have hz1 : w1.heap.size = w.heap.size + 2 := by rw [← hw1]; simp
  have c0 : w1.cell? ⟨w.heap.size, 0, none⟩ = some (.float .f32 a) := h0.cell 0
  have c1 : w1.cell? ⟨w.heap.size, 1, none⟩ = some (.float .f32 b) := h0.cell 1
  have c2 : w1.cell? ⟨w.heap.size, 2, none⟩ = some (.float .f32 c) := h0.cell 2
  have c3 : w1.cell? ⟨w.heap.size, 3, none⟩ = some (.float .f32 d) := h0.cell 3
  have HR := Lib.hid hr
  have lw : w.heap.size < w1.heap.size := by omega
  clear hw1 h0 hr
  by_cases hn0 : n = 0
  · have HN := Lib.hid (show (n == 0) = true by rw [hn0]; rfl)
    have hq : ((n : Int) == 0) = true := by rw [beq_iff_eq]; omega
    clear c0 c1 c2 c3
    go_wp2_with (with_reducible refine Mem.wpList_storeA rfl 29 _ _ rfl (w.heap.size + 1) 0 rfl (l2 0 0) _ rfl _ HR.out (by kernel_rfl) (by simp [l2]) (by simp [Value.oneCell', l2]) ?_; intro w6 hw6)
    have hb6 : Mem.Blk w6 (w.heap.size + 1) (l2 0 0) 29 := by simpa [l2] using hw6.blk
    exact bodyPost_ret (v := .tuple #[.agg (l2 0 0).toArray, .int .i64 6]) (Mem.results_cellA_tmp Try.results110 _ (w.heap.size + 1) (l2 0 0) 29 _ _ rfl rfl hb6 Try.underlying29 rfl (by kernel_rfl)) rfl
      ⟨0, 0, by rw [EC.out, HN.out]; rfl, by rw [ES.out, HN.out]; rfl, by rw [EB.out, HN.out]; rfl, hB1.trans (hw6.below (by omega))⟩
  · have HN := Lib.hid (show (n == 0) = false by rw [beq_eq_false_iff_ne]; exact hn0)
    have hq : ((n : Int) == 0) = false := by rw [beq_eq_false_iff_ne]; omega
    go_upto_region 5 with (fail)
    generalize hy : Fl.rSub _ (Fl.rMul _ (ofI n) c) (Fl.rMul _ a a) = y
    have HY : Hid (Fl.canon y = Fl.canon (ftBy (ofI n) a c)) := Lib.hid (by rw [← hy]; exact sub2 (mul2 rfl rfl) (mul2 rfl rfl))
    clear hy
    generalize hnn : World.drewN w1 (_ + _ + _) = wa
    have hBa : Below w.heap.size w wa := hnn ▸ below_n hB1 _
    have HRa : Hid (Mem.Blk wa (w.heap.size + 1) (l2 0 0) 29) := Lib.hid (hnn ▸ HR.out.drewN _)
    have b0 : wa.cell? ⟨w.heap.size, 0, none⟩ = some (.float .f32 a) := hnn ▸ c0
    have b1 : wa.cell? ⟨w.heap.size, 1, none⟩ = some (.float .f32 b) := hnn ▸ c1
    have b3 : wa.cell? ⟨w.heap.size, 3, none⟩ = some (.float .f32 d) := hnn ▸ c3
    have lwa : wa.heap.size = w.heap.size + 2 := by rw [← hnn]; exact hz1
    have lwa' : w.heap.size < wa.heap.size := by omega
    clear hnn c0 c1 c2 c3 HR
    go_upto_region 6 with (fail)
    generalize hx : Fl.rDiv _ (Fl.rSub _ (Fl.rMul _ (ofI n) d) (Fl.rMul _ a b)) y = s
    have HS : Hid (Fl.canon s = Fl.canon (ftS (ofI n) a b c d)) := Lib.hid (by rw [← hx]; exact div2 (sub2 (mul2 rfl rfl) (mul2 rfl rfl)) HY.out)
    clear hx
    generalize hnn : World.drewN wa (_ + _ + _ + _) = w2
    have hB2 : Below w.heap.size w w2 := hnn ▸ below_n hBa _
    have HR2 : Hid (Mem.Blk w2 (w.heap.size + 1) (l2 0 0) 29) := Lib.hid (hnn ▸ HRa.out.drewN _)
    have f0 : w2.cell? ⟨w.heap.size, 0, none⟩ = some (.float .f32 a) := hnn ▸ b0
    have f1 : w2.cell? ⟨w.heap.size, 1, none⟩ = some (.float .f32 b) := hnn ▸ b1
    have lw2 : w2.heap.size = w.heap.size + 2 := by rw [← hnn]; exact lwa
    have lw2' : w.heap.size < w2.heap.size := by omega
    clear hnn b0 b1 b3 HRa lwa lwa'
    go_wp2_with fail
    generalize ht : Fl.rDiv _ (Fl.rSub _ b (Fl.rMul _ s a)) (ofI n) = t
    have HT : Hid (Fl.canon t = Fl.canon (ftB (ofI n) a b c d)) := Lib.hid (by rw [← ht]; exact div2 (sub2 rfl (mul2 HS.out rfl)) rfl)
    clear ht
    refine (checkedLine_calls s t y _).mono ?_
    have HK : Hid (ckOk s t y = ftOk (ofI n) a b c d) := Lib.hid (by unfold ckOk ftOk; rw [eq0_same HY.out, vLine_same HS.out HT.out])
    rw [HK.out]
    rintro e w4 ⟨u, v, rfl, hu, hv, hb4⟩
    have HU : Hid (Fl.canon u = Fl.canon (fiS n a b c d)) := Lib.hid (by
      rw [ES.out, HN.out, sel_f, hu]
      cases ftOk (ofI n) a b c d <;> first | rfl | exact HS.out)
    have HV : Hid (Fl.canon v = Fl.canon (fiB n a b c d)) := Lib.hid (by
      rw [EB.out, HN.out, sel_f, hv]
      cases ftOk (ofI n) a b c d <;> first | rfl | exact HT.out)
    have hbb : Below w2.heap.size w2 w4 := (below_n (Below.refl w2.heap.size w2) _).trans hb4
    have hB4 := hB2.trans (hbb.mono hB2.size)
    have HR4 := Lib.hid (HR2.out.below hbb HR2.out.lt)
    clear hu hv hb4 f0 f1 hbb
    go_wp2_with (with_reducible refine Mem.wpList_storeA rfl 29 _ _ rfl (w.heap.size + 1) 0 rfl (l2 u v) _ rfl _ HR4.out (by kernel_rfl) (by simp [l2]) (by simp [Value.oneCell', l2]) ?_; intro w6 hw6)
    have hb6 : Mem.Blk w6 (w.heap.size + 1) (l2 u v) 29 := by simpa [l2] using hw6.blk
    exact bodyPost_ret (v := .tuple #[.agg (l2 u v).toArray, _]) (Mem.results_cellA_tmp Try.results110 _ (w.heap.size + 1) (l2 u v) 29 _ _ rfl rfl hb6 Try.underlying29 rfl (by kernel_rfl)) rfl
      ⟨u, v, by rw [EC.out, HN.out]; rfl, HU.out, HV.out, hB4.trans (hw6.below (by omega))⟩
end Go.Proofs.Ytcihbcmdmgmonaa
