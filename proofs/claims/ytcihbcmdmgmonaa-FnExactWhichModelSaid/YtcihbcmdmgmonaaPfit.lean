/-
  The fit of some sums: what both programs answer.
-/
import Derived.Test.YtcihbcmdmgmonaaPleft
import Derived.Test.YtcihbcmdmgmonaaPline
import Derived.Test.YtcihbcmdmgmonaaMemB
import Derived.Test.YtcihbcmdmgmonaaLie
namespace Go.Proofs.Ytcihbcmdmgmonaa
open Go.RowKit

theorem vPlain_same {a b : Nat} (h : Fl.canon a = Fl.canon b) : vPlain a = vPlain b := by
  unfold vPlain
  rw [← Fl.ge_canon_left a, ← Fl.le_canon_left a, h, Fl.ge_canon_left, Fl.le_canon_left]
theorem vLine_same {a b c d : Nat} (h : Fl.canon a = Fl.canon c) (h' : Fl.canon b = Fl.canon d) : vLine a b = vLine c d := by
  unfold vLine; rw [vPlain_same h, vPlain_same h']
theorem eq0_same {a b : Nat} (h : Fl.canon a = Fl.canon b) : Fl.eq a 0 = Fl.eq b 0 := by
  rw [← Fl.eq_canon_left a, h, Fl.eq_canon_left]

/-- A line and a code. -/
def RetLC (s t : Nat) (c : Int) (W : World) (e : Ending) (W' : World) : Prop :=
  ∃ u v, e = .returned (.tuple #[.agg #[.float .f32 u, .float .f32 v], .int .i64 c]) ∧ Fl.canon u = Fl.canon s ∧ Fl.canon v = Fl.canon t ∧ Below W.heap.size W W'

def ftTop (n a b d : Nat) : Nat := Fl.sub (Fl.mul n d) (Fl.mul a b)
def ftBy (n a c : Nat) : Nat := Fl.sub (Fl.mul n c) (Fl.mul a a)
def ftS (n a b c d : Nat) : Nat := Fl.div (ftTop n a b d) (ftBy n a c)
def ftB (n a b c d : Nat) : Nat := Fl.div (Fl.sub b (Fl.mul (ftS n a b c d) a)) n
def ftOk (n a b c d : Nat) : Bool := !Fl.eq (ftBy n a c) 0 && vLine (ftS n a b c d) (ftB n a b c d)
/-- The fit: 0 in the place of n is no dots. -/
def fiS (n : Nat) (a b c d : Nat) : Nat := sel (n == 0) 0 (sel (ftOk (ofI n) a b c d) (ftS (ofI n) a b c d) 0)
def fiB (n : Nat) (a b c d : Nat) : Nat := sel (n == 0) 0 (sel (ftOk (ofI n) a b c d) (ftB (ofI n) a b c d) 0)
def fiC (n : Nat) (a b c d : Nat) : Int := sel (n == 0) 6 (sel (ftOk (ofI n) a b c d) 0 4)

section
variable {W1 W2 W3 W4 W5 : World}
theorem mul2 {W : World} {x y u v : Nat} (h : Fl.canon x = Fl.canon u) (h' : Fl.canon y = Fl.canon v) : Fl.canon (Fl.rMul W x y) = Fl.canon (Fl.mul u v) := by
  rw [Fl.canon_rMul, Fl.canon_mulv]; exact (Fl.mul_of h h').trans (Fl.mul_canon _ _)
theorem sub2 {W : World} {x y u v : Nat} (h : Fl.canon x = Fl.canon u) (h' : Fl.canon y = Fl.canon v) : Fl.canon (Fl.rSub W x y) = Fl.canon (Fl.sub u v) := by
  rw [Fl.canon_rSub, Fl.canon_subv]; exact (Fl.sub_of h h').trans (Fl.sub_canon _ _)
theorem div2 {W : World} {x y u v : Nat} (h : Fl.canon x = Fl.canon u) (h' : Fl.canon y = Fl.canon v) : Fl.canon (Fl.rDiv W x y) = Fl.canon (Fl.div u v) := by
  rw [Fl.canon_rDiv, Fl.canon_divv]; exact (Fl.div_of h h').trans (Fl.div_canon _ _)
end
theorem mul_same {x y u v : Nat} (h : Fl.canon x = Fl.canon u) (h' : Fl.canon y = Fl.canon v) : Fl.canon (Fl.mul x y) = Fl.canon (Fl.mul u v) := by rw [← Fl.mul_canon x, h, h', Fl.mul_canon]
theorem sub_same {x y u v : Nat} (h : Fl.canon x = Fl.canon u) (h' : Fl.canon y = Fl.canon v) : Fl.canon (Fl.sub x y) = Fl.canon (Fl.sub u v) := by rw [← Fl.sub_canon x, h, h', Fl.sub_canon]
theorem div_same {x y u v : Nat} (h : Fl.canon x = Fl.canon u) (h' : Fl.canon y = Fl.canon v) : Fl.canon (Fl.div x y) = Fl.canon (Fl.div u v) := by rw [← Fl.div_canon x, h, h', Fl.div_canon]
theorem ftBy_same {n a c a' c' : Nat} (ha : Fl.canon a = Fl.canon a') (hc : Fl.canon c = Fl.canon c') : Fl.canon (ftBy n a c) = Fl.canon (ftBy n a' c') := sub_same (mul_same rfl hc) (mul_same ha ha)
theorem ftS_same {n a b c d a' b' c' d' : Nat} (ha : Fl.canon a = Fl.canon a') (hb : Fl.canon b = Fl.canon b') (hc : Fl.canon c = Fl.canon c') (hd : Fl.canon d = Fl.canon d') : Fl.canon (ftS n a b c d) = Fl.canon (ftS n a' b' c' d') :=
  div_same (sub_same (mul_same rfl hd) (mul_same ha hb)) (ftBy_same ha hc)
theorem ftB_same {n a b c d a' b' c' d' : Nat} (ha : Fl.canon a = Fl.canon a') (hb : Fl.canon b = Fl.canon b') (hc : Fl.canon c = Fl.canon c') (hd : Fl.canon d = Fl.canon d') : Fl.canon (ftB n a b c d) = Fl.canon (ftB n a' b' c' d') :=
  div_same (sub_same hb (mul_same (ftS_same ha hb hc hd) ha)) rfl
theorem ftOk_same {n a b c d a' b' c' d' : Nat} (ha : Fl.canon a = Fl.canon a') (hb : Fl.canon b = Fl.canon b') (hc : Fl.canon c = Fl.canon c') (hd : Fl.canon d = Fl.canon d') : ftOk n a b c d = ftOk n a' b' c' d' := by
  unfold ftOk; rw [eq0_same (ftBy_same ha hc), vLine_same (ftS_same ha hb hc hd) (ftB_same ha hb hc hd)]
theorem fiC_same {n a b c d a' b' c' d' : Nat} (ha : Fl.canon a = Fl.canon a') (hb : Fl.canon b = Fl.canon b') (hc : Fl.canon c = Fl.canon c') (hd : Fl.canon d = Fl.canon d') : fiC n a b c d = fiC n a' b' c' d' := by
  unfold fiC; rw [ftOk_same ha hb hc hd]
theorem fiS_same {n a b c d a' b' c' d' : Nat} (ha : Fl.canon a = Fl.canon a') (hb : Fl.canon b = Fl.canon b') (hc : Fl.canon c = Fl.canon c') (hd : Fl.canon d = Fl.canon d') : Fl.canon (fiS n a b c d) = Fl.canon (fiS n a' b' c' d') := by
  unfold fiS; rw [ftOk_same ha hb hc hd]
  cases (n == 0) <;> cases ftOk (ofI n) a' b' c' d' <;> first | rfl | exact ftS_same ha hb hc hd
theorem fiB_same {n a b c d a' b' c' d' : Nat} (ha : Fl.canon a = Fl.canon a') (hb : Fl.canon b = Fl.canon b') (hc : Fl.canon c = Fl.canon c') (hd : Fl.canon d = Fl.canon d') : Fl.canon (fiB n a b c d) = Fl.canon (fiB n a' b' c' d') := by
  unfold fiB; rw [ftOk_same ha hb hc hd]
  cases (n == 0) <;> cases ftOk (ofI n) a' b' c' d' <;> first | rfl | exact ftB_same ha hb hc hd

def l2 (s t : Nat) : List Value := [.float .f32 s, .float .f32 t]

set_option maxHeartbeats 2000000 in
theorem l06Fit_calls (a b c d n : Nat) (w : World) :
    Calls Try.prog 89 #[.agg (s4 a b c d).toArray, .int .i64 n] w (RetLC (fiS n a b c d) (fiB n a b c d) (fiC n a b c d) w) := by
  have hcv : ∀ (W : World) (m : Int), (convert 3 22 (.int .i64 m)).run Try.prog W = .ok (.float .f32 (ofI m)) W := fun W m => run_toF32 _ _ _ _ Try.underlying22 (by rw [Try.underlying3]; rfl)
  have ES : Hid (fiS n a b c d = sel (n == 0) 0 (sel (ftOk (ofI n) a b c d) (ftS (ofI n) a b c d) 0)) := rfl
  have EB : Hid (fiB n a b c d = sel (n == 0) 0 (sel (ftOk (ofI n) a b c d) (ftB (ofI n) a b c d) 0)) := rfl
  have EC : Hid (fiC n a b c d = sel (n == 0) 6 (sel (ftOk (ofI n) a b c d) 0 4)) := rfl
  have EO : Hid (ftOk (ofI n) a b c d = (!Fl.eq (ftBy (ofI n) a c) 0 && vLine (ftS (ofI n) a b c d) (ftB (ofI n) a b c d))) := rfl
  go_enter Try.func89, Try.ntmps89
  go_upto_region 1 with (fail)
  generalize hw1 : (w.alloc _).alloc _ = w1
  have hB1 : Below w.heap.size w w1 := hw1 ▸ below_a2 w _ _
  have h0 : Mem.Blk w1 w.heap.size (s4 a b c d) 105 := hw1 ▸ (Mem.Blk.new w _ _).alloc _
  have hr : Mem.Blk w1 (w.heap.size + 1) (l2 0 0) 29 := hw1 ▸ Mem.Blk.new1 w _ _ _
  have hz1 : w1.heap.size = w.heap.size + 2 := by rw [← hw1]; simp
  have c0 : w1.cell? ⟨w.heap.size, 0, none⟩ = some (.float .f32 a) := h0.cell 0
  have c1 : w1.cell? ⟨w.heap.size, 1, none⟩ = some (.float .f32 b) := h0.cell 1
  have c2 : w1.cell? ⟨w.heap.size, 2, none⟩ = some (.float .f32 c) := h0.cell 2
  have c3 : w1.cell? ⟨w.heap.size, 3, none⟩ = some (.float .f32 d) := h0.cell 3
  have HR := Lib.hid hr
  have lw : w.heap.size < w1.heap.size := by omega
  clear hw1 h0 hr
  by_cases hn0 : n = 0
  · have HN := Lib.hid (show (n == 0) = true by rw [hn0]; rfl)
    have hq : ((n : Int) == 0) = true := by rw [beq_iff_eq]; omega
    clear c0 c1 c2 c3
    go_wp2_with (with_reducible refine Mem.wpList_storeA rfl 29 _ _ rfl (w.heap.size + 1) 0 rfl (l2 0 0) _ rfl _ HR.out (by kernel_rfl) (by simp [l2]) (by simp [Value.oneCell', l2]) ?_; intro w6 hw6)
    have hb6 : Mem.Blk w6 (w.heap.size + 1) (l2 0 0) 29 := by simpa [l2] using hw6.blk
    exact bodyPost_ret (v := .tuple #[.agg (l2 0 0).toArray, .int .i64 6]) (Mem.results_cellA_tmp Try.results89 _ (w.heap.size + 1) (l2 0 0) 29 _ _ rfl rfl hb6 Try.underlying29 rfl (by kernel_rfl)) rfl
      ⟨0, 0, by rw [EC.out, HN.out]; rfl, by rw [ES.out, HN.out]; rfl, by rw [EB.out, HN.out]; rfl, hB1.trans (hw6.below (by omega))⟩
  · have HN := Lib.hid (show (n == 0) = false by rw [beq_eq_false_iff_ne]; exact hn0)
    have hq : ((n : Int) == 0) = false := by rw [beq_eq_false_iff_ne]; omega
    go_upto_region 5 with (fail)
    generalize hx : Fl.rSub _ (Fl.rMul _ (ofI n) d) (Fl.rMul _ a b) = x
    have HX : Hid (Fl.canon x = Fl.canon (ftTop (ofI n) a b d)) := Lib.hid (by rw [← hx]; exact sub2 (mul2 rfl rfl) (mul2 rfl rfl))
    clear hx
    generalize hnn : World.drewN w1 (_ + _ + _) = wa
    have hBa : Below w.heap.size w wa := hnn ▸ below_n hB1 _
    have HRa : Hid (Mem.Blk wa (w.heap.size + 1) (l2 0 0) 29) := Lib.hid (hnn ▸ HR.out.drewN _)
    have b0 : wa.cell? ⟨w.heap.size, 0, none⟩ = some (.float .f32 a) := hnn ▸ c0
    have b1 : wa.cell? ⟨w.heap.size, 1, none⟩ = some (.float .f32 b) := hnn ▸ c1
    have b2 : wa.cell? ⟨w.heap.size, 2, none⟩ = some (.float .f32 c) := hnn ▸ c2
    have lwa : wa.heap.size = w.heap.size + 2 := by rw [← hnn]; exact hz1
    have lwa' : w.heap.size < wa.heap.size := by omega
    clear hnn c0 c1 c2 c3 HR
    go_upto_region 6 with (fail)
    generalize hy : Fl.rSub _ (Fl.rMul _ (ofI n) c) (Fl.rMul _ a a) = y
    have HY : Hid (Fl.canon y = Fl.canon (ftBy (ofI n) a c)) := Lib.hid (by rw [← hy]; exact sub2 (mul2 rfl rfl) (mul2 rfl rfl))
    clear hy
    generalize hnn : World.drewN wa (_ + _ + _) = w2
    have hB2 : Below w.heap.size w w2 := hnn ▸ below_n hBa _
    have HR2 : Hid (Mem.Blk w2 (w.heap.size + 1) (l2 0 0) 29) := Lib.hid (hnn ▸ HRa.out.drewN _)
    have e0 : w2.cell? ⟨w.heap.size, 0, none⟩ = some (.float .f32 a) := hnn ▸ b0
    have e1 : w2.cell? ⟨w.heap.size, 1, none⟩ = some (.float .f32 b) := hnn ▸ b1
    have lw2 : w2.heap.size = w.heap.size + 2 := by rw [← hnn]; exact lwa
    have lw2' : w.heap.size < w2.heap.size := by omega
    clear hnn b0 b1 b2 HRa lwa lwa'
    cases he : Fl.eq y 0
    · have HE := Lib.hid (show Fl.eq (ftBy (ofI n) a c) 0 = false from (eq0_same HY.out).symm.trans he)
      go_upto_region 9 with (fail)
      generalize hs : Fl.rDiv _ x y = s
      have HS : Hid (Fl.canon s = Fl.canon (ftS (ofI n) a b c d)) := Lib.hid (by rw [← hs]; exact div2 HX.out HY.out)
      clear hs
      generalize hnn : World.drewN w2 _ = w2'
      have hB2' : Below w.heap.size w w2' := hnn ▸ below_n hB2 _
      have HR2' : Hid (Mem.Blk w2' (w.heap.size + 1) (l2 0 0) 29) := Lib.hid (hnn ▸ HR2.out.drewN _)
      have f0 : w2'.cell? ⟨w.heap.size, 0, none⟩ = some (.float .f32 a) := hnn ▸ e0
      have f1 : w2'.cell? ⟨w.heap.size, 1, none⟩ = some (.float .f32 b) := hnn ▸ e1
      have lw3 : w2'.heap.size = w.heap.size + 2 := by rw [← hnn]; exact lw2
      have lw3' : w.heap.size < w2'.heap.size := by omega
      clear hnn e0 e1 lw2 lw2' HR2
      go_upto_region 10 with (fail)
      generalize ht : Fl.rDiv _ (Fl.rSub _ b (Fl.rMul _ s a)) (ofI n) = t
      have HT : Hid (Fl.canon t = Fl.canon (ftB (ofI n) a b c d)) := Lib.hid (by rw [← ht]; exact div2 (sub2 rfl (mul2 HS.out rfl)) rfl)
      clear ht
      generalize hnn : World.alloc _ _ = w3
      have hz3 : w3.heap.size = w.heap.size + 3 := by rw [← hnn]; simp [lw3]
      have hB3 : Below w.heap.size w w3 := hnn ▸ (below_n hB2' _).alloc (by have := hB2'.size; simp; omega) _
      have HR3 : Hid (Mem.Blk w3 (w.heap.size + 1) (l2 0 0) 29) := Lib.hid (hnn ▸ (HR2'.out.drewN _).alloc _)
      have hl3 : Mem.Blk w3 (w.heap.size + 2) (l2 s t) 29 := by
        rw [← hnn, ← lw3]
        exact Mem.Blk.new (World.drewN w2' _) (l2 s t) 29
      have e3 : w3.cell? ⟨w.heap.size + 2, 0, none⟩ = some (.float .f32 s) := hl3.cell 0
      have e4 : w3.cell? ⟨w.heap.size + 2, 1, none⟩ = some (.float .f32 t) := hl3.cell 1
      have HL := Lib.hid hl3
      clear hnn hl3 f0 f1 lw3 lw3'
      go_wp2_with fail
      refine (l06Line_calls s t _).mono ?_
      rintro e w4 ⟨rfl, hb4⟩
      have hB4 := below_call hB3 hb4
      have HR4 := Lib.hid (HR3.out.below hb4 HR3.out.lt)
      have HL4 := Lib.hid (HL.out.below hb4 HL.out.lt)
      have hv := vLine_same HS.out HT.out
      cases hvl : vLine s t
      · have HO := Lib.hid (show ftOk (ofI n) a b c d = false by rw [EO.out, HE.out, ← hv, hvl]; rfl)
        clear hv hvl e3 e4
        go_wp2_with (with_reducible refine Mem.wpList_storeA rfl 29 _ _ rfl (w.heap.size + 1) 0 rfl (l2 0 0) _ rfl _ HR4.out (by kernel_rfl) (by simp [l2]) (by simp [Value.oneCell', l2]) ?_; intro w6 hw6)
        have hb6 : Mem.Blk w6 (w.heap.size + 1) (l2 0 0) 29 := by simpa [l2] using hw6.blk
        exact bodyPost_ret (v := .tuple #[.agg (l2 0 0).toArray, .int .i64 4]) (Mem.results_cellA_tmp Try.results89 _ (w.heap.size + 1) (l2 0 0) 29 _ _ rfl rfl hb6 Try.underlying29 rfl (by kernel_rfl)) rfl
          ⟨0, 0, by rw [EC.out, HN.out, HO.out]; rfl, by rw [ES.out, HN.out, HO.out]; rfl, by rw [EB.out, HN.out, HO.out]; rfl, hB4.trans (hw6.below (by omega))⟩
      · have HO := Lib.hid (show ftOk (ofI n) a b c d = true by rw [EO.out, HE.out, ← hv, hvl]; rfl)
        have f3 : w4.cell? ⟨w.heap.size + 2, 0, none⟩ = some (.float .f32 s) := HL4.out.cell 0
        have f4 : w4.cell? ⟨w.heap.size + 2, 1, none⟩ = some (.float .f32 t) := HL4.out.cell 1
        have lw4 : w.heap.size + 2 < w4.heap.size := HL4.out.lt
        clear hv hvl e3 e4
        go_wp2_with (with_reducible refine Mem.wpList_storeA rfl 29 _ _ rfl (w.heap.size + 1) 0 rfl (l2 s t) _ rfl _ HR4.out (by kernel_rfl) (by simp [l2]) (by simp [Value.oneCell', l2]) ?_; intro w6 hw6)
        have hb6 : Mem.Blk w6 (w.heap.size + 1) (l2 s t) 29 := by simpa [l2] using hw6.blk
        exact bodyPost_ret (v := .tuple #[.agg (l2 s t).toArray, .int .i64 0]) (Mem.results_cellA_tmp Try.results89 _ (w.heap.size + 1) (l2 s t) 29 _ _ rfl rfl hb6 Try.underlying29 rfl (by kernel_rfl)) rfl
          ⟨s, t, by rw [EC.out, HN.out, HO.out]; rfl, by rw [ES.out, HN.out, HO.out]; exact HS.out, by rw [EB.out, HN.out, HO.out]; exact HT.out, hB4.trans (hw6.below (by omega))⟩
    · have HO := Lib.hid (show ftOk (ofI n) a b c d = false by rw [EO.out, ← eq0_same HY.out, he]; rfl)
      clear e0 e1
      go_wp2_with (with_reducible refine Mem.wpList_storeA rfl 29 _ _ rfl (w.heap.size + 1) 0 rfl (l2 0 0) _ rfl _ HR2.out (by kernel_rfl) (by simp [l2]) (by simp [Value.oneCell', l2]) ?_; intro w6 hw6)
      have hb6 : Mem.Blk w6 (w.heap.size + 1) (l2 0 0) 29 := by simpa [l2] using hw6.blk
      exact bodyPost_ret (v := .tuple #[.agg (l2 0 0).toArray, .int .i64 4]) (Mem.results_cellA_tmp Try.results89 _ (w.heap.size + 1) (l2 0 0) 29 _ _ rfl rfl hb6 Try.underlying29 rfl (by kernel_rfl)) rfl
        ⟨0, 0, by rw [EC.out, HN.out, HO.out]; rfl, by rw [ES.out, HN.out, HO.out]; rfl, by rw [EB.out, HN.out, HO.out]; rfl, hB2.trans (hw6.below (by omega))⟩
end Go.Proofs.Ytcihbcmdmgmonaa
