/-
  The sum of the squares of the rests: what both programs answer, and the law's walk.
-/
import Derived.Test.YtcihbcmdmgmonaaPsq
import Derived.Test.YtcihbcmdmgmonaaPline
import Derived.Test.YtcihbcmdmgmonaaSel
import Derived.Test.YtcihbcmdmgmonaaPdotS
namespace Go.Proofs.Ytcihbcmdmgmonaa
open Go.RowKit

/-- A line and dots are valid. -/
def vFit (s t : Nat) (ds : List (Nat × Nat)) : Bool := vLine s t && vDots ds

set_option maxHeartbeats 1000000 in
theorem areFitted_calls (s t : Nat) (b o cap : Nat) (ds : List (Nat × Nat)) (w : World) (hd : HoldsD w b o ds) (hb : b < w.heap.size) (hl : ds.length ≤ 1048576) :
    Calls Try.prog 67 #[.agg #[.float .f32 s, .float .f32 t], .slice (some ⟨b, o, none⟩) ds.length cap] w (RetBool (vFit s t ds) w) := by
  have HD := Lib.hid hd
  have hm : ds.length ≤ maxLen := by unfold maxLen; omega
  have HM := Lib.hid hm
  have HS : Hid (vFit s t ds = (vLine s t && vDots ds)) := rfl
  clear hd hm
  go_enter Try.func67, Try.ntmps67
  go_upto_region 1 with (fail)
  generalize hw1 : w.alloc _ = w1
  have hb1 : Below w.heap.size w w1 := hw1 ▸ below_a1 w _
  have c0 : w1.cell? ⟨w.heap.size, 0, none⟩ = some (.float .f32 s) := by rw [← hw1]; simp [go_sem]
  have c1 : w1.cell? ⟨w.heap.size, 1, none⟩ = some (.float .f32 t) := by rw [← hw1]; simp [go_sem]
  have lw : w.heap.size < w1.heap.size := by rw [← hw1]; simp
  clear hw1
  go_wp2_with fail
  refine (implValidLine_calls _ _ _).mono ?_
  rintro e w2 ⟨rfl, hb2⟩
  have hB := below_call hb1 hb2
  clear c0 c1
  cases h1 : vLine s t
  · have H1 := Lib.hid h1
    clear h1
    go_wp2_with fail
    go_ret
    exact ⟨by rw [HS.out, H1.out]; rfl, hB⟩
  · have H1 := Lib.hid h1
    clear h1
    go_wp2_with fail
    refine (implValidDots_calls b o _ ds _ (HD.out.below hB hb) (by have := hB.size; omega) HM.out).mono ?_
    rintro e w3 ⟨rfl, hb3⟩
    go_wp2_with fail
    go_ret
    exact ⟨by rw [HS.out, H1.out]; rfl, below_call hB hb3⟩

set_option maxHeartbeats 1000000 in
theorem specSquareSum_calls (s t : Nat) (b o cap : Nat) (ds : List (Nat × Nat)) (w : World) (hd : HoldsD w b o ds) (hb : b < w.heap.size) (hl : ds.length ≤ 1048576) :
    Calls Try.prog 14 #[.agg #[.float .f32 s, .float .f32 t], .slice (some ⟨b, o, none⟩) ds.length cap] w (RetFC (sel (vFit s t ds) (sqL (restL s t ds)) 0) (sel (vFit s t ds) 0 1) w) := by
  have HD := Lib.hid hd
  have hm : ds.length ≤ maxLen := by unfold maxLen; omega
  have HM := Lib.hid hm
  have HS : Hid (vFit s t ds = (vLine s t && vDots ds)) := rfl
  clear hd hm
  go_enter Try.func14, Try.ntmps14
  go_upto_region 1 with (fail)
  generalize hw1 : w.alloc _ = w1
  have hb1 : Below w.heap.size w w1 := hw1 ▸ below_a1 w _
  have c0 : w1.cell? ⟨w.heap.size, 0, none⟩ = some (.float .f32 s) := by rw [← hw1]; simp [go_sem]
  have c1 : w1.cell? ⟨w.heap.size, 1, none⟩ = some (.float .f32 t) := by rw [← hw1]; simp [go_sem]
  have lw : w.heap.size < w1.heap.size := by rw [← hw1]; simp
  clear hw1
  go_wp2_with fail
  refine (l06Line_calls _ _ _).mono ?_
  rintro e w2 ⟨rfl, hb2⟩
  have hB := below_call hb1 hb2
  have c02 := (hb2.cell (p := ⟨w.heap.size, 0, none⟩) (by show w.heap.size < _; omega)).trans c0
  have c12 := (hb2.cell (p := ⟨w.heap.size, 1, none⟩) (by show w.heap.size < _; omega)).trans c1
  have lw2 : w.heap.size < w2.heap.size := by have := hb2.size; omega
  clear c0 c1
  cases h1 : vLine s t
  · have H1 := Lib.hid (show vFit s t ds = false by rw [HS.out, h1]; rfl)
    clear h1
    go_wp2_with fail
    go_ret2
    exact ⟨0, by rw [H1.out]; rfl, by rw [H1.out]; rfl, hB⟩
  · have H1 := Lib.hid h1
    clear h1
    go_wp2_with fail
    refine (l06Ok_calls b o _ ds _ (HD.out.below hB hb) (by have := hB.size; omega) HM.out).mono ?_
    rintro e w3 ⟨rfl, rfl⟩
    cases h2 : vDots ds
    · have H2 := Lib.hid (show vFit s t ds = false by rw [HS.out, H1.out, h2]; rfl)
      clear h2
      go_wp2_with fail
      go_ret2
      exact ⟨0, by rw [H2.out]; rfl, by rw [H2.out]; rfl, hB⟩
    · have H2 := Lib.hid (show vFit s t ds = true by rw [HS.out, H1.out, h2]; rfl)
      clear h2
      go_wp2_with fail
      refine (l06Squares_calls s t b o _ ds _ (HD.out.below hB hb) (by have := hB.size; omega) hl).mono ?_
      rintro e w4 ⟨v, rfl, hv, hb4⟩
      have HV := Lib.hid hv
      clear hv
      go_wp2_with fail
      go_ret2
      exact ⟨v, by rw [H2.out]; rfl, by rw [H2.out]; exact HV.out, below_call hB hb4⟩

set_option maxHeartbeats 1000000 in
theorem implSquareSum_calls (s t : Nat) (b o cap : Nat) (ds : List (Nat × Nat)) (w : World) (hd : HoldsD w b o ds) (hb : b < w.heap.size) (hl : ds.length ≤ 1048576) :
    Calls Try.prog 17 #[.agg #[.float .f32 s, .float .f32 t], .slice (some ⟨b, o, none⟩) ds.length cap] w (RetFC (sel (vFit s t ds) (sqL (restL s t ds)) 0) (sel (vFit s t ds) 0 1) w) := by
  have HD := Lib.hid hd
  have hm : ds.length ≤ maxLen := by unfold maxLen; omega
  have HM := Lib.hid hm
  have HS : Hid (vFit s t ds = (vLine s t && vDots ds)) := rfl
  clear hd hm
  go_enter Try.func17, Try.ntmps17
  go_upto_region 1 with (fail)
  generalize hw1 : w.alloc _ = w1
  have hb1 : Below w.heap.size w w1 := hw1 ▸ below_a1 w _
  have c0 : w1.cell? ⟨w.heap.size, 0, none⟩ = some (.float .f32 s) := by rw [← hw1]; simp [go_sem]
  have c1 : w1.cell? ⟨w.heap.size, 1, none⟩ = some (.float .f32 t) := by rw [← hw1]; simp [go_sem]
  have lw : w.heap.size < w1.heap.size := by rw [← hw1]; simp
  clear hw1
  go_wp2_with fail
  refine (areFitted_calls s t b o _ ds _ (HD.out.below hb1 hb) (by have := hb1.size; omega) hl).mono ?_
  rintro e w2 ⟨rfl, hb2⟩
  have hB := below_call hb1 hb2
  have c02 := (hb2.cell (p := ⟨w.heap.size, 0, none⟩) (by show w.heap.size < _; omega)).trans c0
  have c12 := (hb2.cell (p := ⟨w.heap.size, 1, none⟩) (by show w.heap.size < _; omega)).trans c1
  have lw2 : w.heap.size < w2.heap.size := by have := hb2.size; omega
  clear c0 c1
  cases h1 : vFit s t ds
  · have H1 := Lib.hid h1
    clear h1
    go_wp2_with fail
    go_ret2
    exact ⟨0, by rw [H1.out]; rfl, by rw [H1.out]; rfl, hB⟩
  · have H2 := Lib.hid h1
    clear h1
    go_wp2_with fail
    refine (squares_calls s t b o _ ds _ (HD.out.below hB hb) (by have := hB.size; omega) hl).mono ?_
    rintro e w4 ⟨v, rfl, hv, hb4⟩
    have HV := Lib.hid hv
    clear hv
    go_wp2_with fail
    go_ret2
    exact ⟨v, by rw [H2.out]; rfl, by rw [H2.out]; exact HV.out, below_call hB hb4⟩

set_option maxHeartbeats 1000000 in
theorem fnExactSquareSum_walk (s t : Nat) (ds : List (Nat × Nat)) (ad : Option Addr) (cap : Nat) (w : World) (hd : SlD w ad ds) (hl : ds.length ≤ maxLen) :
    Calls Try.prog 3 #[.agg #[.float .f32 s, .float .f32 t], .slice ad ds.length cap] w (RetBool true w) := by
  have hl' := hl
  unfold maxLen at hl'
  have HD := Lib.hid hd
  have HL := Lib.hid hl
  clear hd hl
  go_enter Try.func3, Try.ntmps3
  go_upto_region 1 with (fail)
  generalize hw1 : w.alloc _ = w1
  have hb1 : Below w.heap.size w w1 := hw1 ▸ below_a1 w _
  have c0 : w1.cell? ⟨w.heap.size, 0, none⟩ = some (.float .f32 s) := by rw [← hw1]; simp [go_sem]
  have c1 : w1.cell? ⟨w.heap.size, 1, none⟩ = some (.float .f32 t) := by rw [← hw1]; simp [go_sem]
  have lw : w.heap.size < w1.heap.size := by rw [← hw1]; simp
  clear hw1
  go_wp2_with fail
  refine (szDotS_calls _ _ _ _ _ (by omega) (by omega) (by omega)).mono ?_
  rintro e w2 ⟨rfl, rfl⟩
  by_cases h20 : 1048576 - (ds.length : Int) < 0
  · rw [if_pos h20]
    clear c0 c1
    go_wp2_with fail
    go_ret
    exact ⟨rfl, hb1⟩
  · rw [if_neg h20]
    have hn : ds.length ≤ 1048576 := by omega
    go_wp2_with fail
    refine (toLine_calls _ _ _).mono ?_
    rintro e w3 ⟨rfl, hb3⟩
    have hB3 := below_call hb1 hb3
    go_wp2_with fail
    refine (toDotS_calls ad cap ds _ (HD.out.below hB3) hn).mono ?_
    rintro e w4 ⟨g4, rfl, hg4, hblk4, hb4⟩
    have HB4 := Lib.hid hblk4
    have hB4 := below_call hB3 hb4
    clear hblk4
    go_wp2_with fail
    refine (specSquareSum_calls s t g4 0 _ ds _ (holds_blk HB4.out) HB4.out.lt hn).mono ?_
    rintro e w5 ⟨v, rfl, hv, hb5⟩
    have HV := Lib.hid hv
    have hB5 := below_call hB4 hb5
    have hP5 : Below w2.heap.size w2 w5 := (hb3.trans (hb4.mono hb3.size)).trans (hb5.mono (by have := hb3.size; have := hb4.size; omega))
    have d0 := (hP5.cell (p := ⟨w.heap.size, 0, none⟩) lw).trans c0
    have d1 := (hP5.cell (p := ⟨w.heap.size, 1, none⟩) lw).trans c1
    clear hv hb3 hb4 hb5 c0 c1 hB3 hB4 HB4 hg4
    go_wp2_with fail
    refine (toDotS_calls ad cap ds _ (HD.out.below hB5) hn).mono ?_
    rintro e w6 ⟨g6, rfl, hg6, hblk6, hb6⟩
    have HB6 := Lib.hid hblk6
    have hB6 := below_call hB5 hb6
    have z5 := hP5.size
    have e0 := (hb6.cell (p := ⟨w.heap.size, 0, none⟩) (by show w.heap.size < _; omega)).trans d0
    have e1 := (hb6.cell (p := ⟨w.heap.size, 1, none⟩) (by show w.heap.size < _; omega)).trans d1
    clear hblk6 d0 d1 hg6
    go_wp2_with fail
    refine (toLine_calls _ _ _).mono ?_
    rintro e w7 ⟨rfl, hb7⟩
    have hB7 := below_call hB6 hb7
    have HB7 := Lib.hid (HB6.out.below hb7 HB6.out.lt)
    clear e0 e1
    go_wp2_with fail
    refine (implSquareSum_calls s t g6 0 _ ds _ (holds_blk HB7.out) HB7.out.lt hn).mono ?_
    rintro e w8 ⟨u, rfl, hu, hb8⟩
    have HU := Lib.hid hu
    have hB8 := below_call hB7 hb8
    have HB8 := Lib.hid (HB7.out.below hb8 HB7.out.lt)
    clear hu
    go_wp2_with fail
    refine (sameFloat_calls _ _ _ (Fl.same_conv (HU.out.trans HV.out.symm) _ _)).mono ?_
    rintro e w9 ⟨rfl, rfl⟩
    go_wp2_with fail
    refine (toDotS_calls ad cap ds _ (HD.out.below (below_n hB8 _)) hn).mono ?_
    rintro e w10 ⟨g10, rfl, hg10, hblk10, hb10⟩
    have HB10 := Lib.hid hblk10
    have hB10 := below_call (below_n hB8 _) hb10
    have HB8' := Lib.hid ((HB8.out.drewN _).below hb10 (HB8.out.drewN _).lt)
    clear hblk10
    go_wp2_with fail
    refine (eqDotS_calls _ _ _ _ ds ds _ (.inr ⟨g6, 0, rfl, HB8'.out.lt, holds_blk HB8'.out⟩) (.inr ⟨g10, 0, rfl, HB10.out.lt, holds_blk HB10.out⟩) (sameP_refl ds) HL.out).mono ?_
    rintro e w11 ⟨rfl, hb11⟩
    go_wp2_with fail
    all_goals go_ret
    all_goals exact ⟨rfl, below_call hB10 hb11⟩
end Go.Proofs.Ytcihbcmdmgmonaa
