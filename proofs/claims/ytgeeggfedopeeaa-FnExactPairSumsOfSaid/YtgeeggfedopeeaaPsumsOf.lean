/-
  The four sums over dots, from the first on: what both programs answer, and the law's walk.
-/
import Derived.Test.YtgeeggfedopeeaaPleft
import Derived.Test.YtgeeggfedopeeaaPdotOk
import Derived.Test.YtgeeggfedopeeaaPdotS
import Derived.Test.YtgeeggfedopeeaaSel
import Derived.Test.YtgeeggfedopeeaaRet5
namespace Go.Proofs.Ytgeeggfedopeeaa
open Go.RowKit

/-- Four numbers and a code. -/
def Ret4C (x y z t : Nat) (c : Int) (W : World) (e : Ending) (W' : World) : Prop :=
  ∃ a b d f, e = .returned (.tuple #[.float .f32 a, .float .f32 b, .float .f32 d, .float .f32 f, .int .i64 c]) ∧ Fl.canon a = Fl.canon x ∧ Fl.canon b = Fl.canon y ∧ Fl.canon d = Fl.canon z ∧ Fl.canon f = Fl.canon t ∧ Below W.heap.size W W'
def tdS (σ : List Nat → Nat) (ds : List (Nat × Nat)) (f : List (Nat × Nat) → List Nat) : Nat := sel (vDots ds) (σ (f ds)) 0

set_option maxHeartbeats 1000000 in
theorem specSumsOf_calls (b o cap : Nat) (ds : List (Nat × Nat)) (w : World) (hd : HoldsD w b o ds) (hb : b < w.heap.size) (hl : ds.length ≤ 1048576) :
    Calls Try.prog 26 #[.slice (some ⟨b, o, none⟩) ds.length cap] w (Ret4C (tdS sumL ds xsL) (tdS sumL ds ysL) (tdS sumL ds xxL) (tdS sumL ds xyL) (sel (vDots ds) 0 1) w) := by
  have HD := Lib.hid hd
  have hm : ds.length ≤ maxLen := by unfold maxLen; omega
  clear hd
  go_enter Try.func26, Try.ntmps26
  go_wp2_with fail
  refine (l06Ok_calls b o _ ds _ HD.out hb hm).mono ?_
  rintro e w2 ⟨rfl, rfl⟩
  have hB : Below w2.heap.size w2 w2 := Below.refl _ _
  cases h1 : vDots ds
  · have H1 := Lib.hid h1
    clear h1
    go_wp2_with fail
    (try simp only [Exit.inBlock, Exit.then])
    refine bodyPost_ret (results_tmp5 rfl _ _ _) rfl ?_
    exact ⟨0, 0, 0, 0, by rw [H1.out]; rfl, by unfold tdS; rw [H1.out]; rfl, by unfold tdS; rw [H1.out]; rfl, by unfold tdS; rw [H1.out]; rfl, by unfold tdS; rw [H1.out]; rfl, hB⟩
  · have H1 := Lib.hid h1
    clear h1
    go_wp2_with fail
    refine (l06Left_calls b o _ ds _ HD.out hb hl).mono ?_
    rintro e w3 ⟨x, y, z, t, rfl, hx, hy, hz, ht, hb3⟩
    have HX := Lib.hid (And.intro hx (And.intro hy (And.intro hz ht)))
    have hB3 := below_call hB hb3
    clear hx hy hz ht
    go_upto_region 4 with (fail)
    generalize hw4 : w3.alloc _ = w4
    have hB4 : Below w3.heap.size w3 w4 := hw4 ▸ below_a1 w3 _
    have hb4 : Mem.Blk w4 w3.heap.size (s4 x y z t) 64 := hw4 ▸ Mem.Blk.new w3 (s4 x y z t) 64
    have z4 : w4.heap.size = w3.heap.size + 1 := by rw [← hw4]; simp
    have c0 : w4.cell? ⟨w3.heap.size, 0, none⟩ = some (.float .f32 x) := hb4.cell 0
    have c1 : w4.cell? ⟨w3.heap.size, 1, none⟩ = some (.float .f32 y) := hb4.cell 1
    have c2 : w4.cell? ⟨w3.heap.size, 2, none⟩ = some (.float .f32 z) := hb4.cell 2
    have c3 : w4.cell? ⟨w3.heap.size, 3, none⟩ = some (.float .f32 t) := hb4.cell 3
    have l4 : w3.heap.size < w4.heap.size := by omega
    clear hw4 hb4 z4
    go_wp2_with fail
    (refine Rg.region_tail 12 (fun w' => Below (w4).heap.size w4 w') (fun _ _ _ => False) (by kernel_rfl) (by kernel_rfl) (by exact (Below.refl (w4).heap.size w4).drew) ?_; simp only [List.take_succ_cons, List.take_zero, List.drop_succ_cons, List.drop_zero])
    (repeat (first | ((with_reducible refine Rg.walk_plain rfl (fun Kz hKz wz hwz => ?_)); (have hclz : ∀ bb oo, bb < (w4).heap.size → wz.cell? ⟨bb, oo, none⟩ = (w4).cell? ⟨bb, oo, none⟩ := fun bb oo h => hwz.cell (p := ⟨bb, oo, none⟩) h); go_simp; refine hKz _ ?_; clear hKz hwz hclz Kz wz) | ((with_reducible refine Rg.walk_on ?_ (fun Kz hKz wz hwz => ?_)); (next => (go_simp; done)); (have hclz : ∀ bb oo, bb < (w4).heap.size → wz.cell? ⟨bb, oo, none⟩ = (w4).cell? ⟨bb, oo, none⟩ := fun bb oo h => hwz.cell (p := ⟨bb, oo, none⟩) h); go_simp; refine hKz _ ?_; clear hKz hwz hclz Kz wz) | ((with_reducible refine Rg.walk_step (fun Kz hKz => ?_)); go_simp; refine hKz _ ?_; clear hKz Kz)))
    refine Rg.walk_nil ?_
    intro w5 hw5
    clear c0 c1 c2 c3
    go_wp2_with fail
    (try simp only [Exit.inBlock, Exit.then])
    refine bodyPost_ret (results_tmp5 rfl _ _ _) rfl ?_
    exact ⟨x, y, z, t, by rw [H1.out]; rfl, by unfold tdS; rw [H1.out]; exact HX.out.1, by unfold tdS; rw [H1.out]; exact HX.out.2.1, by unfold tdS; rw [H1.out]; exact HX.out.2.2.1, by unfold tdS; rw [H1.out]; exact HX.out.2.2.2, below_call (below_call hB3 hB4) hw5⟩

set_option maxHeartbeats 1000000 in
theorem toldSums_calls (g0 : Nat) (σ : List Nat → Nat) (hs : SumsF Try.prog g0 σ) (b o cap : Nat) (ds : List (Nat × Nat)) (w : World) (hd : HoldsD w b o ds) (hb : b < w.heap.size) (hl : ds.length ≤ 1048576) :
    Calls Try.prog 55 #[.slice (some ⟨b, o, none⟩) ds.length cap, .func (.func g0) #[] #[]] w (Ret4C (tdS σ ds xsL) (tdS σ ds ysL) (tdS σ ds xxL) (tdS σ ds xyL) (sel (vDots ds) 0 1) w) := by
  have HD := Lib.hid hd
  have HS := Lib.hid hs
  have hm : ds.length ≤ maxLen := by unfold maxLen; omega
  clear hd hs
  go_enter Try.func55, Try.ntmps55
  go_wp2_with fail
  refine (implValidDots_calls b o _ ds _ HD.out hb hm).mono ?_
  rintro e w2 ⟨rfl, hB⟩
  cases h1 : vDots ds
  · have H1 := Lib.hid h1
    clear h1
    go_wp2_with fail
    (try simp only [Exit.inBlock, Exit.then])
    refine bodyPost_ret (results_tmp5 rfl _ _ _) rfl ?_
    exact ⟨0, 0, 0, 0, by rw [H1.out]; rfl, by unfold tdS; rw [H1.out]; rfl, by unfold tdS; rw [H1.out]; rfl, by unfold tdS; rw [H1.out]; rfl, by unfold tdS; rw [H1.out]; rfl, hB⟩
  · have H1 := Lib.hid h1
    clear h1
    go_wp2_with fail
    refine (sumsBy_calls g0 σ b o _ ds _ (HD.out.below hB hb) (by have := hB.size; omega) hl HS.out).mono ?_
    rintro e w3 ⟨x, y, z, t, rfl, hx, hy, hz, ht, hb3⟩
    have HX := Lib.hid (And.intro hx (And.intro hy (And.intro hz ht)))
    have hB3 := below_call hB hb3
    clear hx hy hz ht
    go_upto_region 4 with (fail)
    generalize hw4 : w3.alloc _ = w4
    have hB4 : Below w3.heap.size w3 w4 := hw4 ▸ below_a1 w3 _
    have hb4 : Mem.Blk w4 w3.heap.size (s4 x y z t) 71 := hw4 ▸ Mem.Blk.new w3 (s4 x y z t) 71
    have z4 : w4.heap.size = w3.heap.size + 1 := by rw [← hw4]; simp
    have c0 : w4.cell? ⟨w3.heap.size, 0, none⟩ = some (.float .f32 x) := hb4.cell 0
    have c1 : w4.cell? ⟨w3.heap.size, 1, none⟩ = some (.float .f32 y) := hb4.cell 1
    have c2 : w4.cell? ⟨w3.heap.size, 2, none⟩ = some (.float .f32 z) := hb4.cell 2
    have c3 : w4.cell? ⟨w3.heap.size, 3, none⟩ = some (.float .f32 t) := hb4.cell 3
    have l4 : w3.heap.size < w4.heap.size := by omega
    clear hw4 hb4 z4
    go_wp2_with fail
    (refine Rg.region_tail 12 (fun w' => Below (w4).heap.size w4 w') (fun _ _ _ => False) (by kernel_rfl) (by kernel_rfl) (by exact (Below.refl (w4).heap.size w4).drew) ?_; simp only [List.take_succ_cons, List.take_zero, List.drop_succ_cons, List.drop_zero])
    (repeat (first | ((with_reducible refine Rg.walk_plain rfl (fun Kz hKz wz hwz => ?_)); (have hclz : ∀ bb oo, bb < (w4).heap.size → wz.cell? ⟨bb, oo, none⟩ = (w4).cell? ⟨bb, oo, none⟩ := fun bb oo h => hwz.cell (p := ⟨bb, oo, none⟩) h); go_simp; refine hKz _ ?_; clear hKz hwz hclz Kz wz) | ((with_reducible refine Rg.walk_on ?_ (fun Kz hKz wz hwz => ?_)); (next => (go_simp; done)); (have hclz : ∀ bb oo, bb < (w4).heap.size → wz.cell? ⟨bb, oo, none⟩ = (w4).cell? ⟨bb, oo, none⟩ := fun bb oo h => hwz.cell (p := ⟨bb, oo, none⟩) h); go_simp; refine hKz _ ?_; clear hKz hwz hclz Kz wz) | ((with_reducible refine Rg.walk_step (fun Kz hKz => ?_)); go_simp; refine hKz _ ?_; clear hKz Kz)))
    refine Rg.walk_nil ?_
    intro w5 hw5
    clear c0 c1 c2 c3
    go_wp2_with fail
    (try simp only [Exit.inBlock, Exit.then])
    refine bodyPost_ret (results_tmp5 rfl _ _ _) rfl ?_
    exact ⟨x, y, z, t, by rw [H1.out]; rfl, by unfold tdS; rw [H1.out]; exact HX.out.1, by unfold tdS; rw [H1.out]; exact HX.out.2.1, by unfold tdS; rw [H1.out]; exact HX.out.2.2.1, by unfold tdS; rw [H1.out]; exact HX.out.2.2.2, below_call (below_call hB3 hB4) hw5⟩

set_option maxHeartbeats 1000000 in
theorem implSumsOf_calls (b o cap : Nat) (ds : List (Nat × Nat)) (w : World) (hd : HoldsD w b o ds) (hb : b < w.heap.size) (hl : ds.length ≤ 1048576) :
    Calls Try.prog 27 #[.slice (some ⟨b, o, none⟩) ds.length cap] w (Ret4C (tdS sumL ds xsL) (tdS sumL ds ysL) (tdS sumL ds xxL) (tdS sumL ds xyL) (sel (vDots ds) 0 1) w) := by
  have HC := Lib.hid (toldSums_calls _ sumL sumFrom_sums b o cap ds w hd hb hl)
  clear hd
  go_enter Try.func27, Try.ntmps27
  go_wp2_with fail
  refine HC.out.mono ?_
  rintro e w2 ⟨x, y, z, t, rfl, hx, hy, hz, ht, hb3⟩
  have HX := Lib.hid (And.intro hx (And.intro hy (And.intro hz ht)))
  clear hx hy hz ht
  go_wp2_with fail
  (try simp only [Exit.inBlock, Exit.then])
  refine bodyPost_ret (results_tmp5 rfl _ _ _) rfl ?_
  exact ⟨x, y, z, t, rfl, HX.out.1, HX.out.2.1, HX.out.2.2.1, HX.out.2.2.2, hb3⟩

set_option maxHeartbeats 1000000 in
theorem fnExactSumsOf_walk (ds : List (Nat × Nat)) (ad : Option Addr) (cap : Nat) (w : World) (hd : SlD w ad ds) (hl : ds.length ≤ maxLen) :
    Calls Try.prog 7 #[.slice ad ds.length cap] w (RetBool true w) := by
  have hl' := hl
  unfold maxLen at hl'
  have HD := Lib.hid hd
  have HL := Lib.hid hl
  clear hd hl
  go_enter Try.func7, Try.ntmps7
  go_wp2_with fail
  refine (szDotS_calls _ _ _ _ _ (by omega) (by omega) (by omega)).mono ?_
  rintro e w2 ⟨rfl, rfl⟩
  have hb1 : Below w2.heap.size w2 w2 := Below.refl _ _
  by_cases h20 : 1048576 - (ds.length : Int) < 0
  · rw [if_pos h20]
    go_wp2_with fail
    go_ret
    exact ⟨rfl, hb1⟩
  · rw [if_neg h20]
    have hn : ds.length ≤ 1048576 := by omega
    go_wp2_with fail
    refine (toDotS_calls ad cap ds _ (HD.out.below hb1) hn).mono ?_
    rintro e w4 ⟨g4, rfl, hg4, hblk4, hb4⟩
    have HB4 := Lib.hid hblk4
    have hB4 := below_call hb1 hb4
    clear hblk4
    go_wp2_with fail
    refine (specSumsOf_calls g4 0 _ ds _ (holds_blk HB4.out) HB4.out.lt hn).mono ?_
    rintro e w5 ⟨v0, v1, v2, v3, rfl, hv0, hv1, hv2, hv3, hb5⟩
    have HV0 := Lib.hid hv0
    have HV1 := Lib.hid hv1
    have HV2 := Lib.hid hv2
    have HV3 := Lib.hid hv3
    have hB5 := below_call hB4 hb5
    clear hv0 hv1 hv2 hv3
    clear hb4 hb5 hB4 HB4 hg4
    go_wp2_with fail
    refine (toDotS_calls ad cap ds _ (HD.out.below hB5) hn).mono ?_
    rintro e w6 ⟨g6, rfl, hg6, hblk6, hb6⟩
    have HB6 := Lib.hid hblk6
    have hB6 := below_call hB5 hb6
    have hB7 := hB6
    have HB7 := HB6
    clear hblk6 hg6
    go_wp2_with fail
    refine (implSumsOf_calls g6 0 _ ds _ (holds_blk HB7.out) HB7.out.lt hn).mono ?_
    rintro e w8 ⟨u0, u1, u2, u3, rfl, hu0, hu1, hu2, hu3, hb8⟩
    have HU0 := Lib.hid hu0
    have HU1 := Lib.hid hu1
    have HU2 := Lib.hid hu2
    have HU3 := Lib.hid hu3
    have hB8 := below_call hB7 hb8
    have HB8 := Lib.hid (HB7.out.below hb8 HB7.out.lt)
    clear hu0 hu1 hu2 hu3
    go_wp2_with fail
    refine (sameFloat_calls _ _ _ (Fl.same_conv (HU0.out.trans HV0.out.symm) _ _)).mono ?_
    rintro e w20 ⟨rfl, rfl⟩
    go_wp2_with fail
    refine (sameFloat_calls _ _ _ (Fl.same_conv (HU1.out.trans HV1.out.symm) _ _)).mono ?_
    rintro e w21 ⟨rfl, rfl⟩
    go_wp2_with fail
    refine (sameFloat_calls _ _ _ (Fl.same_conv (HU2.out.trans HV2.out.symm) _ _)).mono ?_
    rintro e w22 ⟨rfl, rfl⟩
    go_wp2_with fail
    refine (sameFloat_calls _ _ _ (Fl.same_conv (HU3.out.trans HV3.out.symm) _ _)).mono ?_
    rintro e w23 ⟨rfl, rfl⟩
    go_wp2_with fail
    refine (toDotS_calls ad cap ds _ (HD.out.below (below_n hB8 _)) hn).mono ?_
    rintro e w10 ⟨g10, rfl, hg10, hblk10, hb10⟩
    have HB10 := Lib.hid hblk10
    have hB10 := below_call (below_n hB8 _) hb10
    have HB8' := Lib.hid ((HB8.out.drewN _).below hb10 (HB8.out.drewN _).lt)
    clear hblk10
    go_wp2_with fail
    refine (eqDotS_calls _ _ _ _ ds ds _ (.inr ⟨g6, 0, rfl, HB8'.out.lt, holds_blk HB8'.out⟩) (.inr ⟨g10, 0, rfl, HB10.out.lt, holds_blk HB10.out⟩) (sameP_refl ds) HL.out).mono ?_
    rintro e w11 ⟨rfl, hb11⟩
    go_wp2_with fail
    all_goals go_ret
    all_goals exact ⟨rfl, below_call hB10 hb11⟩

end Go.Proofs.Ytgeeggfedopeeaa
