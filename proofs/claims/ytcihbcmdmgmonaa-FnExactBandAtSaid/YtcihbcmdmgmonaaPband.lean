/-
  The band around a line: what both programs answer, and the law's walk.
-/
import Derived.Test.YtcihbcmdmgmonaaPworstDot
import Derived.Test.YtcihbcmdmgmonaaRegT
namespace Go.Proofs.Ytcihbcmdmgmonaa
open Go.RowKit

theorem rsub_of {W : World} {u v x y : Nat} (hu : Fl.canon u = Fl.canon x) (hv : Fl.canon v = Fl.canon y) : Fl.canon (Fl.rSub W u v) = Fl.canon (Fl.sub x y) := by
  rw [Fl.canon_rSub, Fl.canon_subv]; exact (Fl.sub_of hu hv).trans (Fl.sub_canon _ _)
theorem radd_of {W : World} {u v x y : Nat} (hu : Fl.canon u = Fl.canon x) (hv : Fl.canon v = Fl.canon y) : Fl.canon (Fl.rAdd W u v) = Fl.canon (Fl.add x y) := by
  rw [Fl.canon_rAdd, Fl.canon_addv]; exact (Fl.add_of hu hv).trans (Fl.add_canon _ _)
def bdOk (s t : Nat) (ds : List (Nat × Nat)) (x : Nat) : Bool := vFit s t ds && vMeasure x && decide (0 < ds.length)
def bdA (s t : Nat) (ds : List (Nat × Nat)) : Nat := Fl.sizeN ((restL s t ds).getD (wAt (restL s t ds) ds.length) 0)
def bdX (s t : Nat) (ds : List (Nat × Nat)) (x : Nat) : Nat := sel (bdOk s t ds x) (Fl.sub (lineAt s t x) (bdA s t ds)) 0
def bdY (s t : Nat) (ds : List (Nat × Nat)) (x : Nat) : Nat := sel (bdOk s t ds x) (Fl.add (lineAt s t x) (bdA s t ds)) 0
def RetFFC (x y : Nat) (c : Int) (W : World) (e : Ending) (W' : World) : Prop := ∃ u v, e = .returned (.tuple #[.float .f32 u, .float .f32 v, .int .i64 c]) ∧ Fl.canon u = Fl.canon x ∧ Fl.canon v = Fl.canon y ∧ Below W.heap.size W W'
theorem bd_ask (s t : Nat) (ds : List (Nat × Nat)) (x : Nat) : bdOk s t ds x = decide (askN s t ds (vMeasure x) = 0) := by
  unfold bdOk askN
  cases vFit s t ds <;> cases vMeasure x <;> cases decide (0 < ds.length) <;> rfl

set_option maxHeartbeats 1000000 in
theorem specBandAt_calls (s t : Nat) (b o cap : Nat) (ds : List (Nat × Nat)) (x : Nat) (w : World) (hd : HoldsD w b o ds) (hb : b < w.heap.size) (hl : ds.length ≤ 1048576) :
    Calls Try.prog 33 #[.agg #[.float .f32 s, .float .f32 t], .slice (some ⟨b, o, none⟩) ds.length cap, .float .f32 x] w (RetFFC (bdX s t ds x) (bdY s t ds x) (askN s t ds (vMeasure x)) w) := by
  have HD := Lib.hid hd
  clear hd
  have HX : Hid (bdX s t ds x = sel (bdOk s t ds x) (Fl.sub (lineAt s t x) (bdA s t ds)) 0) := rfl
  have HY : Hid (bdY s t ds x = sel (bdOk s t ds x) (Fl.add (lineAt s t x) (bdA s t ds)) 0) := rfl
  have HO := Lib.hid (bd_ask s t ds x)
  go_enter Try.func33, Try.ntmps33
  go_upto_region 1 with (fail)
  generalize hw1 : w.alloc _ = w1
  have hb1 : Below w.heap.size w w1 := hw1 ▸ below_a1 w _
  have c0 : w1.cell? ⟨w.heap.size, 0, none⟩ = some (.float .f32 s) := by rw [← hw1]; simp [go_sem]
  have c1 : w1.cell? ⟨w.heap.size, 1, none⟩ = some (.float .f32 t) := by rw [← hw1]; simp [go_sem]
  have lw : w.heap.size < w1.heap.size := by rw [← hw1]; simp
  clear hw1
  have HDD := Lib.hid (HD.out.below hb1 hb)
  have lb : b < w1.heap.size := by omega
  go_wp2_with fail
  (refine Rg.region_tail 5 (fun w' => Below (w1).heap.size w1 w') (fun f args v => (f = 70 ∧ v = .bool (vMeasure x)) ∨ (f = 78 ∧ v = .int .i64 (askN s t ds (vMeasure x)))) (by kernel_rfl) (by kernel_rfl) (by exact (Below.refl (w1).heap.size w1).drew) ?_; simp only [List.take_succ_cons, List.take_zero, List.drop_succ_cons, List.drop_zero])
  (repeat (first | ((with_reducible refine Rg.walk_plain rfl (fun Kz hKz wz hwz => ?_)); (have hclz : ∀ bb oo, bb < (w1).heap.size → wz.cell? ⟨bb, oo, none⟩ = (w1).cell? ⟨bb, oo, none⟩ := fun bb oo h => hwz.cell (p := ⟨bb, oo, none⟩) h); go_simp; refine hKz _ ?_; clear hKz hwz hclz Kz wz) | ((with_reducible refine Rg.walk_on ?_ (fun Kz hKz wz hwz => ?_)); (next => (go_simp; done)); (have hclz : ∀ bb oo, bb < (w1).heap.size → wz.cell? ⟨bb, oo, none⟩ = (w1).cell? ⟨bb, oo, none⟩ := fun bb oo h => hwz.cell (p := ⟨bb, oo, none⟩) h); go_simp; refine hKz _ ?_; clear hKz hwz hclz Kz wz) | ((with_reducible refine Rg.walk_step (fun Kz hKz => ?_)); go_simp; refine hKz _ ?_; clear hKz Kz)))
  refine Rg.walk_calls rfl 70 #[.float .f32 x] (fun W hW => ⟨by go_simp, (l06Measure_calls x W).mono fun e w2 ⟨he, hw⟩ => ⟨_, he, .inl ⟨rfl, rfl⟩, by subst hw; exact hW⟩⟩) (fun u hu => ?_)
  obtain rfl : u = .bool (vMeasure x) := by rcases hu with ⟨_, h⟩ | ⟨h, _⟩; exact h; exact absurd h (by decide)
  clear hu
  refine Rg.walk_calls rfl 78 #[.agg #[.float .f32 s, .float .f32 t], .slice (some ⟨b, o, none⟩) ds.length cap, .bool (vMeasure x)] (fun W hW => ⟨by go_simp, (l06Asked_calls s t b o cap ds (vMeasure x) W (HDD.out.below hW lb) (by have := hW.size; omega) hl).mono fun e w2 ⟨he, hb2⟩ => ⟨_, he, .inr ⟨rfl, rfl⟩, below_call hW hb2⟩⟩) (fun u hu => ?_)
  obtain rfl : u = .int .i64 (askN s t ds (vMeasure x)) := by rcases hu with ⟨h, _⟩ | ⟨_, h⟩; exact absurd h (by decide); exact h
  clear hu
  refine Rg.walk_nil ?_
  intro w2 hb2
  have hB := below_call hb1 hb2
  have c02 := (hb2.cell (p := ⟨w.heap.size, 0, none⟩) (by show w.heap.size < _; omega)).trans c0
  have c12 := (hb2.cell (p := ⟨w.heap.size, 1, none⟩) (by show w.heap.size < _; omega)).trans c1
  have lw2 : w.heap.size < w2.heap.size := by have := hb2.size; omega
  clear c0 c1
  obtain ⟨cd, hcd⟩ : ∃ cd, cd = askN s t ds (vMeasure x) := ⟨_, rfl⟩
  rw [← hcd]
  have HCD := Lib.hid hcd
  clear hcd
  by_cases h0 : cd = 0
  · have HV := Lib.hid (show bdOk s t ds x = true by rw [HO.out, ← HCD.out]; exact decide_eq_true h0)
    have HP := Lib.hid (show 0 < ds.length from by
      have h := HV.out
      unfold bdOk at h
      exact of_decide_eq_true (Bool.and_eq_true_iff.1 h).2)
    subst h0
    go_wp2_with fail
    refine (l06Value_calls s t x _).mono ?_
    rintro e w3 ⟨u, rfl, hu, hb3⟩
    have HU := Lib.hid hu
    have hB3 := below_call hB hb3
    have c03 := (hb3.cell (p := ⟨w.heap.size, 0, none⟩) (by show w.heap.size < _; omega)).trans c02
    have c13 := (hb3.cell (p := ⟨w.heap.size, 1, none⟩) (by show w.heap.size < _; omega)).trans c12
    have lw3 : w.heap.size < w3.heap.size := by have := hb3.size; omega
    clear c02 c12
    clear hu
    go_wp2_with fail
    refine (l06Worst_calls s t b o _ ds _ (HD.out.below hB3 hb) (by have := hB3.size; omega) hl HP.out).mono ?_
    rintro e w4 ⟨v, rfl, hv, hb4⟩
    have HW := Lib.hid hv
    clear hv
    go_wp2_with fail
    go_ret3
    exact ⟨_, _, by rw [← HCD.out]; rfl, by rw [HX.out, HV.out]; exact rsub_of HU.out HW.out, by rw [HY.out, HV.out]; exact radd_of HU.out HW.out, below_n (below_call hB3 hb4) _⟩
  · have HV := Lib.hid (show bdOk s t ds x = false by rw [HO.out, ← HCD.out]; exact decide_eq_false h0)
    go_wp2_with fail
    go_ret3
    exact ⟨0, 0, by rw [← HCD.out]; rfl, by rw [HX.out, HV.out]; rfl, by rw [HY.out, HV.out]; rfl, hB⟩

set_option maxHeartbeats 1000000 in
theorem implBandAt_calls (s t : Nat) (b o cap : Nat) (ds : List (Nat × Nat)) (x : Nat) (w : World) (hd : HoldsD w b o ds) (hb : b < w.heap.size) (hl : ds.length ≤ 1048576) :
    Calls Try.prog 34 #[.agg #[.float .f32 s, .float .f32 t], .slice (some ⟨b, o, none⟩) ds.length cap, .float .f32 x] w (RetFFC (bdX s t ds x) (bdY s t ds x) (askN s t ds (vMeasure x)) w) := by
  have HD := Lib.hid hd
  clear hd
  have HX : Hid (bdX s t ds x = sel (bdOk s t ds x) (Fl.sub (lineAt s t x) (bdA s t ds)) 0) := rfl
  have HY : Hid (bdY s t ds x = sel (bdOk s t ds x) (Fl.add (lineAt s t x) (bdA s t ds)) 0) := rfl
  have HA : Hid (askN s t ds (vMeasure x) = sel (vFit s t ds) (sel (vMeasure x) (sel (decide (0 < ds.length)) 0 6) 2) 1) := rfl
  have HO : Hid (bdOk s t ds x = (vFit s t ds && vMeasure x && decide (0 < ds.length))) := rfl
  go_enter Try.func34, Try.ntmps34
  go_upto_region 1 with (fail)
  generalize hw1 : w.alloc _ = w1
  have hb1 : Below w.heap.size w w1 := hw1 ▸ below_a1 w _
  have c0 : w1.cell? ⟨w.heap.size, 0, none⟩ = some (.float .f32 s) := by rw [← hw1]; simp [go_sem]
  have c1 : w1.cell? ⟨w.heap.size, 1, none⟩ = some (.float .f32 t) := by rw [← hw1]; simp [go_sem]
  have lw : w.heap.size < w1.heap.size := by rw [← hw1]; simp
  clear hw1
  go_wp2_with fail
  refine (areFitted_calls s t b o _ ds _ (HD.out.below hb1 hb) (by have := hb1.size; omega) hl).mono ?_
  rintro e w2 ⟨rfl, hb2⟩
  have hB := below_call hb1 hb2
  have c02 := (hb2.cell (p := ⟨w.heap.size, 0, none⟩) (by show w.heap.size < _; omega)).trans c0
  have c12 := (hb2.cell (p := ⟨w.heap.size, 1, none⟩) (by show w.heap.size < _; omega)).trans c1
  have lw2 : w.heap.size < w2.heap.size := by have := hb2.size; omega
  clear c0 c1
  cases h1 : vFit s t ds
  · have H1 := Lib.hid h1
    clear h1
    go_wp2_with fail
    go_ret3
    exact ⟨0, 0, by rw [HA.out, H1.out]; rfl, by rw [HX.out, HO.out, H1.out]; rfl, by rw [HY.out, HO.out, H1.out]; rfl, hB⟩
  · have H1 := Lib.hid h1
    clear h1
    go_wp2_with fail
    refine (isMeasure_calls x _).mono ?_
    rintro e w3 ⟨rfl, rfl⟩
    cases h2 : vMeasure x
    · have H2 := Lib.hid h2
      clear h2
      go_wp2_with fail
      go_ret3
      exact ⟨0, 0, by rw [HA.out, H1.out, H2.out]; rfl, by rw [HX.out, HO.out, H1.out, H2.out]; rfl, by rw [HY.out, HO.out, H1.out, H2.out]; rfl, hB⟩
    · have H2 := Lib.hid h2
      clear h2
      by_cases hp : 0 < ds.length
      · have HP := Lib.hid (show decide (0 < ds.length) = true from decide_eq_true hp)
        have hp2 : (((ds.length : Nat) : Int) == 0) = false := by rw [beq_eq_false_iff_ne]; omega
        go_wp2_with fail
        refine (worst_calls s t b o _ ds _ (HD.out.below hB hb) (by have := hB.size; omega) hl hp).mono ?_
        rintro e w4 ⟨v, rfl, hv, hb4⟩
        have HW := Lib.hid hv
        have hB4 := below_call hB hb4
        have c04 := (hb4.cell (p := ⟨w.heap.size, 0, none⟩) (by show w.heap.size < _; omega)).trans c02
        have c14 := (hb4.cell (p := ⟨w.heap.size, 1, none⟩) (by show w.heap.size < _; omega)).trans c12
        have lw4 : w.heap.size < w4.heap.size := by have := hb4.size; omega
        clear c02 c12
        clear hv
        go_wp2_with fail
        (refine Rg.region_tail 11 (fun w' => Below (w4).heap.size w4 w') (fun f args v => ∃ u, v = .float .f32 u ∧ Fl.canon u = Fl.canon (lineAt s t x)) (by kernel_rfl) (by kernel_rfl) (by exact (Below.refl (w4).heap.size w4).drew) ?_; simp only [List.take_succ_cons, List.take_zero, List.drop_succ_cons, List.drop_zero])
        (repeat (first | ((with_reducible refine Rg.walk_plain rfl (fun Kz hKz wz hwz => ?_)); (have hclz : ∀ bb oo, bb < (w4).heap.size → wz.cell? ⟨bb, oo, none⟩ = (w4).cell? ⟨bb, oo, none⟩ := fun bb oo h => hwz.cell (p := ⟨bb, oo, none⟩) h); go_simp; refine hKz _ ?_; clear hKz hwz hclz Kz wz) | ((with_reducible refine Rg.walk_on ?_ (fun Kz hKz wz hwz => ?_)); (next => (go_simp; done)); (have hclz : ∀ bb oo, bb < (w4).heap.size → wz.cell? ⟨bb, oo, none⟩ = (w4).cell? ⟨bb, oo, none⟩ := fun bb oo h => hwz.cell (p := ⟨bb, oo, none⟩) h); go_simp; refine hKz _ ?_; clear hKz hwz hclz Kz wz) | ((with_reducible refine Rg.walk_step (fun Kz hKz => ?_)); go_simp; refine hKz _ ?_; clear hKz Kz)))
        refine Rg.walk_calls rfl 82 #[.agg #[.float .f32 s, .float .f32 t], .float .f32 x] (fun W hW => ⟨by go_simp, (at_calls s t x W).mono fun e w2 ⟨v, he, hc, hb2⟩ => ⟨_, he, ⟨v, rfl, hc⟩, below_call hW hb2⟩⟩) (fun u hu => ?_)
        obtain ⟨u, rfl, hu⟩ := hu
        have HU := Lib.hid hu
        clear hu
        (repeat (first | ((with_reducible refine Rg.walk_plain rfl (fun Kz hKz wz hwz => ?_)); (have hclz : ∀ bb oo, bb < (w4).heap.size → wz.cell? ⟨bb, oo, none⟩ = (w4).cell? ⟨bb, oo, none⟩ := fun bb oo h => hwz.cell (p := ⟨bb, oo, none⟩) h); go_simp; refine hKz _ ?_; clear hKz hwz hclz Kz wz) | ((with_reducible refine Rg.walk_on ?_ (fun Kz hKz wz hwz => ?_)); (next => (go_simp; done)); (have hclz : ∀ bb oo, bb < (w4).heap.size → wz.cell? ⟨bb, oo, none⟩ = (w4).cell? ⟨bb, oo, none⟩ := fun bb oo h => hwz.cell (p := ⟨bb, oo, none⟩) h); go_simp; refine hKz _ ?_; clear hKz hwz hclz Kz wz) | ((with_reducible refine Rg.walk_step (fun Kz hKz => ?_)); go_simp; refine hKz _ ?_; clear hKz Kz)))
        refine Rg.walk_plain rfl (fun K hK w1 hw1 => ?_)
        go_simp
        refine ⟨below_n hw1 _, hK _ ?_⟩
        obtain ⟨y, hy⟩ : ∃ y, y = Fl.rSub w1 u v := ⟨_, rfl⟩
        rw [← hy]
        have HYY : Hid (Fl.canon y = Fl.canon (Fl.sub (lineAt s t x) (bdA s t ds))) := by
          refine Lib.hid ?_
          rw [hy]; exact rsub_of HU.out HW.out
        clear hy hK hw1 K w1
        (repeat (first | ((with_reducible refine Rg.walk_plain rfl (fun Kz hKz wz hwz => ?_)); (have hclz : ∀ bb oo, bb < (w4).heap.size → wz.cell? ⟨bb, oo, none⟩ = (w4).cell? ⟨bb, oo, none⟩ := fun bb oo h => hwz.cell (p := ⟨bb, oo, none⟩) h); go_simp; refine hKz _ ?_; clear hKz hwz hclz Kz wz) | ((with_reducible refine Rg.walk_on ?_ (fun Kz hKz wz hwz => ?_)); (next => (go_simp; done)); (have hclz : ∀ bb oo, bb < (w4).heap.size → wz.cell? ⟨bb, oo, none⟩ = (w4).cell? ⟨bb, oo, none⟩ := fun bb oo h => hwz.cell (p := ⟨bb, oo, none⟩) h); go_simp; refine hKz _ ?_; clear hKz hwz hclz Kz wz) | ((with_reducible refine Rg.walk_step (fun Kz hKz => ?_)); go_simp; refine hKz _ ?_; clear hKz Kz)))
        refine Rg.walk_calls rfl 82 #[.agg #[.float .f32 s, .float .f32 t], .float .f32 x] (fun W hW => ⟨by go_simp, (at_calls s t x W).mono fun e w2 ⟨v, he, hc, hb2⟩ => ⟨_, he, ⟨v, rfl, hc⟩, below_call hW hb2⟩⟩) (fun u hu => ?_)
        obtain ⟨u', rfl, hu⟩ := hu
        have HU' := Lib.hid hu
        clear hu
        (repeat (first | ((with_reducible refine Rg.walk_plain rfl (fun Kz hKz wz hwz => ?_)); (have hclz : ∀ bb oo, bb < (w4).heap.size → wz.cell? ⟨bb, oo, none⟩ = (w4).cell? ⟨bb, oo, none⟩ := fun bb oo h => hwz.cell (p := ⟨bb, oo, none⟩) h); go_simp; refine hKz _ ?_; clear hKz hwz hclz Kz wz) | ((with_reducible refine Rg.walk_on ?_ (fun Kz hKz wz hwz => ?_)); (next => (go_simp; done)); (have hclz : ∀ bb oo, bb < (w4).heap.size → wz.cell? ⟨bb, oo, none⟩ = (w4).cell? ⟨bb, oo, none⟩ := fun bb oo h => hwz.cell (p := ⟨bb, oo, none⟩) h); go_simp; refine hKz _ ?_; clear hKz hwz hclz Kz wz) | ((with_reducible refine Rg.walk_step (fun Kz hKz => ?_)); go_simp; refine hKz _ ?_; clear hKz Kz)))
        refine Rg.walk_plain rfl (fun K hK w1 hw1 => ?_)
        go_simp
        refine ⟨below_n hw1 _, hK _ ?_⟩
        obtain ⟨z, hz⟩ : ∃ z, z = Fl.rAdd w1 u' v := ⟨_, rfl⟩
        rw [← hz]
        have HZZ : Hid (Fl.canon z = Fl.canon (Fl.add (lineAt s t x) (bdA s t ds))) := by
          refine Lib.hid ?_
          rw [hz]; exact radd_of HU'.out HW.out
        clear hz hK hw1 K w1
        (repeat (first | ((with_reducible refine Rg.walk_plain rfl (fun Kz hKz wz hwz => ?_)); (have hclz : ∀ bb oo, bb < (w4).heap.size → wz.cell? ⟨bb, oo, none⟩ = (w4).cell? ⟨bb, oo, none⟩ := fun bb oo h => hwz.cell (p := ⟨bb, oo, none⟩) h); go_simp; refine hKz _ ?_; clear hKz hwz hclz Kz wz) | ((with_reducible refine Rg.walk_on ?_ (fun Kz hKz wz hwz => ?_)); (next => (go_simp; done)); (have hclz : ∀ bb oo, bb < (w4).heap.size → wz.cell? ⟨bb, oo, none⟩ = (w4).cell? ⟨bb, oo, none⟩ := fun bb oo h => hwz.cell (p := ⟨bb, oo, none⟩) h); go_simp; refine hKz _ ?_; clear hKz hwz hclz Kz wz) | ((with_reducible refine Rg.walk_step (fun Kz hKz => ?_)); go_simp; refine hKz _ ?_; clear hKz Kz)))
        refine Rg.walk_nil ?_
        intro w5 hb5
        go_wp2_with fail
        go_ret3
        exact ⟨y, z, by rw [HA.out, H1.out, H2.out, HP.out]; rfl, by rw [HX.out, HO.out, H1.out, H2.out, HP.out]; exact HYY.out, by rw [HY.out, HO.out, H1.out, H2.out, HP.out]; exact HZZ.out, below_call hB4 hb5⟩
      · have HP := Lib.hid (show decide (0 < ds.length) = false from decide_eq_false hp)
        have hp2 : (((ds.length : Nat) : Int) == 0) = true := by rw [beq_iff_eq]; omega
        go_wp2_with fail
        go_ret3
        exact ⟨0, 0, by rw [HA.out, H1.out, H2.out, HP.out]; rfl, by rw [HX.out, HO.out, H1.out, H2.out, HP.out]; rfl, by rw [HY.out, HO.out, H1.out, H2.out, HP.out]; rfl, hB⟩

set_option maxHeartbeats 1000000 in
theorem fnExactBandAt_walk (s t : Nat) (ds : List (Nat × Nat)) (ad : Option Addr) (cap : Nat) (x : Nat) (w : World) (hd : SlD w ad ds) (hl : ds.length ≤ maxLen) :
    Calls Try.prog 8 #[.agg #[.float .f32 s, .float .f32 t], .slice ad ds.length cap, .float .f32 x] w (RetBool true w) := by
  have hl' := hl
  unfold maxLen at hl'
  have HD := Lib.hid hd
  have HL := Lib.hid hl
  clear hd hl
  go_enter Try.func8, Try.ntmps8
  go_upto_region 1 with (fail)
  generalize hw1 : w.alloc _ = w1
  have hb1 : Below w.heap.size w w1 := hw1 ▸ below_a1 w _
  have c0 : w1.cell? ⟨w.heap.size, 0, none⟩ = some (.float .f32 s) := by rw [← hw1]; simp [go_sem]
  have c1 : w1.cell? ⟨w.heap.size, 1, none⟩ = some (.float .f32 t) := by rw [← hw1]; simp [go_sem]
  have lw : w.heap.size < w1.heap.size := by rw [← hw1]; simp
  clear hw1
  go_wp2_with fail
  refine (szDotS_calls _ _ _ _ _ (by omega) (by omega) (by omega)).mono ?_
  rintro e w2 ⟨rfl, rfl⟩
  by_cases h20 : 1048576 - (ds.length : Int) < 0
  · rw [if_pos h20]
    clear c0 c1
    go_wp2_with fail
    go_ret
    exact ⟨rfl, hb1⟩
  · rw [if_neg h20]
    have hn : ds.length ≤ 1048576 := by omega
    go_wp2_with fail
    refine (toLine_calls _ _ _).mono ?_
    rintro e w3 ⟨rfl, hb3⟩
    have hB3 := below_call hb1 hb3
    go_wp2_with fail
    refine (toDotS_calls ad cap ds _ (HD.out.below hB3) hn).mono ?_
    rintro e w4 ⟨g4, rfl, hg4, hblk4, hb4⟩
    have HB4 := Lib.hid hblk4
    have hB4 := below_call hB3 hb4
    clear hblk4
    go_wp2_with fail
    refine (specBandAt_calls s t g4 0 _ ds x _ (holds_blk HB4.out) HB4.out.lt hn).mono ?_
    rintro e w5 ⟨v0, v1, rfl, hv0, hv1, hb5⟩
    have HV0 := Lib.hid hv0
    have HV1 := Lib.hid hv1
    have hB5 := below_call hB4 hb5
    have hP5 : Below w2.heap.size w2 w5 := (hb3.trans (hb4.mono hb3.size)).trans (hb5.mono (by have := hb3.size; have := hb4.size; omega))
    have d0 := (hP5.cell (p := ⟨w.heap.size, 0, none⟩) lw).trans c0
    have d1 := (hP5.cell (p := ⟨w.heap.size, 1, none⟩) lw).trans c1
    have z5 := hP5.size
    clear hb3 c0 c1 hB3
    clear hv0 hv1
    clear hb4 hb5 hB4 HB4 hg4
    go_wp2_with fail
    refine (toDotS_calls ad cap ds _ (HD.out.below hB5) hn).mono ?_
    rintro e w6 ⟨g6, rfl, hg6, hblk6, hb6⟩
    have HB6 := Lib.hid hblk6
    have hB6 := below_call hB5 hb6
    have e0 := (hb6.cell (p := ⟨w.heap.size, 0, none⟩) (by show w.heap.size < _; omega)).trans d0
    have e1 := (hb6.cell (p := ⟨w.heap.size, 1, none⟩) (by show w.heap.size < _; omega)).trans d1
    clear hblk6 d0 d1 hg6
    go_wp2_with fail
    refine (toLine_calls _ _ _).mono ?_
    rintro e w7 ⟨rfl, hb7⟩
    have hB7 := below_call hB6 hb7
    have HB7 := Lib.hid (HB6.out.below hb7 HB6.out.lt)
    clear e0 e1
    go_wp2_with fail
    refine (implBandAt_calls s t g6 0 _ ds x _ (holds_blk HB7.out) HB7.out.lt hn).mono ?_
    rintro e w8 ⟨u0, u1, rfl, hu0, hu1, hb8⟩
    have HU0 := Lib.hid hu0
    have HU1 := Lib.hid hu1
    have hB8 := below_call hB7 hb8
    have HB8 := Lib.hid (HB7.out.below hb8 HB7.out.lt)
    clear hu0 hu1
    go_wp2_with fail
    refine (sameFloat_calls _ _ _ (Fl.same_conv (HU0.out.trans HV0.out.symm) _ _)).mono ?_
    rintro e w20 ⟨rfl, rfl⟩
    go_wp2_with fail
    refine (sameFloat_calls _ _ _ (Fl.same_conv (HU1.out.trans HV1.out.symm) _ _)).mono ?_
    rintro e w21 ⟨rfl, rfl⟩
    go_wp2_with fail
    refine (toDotS_calls ad cap ds _ (HD.out.below (below_n hB8 _)) hn).mono ?_
    rintro e w10 ⟨g10, rfl, hg10, hblk10, hb10⟩
    have HB10 := Lib.hid hblk10
    have hB10 := below_call (below_n hB8 _) hb10
    have HB8' := Lib.hid ((HB8.out.drewN _).below hb10 (HB8.out.drewN _).lt)
    clear hblk10
    go_wp2_with fail
    refine (eqDotS_calls _ _ _ _ ds ds _ (.inr ⟨g6, 0, rfl, HB8'.out.lt, holds_blk HB8'.out⟩) (.inr ⟨g10, 0, rfl, HB10.out.lt, holds_blk HB10.out⟩) (sameP_refl ds) HL.out).mono ?_
    rintro e w11 ⟨rfl, hb11⟩
    go_wp2_with fail
    all_goals go_ret
    all_goals exact ⟨rfl, below_call hB10 hb11⟩

end Go.Proofs.Ytcihbcmdmgmonaa
