/-
  Dots shifted: what both programs answer, and the law's walk.
-/
import Derived.Test.YtcihbcmdmgmonaaPclone
import Derived.Test.YtcihbcmdmgmonaaMarkD
import Derived.Test.YtcihbcmdmgmonaaRegT
import Derived.Test.YtcihbcmdmgmonaaReg2
import Derived.Test.YtcihbcmdmgmonaaSel
import Derived.Test.YtcihbcmdmgmonaaPval
namespace Go.Proofs.Ytcihbcmdmgmonaa
open Go.RowKit

theorem sameP_push {xs es : List (Nat × Nat)} {x e : Nat × Nat} (h : SameP xs es) (h1 : Fl.canon x.1 = Fl.canon e.1) (h2 : Fl.canon x.2 = Fl.canon e.2) : SameP (xs ++ [x]) (es ++ [e]) := by
  refine ⟨by simp [h.1], fun i hi => ?_⟩
  simp only [List.length_append, List.length_singleton] at hi
  by_cases hlt : i < xs.length
  · have hlt' : i < es.length := by have := h.1; omega
    have := h.2 i hlt
    simpa [List.getD_eq_getElem?_getD, List.getElem?_append_left hlt, List.getElem?_append_left hlt'] using this
  · obtain rfl : i = xs.length := by omega
    have e1 : (xs ++ [x]).getD xs.length (0, 0) = x := by simp
    have e2 : (es ++ [e]).getD xs.length (0, 0) = e := by rw [h.1]; simp
    rw [e1, e2]; exact ⟨h1, h2⟩
theorem sameP_trans {xs ys es : List (Nat × Nat)} (h : SameP xs es) (h' : SameP ys es) : SameP xs ys :=
  ⟨h.1.trans h'.1.symm, fun i hi => ⟨(h.2 i hi).1.trans (h'.2 i (by have := h.1; have := h'.1; omega)).1.symm, (h.2 i hi).2.trans (h'.2 i (by have := h.1; have := h'.1; omega)).2.symm⟩⟩
theorem vMeasure_same {a b : Nat} (h : Fl.canon a = Fl.canon b) : vMeasure a = vMeasure b := by
  unfold vMeasure
  rw [← Fl.ge_canon_left a, ← Fl.le_canon_left a, h, Fl.ge_canon_left, Fl.le_canon_left]
theorem vDots_same {xs es : List (Nat × Nat)} (h : SameP xs es) : vDots xs = vDots es := by
  have e : xs.all vDot = es.all vDot := by
    rw [Bool.eq_iff_iff, List.all_eq_true, List.all_eq_true]
    have key : ∀ {xs es : List (Nat × Nat)}, SameP xs es → (∀ x ∈ xs, vDot x = true) → ∀ x ∈ es, vDot x = true := by
      intro xs es h hx e he
      obtain ⟨i, hi, rfl⟩ := List.getElem_of_mem he
      have hi' : i < xs.length := by have := h.1; omega
      have := hx xs[i] (List.getElem_mem hi')
      obtain ⟨h1, h2⟩ := h.2 i hi'
      have e1 : xs.getD i (0, 0) = xs[i] := by simp [hi']
      have e2 : es.getD i (0, 0) = es[i] := by simp [hi]
      rw [e1, e2] at h1 h2
      unfold vDot at this ⊢
      rw [← vMeasure_same h1, ← vMeasure_same h2]; exact this
    exact ⟨key h, key ⟨h.1.symm, fun i hi => ⟨(h.2 i (by have := h.1; omega)).1.symm, (h.2 i (by have := h.1; omega)).2.symm⟩⟩⟩
  unfold vDots
  rw [e, h.1]
theorem vPart_dummy : True := trivial

theorem eqDs_calls (ad ae : Option Addr) (cap cap' : Nat) (xs ys es : List (Nat × Nat)) (w : World) (hx : SlD w ad xs) (hy : SlD w ae ys) (h1 : SameP xs es) (h2 : SameP ys es) (hl : es.length ≤ maxLen) :
    Calls Try.prog 19 #[.slice ad es.length cap, .slice ae es.length cap'] w (RetBool true w) := by
  have h := eqDotS_calls ad ae cap cap' xs ys w hx hy (sameP_trans h1 h2) (by rw [h1.1]; exact hl)
  rw [h1.1, h2.1] at h
  exact h

/-- A slice of dots in new memory, and a code. -/
def RetDsC (es : List (Nat × Nat)) (c : Int) (W : World) (e : Ending) (W' : World) : Prop :=
  ∃ ad g cap xs, e = .returned (.tuple #[.slice ad es.length cap, .int .i64 c]) ∧ SameP xs es ∧ W.heap.size ≤ g ∧ LyD W' W.heap.size ad g xs ∧ Below W.heap.size W W'

theorem put2 (ys : List (Nat × Nat)) (k : Nat) (hk : ys.length = k) (cur : List Value) (a b : Nat) (h : k * 2 + 1 < cur.length) : ((dL ys ++ cur.drop (k * 2)).set (k * 2) (.float .f32 a)).set (k * 2 + 1) (.float .f32 b) = dL (ys ++ [(a, b)]) ++ cur.drop ((k + 1) * 2) := by
  have hl : (dL ys).length = k * 2 := by rw [dL_length, hk]
  rw [dL_append, List.set_append, hl, if_neg (Nat.lt_irrefl _), Nat.sub_self, List.set_append, hl, if_neg (by omega), List.append_assoc]
  congr 1
  rw [show k * 2 + 1 - k * 2 = 1 by omega, List.drop_eq_getElem_cons (show k * 2 < cur.length by omega), List.drop_eq_getElem_cons (show k * 2 + 1 < cur.length from h)]
  show _ = [Value.float .f32 _, .float .f32 _] ++ _
  rw [show (k + 1) * 2 = k * 2 + 1 + 1 by omega]
  rfl
theorem cur_get {cur : List Value} {ds : List (Nat × Nat)} (h : cur.take (ds.length * 2) = dL ds) (k : Nat) (hk : k < ds.length) : cur[k * 2]? = some (.float .f32 (ds.getD k (0, 0)).1) ∧ cur[k * 2 + 1]? = some (.float .f32 (ds.getD k (0, 0)).2) := by
  obtain ⟨h0, h1⟩ := dL_get ds k hk
  rw [← h, List.getElem?_take_of_lt (by omega)] at h0 h1
  exact ⟨h0, h1⟩
theorem mid_get (ys : List (Nat × Nat)) (k : Nat) (hk : ys.length = k) (cur : List Value) (j : Nat) (h : k * 2 ≤ j) : (dL ys ++ cur.drop (k * 2))[j]? = cur[j]? := by
  have hl : (dL ys).length = k * 2 := by rw [dL_length, hk]
  rw [List.getElem?_append_right (by omega), List.getElem?_drop, hl]
  congr 1; omega

/-- Dots shifted. -/
def shL (x y : Nat) (ds : List (Nat × Nat)) : List (Nat × Nat) := ds.map fun d => (Fl.add d.1 x, Fl.add d.2 y)
theorem shL_push (x y : Nat) (ds : List (Nat × Nat)) (k : Nat) (hk : k < ds.length) : shL x y (ds.take (k + 1)) = shL x y (ds.take k) ++ [(Fl.add (ds.getD k (0, 0)).1 x, Fl.add (ds.getD k (0, 0)).2 y)] := by
  have e : ds.getD k (0, 0) = ds[k] := by simp [hk]
  rw [e, List.take_succ_eq_append_getElem hk]
  simp only [shL, List.map_append, List.map_cons, List.map_nil]
theorem shL_length (x y : Nat) (ds : List (Nat × Nat)) : (shL x y ds).length = ds.length := by simp [shL]
def shE (ds : List (Nat × Nat)) (x y : Nat) : List (Nat × Nat) := sel (vDots ds) (sel (vMeasure x && vMeasure y) (sel (vDots (shL x y ds)) (shL x y ds) []) []) []
def shC (ds : List (Nat × Nat)) (x y : Nat) : Int := sel (vDots ds) (sel (vMeasure x && vMeasure y) (sel (vDots (shL x y ds)) 0 3) 2) 1
theorem shE_length (ds : List (Nat × Nat)) (x y : Nat) : (shE ds x y).length ≤ ds.length := by
  unfold shE
  cases vDots ds <;> cases (vMeasure x && vMeasure y) <;> cases vDots (shL x y ds) <;> simp [sel, shL_length]
theorem add1_of {W : World} (u x : Nat) : Fl.canon (Fl.rAdd W u x) = Fl.canon (Fl.add u x) := by rw [Fl.canon_rAdd, Fl.canon_addv]

set_option maxHeartbeats 2000000 in
theorem specShiftDots_calls (b o cap : Nat) (ds : List (Nat × Nat)) (x y : Nat) (w : World) (hd : HoldsD w b o ds) (hb : b < w.heap.size) (hl : ds.length ≤ 1048576) :
    Calls Try.prog 20 #[.slice (some ⟨b, o, none⟩) ds.length cap, .float .f32 x, .float .f32 y] w (RetDsC (shE ds x y) (shC ds x y) w) := by
  obtain ⟨i0, hi, hz0, hz1, hz2⟩ := info_parts infoDot
  have HD := Lib.hid hd
  have hm : ds.length ≤ maxLen := by unfold maxLen; omega
  have HM := Lib.hid hm
  clear hd hm
  have HE : Hid (shE ds x y = sel (vDots ds) (sel (vMeasure x && vMeasure y) (sel (vDots (shL x y ds)) (shL x y ds) []) []) []) := rfl
  have HC : Hid (shC ds x y = sel (vDots ds) (sel (vMeasure x && vMeasure y) (sel (vDots (shL x y ds)) 0 3) 2) 1) := rfl
  have HI := Lib.hid hi
  have HZ := Lib.hid (And.intro hz0 (And.intro hz1 hz2))
  clear hi hz0 hz1 hz2
  go_enter Try.func20, Try.ntmps20
  go_wp2_with fail
  refine (l06Ok_calls b o _ ds _ HD.out hb HM.out).mono ?_
  rintro e w2 ⟨rfl, rfl⟩
  cases h1 : vDots ds
  · have H1 := Lib.hid h1
    clear h1
    go_wp2_with fail
    go_ret2
    exact ⟨_, w2.heap.size, _, [], by rw [HC.out, HE.out, H1.out]; rfl, by rw [HE.out, H1.out]; exact sameP_refl [], Nat.le_refl _, .inl rfl, below_a1 _ _⟩
  · have H1 := Lib.hid h1
    clear h1
    go_wp2_with fail
    refine (l06Measure_calls x _).mono ?_
    rintro e w3 ⟨rfl, rfl⟩
    cases h2 : vMeasure x
    · have H2 := Lib.hid (show (vMeasure x && vMeasure y) = false by rw [h2]; rfl)
      clear h2
      go_wp2_with fail
      go_ret2
      exact ⟨_, w3.heap.size, _, [], by rw [HC.out, HE.out, H1.out, H2.out]; rfl, by rw [HE.out, H1.out, H2.out]; exact sameP_refl [], Nat.le_refl _, .inl rfl, below_a1 _ _⟩
    · have H2 := Lib.hid h2
      clear h2
      go_wp2_with fail
      refine (l06Measure_calls y _).mono ?_
      rintro e w4 ⟨rfl, rfl⟩
      cases h3 : vMeasure y
      · have H3 := Lib.hid (show (vMeasure x && vMeasure y) = false by rw [H2.out, h3]; rfl)
        clear h3
        go_wp2_with fail
        go_ret2
        exact ⟨_, w4.heap.size, _, [], by rw [HC.out, HE.out, H1.out, H3.out]; rfl, by rw [HE.out, H1.out, H3.out]; exact sameP_refl [], Nat.le_refl _, .inl rfl, below_a1 _ _⟩
      · have H3 := Lib.hid (show (vMeasure x && vMeasure y) = true by rw [H2.out, h3]; rfl)
        clear h3
        go_upto_region 7 with (fail)
        generalize hw5 : w4.alloc _ = w5
        have hB5 : Below w4.heap.size w4 w5 := hw5 ▸ below_a1 w4 _
        have hsz5 : w5.heap.size = w4.heap.size + 1 := by rw [← hw5]; simp
        have hown : w5.ownsRow w4.heap.size 77 2 (.slice (some ⟨w4.heap.size, 0, none⟩) 0 0) 0 (dL []) := by
          refine ⟨rfl, .inr ⟨w4.heap.size, 0, #[], rfl, Nat.le_refl _, ?_, Nat.le_refl _, Nat.zero_le _, rfl, rfl⟩⟩
          rw [← hw5]
          exact Mem.Blk.new w4 [] _
        clear hw5
        go_loopw [9, 8] (fun i v wr => ∃ (k : Nat) (xs : List (Nat × Nat)), k ≤ ds.length ∧ i = .int .i64 k ∧ SameP xs (shL x y (ds.take k)) ∧ wr.ownsRow w4.heap.size 77 2 v k (dL xs) ∧ v ≠ .slice none 0 0 ∧ Below w4.heap.size w5 wr) (fun i _ _ => ds.length - (intOf i).toNat)
        case atStart => exact ⟨0, [], Nat.zero_le _, rfl, ⟨rfl, fun i hi => absurd hi (Nat.not_lt_zero _)⟩, hown, (by intro h; cases h), Below.refl _ _⟩
        case round =>
          obtain ⟨k, xs, hk, rfl, hx, ho, hv, hB⟩ := hrel
          have HO := Lib.hid ho
          have HV := Lib.hid hv
          have HX := Lib.hid hx
          clear ho hown hv hx
          by_cases hlt : k < ds.length
          · have hsz := hB.size
            obtain ⟨c0, c1⟩ := (HD.out.below hB5 hb).below hB hb k hlt
            have HSH := Lib.hid (shL_push x y ds k hlt)
            obtain ⟨p, hp⟩ : ∃ p, p = ds.getD k (0, 0) := ⟨_, rfl⟩
            rw [← hp] at c0 c1 HSH
            obtain ⟨p0, p1⟩ := p
            clear hp
            simp only at c0 c1 HSH
            have lb : b < wr.heap.size := by omega
            go_wp2_with fail
            refine Rg.region_tail1 16 u8 (fun w' => Below wr.heap.size wr w') (fun _ _ _ => False) (by kernel_rfl) (by kernel_rfl) (fun _ _ _ h => h) (.inl ⟨rfl, fun _ => rfl⟩) (by exact (Below.refl wr.heap.size wr).drew) ?_
            simp only [List.take_succ_cons, List.take_zero, List.drop_succ_cons, List.drop_zero]
            (repeat (first | ((with_reducible refine Rg.walk_plain rfl (fun Kz hKz wz hwz => ?_)); (have hclz : ∀ bb oo, bb < (wr).heap.size → wz.cell? ⟨bb, oo, none⟩ = (wr).cell? ⟨bb, oo, none⟩ := fun bb oo h => hwz.cell (p := ⟨bb, oo, none⟩) h); go_simp; refine hKz _ ?_; clear hKz hwz hclz Kz wz) | ((with_reducible refine Rg.walk_on ?_ (fun Kz hKz wz hwz => ?_)); (next => (go_simp; done)); (have hclz : ∀ bb oo, bb < (wr).heap.size → wz.cell? ⟨bb, oo, none⟩ = (wr).cell? ⟨bb, oo, none⟩ := fun bb oo h => hwz.cell (p := ⟨bb, oo, none⟩) h); go_simp; refine hKz _ ?_; clear hKz hwz hclz Kz wz) | ((with_reducible refine Rg.walk_step (fun Kz hKz => ?_)); go_simp; refine hKz _ ?_; clear hKz Kz)))
            refine Rg.walk_plain rfl (fun K hK w1 hw1 => ?_)
            go_simp
            refine ⟨below_n hw1 _, hK _ ?_⟩
            obtain ⟨q0, hq0⟩ : ∃ q, q = Fl.rAdd w1 p0 x := ⟨_, rfl⟩
            rw [← hq0]
            have HQ0 : Hid (Fl.canon q0 = Fl.canon (Fl.add p0 x)) := Lib.hid (by rw [hq0]; exact add1_of _ _)
            clear hq0 hK hw1 K w1
            (repeat (first | ((with_reducible refine Rg.walk_plain rfl (fun Kz hKz wz hwz => ?_)); (have hclz : ∀ bb oo, bb < (wr).heap.size → wz.cell? ⟨bb, oo, none⟩ = (wr).cell? ⟨bb, oo, none⟩ := fun bb oo h => hwz.cell (p := ⟨bb, oo, none⟩) h); go_simp; refine hKz _ ?_; clear hKz hwz hclz Kz wz) | ((with_reducible refine Rg.walk_on ?_ (fun Kz hKz wz hwz => ?_)); (next => (go_simp; done)); (have hclz : ∀ bb oo, bb < (wr).heap.size → wz.cell? ⟨bb, oo, none⟩ = (wr).cell? ⟨bb, oo, none⟩ := fun bb oo h => hwz.cell (p := ⟨bb, oo, none⟩) h); go_simp; refine hKz _ ?_; clear hKz hwz hclz Kz wz) | ((with_reducible refine Rg.walk_step (fun Kz hKz => ?_)); go_simp; refine hKz _ ?_; clear hKz Kz)))
            refine Rg.walk_plain rfl (fun K hK w1 hw1 => ?_)
            go_simp
            refine ⟨below_n hw1 _, hK _ ?_⟩
            obtain ⟨q1, hq1⟩ : ∃ q, q = Fl.rAdd w1 p1 y := ⟨_, rfl⟩
            rw [← hq1]
            have HQ1 : Hid (Fl.canon q1 = Fl.canon (Fl.add p1 y)) := Lib.hid (by rw [hq1]; exact add1_of _ _)
            clear hq1 hK hw1 K w1
            (repeat (first | ((with_reducible refine Rg.walk_plain rfl (fun Kz hKz wz hwz => ?_)); (have hclz : ∀ bb oo, bb < (wr).heap.size → wz.cell? ⟨bb, oo, none⟩ = (wr).cell? ⟨bb, oo, none⟩ := fun bb oo h => hwz.cell (p := ⟨bb, oo, none⟩) h); go_simp; refine hKz _ ?_; clear hKz hwz hclz Kz wz) | ((with_reducible refine Rg.walk_on ?_ (fun Kz hKz wz hwz => ?_)); (next => (go_simp; done)); (have hclz : ∀ bb oo, bb < (wr).heap.size → wz.cell? ⟨bb, oo, none⟩ = (wr).cell? ⟨bb, oo, none⟩ := fun bb oo h => hwz.cell (p := ⟨bb, oo, none⟩) h); go_simp; refine hKz _ ?_; clear hKz hwz hclz Kz wz) | ((with_reducible refine Rg.walk_step (fun Kz hKz => ?_)); go_simp; refine hKz _ ?_; clear hKz Kz)))
            refine Rg.walk_nil ?_
            intro w6 hw6
            have ho2 := own_below HO.out hw6
            have hge := own_ge ho2
            have z2 := hw6.size
            have HV' := HV.out
            clear c0 c1
            obtain ⟨hz0, hz1, hz2⟩ := HZ.out
            go_wp2_with (at_builtin; refine wpList_append_own _ rfl _ _ 31 rfl w4.heap.size 77 i0 (.agg #[.float .f32 0, .float .f32 0]) 2 8 Try.underlying31 HI.out hz0 hz1 hz2 rfl (by decide) _ _ _ rfl (ho2.alloc _) ⟨w6.heap.size, 0, none⟩ 1 1 [.float .f32 q0, .float .f32 q1] rfl rfl (cell_two_new _ _ _ _) (by simp [Value.oneCell']) (by unfold maxLen; omega) (by omega) (by simp; omega) ?_; intro v' w7 hown' hgrow hnil)
            have hB7 : Below w4.heap.size w5 w7 := ((hB.trans (hw6.mono (by omega))).alloc (by omega) _).grown hgrow (by simp; omega) hge
            have ho7 : w7.ownsRow w4.heap.size 77 2 v' (k + 1) (dL (xs ++ [(q0, q1)])) := by rw [dL_append]; exact hown'
            have hv7 : v' ≠ .slice none 0 0 := by intro h; exact absurd (hnil.1 h).2 (by decide)
            have hx7 : SameP (xs ++ [(q0, q1)]) (shL x y (ds.take (k + 1))) := by rw [HSH.out]; exact sameP_push HX.out HQ0.out HQ1.out
            have HO7 := Lib.hid ho7
            have HV7 := Lib.hid hv7
            have HX7 := Lib.hid hx7
            clear hown' hgrow hnil ho2 hge ho7 hv7 hx7 HV' hz0 hz1 hz2
            go_roundw
            case rel => exact ⟨k + 1, xs ++ [(q0, q1)], by omega, by go_num, HX7.out, HO7.out, HV7.out, hB7⟩
            case measure => simp [intOf]; omega
          · obtain rfl : k = ds.length := by omega
            have hx := HX.out
            rw [List.take_of_length_le (Nat.le_refl _)] at hx
            obtain ⟨g, cp, cur, rfl, hg, hblk, htk, hlen⟩ := own_row' HO.out HV.out
            rw [dL_length] at hlen
            have hxl : xs.length = ds.length := by omega
            have HXX := Lib.hid hx
            have HBK := Lib.hid hblk
            have hly : LyD wr w4.heap.size (some ⟨g, 0, none⟩) g xs := .inr ⟨rfl, hg, cur, _, hblk, by rw [hxl]; exact htk⟩
            have HLY := Lib.hid hly
            have hhold : HoldsD wr g 0 xs := HoldsD.of_blk hblk (fun i hi => by rw [← htk, List.getElem?_take_of_lt (by omega)])
            have HH := Lib.hid hhold
            have hvd := vDots_same hx
            have HVD := Lib.hid hvd
            have HXL := Lib.hid hxl
            clear hx hblk htk hlen hly hhold hvd
            rw [← hxl]
            clear hxl
            go_wp2_with fail
            refine (l06Ok_calls g 0 _ xs _ HH.out HBK.out.lt (by rw [HXL.out]; exact HM.out)).mono ?_
            rintro e w8 ⟨rfl, rfl⟩
            have hBF := hB5.trans hB
            cases h4 : vDots xs
            · have H4 := Lib.hid (HVD.out.symm.trans h4)
              clear h4
              go_wp2_with fail
              go_ret2
              exact ⟨_, w4.heap.size, _, [], by rw [HC.out, HE.out, H1.out, H3.out, H4.out]; rfl, by rw [HE.out, H1.out, H3.out, H4.out]; exact sameP_refl [], Nat.le_refl _, .inl rfl, hBF.alloc (by have := hBF.size; omega) _⟩
            · have H4 := Lib.hid (HVD.out.symm.trans h4)
              clear h4
              go_wp2_with fail
              go_ret2
              exact ⟨_, g, _, xs, by rw [HC.out, HE.out, H1.out, H3.out, H4.out, HXX.out.1]; rfl, by rw [HE.out, H1.out, H3.out, H4.out]; exact HXX.out, hg, HLY.out, hBF⟩

set_option maxHeartbeats 2000000 in
theorem implShiftDots_calls (b o cap : Nat) (ds : List (Nat × Nat)) (x y : Nat) (w : World) (hd : HoldsD w b o ds) (hb : b < w.heap.size) (hl : ds.length ≤ 1048576) :
    Calls Try.prog 21 #[.slice (some ⟨b, o, none⟩) ds.length cap, .float .f32 x, .float .f32 y] w (RetDsC (shE ds x y) (shC ds x y) w) := by
  have HD := Lib.hid hd
  have hm : ds.length ≤ maxLen := by unfold maxLen; omega
  have HM := Lib.hid hm
  clear hd hm
  have HE : Hid (shE ds x y = sel (vDots ds) (sel (vMeasure x && vMeasure y) (sel (vDots (shL x y ds)) (shL x y ds) []) []) []) := rfl
  have HC : Hid (shC ds x y = sel (vDots ds) (sel (vMeasure x && vMeasure y) (sel (vDots (shL x y ds)) 0 3) 2) 1) := rfl
  go_enter Try.func21, Try.ntmps21
  go_wp2_with fail
  refine (implValidDots_calls b o _ ds _ HD.out hb HM.out).mono ?_
  rintro e w2 ⟨rfl, hb2⟩
  cases h1 : vDots ds
  · have H1 := Lib.hid h1
    clear h1
    go_wp2_with fail
    go_ret2
    exact ⟨_, w.heap.size, _, [], by rw [HC.out, HE.out, H1.out]; rfl, by rw [HE.out, H1.out]; exact sameP_refl [], Nat.le_refl _, .inl rfl, hb2⟩
  · have H1 := Lib.hid h1
    clear h1
    go_wp2_with fail
    refine (isMeasure_calls x _).mono ?_
    rintro e w3 ⟨rfl, rfl⟩
    cases h2 : vMeasure x
    · have H2 := Lib.hid (show (vMeasure x && vMeasure y) = false by rw [h2]; rfl)
      clear h2
      go_wp2_with fail
      go_ret2
      exact ⟨_, w.heap.size, _, [], by rw [HC.out, HE.out, H1.out, H2.out]; rfl, by rw [HE.out, H1.out, H2.out]; exact sameP_refl [], Nat.le_refl _, .inl rfl, hb2⟩
    · have H2 := Lib.hid h2
      clear h2
      go_wp2_with fail
      refine (isMeasure_calls y _).mono ?_
      rintro e w4 ⟨rfl, rfl⟩
      cases h3 : vMeasure y
      · have H3 := Lib.hid (show (vMeasure x && vMeasure y) = false by rw [H2.out, h3]; rfl)
        clear h3
        go_wp2_with fail
        go_ret2
        exact ⟨_, w.heap.size, _, [], by rw [HC.out, HE.out, H1.out, H3.out]; rfl, by rw [HE.out, H1.out, H3.out]; exact sameP_refl [], Nat.le_refl _, .inl rfl, hb2⟩
      · have H3 := Lib.hid (show (vMeasure x && vMeasure y) = true by rw [H2.out, h3]; rfl)
        clear h3
        go_wp2_with fail
        refine (cloneD_calls b o _ ds _ (HD.out.below hb2 hb) (by have := hb2.size; omega) hl).mono ?_
        rintro e w5 ⟨g, cp, cur, rfl, hg, hblk, htk, hb5⟩
        have hB5 := below_call hb2 hb5
        have hgw : w.heap.size ≤ g := Nat.le_trans hb2.size hg
        have hg5 := hblk.lt
        have hcl : ds.length * 2 ≤ cur.length := by
          have := congrArg List.length htk
          rw [List.length_take, dL_length] at this
          omega
        have HTK := Lib.hid htk
        clear htk hg hb5
        go_upto_region 7 with (fail)
        go_loopw [27] (fun i wr => ∃ (k : Nat) (ys : List (Nat × Nat)), k ≤ ds.length ∧ i = .int .i64 k ∧ ys.length = k ∧ SameP ys (shL x y (ds.take k)) ∧ Mem.Blk wr g (dL ys ++ cur.drop (k * 2)) 77 ∧ Below w.heap.size w wr) (fun i _ => ds.length - (intOf i).toNat)
        case atStart => exact ⟨0, [], Nat.zero_le _, rfl, rfl, ⟨rfl, fun i hi => absurd hi (Nat.not_lt_zero _)⟩, by simpa [dL] using hblk, hB5⟩
        case round =>
          clear hblk
          obtain ⟨k, ys, hk, rfl, hyl, hx, hblk, hB⟩ := hrel
          have HX := Lib.hid hx
          have HB := Lib.hid hblk
          have HYL := Lib.hid hyl
          have hgr := hblk.lt
          clear hx hblk hyl
          by_cases hlt : k < ds.length
          · obtain ⟨q0, q1⟩ := cur_get HTK.out k hlt
            have c0 : wr.cell? ⟨g, k * 2, none⟩ = some (.float .f32 (ds.getD k (0, 0)).1) := (HB.out.cell _).trans ((mid_get ys k HYL.out cur _ (Nat.le_refl _)).trans q0)
            have HSH := Lib.hid (shL_push x y ds k hlt)
            have hlen : (dL ys ++ cur.drop (k * 2)).length = cur.length := by rw [List.length_append, dL_length, HYL.out, List.length_drop]; omega
            have hd1 : (dL ys ++ cur.drop (k * 2))[k * 2 + 1]? = some (.float .f32 (ds.getD k (0, 0)).2) := (mid_get ys k HYL.out cur _ (by omega)).trans q1
            obtain ⟨p, hp⟩ : ∃ p, p = ds.getD k (0, 0) := ⟨_, rfl⟩
            rw [← hp] at c0 hd1 HSH
            obtain ⟨p0, p1⟩ := p
            clear hp q0 q1
            simp only at c0 hd1 HSH
            have HD1 := Lib.hid hd1
            have HP := Lib.hid (fun a b => put2 ys k HYL.out cur a b (by omega))
            have HLN := Lib.hid hlen
            clear hlen hd1
            have fz : wr.frozen? ⟨g, k * 2, none⟩ = false := HB.out.free _
            go_upto_region 10 with (fail)
            have hw6 := wrote_cell (HB.out.drewN (Fl.nAdd p0 x)) (k * 2) (.float .f32 (Fl.rAdd wr p0 x))
            generalize (wr.drewN (Fl.nAdd p0 x)).setCell ⟨g, k * 2, none⟩ (.float .f32 (Fl.rAdd wr p0 x)) = w6 at hw6 ⊢
            have HF0 : Hid (Fl.canon (Fl.rAdd wr p0 x) = Fl.canon (Fl.add p0 x)) := Lib.hid (add1_of _ _)
            clear fz c0
            generalize Fl.rAdd wr p0 x = f0 at hw6 HF0 ⊢
            have HW6 := Lib.hid hw6
            have hs6 : w6.heap.size = wr.heap.size := hw6.size
            have hB6 := (below_n hB (Fl.nAdd p0 x)).trans (hw6.below hgw)
            have c1 : w6.cell? ⟨g, k * 2 + 1, none⟩ = some (.float .f32 p1) := by
              rw [hw6.blk.cell, List.getElem?_set_ne (by omega)]; exact HD1.out
            have fz : w6.frozen? ⟨g, k * 2 + 1, none⟩ = false := hw6.blk.free _
            clear hw6
            go_wp2_with fail
            have hw7 := wrote_cell (HW6.out.blk.drewN (Fl.nAdd p1 y)) (k * 2 + 1) (.float .f32 (Fl.rAdd w6 p1 y))
            generalize (w6.drewN (Fl.nAdd p1 y)).setCell ⟨g, k * 2 + 1, none⟩ (.float .f32 (Fl.rAdd w6 p1 y)) = w7 at hw7 ⊢
            have HF1 : Hid (Fl.canon (Fl.rAdd w6 p1 y) = Fl.canon (Fl.add p1 y)) := Lib.hid (add1_of _ _)
            clear fz c1
            have hB7 := (below_n hB6 (Fl.nAdd p1 y)).trans (hw7.below hgw)
            have hblk7 := hw7.blk
            rw [HP.out] at hblk7
            have HB7 := Lib.hid hblk7
            have hx7 : SameP (ys ++ [(f0, Fl.rAdd w6 p1 y)]) (shL x y (ds.take (k + 1))) := by rw [HSH.out]; exact sameP_push HX.out HF0.out HF1.out
            have HX7 := Lib.hid hx7
            clear hw7 hblk7 hx7
            go_roundw
            case rel => exact ⟨k + 1, ys ++ [(f0, Fl.rAdd w6 p1 y)], by omega, by go_num, by simp [HYL.out], HX7.out, HB7.out, hB7⟩
            case measure => simp [intOf]; omega
          · obtain rfl : k = ds.length := by omega
            have hx := HX.out
            rw [List.take_of_length_le (Nat.le_refl _)] at hx
            have hyl := HYL.out
            have hly : LyD wr w.heap.size (some ⟨g, 0, none⟩) g ys := .inr ⟨rfl, hgw, _, _, HB.out, by rw [List.take_left' (by rw [dL_length])]⟩
            have HLY := Lib.hid hly
            have hhold : HoldsD wr g 0 ys := HoldsD.of_blk HB.out (fun i hi => by rw [List.getElem?_append_left (by rw [dL_length]; exact hi)])
            have HH := Lib.hid hhold
            have HVD := Lib.hid (vDots_same hx)
            have HXX := Lib.hid hx
            clear hx hly hhold
            rw [← hyl]
            clear hyl
            go_wp2_with fail
            refine (implValidDots_calls g 0 _ ys _ HH.out HB.out.lt (by rw [HYL.out]; exact HM.out)).mono ?_
            rintro e w8 ⟨rfl, hb8⟩
            have hBF := below_call hB hb8
            cases h4 : vDots ys
            · have H4 := Lib.hid (HVD.out.symm.trans h4)
              clear h4
              go_wp2_with fail
              go_ret2
              exact ⟨_, w.heap.size, _, [], by rw [HC.out, HE.out, H1.out, H3.out, H4.out]; rfl, by rw [HE.out, H1.out, H3.out, H4.out]; exact sameP_refl [], Nat.le_refl _, .inl rfl, hBF⟩
            · have H4 := Lib.hid (HVD.out.symm.trans h4)
              clear h4
              go_wp2_with fail
              go_ret2
              exact ⟨_, g, _, ys, by rw [HC.out, HE.out, H1.out, H3.out, H4.out, HXX.out.1]; rfl, by rw [HE.out, H1.out, H3.out, H4.out]; exact HXX.out, hgw, HLY.out.below hb8 (fun _ => HB.out.lt), hBF⟩

set_option maxHeartbeats 2000000 in
theorem fnExactShiftDots_walk (ds : List (Nat × Nat)) (ad : Option Addr) (cap : Nat) (x : Nat) (y : Nat) (w : World) (hd : SlD w ad ds) (hl : ds.length ≤ maxLen) :
    Calls Try.prog 4 #[.slice ad ds.length cap, .float .f32 x, .float .f32 y] w (RetBool true w) := by
  have hl' := hl
  unfold maxLen at hl'
  have HD := Lib.hid hd
  have HL := Lib.hid hl
  clear hd hl
  obtain ⟨es, cd, hen, hsp, him⟩ : ∃ (es : List (Nat × Nat)) (cd : Int), es.length ≤ ds.length ∧ (∀ (b o cap : Nat) (W : World), HoldsD W b o ds → b < W.heap.size → ds.length ≤ 1048576 → Calls Try.prog 20 #[.slice (some ⟨b, o, none⟩) ds.length cap, .float .f32 x, .float .f32 y] W (RetDsC es cd W)) ∧ (∀ (b o cap : Nat) (W : World), HoldsD W b o ds → b < W.heap.size → ds.length ≤ 1048576 → Calls Try.prog 21 #[.slice (some ⟨b, o, none⟩) ds.length cap, .float .f32 x, .float .f32 y] W (RetDsC es cd W)) :=
    ⟨shE ds x y, shC ds x y, shE_length ds x y, fun b o cap W h1 h2 h3 => specShiftDots_calls b o cap ds x y W h1 h2 h3, fun b o cap W h1 h2 h3 => implShiftDots_calls b o cap ds x y W h1 h2 h3⟩
  have HSp := Lib.hid hsp
  have HIm := Lib.hid him
  clear hsp him
  go_enter Try.func4, Try.ntmps4
  go_wp2_with fail
  refine (szDotS_calls _ _ _ _ _ (by omega) (by omega) (by omega)).mono ?_
  rintro e w2 ⟨rfl, rfl⟩
  have hb1 : Below w2.heap.size w2 w2 := Below.refl _ _
  by_cases h20 : 1048576 - (ds.length : Int) < 0
  · rw [if_pos h20]
    go_wp2_with fail
    go_ret
    exact ⟨rfl, hb1⟩
  · rw [if_neg h20]
    have hn : ds.length ≤ 1048576 := by omega
    have HD2 := Lib.hid (HD.out.below hb1)
    have hP2 : Below w2.heap.size w2 w2 := Below.refl _ _
    have hP3 := hP2
    have hT3 : Below w2.heap.size w2 w2 := Below.refl _ _
    go_wp2_with fail
    refine (toDotS_calls ad cap ds _ (HD2.out.below hP3) hn).mono ?_
    rintro e w4 ⟨g4, rfl, hg4, hblk4, hb4⟩
    have HB4 := Lib.hid hblk4
    have hP4 := below_call hP3 hb4
    clear hblk4 hb4 hg4
    go_wp2_with fail
    refine (HSp.out g4 0 _ _ (holds_blk HB4.out) HB4.out.lt hn).mono ?_
    rintro e w5 ⟨av, gv, cv, vs, rfl, hvs, _, hlv, hb5⟩
    have HVS := Lib.hid hvs
    have HV5 := Lib.hid hlv
    have hP5 := below_call hP4 hb5
    clear hvs hlv hb5 HB4
    go_wp2_with fail
    refine (toDotS_calls ad cap ds _ (HD2.out.below hP5) hn).mono ?_
    rintro e w6 ⟨g6, rfl, hg6, hblk6, hb6⟩
    have HB6 := Lib.hid hblk6
    have HV6 := Lib.hid (HV5.out.below hb6 (fun hx => HV5.out.lt hx))
    have HGV : Hid (vs ≠ [] → gv < g6) := Lib.hid fun hx => Nat.lt_of_lt_of_le (HV5.out.lt hx) hg6
    have hP6 := below_call hP5 hb6
    have HG6 : Hid (w2.heap.size ≤ g6) := Lib.hid (Nat.le_trans hP5.size hg6)
    clear hblk6 hb6 hg6 hP5 HV5
    have hP7 := hP6
    have hT7 : Below w6.heap.size w6 w6 := Below.refl _ _
    have HB7 := Lib.hid (HB6.out.below hT7 HB6.out.lt)
    have HV7 := Lib.hid (HV6.out.below hT7 (fun hx => HV6.out.lt hx))
    clear hT7 HB6 HV6
    go_wp2_with fail
    refine (HIm.out g6 0 _ _ (holds_blk HB7.out) HB7.out.lt hn).mono ?_
    rintro e w8 ⟨au, gu, cu, us, rfl, hus, hgu, hlu, hb8⟩
    have HUS := Lib.hid hus
    have HU8 := Lib.hid hlu
    have HGU : Hid (g6 < gu) := Lib.hid (Nat.lt_of_lt_of_le HB7.out.lt hgu)
    have HB8 := Lib.hid (HB7.out.below hb8 HB7.out.lt)
    have HV8 := Lib.hid (HV7.out.below hb8 (fun hx => HV7.out.lt hx))
    have hP8 := below_call hP7 hb8
    clear hus hlu hgu hb8 HB7 HV7
    go_wp2_with fail
    refine (eqDs_calls _ _ _ _ us vs es _ HU8.out.sl HV8.out.sl HUS.out HVS.out (by unfold maxLen; omega)).mono ?_
    rintro e w9 ⟨rfl, hb9⟩
    have HB9 := Lib.hid (HB8.out.below hb9 HB8.out.lt)
    have HV9 := Lib.hid (HV8.out.below hb9 (fun hx => HV8.out.lt hx))
    have HU9 := Lib.hid (HU8.out.below hb9 (fun hx => HU8.out.lt hx))
    have hP9 := below_call hP8 hb9
    clear hb9 HB8 HV8 HU8
    go_wp2_with fail
    refine (toDotS_calls ad cap ds _ (HD2.out.below hP9) hn).mono ?_
    rintro e w10 ⟨g10, rfl, hg10, hblk10, hb10⟩
    have HC10 := Lib.hid hblk10
    have HB10 := Lib.hid (HB9.out.below hb10 HB9.out.lt)
    have HV10 := Lib.hid (HV9.out.below hb10 (fun hx => HV9.out.lt hx))
    have HU10 := Lib.hid (HU9.out.below hb10 (fun hx => HU9.out.lt hx))
    have hP10 := below_call hP9 hb10
    clear hb10 hblk10 hg10 HB9 HV9 HU9
    go_wp2_with fail
    refine (eqDotS_calls _ _ _ _ ds ds _ (.inr ⟨g6, 0, rfl, HB10.out.lt, holds_blk HB10.out⟩) (.inr ⟨g10, 0, rfl, HC10.out.lt, holds_blk HC10.out⟩) (sameP_refl ds) HL.out).mono ?_
    rintro e w11 ⟨rfl, hb11⟩
    have HB11 := Lib.hid (HB10.out.below hb11 HB10.out.lt)
    have HV11 := Lib.hid (HV10.out.below hb11 (fun hx => HV10.out.lt hx))
    have HU11 := Lib.hid (HU10.out.below hb11 (fun hx => HU10.out.lt hx))
    have hP11 := below_call hP10 hb11
    clear hb11 HB10 HV10 HU10 HC10
    go_wp2_with fail
    refine (markD_calls (some ⟨g6, 0, none⟩) _ g6 0 ds 1 _ (LyD.of_blk HB11.out (Nat.zero_le _)) (by decide) (by decide) (by omega)).mono ?_
    rintro e w12 ⟨rfl, hbut, _⟩
    have HV12 := Lib.hid (HV11.out.but hbut (fun hx => Nat.ne_of_lt (HGV.out hx)))
    have HU12 := Lib.hid (HU11.out.but hbut (fun _ => (Nat.ne_of_lt HGU.out).symm))
    have hP12 := hP11.trans (hbut.below HG6.out hP11.size)
    clear hbut HV11 HU11 HB11
    obtain ⟨kk, hkk, hk0⟩ : ∃ kk : Int, kk = 1 + 2 * (ds.length : Int) ∧ decide (kk < 0) = false := ⟨_, rfl, decide_eq_false (by omega)⟩
    rw [← hkk]
    clear hkk
    go_wp2_with fail
    refine (eqDs_calls _ _ _ _ us vs es _ HU12.out.sl HV12.out.sl HUS.out HVS.out (by unfold maxLen; omega)).mono ?_
    rintro e w13 ⟨rfl, hb13⟩
    have HV13 := Lib.hid (HV12.out.below hb13 (fun hx => HV12.out.lt hx))
    have HU13 := Lib.hid (HU12.out.below hb13 (fun hx => HU12.out.lt hx))
    have hP13 := below_call hP12 hb13
    clear hb13 HV12 HU12
    go_wp2_with fail
    rw [← HUS.out.1]
    refine (markD_calls _ _ gu _ us 1 _ HU13.out (by decide) (by decide) (by rw [HUS.out.1]; omega)).mono ?_
    rintro e w14 ⟨rfl, hbut, hlm⟩
    rw [HUS.out.1] at hlm ⊢
    have HM14 := Lib.hid hlm
    have HV14 := Lib.hid (HV13.out.but hbut (fun hx => Nat.ne_of_lt (Nat.lt_trans (HGV.out hx) HGU.out)))
    have hP14 := hP13.trans (hbut.below (Nat.le_of_lt (Nat.lt_of_le_of_lt HG6.out HGU.out)) hP13.size)
    clear hbut hlm HV13 HU13
    obtain ⟨mm, hmm, hm0⟩ : ∃ mm : Int, mm = 1 + 2 * (es.length : Int) ∧ decide (mm < 0) = false := ⟨_, rfl, decide_eq_false (by omega)⟩
    have HMM := Lib.hid hmm
    rw [← hmm]
    clear hmm
    go_wp2_with fail
    refine (heldD_calls _ _ gu _ es.length 1 _ HM14.out (by decide) (by decide) (by omega)).mono ?_
    rintro e w15 ⟨rfl, hw15⟩
    subst hw15
    rw [← HMM.out]
    have HM16 := HM14
    have HV16 := HV14
    have hP16 := hP14
    clear HM14 HV14
    go_wp2_with fail
    refine (toDotS_calls ad cap ds _ (HD2.out.below hP16) hn).mono ?_
    rintro e w17 ⟨g17, rfl, hg17, hblk17, hb17⟩
    have HB17 := Lib.hid hblk17
    have HM17 := Lib.hid (HM16.out.below hb17 (fun hx => HM16.out.lt hx))
    have HV17 := Lib.hid (HV16.out.below hb17 (fun hx => HV16.out.lt hx))
    have hP17 := below_call hP16 hb17
    clear hb17 hblk17 hg17 HM16 HV16
    go_wp2_with fail
    refine (HIm.out g17 0 _ _ (holds_blk HB17.out) HB17.out.lt hn).mono ?_
    rintro e w18 ⟨ah, gh, ch, hs, rfl, hhs, _, hlh, hb18⟩
    have HHS := Lib.hid hhs
    have HH18 := Lib.hid hlh
    have HM18 := Lib.hid (HM17.out.below hb18 (fun hx => HM17.out.lt hx))
    have HV18 := Lib.hid (HV17.out.below hb18 (fun hx => HV17.out.lt hx))
    have hP18 := below_call hP17 hb18
    clear hb18 hhs hlh HM17 HV17 HB17
    go_wp2_with fail
    refine (eqDs_calls _ _ _ _ hs vs es _ HH18.out.sl HV18.out.sl HHS.out HVS.out (by unfold maxLen; omega)).mono ?_
    rintro e w19 ⟨rfl, hb19⟩
    have HM19 := Lib.hid (HM18.out.below hb19 (fun hx => HM18.out.lt hx))
    have hP19 := below_call hP18 hb19
    clear hb19 HM18 HV18 HH18
    go_wp2_with fail
    refine (heldD_calls _ _ gu _ es.length 1 _ HM19.out (by decide) (by decide) (by omega)).mono ?_
    rintro e w20 ⟨rfl, hw20⟩
    subst hw20
    rw [← HMM.out]
    go_wp2_with fail
    go_ret
    exact ⟨rfl, hb1.trans (hP19.mono hb1.size)⟩

end Go.Proofs.Ytcihbcmdmgmonaa
