/-
  Dots smoothed: what both programs answer, and the law's walk.
-/
import Derived.Test.YtcihbcmdmgmonaaPshift
import Derived.Test.YtcihbcmdmgmonaaPart2
namespace Go.Proofs.Ytcihbcmdmgmonaa
open Go.RowKit

/-- The Y of dot k, smoothed behind b. -/
def smY (part y b : Nat) : Nat := Fl.add b (Fl.mul part (Fl.sub y b))
/-- The first k dots, smoothed. -/
def smN (part : Nat) (ds : List (Nat × Nat)) : Nat → List (Nat × Nat)
  | 0 => []
  | k + 1 => smN part ds k ++ [((ds.getD k (0, 0)).1, if k = 0 then (ds.getD k (0, 0)).2 else smY part (ds.getD k (0, 0)).2 ((smN part ds k).getD (k - 1) (0, 0)).2)]
theorem smN_length (part : Nat) (ds : List (Nat × Nat)) : ∀ k, (smN part ds k).length = k
  | 0 => rfl
  | k + 1 => by simp [smN, smN_length part ds k]
theorem smN_first (part : Nat) (ds : List (Nat × Nat)) : smN part ds 1 = [ds.getD 0 (0, 0)] := rfl
theorem smN_push (part : Nat) (ds : List (Nat × Nat)) (k : Nat) (h : 0 < k) : smN part ds (k + 1) = smN part ds k ++ [((ds.getD k (0, 0)).1, smY part (ds.getD k (0, 0)).2 ((smN part ds k).getD (k - 1) (0, 0)).2)] := by
  show _ ++ [_] = _
  rw [if_neg (by omega)]
theorem sm_of {W W' W'' : World} {part y b b' : Nat} (h : Fl.canon b' = Fl.canon b) : Fl.canon (Fl.rAdd W b' (Fl.rMul W' part (Fl.rSub W'' y b'))) = Fl.canon (smY part y b) := by
  unfold smY
  rw [Fl.canon_rAdd, Fl.canon_addv]
  refine (Fl.add_of h rfl).trans ?_
  rw [Fl.canon_rMul, ← Fl.mul_canon_right, Fl.canon_rSub, ← Fl.sub_canon_right, h, Fl.sub_canon_right, Fl.add_canon_left]
def smE (ds : List (Nat × Nat)) (part : Nat) : List (Nat × Nat) := sel (vDots ds) (sel (vPart part) (smN part ds ds.length) []) []
def smC (ds : List (Nat × Nat)) (part : Nat) : Int := sel (vDots ds) (sel (vPart part) 0 2) 1
theorem smE_length (ds : List (Nat × Nat)) (part : Nat) : (smE ds part).length ≤ ds.length := by
  unfold smE
  cases vDots ds <;> cases vPart part <;> simp [sel, smN_length]
theorem set_same {α : Type} (l : List α) (i : Nat) (a : α) (h : l[i]? = some a) : l.set i a = l := by
  apply List.ext_getElem?
  intro j
  rw [List.getElem?_set]
  split
  · rename_i hij; subst hij
    rw [if_pos (List.getElem?_eq_some_iff.1 h).1, h]
  · rfl
theorem put1 (ys : List (Nat × Nat)) (k : Nat) (hk : ys.length = k) (cur : List Value) (a b : Nat) (h : k * 2 + 1 < cur.length) (ha : cur[k * 2]? = some (.float .f32 a)) : (dL ys ++ cur.drop (k * 2)).set (k * 2 + 1) (.float .f32 b) = dL (ys ++ [(a, b)]) ++ cur.drop ((k + 1) * 2) := by
  rw [← put2 ys k hk cur a b h, set_same _ _ _ ((mid_get ys k hk cur _ (Nat.le_refl _)).trans ha)]
theorem one_start {cur : List Value} {ds : List (Nat × Nat)} (h : cur.take (ds.length * 2) = dL ds) (hp : 0 < ds.length) : dL [ds.getD 0 (0, 0)] ++ cur.drop (1 * 2) = cur := by
  obtain ⟨h0, h1⟩ := cur_get h 0 hp
  have hl : 2 ≤ cur.length := by
    have := congrArg List.length h
    rw [List.length_take, dL_length] at this
    omega
  rw [List.getElem?_eq_getElem (by omega)] at h0 h1
  have e0 := Option.some.inj h0
  have e1 := Option.some.inj h1
  conv => rhs; rw [← List.drop_zero (l := cur), List.drop_eq_getElem_cons (show 0 < cur.length by omega), List.drop_eq_getElem_cons (show 0 + 1 < cur.length by omega)]
  show [Value.float .f32 _, .float .f32 _] ++ _ = _
  rw [← e0, ← e1]
  rfl

set_option maxHeartbeats 2000000 in
theorem specSmoothDots_calls (b o cap : Nat) (ds : List (Nat × Nat)) (part : Nat) (w : World) (hd : HoldsD w b o ds) (hb : b < w.heap.size) (hl : ds.length ≤ 1048576) :
    Calls Try.prog 24 #[.slice (some ⟨b, o, none⟩) ds.length cap, .float .f32 part] w (RetDsC (smE ds part) (smC ds part) w) := by
  obtain ⟨i0, hi, hz0, hz1, hz2⟩ := info_parts infoDot
  have HD := Lib.hid hd
  have hm : ds.length ≤ maxLen := by unfold maxLen; omega
  have HM := Lib.hid hm
  clear hd hm
  have HE : Hid (smE ds part = sel (vDots ds) (sel (vPart part) (smN part ds ds.length) []) []) := rfl
  have HC : Hid (smC ds part = sel (vDots ds) (sel (vPart part) 0 2) 1) := rfl
  have HI := Lib.hid hi
  have HZ := Lib.hid (And.intro hz0 (And.intro hz1 hz2))
  clear hi hz0 hz1 hz2
  go_enter Try.func24, Try.ntmps24
  go_upto_region 2 with (fail)
  generalize hw1 : w.alloc _ = w1
  have hB1 : Below w.heap.size w w1 := hw1 ▸ below_a1 w _
  have hsz1 : w1.heap.size = w.heap.size + 1 := by rw [← hw1]; simp
  have hown : w1.ownsRow w.heap.size 77 2 (.slice (some ⟨w.heap.size, 0, none⟩) 0 0) 0 (dL []) := by
    refine ⟨rfl, .inr ⟨w.heap.size, 0, #[], rfl, Nat.le_refl _, ?_, Nat.le_refl _, Nat.zero_le _, rfl, rfl⟩⟩
    rw [← hw1]
    exact Mem.Blk.new w [] _
  have HOW := Lib.hid hown
  clear hw1 hown
  go_wp2_with fail
  refine (l06Ok_calls b o _ ds _ (HD.out.below hB1 hb) (by omega) HM.out).mono ?_
  rintro e w2 ⟨rfl, rfl⟩
  cases h1 : vDots ds
  · have H1 := Lib.hid h1
    clear h1
    go_wp2_with fail
    go_ret2
    exact ⟨_, w.heap.size, _, [], by rw [HC.out, HE.out, H1.out]; rfl, by rw [HE.out, H1.out]; exact sameP_refl [], Nat.le_refl _, .inl rfl, hB1⟩
  · have H1 := Lib.hid h1
    clear h1
    go_wp2_with fail
    refine (l01Part_calls part _).mono ?_
    rintro e w3 ⟨rfl, rfl⟩
    cases h2 : vPart part
    · have H2 := Lib.hid h2
      clear h2
      go_wp2_with fail
      go_ret2
      exact ⟨_, w.heap.size, _, [], by rw [HC.out, HE.out, H1.out, H2.out]; rfl, by rw [HE.out, H1.out, H2.out]; exact sameP_refl [], Nat.le_refl _, .inl rfl, hB1⟩
    · have H2 := Lib.hid h2
      clear h2
      go_upto_region 7 with (fail)
      go_loopw [7, 6] (fun i v wr => ∃ (k : Nat) (xs : List (Nat × Nat)), k ≤ ds.length ∧ i = .int .i64 k ∧ SameP xs (smN part ds k) ∧ wr.ownsRow w.heap.size 77 2 v k (dL xs) ∧ v ≠ .slice none 0 0 ∧ Below w.heap.size w3 wr) (fun i _ _ => ds.length - (intOf i).toNat)
      case atStart => exact ⟨0, [], Nat.zero_le _, rfl, ⟨rfl, fun i hi => absurd hi (Nat.not_lt_zero _)⟩, HOW.out, (by intro h; cases h), Below.refl _ _⟩
      case round =>
        obtain ⟨k, xs, hk, rfl, hx, ho, hv, hB⟩ := hrel
        have HX := Lib.hid hx
        obtain ⟨g, cp, cur, rfl, hg, hblk, htk, hlen⟩ := own_row' ho hv
        have HO := Lib.hid ho
        rw [dL_length] at hlen
        have hxl : xs.length = k := by omega
        have HBK := Lib.hid hblk
        have HTK := Lib.hid htk
        have HXL := Lib.hid hxl
        clear ho hv hx hblk htk hlen hxl
        have hsz := hB.size
        by_cases hlt : k < ds.length
        · obtain ⟨c0, c1⟩ := (HD.out.below hB1 hb).below hB hb k hlt
          obtain ⟨p, hp⟩ : ∃ p, p = ds.getD k (0, 0) := ⟨_, rfl⟩
          rw [← hp] at c0 c1
          have HPP := Lib.hid hp
          obtain ⟨p0, p1⟩ := p
          clear hp
          simp only at c0 c1
          have lb : b < wr.heap.size := by omega
          go_upto_region 10 with (fail)
          generalize hwq : wr.alloc _ = wq
          have hBq : Below wr.heap.size wr wq := hwq ▸ below_a1 wr _
          have hbq : Mem.Blk wq wr.heap.size [.float .f32 p0, .float .f32 p1] 77 := hwq ▸ Mem.Blk.new wr [.float .f32 p0, .float .f32 p1] 77
          have zq : wq.heap.size = wr.heap.size + 1 := by rw [← hwq]; simp
          have HBQ := Lib.hid hbq
          clear hwq c0 c1 hbq
          by_cases hk0 : k = 0
          · have hk1 : decide ((0 : Int) < (k : Int)) = false := decide_eq_false (by omega)
            have HX7 : Hid (SameP (xs ++ [(p0, p1)]) (smN part ds (k + 1))) := by
              refine Lib.hid ?_
              have hx0 : xs = [] := List.eq_nil_of_length_eq_zero (by rw [HXL.out, hk0])
              rw [hk0, smN_first, hx0, show ds.getD 0 (0, 0) = (p0, p1) by rw [HPP.out, hk0]]
              exact sameP_refl _
            have d0 : wq.cell? ⟨wr.heap.size, 0, none⟩ = some (.float .f32 p0) := HBQ.out.cell 0
            have d1 : wq.cell? ⟨wr.heap.size, 1, none⟩ = some (.float .f32 p1) := HBQ.out.cell 1
            have lq : wr.heap.size < wq.heap.size := by omega
            clear zq
            have ho2 := own_below HO.out hBq
            have hge := own_ge ho2
            obtain ⟨hz0, hz1, hz2⟩ := HZ.out
            go_wp2_with (at_builtin; refine wpList_append_own _ rfl _ _ 31 rfl w.heap.size 77 i0 (.agg #[.float .f32 0, .float .f32 0]) 2 8 Try.underlying31 HI.out hz0 hz1 hz2 rfl (by decide) _ _ _ rfl (ho2.alloc _) ⟨wq.heap.size, 0, none⟩ 1 1 [.float .f32 p0, .float .f32 p1] rfl rfl (cell_two_new _ _ _ _) (by simp [Value.oneCell']) (by unfold maxLen; omega) (by omega) (by simp; omega) ?_; intro v' w7 hown' hgrow hnil)
            have hB7 : Below w.heap.size w3 w7 := ((hB.trans (hBq.mono (by omega))).alloc (by omega) _).grown hgrow (by simp; omega) hge
            have ho7 : w7.ownsRow w.heap.size 77 2 v' (k + 1) (dL (xs ++ [(p0, p1)])) := by rw [dL_append]; exact hown'
            have hv7 : v' ≠ .slice none 0 0 := by intro h; exact absurd (hnil.1 h).2 (by decide)
            have HO7 := Lib.hid ho7
            have HV7 := Lib.hid hv7
            clear hown' hgrow hnil ho2 hge ho7 hv7 hz0 hz1 hz2
            go_roundw
            case rel => exact ⟨k + 1, xs ++ [(p0, p1)], by omega, by go_num, HX7.out, HO7.out, HV7.out, hB7⟩
            case measure => simp [intOf]; omega
          · obtain ⟨j, rfl⟩ : ∃ j, k = j + 1 := ⟨k - 1, by omega⟩
            have hbf : wr.cell? ⟨g, j * 2 + 1, none⟩ = some (.float .f32 (xs.getD j (0, 0)).2) := by
              rw [HBK.out.cell]
              have h := (dL_get xs j (by rw [HXL.out]; omega)).2
              rw [← HTK.out, List.getElem?_take_of_lt (by omega)] at h
              exact h
            have hbq1 : wq.cell? ⟨g, j * 2 + 1, none⟩ = some (.float .f32 (xs.getD j (0, 0)).2) := (hBq.cell (p := ⟨g, j * 2 + 1, none⟩) HBK.out.lt).trans hbf
            have hcb := (HX.out.2 j (by rw [HXL.out]; omega)).2
            have hlg : g < wq.heap.size := by have := HBK.out.lt; omega
            have HSN := Lib.hid (smN_push part ds (j + 1) (by omega))
            clear hbf
            generalize (xs.getD j (0, 0)).2 = bf at hbq1 hcb
            have HCB := Lib.hid hcb
            clear hcb
            have d1 : wq.cell? ⟨wr.heap.size, 1, none⟩ = some (.float .f32 p1) := HBQ.out.cell 1
            have fz : wq.frozen? ⟨wr.heap.size, 1, none⟩ = false := HBQ.out.free 1
            have lq : wr.heap.size < wq.heap.size := by omega
            clear zq
            go_upto_region 13 with (fail)
            generalize hw6 : (World.drewN wq _).setCell ⟨wr.heap.size, 1, none⟩ _ = w6
            obtain ⟨qv, hqv, nd, hW6⟩ : ∃ qv, Fl.canon qv = Fl.canon (smY part p1 ((smN part ds (j + 1)).getD j (0, 0)).2) ∧ ∃ n, Mem.Wrote (wq.drewN n) w6 wr.heap.size [.float .f32 p0, .float .f32 qv] 77 := by
              refine ⟨_, ?_, _, by rw [← hw6]; exact wrote_cell (HBQ.out.drewN _) 1 _⟩
              exact sm_of HCB.out
            have hB6 : Below wr.heap.size wr w6 := (below_n hBq nd).trans (hW6.below (Nat.le_refl _))
            have HX7 : Hid (SameP (xs ++ [(p0, qv)]) (smN part ds (j + 1 + 1))) := Lib.hid (by rw [HSN.out, ← HPP.out]; exact sameP_push HX.out rfl hqv)
            have z6 : w6.heap.size = wq.heap.size := hW6.size
            have d0 : w6.cell? ⟨wr.heap.size, 0, none⟩ = some (.float .f32 p0) := hW6.blk.cell 0
            clear d1
            have d1 : w6.cell? ⟨wr.heap.size, 1, none⟩ = some (.float .f32 qv) := hW6.blk.cell 1
            have lq6 : wr.heap.size < w6.heap.size := by omega
            clear hw6 hW6 hqv hbq1 fz z6
            have ho2 := own_below HO.out hB6
            have hge := own_ge ho2
            obtain ⟨hz0, hz1, hz2⟩ := HZ.out
            go_wp2_with (at_builtin; refine wpList_append_own _ rfl _ _ 31 rfl w.heap.size 77 i0 (.agg #[.float .f32 0, .float .f32 0]) 2 8 Try.underlying31 HI.out hz0 hz1 hz2 rfl (by decide) _ _ _ rfl (ho2.alloc _) ⟨w6.heap.size, 0, none⟩ 1 1 [.float .f32 p0, .float .f32 qv] rfl rfl (cell_two_new _ _ _ _) (by simp [Value.oneCell']) (by unfold maxLen; omega) (by omega) (by simp; omega) ?_; intro v' w7 hown' hgrow hnil)
            have hB7 : Below w.heap.size w3 w7 := ((hB.trans (hB6.mono (by omega))).alloc (by omega) _).grown hgrow (by simp; omega) hge
            have ho7 : w7.ownsRow w.heap.size 77 2 v' (j + 1 + 1) (dL (xs ++ [(p0, qv)])) := by rw [dL_append]; exact hown'
            have hv7 : v' ≠ .slice none 0 0 := by intro h; exact absurd (hnil.1 h).2 (by decide)
            have HO7 := Lib.hid ho7
            have HV7 := Lib.hid hv7
            clear hown' hgrow hnil ho2 hge ho7 hv7 hz0 hz1 hz2
            go_roundw
            case rel => exact ⟨j + 1 + 1, xs ++ [(p0, qv)], by omega, by go_num, HX7.out, HO7.out, HV7.out, hB7⟩
            case measure => simp [intOf]; omega
        · obtain rfl : k = ds.length := by omega
          have HLY : Hid (LyD wr w.heap.size (some ⟨g, 0, none⟩) g xs) := Lib.hid (.inr ⟨rfl, hg, cur, _, HBK.out, by rw [HXL.out]; exact HTK.out⟩)
          have hBF := hB1.trans hB
          go_wp2_with fail
          go_ret2
          exact ⟨_, g, _, xs, by rw [HC.out, HE.out, H1.out, H2.out, sel_t, sel_t, smN_length]; rfl, by rw [HE.out, H1.out, H2.out]; exact HX.out, hg, HLY.out, hBF⟩

set_option maxHeartbeats 2000000 in
theorem implSmoothDots_calls (b o cap : Nat) (ds : List (Nat × Nat)) (part : Nat) (w : World) (hd : HoldsD w b o ds) (hb : b < w.heap.size) (hl : ds.length ≤ 1048576) :
    Calls Try.prog 25 #[.slice (some ⟨b, o, none⟩) ds.length cap, .float .f32 part] w (RetDsC (smE ds part) (smC ds part) w) := by
  have HD := Lib.hid hd
  have hm : ds.length ≤ maxLen := by unfold maxLen; omega
  have HM := Lib.hid hm
  clear hd hm
  have HE : Hid (smE ds part = sel (vDots ds) (sel (vPart part) (smN part ds ds.length) []) []) := rfl
  have HC : Hid (smC ds part = sel (vDots ds) (sel (vPart part) 0 2) 1) := rfl
  go_enter Try.func25, Try.ntmps25
  go_wp2_with fail
  refine (implValidDots_calls b o _ ds _ HD.out hb HM.out).mono ?_
  rintro e w2 ⟨rfl, hb2⟩
  cases h1 : vDots ds
  · have H1 := Lib.hid h1
    clear h1
    go_wp2_with fail
    go_ret2
    exact ⟨_, w.heap.size, _, [], by rw [HC.out, HE.out, H1.out]; rfl, by rw [HE.out, H1.out]; exact sameP_refl [], Nat.le_refl _, .inl rfl, hb2⟩
  · have H1 := Lib.hid h1
    clear h1
    go_wp2_with fail
    refine (IsPart_calls part _).mono ?_
    rintro e w3 ⟨rfl, rfl⟩
    cases h2 : vPart part
    · have H2 := Lib.hid h2
      clear h2
      go_wp2_with fail
      go_ret2
      exact ⟨_, w.heap.size, _, [], by rw [HC.out, HE.out, H1.out, H2.out]; rfl, by rw [HE.out, H1.out, H2.out]; exact sameP_refl [], Nat.le_refl _, .inl rfl, hb2⟩
    · have H2 := Lib.hid h2
      clear h2
      go_wp2_with fail
      refine (cloneD_calls b o _ ds _ (HD.out.below hb2 hb) (by have := hb2.size; omega) hl).mono ?_
      rintro e w5 ⟨g, cp, cur, rfl, hg, hblk, htk, hb5⟩
      have hB5 := below_call hb2 hb5
      have hgw : w.heap.size ≤ g := Nat.le_trans hb2.size hg
      have hg5 := hblk.lt
      have hcl : ds.length * 2 ≤ cur.length := by
        have := congrArg List.length htk
        rw [List.length_take, dL_length] at this
        omega
      by_cases hp : ds.length = 0
      · have HBK := Lib.hid hblk
        have HR : Hid (smN part ds ds.length = []) := Lib.hid (by rw [hp]; rfl)
        clear hblk htk hg hb5 hcl HD HM
        rw [hp]
        go_upto_region 7 with (fail)
        refine wp_loop_once ?_
        go_wp2_with fail
        go_ret2
        exact ⟨_, g, _, [], by rw [HC.out, HE.out, H1.out, H2.out, sel_t, sel_t, HR.out]; rfl, by rw [HE.out, H1.out, H2.out, sel_t, sel_t, HR.out]; exact sameP_refl [], hgw, .inl rfl, hB5⟩
      · have HTK := Lib.hid htk
        have HST := Lib.hid (one_start htk (by omega))
        clear htk hg hb5
        go_upto_region 7 with (fail)
        go_loopw [7] (fun i wr => ∃ (k : Nat) (ys : List (Nat × Nat)), 1 ≤ k ∧ k ≤ ds.length ∧ i = .int .i64 k ∧ ys.length = k ∧ SameP ys (smN part ds k) ∧ Mem.Blk wr g (dL ys ++ cur.drop (k * 2)) 77 ∧ Below w.heap.size w wr) (fun i _ => ds.length - (intOf i).toNat)
        case atStart => exact ⟨1, [ds.getD 0 (0, 0)], Nat.le_refl _, by omega, rfl, rfl, by rw [smN_first]; exact sameP_refl _, by rw [HST.out]; exact hblk, hB5⟩
        case round =>
          clear hblk
          obtain ⟨k, ys, hk1, hk, rfl, hyl, hx, hblk, hB⟩ := hrel
          have HX := Lib.hid hx
          have HB := Lib.hid hblk
          have HYL := Lib.hid hyl
          have hgr := hblk.lt
          clear hx hblk hyl
          by_cases hlt : k < ds.length
          · obtain ⟨j, rfl⟩ : ∃ j, k = j + 1 := ⟨k - 1, by omega⟩
            obtain ⟨q0, q1⟩ := cur_get HTK.out (j + 1) hlt
            have c1 : wr.cell? ⟨g, (j + 1) * 2 + 1, none⟩ = some (.float .f32 (ds.getD (j + 1) (0, 0)).2) := (HB.out.cell _).trans ((mid_get ys (j + 1) HYL.out cur _ (by omega)).trans q1)
            have cb : wr.cell? ⟨g, j * 2 + 1, none⟩ = some (.float .f32 (ys.getD j (0, 0)).2) := by
              rw [HB.out.cell, List.getElem?_append_left (by rw [dL_length, HYL.out]; omega)]
              exact (dL_get ys j (by rw [HYL.out]; omega)).2
            have hcb := (HX.out.2 j (by rw [HYL.out]; omega)).2
            have HSN := Lib.hid (smN_push part ds (j + 1) (by omega))
            obtain ⟨p, hp'⟩ : ∃ p, p = ds.getD (j + 1) (0, 0) := ⟨_, rfl⟩
            rw [← hp'] at c1 q0
            have HPP := Lib.hid hp'
            obtain ⟨p0, p1⟩ := p
            clear hp' q1
            simp only at c1 q0
            have HP := Lib.hid (fun b => put1 ys (j + 1) HYL.out cur p0 b (by omega) q0)
            clear q0
            generalize (ys.getD j (0, 0)).2 = bf at cb hcb
            have HCB := Lib.hid hcb
            have fz : wr.frozen? ⟨g, (j + 1) * 2 + 1, none⟩ = false := HB.out.free _
            clear hcb
            go_wp2_with fail
            generalize hw6 : (World.drewN wr _).setCell ⟨g, (j + 1) * 2 + 1, none⟩ _ = w6
            obtain ⟨qv, hqv, nd, hW6⟩ : ∃ qv, Fl.canon qv = Fl.canon (smY part p1 ((smN part ds (j + 1)).getD j (0, 0)).2) ∧ ∃ n, Mem.Wrote (wr.drewN n) w6 g (dL (ys ++ [(p0, qv)]) ++ cur.drop ((j + 1 + 1) * 2)) 77 := by
              refine ⟨_, ?_, _, by rw [← hw6, ← HP.out]; exact wrote_cell (HB.out.drewN _) _ _⟩
              exact sm_of HCB.out
            have hB6 := (below_n hB nd).trans (hW6.below hgw)
            have HX7 : Hid (SameP (ys ++ [(p0, qv)]) (smN part ds (j + 1 + 1))) := Lib.hid (by rw [HSN.out, ← HPP.out]; exact sameP_push HX.out rfl hqv)
            have HB7 := Lib.hid hW6.blk
            clear hw6 hW6 hqv cb c1 fz
            go_roundw
            case rel => exact ⟨j + 1 + 1, ys ++ [(p0, qv)], by omega, by omega, by go_num, by simp [HYL.out], HX7.out, HB7.out, hB6⟩
            case measure => simp [intOf]; omega
          · obtain rfl : k = ds.length := by omega
            have HLY : Hid (LyD wr w.heap.size (some ⟨g, 0, none⟩) g ys) := Lib.hid (.inr ⟨rfl, hgw, _, _, HB.out, by rw [List.take_left' (by rw [dL_length])]⟩)
            go_wp2_with fail
            go_ret2
            exact ⟨_, g, _, ys, by rw [HC.out, HE.out, H1.out, H2.out, sel_t, sel_t, smN_length]; rfl, by rw [HE.out, H1.out, H2.out]; exact HX.out, hgw, HLY.out, hB⟩

set_option maxHeartbeats 2000000 in
theorem fnExactSmoothDots_walk (ds : List (Nat × Nat)) (ad : Option Addr) (cap : Nat) (part : Nat) (w : World) (hd : SlD w ad ds) (hl : ds.length ≤ maxLen) :
    Calls Try.prog 5 #[.slice ad ds.length cap, .float .f32 part] w (RetBool true w) := by
  have hl' := hl
  unfold maxLen at hl'
  have HD := Lib.hid hd
  have HL := Lib.hid hl
  clear hd hl
  obtain ⟨es, cd, hen, hsp, him⟩ : ∃ (es : List (Nat × Nat)) (cd : Int), es.length ≤ ds.length ∧ (∀ (b o cap : Nat) (W : World), HoldsD W b o ds → b < W.heap.size → ds.length ≤ 1048576 → Calls Try.prog 24 #[.slice (some ⟨b, o, none⟩) ds.length cap, .float .f32 part] W (RetDsC es cd W)) ∧ (∀ (b o cap : Nat) (W : World), HoldsD W b o ds → b < W.heap.size → ds.length ≤ 1048576 → Calls Try.prog 25 #[.slice (some ⟨b, o, none⟩) ds.length cap, .float .f32 part] W (RetDsC es cd W)) :=
    ⟨smE ds part, smC ds part, smE_length ds part, fun b o cap W h1 h2 h3 => specSmoothDots_calls b o cap ds part W h1 h2 h3, fun b o cap W h1 h2 h3 => implSmoothDots_calls b o cap ds part W h1 h2 h3⟩
  have HSp := Lib.hid hsp
  have HIm := Lib.hid him
  clear hsp him
  go_enter Try.func5, Try.ntmps5
  go_wp2_with fail
  refine (szDotS_calls _ _ _ _ _ (by omega) (by omega) (by omega)).mono ?_
  rintro e w2 ⟨rfl, rfl⟩
  have hb1 : Below w2.heap.size w2 w2 := Below.refl _ _
  by_cases h20 : 1048576 - (ds.length : Int) < 0
  · rw [if_pos h20]
    go_wp2_with fail
    go_ret
    exact ⟨rfl, hb1⟩
  · rw [if_neg h20]
    have hn : ds.length ≤ 1048576 := by omega
    have HD2 := Lib.hid (HD.out.below hb1)
    have hP2 : Below w2.heap.size w2 w2 := Below.refl _ _
    have hP3 := hP2
    have hT3 : Below w2.heap.size w2 w2 := Below.refl _ _
    go_wp2_with fail
    refine (toDotS_calls ad cap ds _ (HD2.out.below hP3) hn).mono ?_
    rintro e w4 ⟨g4, rfl, hg4, hblk4, hb4⟩
    have HB4 := Lib.hid hblk4
    have hP4 := below_call hP3 hb4
    clear hblk4 hb4 hg4
    go_wp2_with fail
    refine (HSp.out g4 0 _ _ (holds_blk HB4.out) HB4.out.lt hn).mono ?_
    rintro e w5 ⟨av, gv, cv, vs, rfl, hvs, _, hlv, hb5⟩
    have HVS := Lib.hid hvs
    have HV5 := Lib.hid hlv
    have hP5 := below_call hP4 hb5
    clear hvs hlv hb5 HB4
    go_wp2_with fail
    refine (toDotS_calls ad cap ds _ (HD2.out.below hP5) hn).mono ?_
    rintro e w6 ⟨g6, rfl, hg6, hblk6, hb6⟩
    have HB6 := Lib.hid hblk6
    have HV6 := Lib.hid (HV5.out.below hb6 (fun hx => HV5.out.lt hx))
    have HGV : Hid (vs ≠ [] → gv < g6) := Lib.hid fun hx => Nat.lt_of_lt_of_le (HV5.out.lt hx) hg6
    have hP6 := below_call hP5 hb6
    have HG6 : Hid (w2.heap.size ≤ g6) := Lib.hid (Nat.le_trans hP5.size hg6)
    clear hblk6 hb6 hg6 hP5 HV5
    have hP7 := hP6
    have hT7 : Below w6.heap.size w6 w6 := Below.refl _ _
    have HB7 := Lib.hid (HB6.out.below hT7 HB6.out.lt)
    have HV7 := Lib.hid (HV6.out.below hT7 (fun hx => HV6.out.lt hx))
    clear hT7 HB6 HV6
    go_wp2_with fail
    refine (HIm.out g6 0 _ _ (holds_blk HB7.out) HB7.out.lt hn).mono ?_
    rintro e w8 ⟨au, gu, cu, us, rfl, hus, hgu, hlu, hb8⟩
    have HUS := Lib.hid hus
    have HU8 := Lib.hid hlu
    have HGU : Hid (g6 < gu) := Lib.hid (Nat.lt_of_lt_of_le HB7.out.lt hgu)
    have HB8 := Lib.hid (HB7.out.below hb8 HB7.out.lt)
    have HV8 := Lib.hid (HV7.out.below hb8 (fun hx => HV7.out.lt hx))
    have hP8 := below_call hP7 hb8
    clear hus hlu hgu hb8 HB7 HV7
    go_wp2_with fail
    refine (eqDs_calls _ _ _ _ us vs es _ HU8.out.sl HV8.out.sl HUS.out HVS.out (by unfold maxLen; omega)).mono ?_
    rintro e w9 ⟨rfl, hb9⟩
    have HB9 := Lib.hid (HB8.out.below hb9 HB8.out.lt)
    have HV9 := Lib.hid (HV8.out.below hb9 (fun hx => HV8.out.lt hx))
    have HU9 := Lib.hid (HU8.out.below hb9 (fun hx => HU8.out.lt hx))
    have hP9 := below_call hP8 hb9
    clear hb9 HB8 HV8 HU8
    go_wp2_with fail
    refine (toDotS_calls ad cap ds _ (HD2.out.below hP9) hn).mono ?_
    rintro e w10 ⟨g10, rfl, hg10, hblk10, hb10⟩
    have HC10 := Lib.hid hblk10
    have HB10 := Lib.hid (HB9.out.below hb10 HB9.out.lt)
    have HV10 := Lib.hid (HV9.out.below hb10 (fun hx => HV9.out.lt hx))
    have HU10 := Lib.hid (HU9.out.below hb10 (fun hx => HU9.out.lt hx))
    have hP10 := below_call hP9 hb10
    clear hb10 hblk10 hg10 HB9 HV9 HU9
    go_wp2_with fail
    refine (eqDotS_calls _ _ _ _ ds ds _ (.inr ⟨g6, 0, rfl, HB10.out.lt, holds_blk HB10.out⟩) (.inr ⟨g10, 0, rfl, HC10.out.lt, holds_blk HC10.out⟩) (sameP_refl ds) HL.out).mono ?_
    rintro e w11 ⟨rfl, hb11⟩
    have HB11 := Lib.hid (HB10.out.below hb11 HB10.out.lt)
    have HV11 := Lib.hid (HV10.out.below hb11 (fun hx => HV10.out.lt hx))
    have HU11 := Lib.hid (HU10.out.below hb11 (fun hx => HU10.out.lt hx))
    have hP11 := below_call hP10 hb11
    clear hb11 HB10 HV10 HU10 HC10
    go_wp2_with fail
    refine (markD_calls (some ⟨g6, 0, none⟩) _ g6 0 ds 1 _ (LyD.of_blk HB11.out (Nat.zero_le _)) (by decide) (by decide) (by omega)).mono ?_
    rintro e w12 ⟨rfl, hbut, _⟩
    have HV12 := Lib.hid (HV11.out.but hbut (fun hx => Nat.ne_of_lt (HGV.out hx)))
    have HU12 := Lib.hid (HU11.out.but hbut (fun _ => (Nat.ne_of_lt HGU.out).symm))
    have hP12 := hP11.trans (hbut.below HG6.out hP11.size)
    clear hbut HV11 HU11 HB11
    obtain ⟨kk, hkk, hk0⟩ : ∃ kk : Int, kk = 1 + 2 * (ds.length : Int) ∧ decide (kk < 0) = false := ⟨_, rfl, decide_eq_false (by omega)⟩
    rw [← hkk]
    clear hkk
    go_wp2_with fail
    refine (eqDs_calls _ _ _ _ us vs es _ HU12.out.sl HV12.out.sl HUS.out HVS.out (by unfold maxLen; omega)).mono ?_
    rintro e w13 ⟨rfl, hb13⟩
    have HV13 := Lib.hid (HV12.out.below hb13 (fun hx => HV12.out.lt hx))
    have HU13 := Lib.hid (HU12.out.below hb13 (fun hx => HU12.out.lt hx))
    have hP13 := below_call hP12 hb13
    clear hb13 HV12 HU12
    go_wp2_with fail
    rw [← HUS.out.1]
    refine (markD_calls _ _ gu _ us 1 _ HU13.out (by decide) (by decide) (by rw [HUS.out.1]; omega)).mono ?_
    rintro e w14 ⟨rfl, hbut, hlm⟩
    rw [HUS.out.1] at hlm ⊢
    have HM14 := Lib.hid hlm
    have HV14 := Lib.hid (HV13.out.but hbut (fun hx => Nat.ne_of_lt (Nat.lt_trans (HGV.out hx) HGU.out)))
    have hP14 := hP13.trans (hbut.below (Nat.le_of_lt (Nat.lt_of_le_of_lt HG6.out HGU.out)) hP13.size)
    clear hbut hlm HV13 HU13
    obtain ⟨mm, hmm, hm0⟩ : ∃ mm : Int, mm = 1 + 2 * (es.length : Int) ∧ decide (mm < 0) = false := ⟨_, rfl, decide_eq_false (by omega)⟩
    have HMM := Lib.hid hmm
    rw [← hmm]
    clear hmm
    go_wp2_with fail
    refine (heldD_calls _ _ gu _ es.length 1 _ HM14.out (by decide) (by decide) (by omega)).mono ?_
    rintro e w15 ⟨rfl, hw15⟩
    subst hw15
    rw [← HMM.out]
    have HM16 := HM14
    have HV16 := HV14
    have hP16 := hP14
    clear HM14 HV14
    go_wp2_with fail
    refine (toDotS_calls ad cap ds _ (HD2.out.below hP16) hn).mono ?_
    rintro e w17 ⟨g17, rfl, hg17, hblk17, hb17⟩
    have HB17 := Lib.hid hblk17
    have HM17 := Lib.hid (HM16.out.below hb17 (fun hx => HM16.out.lt hx))
    have HV17 := Lib.hid (HV16.out.below hb17 (fun hx => HV16.out.lt hx))
    have hP17 := below_call hP16 hb17
    clear hb17 hblk17 hg17 HM16 HV16
    go_wp2_with fail
    refine (HIm.out g17 0 _ _ (holds_blk HB17.out) HB17.out.lt hn).mono ?_
    rintro e w18 ⟨ah, gh, ch, hs, rfl, hhs, _, hlh, hb18⟩
    have HHS := Lib.hid hhs
    have HH18 := Lib.hid hlh
    have HM18 := Lib.hid (HM17.out.below hb18 (fun hx => HM17.out.lt hx))
    have HV18 := Lib.hid (HV17.out.below hb18 (fun hx => HV17.out.lt hx))
    have hP18 := below_call hP17 hb18
    clear hb18 hhs hlh HM17 HV17 HB17
    go_wp2_with fail
    refine (eqDs_calls _ _ _ _ hs vs es _ HH18.out.sl HV18.out.sl HHS.out HVS.out (by unfold maxLen; omega)).mono ?_
    rintro e w19 ⟨rfl, hb19⟩
    have HM19 := Lib.hid (HM18.out.below hb19 (fun hx => HM18.out.lt hx))
    have hP19 := below_call hP18 hb19
    clear hb19 HM18 HV18 HH18
    go_wp2_with fail
    refine (heldD_calls _ _ gu _ es.length 1 _ HM19.out (by decide) (by decide) (by omega)).mono ?_
    rintro e w20 ⟨rfl, hw20⟩
    subst hw20
    rw [← HMM.out]
    go_wp2_with fail
    go_ret
    exact ⟨rfl, hb1.trans (hP19.mono hb1.size)⟩

end Go.Proofs.Ytcihbcmdmgmonaa
