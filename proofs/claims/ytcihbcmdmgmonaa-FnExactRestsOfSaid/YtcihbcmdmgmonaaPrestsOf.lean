/-
  The rests: what both programs answer, and the law's walk.
-/
import Derived.Test.YtcihbcmdmgmonaaPsquareSum
import Derived.Test.YtcihbcmdmgmonaaMarkF
import Derived.Test.YtcihbcmdmgmonaaMarkD
namespace Go.Proofs.Ytcihbcmdmgmonaa
open Go.RowKit

theorem LyF.fix {w : World} {base g : Nat} {ad : Option Addr} {xs : List Nat} (h : LyF w base ad g xs) : ∃ g', base ≤ g' ∧ LyF w base ad g' xs := by
  by_cases hx : xs = []
  · exact ⟨base, Nat.le_refl _, .inl hx⟩
  · exact ⟨g, h.ge hx, h⟩
/-- A slice of numbers in new memory, and a code. -/
def RetFsC (es : List Nat) (c : Int) (W : World) (e : Ending) (W' : World) : Prop :=
  ∃ ad g cap xs, e = .returned (.tuple #[.slice ad es.length cap, .int .i64 c]) ∧ IsFs xs es ∧ W.heap.size ≤ g ∧ LyF W' W.heap.size ad g xs ∧ Below W.heap.size W W'

theorem LyF.base {w : World} {base base' g : Nat} {ad : Option Addr} {xs : List Nat} (h : LyF w base ad g xs) (hb : base' ≤ base) : LyF w base' ad g xs := by
  rcases h with h | ⟨h1, h2, h3⟩
  · exact .inl h
  · exact .inr ⟨h1, Nat.le_trans hb h2, h3⟩

set_option maxHeartbeats 1000000 in
theorem specRestsOf_calls (s t : Nat) (b o cap : Nat) (ds : List (Nat × Nat)) (w : World) (hd : HoldsD w b o ds) (hb : b < w.heap.size) (hl : ds.length ≤ 1048576) :
    Calls Try.prog 26 #[.agg #[.float .f32 s, .float .f32 t], .slice (some ⟨b, o, none⟩) ds.length cap] w (RetFsC (sel (vFit s t ds) (restL s t ds) []) (sel (vFit s t ds) 0 1) w) := by
  have HD := Lib.hid hd
  have hm : ds.length ≤ maxLen := by unfold maxLen; omega
  have HM := Lib.hid hm
  have HS : Hid (vFit s t ds = (vLine s t && vDots ds)) := rfl
  clear hd hm
  go_enter Try.func26, Try.ntmps26
  go_upto_region 1 with (fail)
  generalize hw1 : w.alloc _ = w1
  have hb1 : Below w.heap.size w w1 := hw1 ▸ below_a1 w _
  have c0 : w1.cell? ⟨w.heap.size, 0, none⟩ = some (.float .f32 s) := by rw [← hw1]; simp [go_sem]
  have c1 : w1.cell? ⟨w.heap.size, 1, none⟩ = some (.float .f32 t) := by rw [← hw1]; simp [go_sem]
  have lw : w.heap.size < w1.heap.size := by rw [← hw1]; simp
  clear hw1
  go_wp2_with fail
  refine (l06Line_calls _ _ _).mono ?_
  rintro e w2 ⟨rfl, hb2⟩
  have hB := below_call hb1 hb2
  have c02 := (hb2.cell (p := ⟨w.heap.size, 0, none⟩) (by show w.heap.size < _; omega)).trans c0
  have c12 := (hb2.cell (p := ⟨w.heap.size, 1, none⟩) (by show w.heap.size < _; omega)).trans c1
  have lw2 : w.heap.size < w2.heap.size := by have := hb2.size; omega
  clear c0 c1
  cases h1 : vLine s t
  · have H1 := Lib.hid (show vFit s t ds = false by rw [HS.out, h1]; rfl)
    clear h1
    go_wp2_with fail
    go_ret2
    exact ⟨_, w.heap.size, _, [], by rw [H1.out]; rfl, by rw [H1.out]; exact ⟨rfl, fun i hi => absurd hi (Nat.not_lt_zero _)⟩, Nat.le_refl _, .inl rfl, hB.alloc (by have := hB.size; omega) _⟩
  · have H1 := Lib.hid h1
    clear h1
    go_wp2_with fail
    refine (l06Ok_calls b o _ ds _ (HD.out.below hB hb) (by have := hB.size; omega) HM.out).mono ?_
    rintro e w3 ⟨rfl, rfl⟩
    cases h2 : vDots ds
    · have H2 := Lib.hid (show vFit s t ds = false by rw [HS.out, H1.out, h2]; rfl)
      clear h2
      go_wp2_with fail
      go_ret2
      exact ⟨_, w.heap.size, _, [], by rw [H2.out]; rfl, by rw [H2.out]; exact ⟨rfl, fun i hi => absurd hi (Nat.not_lt_zero _)⟩, Nat.le_refl _, .inl rfl, hB.alloc (by have := hB.size; omega) _⟩
    · have H2 := Lib.hid (show vFit s t ds = true by rw [HS.out, H1.out, h2]; rfl)
      clear h2
      go_wp2_with fail
      refine (l06Rests_calls s t b o _ ds _ (HD.out.below hB hb) (by have := hB.size; omega) hl).mono ?_
      rintro e w4 ⟨v, xs, rfl, hx, hown, hb4⟩
      obtain ⟨ad, g, cp, rfl, hlen, hly⟩ := LyF.of_own hown
      obtain ⟨g', hg', hly'⟩ := hly.fix
      have HLY := Lib.hid hly'
      have HX := Lib.hid hx
      clear hown hly hly' hx
      go_wp2_with fail
      go_ret2
      exact ⟨ad, g', cp, xs, by rw [H2.out]; rfl, by rw [H2.out]; exact HX.out, Nat.le_trans hB.size hg', HLY.out.base hB.size, below_call hB hb4⟩

set_option maxHeartbeats 1000000 in
theorem implRestsOf_calls (s t : Nat) (b o cap : Nat) (ds : List (Nat × Nat)) (w : World) (hd : HoldsD w b o ds) (hb : b < w.heap.size) (hl : ds.length ≤ 1048576) :
    Calls Try.prog 27 #[.agg #[.float .f32 s, .float .f32 t], .slice (some ⟨b, o, none⟩) ds.length cap] w (RetFsC (sel (vFit s t ds) (restL s t ds) []) (sel (vFit s t ds) 0 1) w) := by
  have HD := Lib.hid hd
  have hm : ds.length ≤ maxLen := by unfold maxLen; omega
  have HM := Lib.hid hm
  have HS : Hid (vFit s t ds = (vLine s t && vDots ds)) := rfl
  clear hd hm
  go_enter Try.func27, Try.ntmps27
  go_upto_region 1 with (fail)
  generalize hw1 : w.alloc _ = w1
  have hb1 : Below w.heap.size w w1 := hw1 ▸ below_a1 w _
  have c0 : w1.cell? ⟨w.heap.size, 0, none⟩ = some (.float .f32 s) := by rw [← hw1]; simp [go_sem]
  have c1 : w1.cell? ⟨w.heap.size, 1, none⟩ = some (.float .f32 t) := by rw [← hw1]; simp [go_sem]
  have lw : w.heap.size < w1.heap.size := by rw [← hw1]; simp
  clear hw1
  go_wp2_with fail
  refine (areFitted_calls s t b o _ ds _ (HD.out.below hb1 hb) (by have := hb1.size; omega) hl).mono ?_
  rintro e w2 ⟨rfl, hb2⟩
  have hB := below_call hb1 hb2
  have c02 := (hb2.cell (p := ⟨w.heap.size, 0, none⟩) (by show w.heap.size < _; omega)).trans c0
  have c12 := (hb2.cell (p := ⟨w.heap.size, 1, none⟩) (by show w.heap.size < _; omega)).trans c1
  have lw2 : w.heap.size < w2.heap.size := by have := hb2.size; omega
  clear c0 c1
  cases h1 : vFit s t ds
  · have H1 := Lib.hid h1
    clear h1
    go_wp2_with fail
    go_ret2
    exact ⟨_, w.heap.size, _, [], by rw [H1.out]; rfl, by rw [H1.out]; exact ⟨rfl, fun i hi => absurd hi (Nat.not_lt_zero _)⟩, Nat.le_refl _, .inl rfl, hB⟩
  · have H2 := Lib.hid h1
    clear h1
    go_wp2_with fail
    refine (rests_calls s t b o _ ds _ (HD.out.below hB hb) (by have := hB.size; omega) hl).mono ?_
    rintro e w4 ⟨v, xs, rfl, hx, hown, hb4⟩
    obtain ⟨ad, g, cp, rfl, hlen, hly⟩ := LyF.of_own hown
    obtain ⟨g', hg', hly'⟩ := hly.fix
    have HLY := Lib.hid hly'
    have HX := Lib.hid hx
    clear hown hly hly' hx
    go_wp2_with fail
    go_ret2
    exact ⟨ad, g', cp, xs, by rw [H2.out]; rfl, by rw [H2.out]; exact HX.out, Nat.le_trans hB.size hg', HLY.out.base hB.size, below_call hB hb4⟩

set_option maxHeartbeats 2000000 in
theorem fnExactRestsOf_walk (s t : Nat) (ds : List (Nat × Nat)) (ad : Option Addr) (cap : Nat) (w : World) (hd : SlD w ad ds) (hl : ds.length ≤ maxLen) :
    Calls Try.prog 6 #[.agg #[.float .f32 s, .float .f32 t], .slice ad ds.length cap] w (RetBool true w) := by
  have hl' := hl
  unfold maxLen at hl'
  have HD := Lib.hid hd
  have HL := Lib.hid hl
  clear hd hl
  obtain ⟨es, cd, hen, hsp, him⟩ : ∃ (es : List Nat) (cd : Int), es.length ≤ ds.length ∧ (∀ (b o cap : Nat) (W : World), HoldsD W b o ds → b < W.heap.size → ds.length ≤ 1048576 → Calls Try.prog 26 #[.agg #[.float .f32 s, .float .f32 t], .slice (some ⟨b, o, none⟩) ds.length cap] W (RetFsC es cd W)) ∧ (∀ (b o cap : Nat) (W : World), HoldsD W b o ds → b < W.heap.size → ds.length ≤ 1048576 → Calls Try.prog 27 #[.agg #[.float .f32 s, .float .f32 t], .slice (some ⟨b, o, none⟩) ds.length cap] W (RetFsC es cd W)) :=
    ⟨sel (vFit s t ds) (restL s t ds) [], sel (vFit s t ds) 0 1, (by cases vFit s t ds; exact Nat.zero_le _; exact Nat.le_of_eq (restL_length s t ds)), fun b o cap W h1 h2 h3 => specRestsOf_calls s t b o cap ds W h1 h2 h3, fun b o cap W h1 h2 h3 => implRestsOf_calls s t b o cap ds W h1 h2 h3⟩
  have HSp := Lib.hid hsp
  have HIm := Lib.hid him
  clear hsp him
  go_enter Try.func6, Try.ntmps6
  go_upto_region 1 with (fail)
  generalize hw1 : w.alloc _ = w1
  have hb1 : Below w.heap.size w w1 := hw1 ▸ below_a1 w _
  have c0 : w1.cell? ⟨w.heap.size, 0, none⟩ = some (.float .f32 s) := by rw [← hw1]; simp [go_sem]
  have c1 : w1.cell? ⟨w.heap.size, 1, none⟩ = some (.float .f32 t) := by rw [← hw1]; simp [go_sem]
  have lw : w.heap.size < w1.heap.size := by rw [← hw1]; simp
  clear hw1
  go_wp2_with fail
  refine (szDotS_calls _ _ _ _ _ (by omega) (by omega) (by omega)).mono ?_
  rintro e w2 ⟨rfl, rfl⟩
  by_cases h20 : 1048576 - (ds.length : Int) < 0
  · rw [if_pos h20]
    clear c0 c1
    go_wp2_with fail
    go_ret
    exact ⟨rfl, hb1⟩
  · rw [if_neg h20]
    have hn : ds.length ≤ 1048576 := by omega
    have HD2 := Lib.hid (HD.out.below hb1)
    have hP2 : Below w2.heap.size w2 w2 := Below.refl _ _
    have C0 := Lib.hid c0
    have C1 := Lib.hid c1
    clear c0 c1
    have c0 := (hP2.cell (p := ⟨w.heap.size, 0, none⟩) lw).trans C0.out
    have c1 := (hP2.cell (p := ⟨w.heap.size, 1, none⟩) lw).trans C1.out
    have lw2 : w.heap.size < w2.heap.size := by have := hP2.size; omega
    go_wp2_with fail
    refine (toLine_calls _ _ _).mono ?_
    rintro e w3 ⟨rfl, hT3⟩
    have hP3 := below_call hP2 hT3
    clear c0 c1
    go_wp2_with fail
    refine (toDotS_calls ad cap ds _ (HD2.out.below hP3) hn).mono ?_
    rintro e w4 ⟨g4, rfl, hg4, hblk4, hb4⟩
    have HB4 := Lib.hid hblk4
    have hP4 := below_call hP3 hb4
    clear hblk4 hb4 hg4
    go_wp2_with fail
    refine (HSp.out g4 0 _ _ (holds_blk HB4.out) HB4.out.lt hn).mono ?_
    rintro e w5 ⟨av, gv, cv, vs, rfl, hvs, _, hlv, hb5⟩
    have HVS := Lib.hid hvs
    have HV5 := Lib.hid hlv
    have hP5 := below_call hP4 hb5
    clear hvs hlv hb5 HB4
    have c0 := (hP5.cell (p := ⟨w.heap.size, 0, none⟩) lw).trans C0.out
    have c1 := (hP5.cell (p := ⟨w.heap.size, 1, none⟩) lw).trans C1.out
    have lw5 : w.heap.size < w5.heap.size := by have := hP5.size; omega
    go_wp2_with fail
    refine (toDotS_calls ad cap ds _ (HD2.out.below hP5) hn).mono ?_
    rintro e w6 ⟨g6, rfl, hg6, hblk6, hb6⟩
    have HB6 := Lib.hid hblk6
    have HV6 := Lib.hid (HV5.out.below hb6 (fun hx => HV5.out.lt hx))
    have HGV : Hid (vs ≠ [] → gv < g6) := Lib.hid fun hx => Nat.lt_of_lt_of_le (HV5.out.lt hx) hg6
    have hP6 := below_call hP5 hb6
    have HG6 : Hid (w2.heap.size ≤ g6) := Lib.hid (Nat.le_trans hP5.size hg6)
    clear hblk6 hb6 hg6 hP5 HV5 c0 c1
    have c0 := (hP6.cell (p := ⟨w.heap.size, 0, none⟩) lw).trans C0.out
    have c1 := (hP6.cell (p := ⟨w.heap.size, 1, none⟩) lw).trans C1.out
    have lw6 : w.heap.size < w6.heap.size := by have := hP6.size; omega
    go_wp2_with fail
    refine (toLine_calls _ _ _).mono ?_
    rintro e w7 ⟨rfl, hT7⟩
    have hP7 := below_call hP6 hT7
    clear c0 c1
    have HB7 := Lib.hid (HB6.out.below hT7 HB6.out.lt)
    have HV7 := Lib.hid (HV6.out.below hT7 (fun hx => HV6.out.lt hx))
    clear hT7 HB6 HV6
    go_wp2_with fail
    refine (HIm.out g6 0 _ _ (holds_blk HB7.out) HB7.out.lt hn).mono ?_
    rintro e w8 ⟨au, gu, cu, us, rfl, hus, hgu, hlu, hb8⟩
    have HUS := Lib.hid hus
    have HU8 := Lib.hid hlu
    have HGU : Hid (g6 < gu) := Lib.hid (Nat.lt_of_lt_of_le HB7.out.lt hgu)
    have HB8 := Lib.hid (HB7.out.below hb8 HB7.out.lt)
    have HV8 := Lib.hid (HV7.out.below hb8 (fun hx => HV7.out.lt hx))
    have hP8 := below_call hP7 hb8
    clear hus hlu hgu hb8 HB7 HV7
    go_wp2_with fail
    refine (eqF_calls _ _ _ _ es.length us vs _ HU8.out.sl HV8.out.sl HUS.out.1 HVS.out.1 (fun i hi => (HUS.out.2 i hi).trans (HVS.out.2 i hi).symm) (by unfold maxLen; omega)).mono ?_
    rintro e w9 ⟨rfl, hb9⟩
    have HB9 := Lib.hid (HB8.out.below hb9 HB8.out.lt)
    have HV9 := Lib.hid (HV8.out.below hb9 (fun hx => HV8.out.lt hx))
    have HU9 := Lib.hid (HU8.out.below hb9 (fun hx => HU8.out.lt hx))
    have hP9 := below_call hP8 hb9
    clear hb9 HB8 HV8 HU8
    go_wp2_with fail
    refine (toDotS_calls ad cap ds _ (HD2.out.below hP9) hn).mono ?_
    rintro e w10 ⟨g10, rfl, hg10, hblk10, hb10⟩
    have HC10 := Lib.hid hblk10
    have HB10 := Lib.hid (HB9.out.below hb10 HB9.out.lt)
    have HV10 := Lib.hid (HV9.out.below hb10 (fun hx => HV9.out.lt hx))
    have HU10 := Lib.hid (HU9.out.below hb10 (fun hx => HU9.out.lt hx))
    have hP10 := below_call hP9 hb10
    clear hb10 hblk10 hg10 HB9 HV9 HU9
    go_wp2_with fail
    refine (eqDotS_calls _ _ _ _ ds ds _ (.inr ⟨g6, 0, rfl, HB10.out.lt, holds_blk HB10.out⟩) (.inr ⟨g10, 0, rfl, HC10.out.lt, holds_blk HC10.out⟩) (sameP_refl ds) HL.out).mono ?_
    rintro e w11 ⟨rfl, hb11⟩
    have HB11 := Lib.hid (HB10.out.below hb11 HB10.out.lt)
    have HV11 := Lib.hid (HV10.out.below hb11 (fun hx => HV10.out.lt hx))
    have HU11 := Lib.hid (HU10.out.below hb11 (fun hx => HU10.out.lt hx))
    have hP11 := below_call hP10 hb11
    clear hb11 HB10 HV10 HU10 HC10
    go_wp2_with fail
    refine (markD_calls (some ⟨g6, 0, none⟩) _ g6 0 ds 1 _ (LyD.of_blk HB11.out (Nat.zero_le _)) (by decide) (by decide) (by omega)).mono ?_
    rintro e w12 ⟨rfl, hbut, _⟩
    have HV12 := Lib.hid (HV11.out.but hbut (fun hx => Nat.ne_of_lt (HGV.out hx)))
    have HU12 := Lib.hid (HU11.out.but hbut (fun _ => (Nat.ne_of_lt HGU.out).symm))
    have hP12 := hP11.trans (hbut.below HG6.out hP11.size)
    clear hbut HV11 HU11 HB11
    obtain ⟨kk, hkk, hk0⟩ : ∃ kk : Int, kk = 1 + 2 * (ds.length : Int) ∧ decide (kk < 0) = false := ⟨_, rfl, decide_eq_false (by omega)⟩
    rw [← hkk]
    clear hkk
    go_wp2_with fail
    refine (eqF_calls _ _ _ _ es.length us vs _ HU12.out.sl HV12.out.sl HUS.out.1 HVS.out.1 (fun i hi => (HUS.out.2 i hi).trans (HVS.out.2 i hi).symm) (by unfold maxLen; omega)).mono ?_
    rintro e w13 ⟨rfl, hb13⟩
    have HV13 := Lib.hid (HV12.out.below hb13 (fun hx => HV12.out.lt hx))
    have HU13 := Lib.hid (HU12.out.below hb13 (fun hx => HU12.out.lt hx))
    have hP13 := below_call hP12 hb13
    clear hb13 HV12 HU12
    go_wp2_with fail
    rw [← HUS.out.1]
    refine (markF_calls _ _ gu _ us 1 _ HU13.out (by decide) (by decide) (by rw [HUS.out.1]; omega)).mono ?_
    rintro e w14 ⟨rfl, hbut, hlm⟩
    rw [HUS.out.1] at hlm ⊢
    have HM14 := Lib.hid hlm
    have HV14 := Lib.hid (HV13.out.but hbut (fun hx => Nat.ne_of_lt (Nat.lt_trans (HGV.out hx) HGU.out)))
    have hP14 := hP13.trans (hbut.below (Nat.le_of_lt (Nat.lt_of_le_of_lt HG6.out HGU.out)) hP13.size)
    clear hbut hlm HV13 HU13
    obtain ⟨mm, hmm, hm0⟩ : ∃ mm : Int, mm = 1 + (es.length : Int) ∧ decide (mm < 0) = false := ⟨_, rfl, decide_eq_false (by omega)⟩
    have HMM := Lib.hid hmm
    rw [← hmm]
    clear hmm
    go_wp2_with fail
    refine (heldF_calls _ _ gu _ es.length 1 _ HM14.out (by decide) (by decide) (by omega)).mono ?_
    rintro e w15 ⟨rfl, hw15⟩
    subst hw15
    rw [← HMM.out]
    have c0 := (hP14.cell (p := ⟨w.heap.size, 0, none⟩) lw).trans C0.out
    have c1 := (hP14.cell (p := ⟨w.heap.size, 1, none⟩) lw).trans C1.out
    have lw14 : w.heap.size < w15.heap.size := by have := hP14.size; omega
    go_wp2_with fail
    refine (toLine_calls _ _ _).mono ?_
    rintro e w16 ⟨rfl, hT16⟩
    have HM16 := Lib.hid (HM14.out.below hT16 (fun hx => HM14.out.lt hx))
    have HV16 := Lib.hid (HV14.out.below hT16 (fun hx => HV14.out.lt hx))
    have hP16 := below_call hP14 hT16
    clear c0 c1 hT16 HM14 HV14
    go_wp2_with fail
    refine (toDotS_calls ad cap ds _ (HD2.out.below hP16) hn).mono ?_
    rintro e w17 ⟨g17, rfl, hg17, hblk17, hb17⟩
    have HB17 := Lib.hid hblk17
    have HM17 := Lib.hid (HM16.out.below hb17 (fun hx => HM16.out.lt hx))
    have HV17 := Lib.hid (HV16.out.below hb17 (fun hx => HV16.out.lt hx))
    have hP17 := below_call hP16 hb17
    clear hb17 hblk17 hg17 HM16 HV16
    go_wp2_with fail
    refine (HIm.out g17 0 _ _ (holds_blk HB17.out) HB17.out.lt hn).mono ?_
    rintro e w18 ⟨ah, gh, ch, hs, rfl, hhs, _, hlh, hb18⟩
    have HHS := Lib.hid hhs
    have HH18 := Lib.hid hlh
    have HM18 := Lib.hid (HM17.out.below hb18 (fun hx => HM17.out.lt hx))
    have HV18 := Lib.hid (HV17.out.below hb18 (fun hx => HV17.out.lt hx))
    have hP18 := below_call hP17 hb18
    clear hb18 hhs hlh HM17 HV17 HB17
    go_wp2_with fail
    refine (eqF_calls _ _ _ _ es.length hs vs _ HH18.out.sl HV18.out.sl HHS.out.1 HVS.out.1 (fun i hi => (HHS.out.2 i hi).trans (HVS.out.2 i hi).symm) (by unfold maxLen; omega)).mono ?_
    rintro e w19 ⟨rfl, hb19⟩
    have HM19 := Lib.hid (HM18.out.below hb19 (fun hx => HM18.out.lt hx))
    have hP19 := below_call hP18 hb19
    clear hb19 HM18 HV18 HH18
    go_wp2_with fail
    refine (heldF_calls _ _ gu _ es.length 1 _ HM19.out (by decide) (by decide) (by omega)).mono ?_
    rintro e w20 ⟨rfl, hw20⟩
    subst hw20
    rw [← HMM.out]
    go_wp2_with fail
    go_ret
    exact ⟨rfl, hb1.trans (hP19.mono hb1.size)⟩

end Go.Proofs.Ytcihbcmdmgmonaa
