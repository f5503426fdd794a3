/-
  The day on which a crate costs most: what both programs answer.
-/
import Derived.Test.YtfbflbiohbhmmaaPthree
import Derived.Test.YtfbflbiohbhmmaaPsame
namespace Go.Proofs.Ytfbflbiohbhmmaa
open Go.RowKit

/-- The best day of the first n, and its worth. -/
def bestBy (f : Nat → Nat) : Nat → Nat × Nat
  | 0 => (0, f 0)
  | n + 1 => if Fl.gt (f (n + 1)) (bestBy f n).2 then (n + 1, f (n + 1)) else bestBy f n
theorem bestBy_yes {f : Nat → Nat} {n : Nat} (h : Fl.gt (f (n + 1)) (bestBy f n).2 = true) : bestBy f (n + 1) = (n + 1, f (n + 1)) := by
  show (if _ then _ else _) = _
  rw [if_pos h]
theorem bestBy_no {f : Nat → Nat} {n : Nat} (h : Fl.gt (f (n + 1)) (bestBy f n).2 = false) : bestBy f (n + 1) = bestBy f n := by
  show (if _ then _ else _) = _
  rw [h, if_neg Bool.false_ne_true]
def dayOf (c : Int) (rs : List Nat) (a g : Nat) (ps : List Nat) (n : Int) : Int :=
  if wbCode c rs a g ps (daysN n) = 0 then ((bestBy (fun j => worthN ps (growD (Fl.rateOf a g) c.toNat rs j) c.toNat) n.toNat).1 : Int) else 0
def mostOf (c : Int) (rs : List Nat) (a g : Nat) (ps : List Nat) (n : Int) : Nat :=
  if wbCode c rs a g ps (daysN n) = 0 then (bestBy (fun j => worthN ps (growD (Fl.rateOf a g) c.toNat rs j) c.toNat) n.toNat).2 else 0
/-- A day, a number and a code. -/
def RetIFC (d : Int) (x : Nat) (c : Int) (W : World) (e : Ending) (W' : World) : Prop := ∃ v, e = .returned (.tuple #[.int .i64 d, .float .f32 v, .int .i64 c]) ∧ Fl.canon v = Fl.canon x ∧ Below W.heap.size W W'
theorem store_all' {k : Int} {xs ys : List Nat} {c : Int} (h : xs.length = 16) (h' : ys.length = 16) : List.take 0 (crL c ys) ++ crL k xs ++ List.drop (0 + (crL k xs).length) (crL c ys) = crL k xs := by
  rw [List.drop_of_length_le (by rw [crL_length, crL_length, h, h']; decide)]; simp

set_option maxHeartbeats 4000000 in
theorem specBestDay_calls (c : Int) (rs : List Nat) (a g : Nat) (ps : List Nat) (n : Int) (hr : rs.length = 16) (hlo : -128 ≤ c) (hhi : c ≤ 127) (hp : ps.length = 8) (w : World) :
    Calls Try.prog 20 #[.agg (crL c rs).toArray, .agg #[.float .f32 a, .float .f32 g], .agg (fL ps).toArray, .int .i64 n] w (RetIFC (dayOf c rs a g ps n) (mostOf c rs a g ps n) (wbCode c rs a g ps (daysN n)) w) := by
  have HB : Hid (mostOf c rs a g ps n = if wbCode c rs a g ps (daysN n) = 0 then (bestBy (fun j => worthN ps (growD (Fl.rateOf a g) c.toNat rs j) c.toNat) n.toNat).2 else 0) := Lib.hid rfl
  have HD : Hid (dayOf c rs a g ps n = if wbCode c rs a g ps (daysN n) = 0 then ((bestBy (fun j => worthN ps (growD (Fl.rateOf a g) c.toNat rs j) c.toNat) n.toNat).1 : Int) else 0) := Lib.hid rfl
  have HZ := Lib.hid (@wb_zero c rs a g ps (daysN n))
  have HR := Lib.hid hr
  have HP := Lib.hid hp
  have HT := Lib.hid (fun gc ga gp W h1 h2 h3 => l05Three_calls gc ga gp c rs a g ps (daysN n) hr hlo hhi hp W h1 h2 h3)
  clear hr hp
  generalize mostOf c rs a g ps n = res at HB
  generalize dayOf c rs a g ps n = day at HD
  generalize wbCode c rs a g ps (daysN n) = cd at HB HZ HT HD
  go_enter Try.func20, Try.ntmps20
  go_upto_region 1 with (fail)
  generalize hw1 : ((w.alloc _).alloc _).alloc _ = w1
  have h1 : Mem.Blk w1 w.heap.size (crL c rs) 36 := hw1 ▸ ((Mem.Blk.new w _ _).alloc _).alloc _
  have h2 : Mem.Blk w1 (w.heap.size + 1) [.float .f32 a, .float .f32 g] 42 := hw1 ▸ (Mem.Blk.new1 w _ _ _).alloc _
  have h3 : Mem.Blk w1 (w.heap.size + 1 + 1) (fL ps) 26 := hw1 ▸ (Mem.Blk.new2 w _ _ _ _)
  have hb : Below w.heap.size w w1 := hw1 ▸ below_a3 w _ _ _
  clear hw1
  have H1 := Lib.hid h1
  have H2 := Lib.hid h2
  have H3 := Lib.hid h3
  have s1 := h1.lt
  have s3 := h3.lt
  clear h1 h2 h3
  go_wp2_with fail
  refine (l01Days_calls n _).mono ?_
  rintro e w2 ⟨rfl, rfl⟩
  go_wp2_with fail
  refine (HT.out w.heap.size (w.heap.size + 1) (w.heap.size + 1 + 1) _ H1.out H2.out H3.out).mono ?_
  rintro e w3 ⟨rfl, rfl⟩
  by_cases h0 : cd = 0
  · obtain ⟨⟨k, hck, hk, hkv⟩, ha, hg, hfine⟩ := HZ.out h0
    obtain ⟨m, hm, hm2⟩ := days_nat hfine
    subst hck hm h0
    have HX := Lib.hid (show res = (bestBy (fun j => worthN ps (growD (Fl.rateOf a g) k rs j) k) m).2 by rw [HB.out, if_pos rfl]; rfl)
    have HY := Lib.hid (show day = ((bestBy (fun j => worthN ps (growD (Fl.rateOf a g) k rs j) k) m).1 : Int) by rw [HD.out, if_pos rfl]; rfl)
    have HA := Lib.hid ha
    have HG := Lib.hid hg
    have HQ := Lib.hid (Fl.rate_up ha hg).2.2.2
    have HL := Lib.hid (fun n => (growD_length (Fl.rateOf a g) k rs (by rw [HR.out]; omega) n).trans HR.out)
    have HPT := Lib.hid (growD_parts (Fl.rateOf a g) k rs (by rw [HR.out]; omega) (Fl.rate_up ha hg).2.2.2 hkv)
    obtain ⟨r, hrr⟩ : ∃ r, r = Fl.rateOf a g := ⟨_, rfl⟩
    rw [← hrr] at HX HY HQ HL HPT
    have HRR := Lib.hid hrr
    obtain ⟨f, hf⟩ : ∃ f, f = (fun j => worthN ps (growD r k rs j) k) := ⟨_, rfl⟩
    rw [← hf] at HX HY
    have HF := Lib.hid (show ∀ j, f j = worthN ps (growD r k rs j) k from fun j => by rw [hf])
    have HST : Hid (∀ j, growD r k rs (j + 1) = growL r k (growD r k rs j)) := Lib.hid (fun _ => rfl)
    clear ha hg hfine hkv HB HZ HT HD hrr hf
    have HPT0 := Lib.hid (HPT.out 0)
    go_wp2_with fail
    refine (l05Worth_calls w.heap.size (w.heap.size + 1 + 1) k ps rs hk HR.out HP.out HPT0.out w3 (H1.out.cell 0) (HoldsF.of_crL H1.out) s1 (HoldsF.of_blk H3.out (fun _ _ => rfl)) s3).mono ?_
    rintro e w4 ⟨v, rfl, hv, hb4⟩
    have HV := Lib.hid (show Fl.canon v = Fl.canon (bestBy f 0).2 from hv.trans (by rw [show (bestBy f 0).2 = f 0 from rfl, HF.out]; rfl))
    have hB4 := below_call hb hb4
    have H1 := Lib.hid (H1.out.below hb4 s1)
    have H2 := Lib.hid (H2.out.below hb4 H2.out.lt)
    have H3 := Lib.hid (H3.out.below hb4 s3)
    clear hb hb4 hv s1 s3
    go_wp2_with fail
    go_loopw [12, 13, 14] (fun d x i wr => ∃ (j : Nat) (v : Nat), j ≤ m ∧ i = .int .i64 ((j : Int) + 1) ∧ d = .int .i64 ((bestBy f j).1 : Int) ∧ x = .float .f32 v ∧ Fl.canon v = Fl.canon (bestBy f j).2 ∧ Mem.Blk wr w.heap.size (crL (k : Int) (growD r k rs j)) 36 ∧ Mem.Blk wr (w.heap.size + 1) [.float .f32 a, .float .f32 g] 42 ∧ Mem.Blk wr (w.heap.size + 1 + 1) (fL ps) 26 ∧ Below w.heap.size w wr) (fun _ _ i _ => m + 1 - (intOf i).toNat)
    case atStart => exact ⟨0, v, Nat.zero_le _, rfl, rfl, rfl, HV.out, H1.out, H2.out, H3.out, hB4⟩
    case round =>
      clear H1 H2 H3 hB4 HV
      obtain ⟨j, v, hj, rfl, rfl, rfl, hcv, h1, h2, h3, hB⟩ := hrel
      have HV := Lib.hid hcv
      have H1 := Lib.hid h1
      have H2 := Lib.hid h2
      have H3 := Lib.hid h3
      have s1 := h1.lt
      have s2 := h2.lt
      have s3 := h3.lt
      clear hcv h1 h2 h3
      by_cases hlt : j < m
      · have HLj := Lib.hid (HL.out j)
        have HPj := Lib.hid (HPT.out j)
        have HSj := Lib.hid (HST.out j)
        have HLj1 := Lib.hid (HL.out (j + 1))
        have HPj1 := Lib.hid (HPT.out (j + 1))
        have HFj := Lib.hid (HF.out (j + 1))
        obtain ⟨ys, hys⟩ : ∃ ys, ys = growD r k rs (j + 1) := ⟨_, rfl⟩
        rw [← hys] at HSj HLj1 HPj1 HFj
        have HYS := Lib.hid hys
        clear hys
        generalize growD r k rs j = xs at H1 HLj HPj HSj
        have hgy : Hid (growD r k xs 1 = ys) := Lib.hid HSj.out.symm
        go_wp2_with fail
        (refine Rg.region_tail 3 (fun w' => Below (wr).heap.size wr w') (fun f args v => (f = 55 ∧ v = .float .f32 r) ∨ (f = 54 ∧ v = .agg (crL (k : Int) ys).toArray)) (by kernel_rfl) (by kernel_rfl) (by exact (Below.refl (wr).heap.size wr).drew) ?_; simp only [List.take_succ_cons, List.take_zero, List.drop_succ_cons, List.drop_zero])
        (with_reducible refine Rg.walk_loadA rfl 36 _ rfl w.heap.size 0 rfl (crL (k : Int) xs) _ Try.underlying36 rfl (by rw [crL_length, HLj.out]; kernel_rfl) (fun W hW j v h => by rw [Nat.zero_add, (H1.out.below hW s1).cell]; exact h) ?_)
        refine Rg.walk_calls rfl 55 #[.pointer (some ⟨w.heap.size + 1, 0, none⟩)] (fun W hW => ⟨by go_simp, (l01Rate_calls (w.heap.size + 1) a g HA.out HG.out W ((H2.out.below hW s2).cell 0) ((H2.out.below hW s2).cell 1) (by have := hW.size; omega)).mono fun e w2 ⟨he, hb2⟩ => ⟨_, he, .inl ⟨rfl, by rw [HRR.out]⟩, below_call hW hb2⟩⟩) (fun u hu => ?_)
        obtain rfl : u = .float .f32 r := by rcases hu with ⟨_, h⟩ | ⟨h, _⟩; exact h; exact absurd h (by decide)
        clear hu
        refine Rg.walk_calls rfl 54 #[.agg (crL (k : Int) xs).toArray, .float .f32 r, .int .i64 ((1 : Nat) : Int)] (fun W hW => ⟨by go_simp, (l01Grow_calls k r 1 xs hk HLj.out HPj.out HQ.out (by omega) W).mono fun e w2 ⟨he, hb2⟩ => ⟨_, he, .inr ⟨rfl, by rw [hgy.out]⟩, below_call hW hb2⟩⟩) (fun u hu => ?_)
        obtain rfl : u = .agg (crL (k : Int) ys).toArray := by rcases hu with ⟨h, _⟩ | ⟨_, h⟩; exact absurd h (by decide); exact h
        clear hu
        refine Rg.walk_nil ?_
        intro w5 hb5
        have hB5 := below_call hB hb5
        have H1 := Lib.hid (H1.out.below hb5 s1)
        have H2 := Lib.hid (H2.out.below hb5 s2)
        have H3 := Lib.hid (H3.out.below hb5 s3)
        clear hb5 s1 s2 s3 hB
        go_wp2_with (with_reducible refine Mem.wpList_storeA rfl 36 _ _ rfl w.heap.size 0 rfl (crL (k : Int) ys) _ rfl _ H1.out (by rw [crL_length, HLj1.out]; kernel_rfl) (by rw [crL_length, crL_length, HLj1.out, HLj.out]; decide) (crL_one _ _) ?_; intro w6 hw6)
        rw [store_all' HLj1.out HLj.out] at hw6
        have hB6 := hB5.trans (hw6.below (by omega))
        have H1 := Lib.hid hw6.blk
        have H2 := Lib.hid (hw6.keep (by omega) H2.out)
        have H3 := Lib.hid (hw6.keep (by omega) H3.out)
        have s1 := H1.out.lt
        have s3 := H3.out.lt
        clear hw6 hB5
        refine (l05Worth_calls w.heap.size (w.heap.size + 1 + 1) k ps ys hk HLj1.out HP.out HPj1.out w6 (H1.out.cell 0) (HoldsF.of_crL H1.out) s1 (HoldsF.of_blk H3.out (fun _ _ => rfl)) s3).mono ?_
        rintro e w7 ⟨u, rfl, hu, hb7⟩
        have HU := Lib.hid (show Fl.canon u = Fl.canon (f (j + 1)) from hu.trans (by rw [HFj.out]))
        have hB7 := below_call hB6 hb7
        have H1 := Lib.hid (H1.out.below hb7 s1)
        have H2 := Lib.hid (H2.out.below hb7 H2.out.lt)
        have H3 := Lib.hid (H3.out.below hb7 s3)
        clear hu hb7 hB6 s1 s3
        have hgt : Fl.gt u v = Fl.gt (f (j + 1)) (bestBy f j).2 := by rw [← Fl.gt_canon, HU.out, HV.out, Fl.gt_canon]
        cases hgz : Fl.gt (f (j + 1)) (bestBy f j).2
        · rw [hgz] at hgt
          have HW := Lib.hid (bestBy_no hgz)
          clear hgz
          go_wp2_with fail
          go_roundw
          case rel => exact ⟨j + 1, v, by omega, by go_num, by rw [HW.out], rfl, by rw [HW.out]; exact HV.out, by rw [← HYS.out]; exact H1.out, H2.out, H3.out, hB7⟩
          case measure => simp [intOf]; omega
        · rw [hgz] at hgt
          have HW := Lib.hid (bestBy_yes hgz)
          clear hgz
          go_wp2_with fail
          go_roundw
          case rel => exact ⟨j + 1, u, by omega, by go_num, by rw [HW.out]; go_num, rfl, by rw [HW.out]; exact HU.out, by rw [← HYS.out]; exact H1.out, H2.out, H3.out, hB7⟩
          case measure => simp [intOf]; omega
      · obtain rfl : j = m := by omega
        go_wp2_with fail
        go_ret3
        exact ⟨v, by rw [HY.out]; rfl, by rw [HX.out]; exact HV.out, hB⟩
  · have HX := Lib.hid (show res = 0 by rw [HB.out, if_neg h0])
    have HY := Lib.hid (show day = 0 by rw [HD.out, if_neg h0])
    go_wp2_with fail
    go_ret3
    exact ⟨0, by rw [HY.out]; rfl, by rw [HX.out], hb⟩
set_option maxHeartbeats 4000000 in
theorem implBestDay_calls (c : Int) (rs : List Nat) (a g : Nat) (ps : List Nat) (n : Int) (hr : rs.length = 16) (hlo : -128 ≤ c) (hhi : c ≤ 127) (hp : ps.length = 8) (w : World) :
    Calls Try.prog 21 #[.agg (crL c rs).toArray, .agg #[.float .f32 a, .float .f32 g], .agg (fL ps).toArray, .int .i64 n] w (RetIFC (dayOf c rs a g ps n) (mostOf c rs a g ps n) (wbCode c rs a g ps (daysN n)) w) := by
  have HB : Hid (mostOf c rs a g ps n = if wbCode c rs a g ps (daysN n) = 0 then (bestBy (fun j => worthN ps (growD (Fl.rateOf a g) c.toNat rs j) c.toNat) n.toNat).2 else 0) := Lib.hid rfl
  have HD : Hid (dayOf c rs a g ps n = if wbCode c rs a g ps (daysN n) = 0 then ((bestBy (fun j => worthN ps (growD (Fl.rateOf a g) c.toNat rs j) c.toNat) n.toNat).1 : Int) else 0) := Lib.hid rfl
  have HZ := Lib.hid (@wb_zero c rs a g ps (daysN n))
  have HR := Lib.hid hr
  have HP := Lib.hid hp
  have HT := Lib.hid (fun W => worthCode_calls c rs a g ps n hr hlo hhi hp W)
  clear hr hp
  generalize mostOf c rs a g ps n = res at HB
  generalize dayOf c rs a g ps n = day at HD
  generalize wbCode c rs a g ps (daysN n) = cd at HB HZ HT HD
  go_enter Try.func21, Try.ntmps21
  go_upto_region 1 with (fail)
  generalize hw1 : ((w.alloc _).alloc _).alloc _ = w1
  have h1 : Mem.Blk w1 w.heap.size (crL c rs) 36 := hw1 ▸ ((Mem.Blk.new w _ _).alloc _).alloc _
  have h2 : Mem.Blk w1 (w.heap.size + 1) [.float .f32 a, .float .f32 g] 42 := hw1 ▸ (Mem.Blk.new1 w _ _ _).alloc _
  have h3 : Mem.Blk w1 (w.heap.size + 1 + 1) (fL ps) 26 := hw1 ▸ (Mem.Blk.new2 w _ _ _ _)
  have hb : Below w.heap.size w w1 := hw1 ▸ below_a3 w _ _ _
  clear hw1
  have H1 := Lib.hid h1
  have H2 := Lib.hid h2
  have H3 := Lib.hid h3
  have s1 := h1.lt
  have s3 := h3.lt
  clear h1 h2 h3
  clear s1 s3
  go_wp2_with (first
    | (with_reducible refine Mem.wpList_loadA rfl 36 _ rfl w.heap.size 0 rfl (crL c rs) _ Try.underlying36 rfl (by rw [crL_length, HR.out]; kernel_rfl) (fun j v h => by rw [Nat.zero_add, H1.out.cell]; exact h) ?_)
    | (with_reducible refine Mem.wpList_loadA rfl 42 _ rfl (w.heap.size + 1) 0 rfl [.float .f32 a, .float .f32 g] _ Try.underlying42 rfl (by kernel_rfl) (fun j v h => by rw [Nat.zero_add, H2.out.cell]; exact h) ?_)
    | (with_reducible refine Mem.wpList_loadA rfl 26 _ rfl (w.heap.size + 1 + 1) 0 rfl (fL ps) _ Try.underlying26 rfl (by rw [fL_length, HP.out]; kernel_rfl) (fun j v h => by rw [Nat.zero_add, H3.out.cell]; exact h) ?_))
  refine (HT.out w1).mono ?_
  rintro e w2 ⟨rfl, hb2⟩
  have hb := below_call hb hb2
  have H1 := Lib.hid (H1.out.below hb2 H1.out.lt)
  have H2 := Lib.hid (H2.out.below hb2 H2.out.lt)
  have H3 := Lib.hid (H3.out.below hb2 H3.out.lt)
  clear hb2
  by_cases h0 : cd = 0
  · obtain ⟨⟨k, hck, hk, hkv⟩, ha, hg, hfine⟩ := HZ.out h0
    obtain ⟨m, hm, hm2⟩ := days_nat hfine
    subst hck hm h0
    have HX := Lib.hid (show res = (bestBy (fun j => worthN ps (growD (Fl.rateOf a g) k rs j) k) m).2 by rw [HB.out, if_pos rfl]; rfl)
    have HY := Lib.hid (show day = ((bestBy (fun j => worthN ps (growD (Fl.rateOf a g) k rs j) k) m).1 : Int) by rw [HD.out, if_pos rfl]; rfl)
    have HA := Lib.hid ha
    have HG := Lib.hid hg
    have HQ := Lib.hid (Fl.rate_up ha hg).2.2.2
    have HL := Lib.hid (fun n => (growD_length (Fl.rateOf a g) k rs (by rw [HR.out]; omega) n).trans HR.out)
    have HPT := Lib.hid (growD_parts (Fl.rateOf a g) k rs (by rw [HR.out]; omega) (Fl.rate_up ha hg).2.2.2 hkv)
    obtain ⟨r, hrr⟩ : ∃ r, r = Fl.rateOf a g := ⟨_, rfl⟩
    rw [← hrr] at HX HY HQ HL HPT
    have HRR := Lib.hid hrr
    obtain ⟨f, hf⟩ : ∃ f, f = (fun j => worthN ps (growD r k rs j) k) := ⟨_, rfl⟩
    rw [← hf] at HX HY
    have HF := Lib.hid (show ∀ j, f j = worthN ps (growD r k rs j) k from fun j => by rw [hf])
    have HST : Hid (∀ j, growD r k rs (j + 1) = growL r k (growD r k rs j)) := Lib.hid (fun _ => rfl)
    clear ha hg hfine hkv HB HZ HT HD hrr hf
    have HPT0 := Lib.hid (HPT.out 0)
    go_wp2_with (first
      | (with_reducible refine Mem.wpList_loadA rfl 36 _ rfl w.heap.size 0 rfl (crL (k : Int) rs) _ Try.underlying36 rfl (by rw [crL_length, HR.out]; kernel_rfl) (fun j v h => by rw [Nat.zero_add, H1.out.cell]; exact h) ?_)
      | (with_reducible refine Mem.wpList_loadA rfl 26 _ rfl (w.heap.size + 1 + 1) 0 rfl (fL ps) _ Try.underlying26 rfl (by rw [fL_length, HP.out]; kernel_rfl) (fun j v h => by rw [Nat.zero_add, H3.out.cell]; exact h) ?_))
    refine (pricesWorth_calls k ps rs hk HR.out HP.out HPT0.out _).mono ?_
    rintro e w4 ⟨v, rfl, hv, hb4⟩
    have HV := Lib.hid (show Fl.canon v = Fl.canon (bestBy f 0).2 from hv.trans (by rw [show (bestBy f 0).2 = f 0 from rfl, HF.out]; rfl))
    have hB4 := below_call hb hb4
    have H1 := Lib.hid (H1.out.below hb4 H1.out.lt)
    have H2 := Lib.hid (H2.out.below hb4 H2.out.lt)
    have H3 := Lib.hid (H3.out.below hb4 H3.out.lt)
    clear hb hb4 hv
    go_wp2_with fail
    go_loopw [12, 13, 14] (fun d x i wr => ∃ (j : Nat) (v : Nat), j ≤ m ∧ i = .int .i64 ((j : Int) + 1) ∧ d = .int .i64 ((bestBy f j).1 : Int) ∧ x = .float .f32 v ∧ Fl.canon v = Fl.canon (bestBy f j).2 ∧ Mem.Blk wr w.heap.size (crL (k : Int) (growD r k rs j)) 36 ∧ Mem.Blk wr (w.heap.size + 1) [.float .f32 a, .float .f32 g] 42 ∧ Mem.Blk wr (w.heap.size + 1 + 1) (fL ps) 26 ∧ Below w.heap.size w wr) (fun _ _ i _ => m + 1 - (intOf i).toNat)
    case atStart => exact ⟨0, v, Nat.zero_le _, rfl, rfl, rfl, HV.out, H1.out, H2.out, H3.out, hB4⟩
    case round =>
      clear H1 H2 H3 hB4 HV
      obtain ⟨j, v, hj, rfl, rfl, rfl, hcv, h1, h2, h3, hB⟩ := hrel
      have HV := Lib.hid hcv
      have H1 := Lib.hid h1
      have H2 := Lib.hid h2
      have H3 := Lib.hid h3
      have s1 := h1.lt
      have s2 := h2.lt
      have s3 := h3.lt
      clear hcv h1 h2 h3
      by_cases hlt : j < m
      · have HLj := Lib.hid (HL.out j)
        have HPj := Lib.hid (HPT.out j)
        have HSj := Lib.hid (HST.out j)
        have HLj1 := Lib.hid (HL.out (j + 1))
        have HPj1 := Lib.hid (HPT.out (j + 1))
        have HFj := Lib.hid (HF.out (j + 1))
        obtain ⟨ys, hys⟩ : ∃ ys, ys = growD r k rs (j + 1) := ⟨_, rfl⟩
        rw [← hys] at HSj HLj1 HPj1 HFj
        have HYS := Lib.hid hys
        clear hys
        generalize growD r k rs j = xs at H1 HLj HPj HSj
        go_wp2_with (first
          | (with_reducible refine Mem.wpList_loadA rfl 36 _ rfl w.heap.size 0 rfl (crL (k : Int) xs) _ Try.underlying36 rfl (by rw [crL_length, HLj.out]; kernel_rfl) (fun j v h => by rw [Nat.zero_add, H1.out.cell]; exact h) ?_)
          | (with_reducible refine Mem.wpList_loadA rfl 42 _ rfl (w.heap.size + 1) 0 rfl [.float .f32 a, .float .f32 g] _ Try.underlying42 rfl (by kernel_rfl) (fun j v h => by rw [Nat.zero_add, H2.out.cell]; exact h) ?_))
        refine (crateGrow_calls k a g xs hk HLj.out HPj.out HA.out HG.out _).mono ?_
        rintro e w5 ⟨rfl, hb5⟩
        rw [← HRR.out, ← HSj.out]
        have hB5 := below_call hB hb5
        have H1 := Lib.hid (H1.out.below hb5 s1)
        have H2 := Lib.hid (H2.out.below hb5 s2)
        have H3 := Lib.hid (H3.out.below hb5 s3)
        clear hb5 s1 s2 s3 hB
        go_upto_region 9 with (with_reducible refine Mem.wpList_storeA rfl 36 _ _ rfl w.heap.size 0 rfl (crL (k : Int) ys) _ rfl _ H1.out (by rw [crL_length, HLj1.out]; kernel_rfl) (by rw [crL_length, crL_length, HLj1.out, HLj.out]; decide) (crL_one _ _) ?_; intro w6 hw6)
        rw [store_all' HLj1.out HLj.out] at hw6
        have hB6 := hB5.trans (hw6.below (by omega))
        have H1 := Lib.hid hw6.blk
        have H2 := Lib.hid (hw6.keep (by omega) H2.out)
        have H3 := Lib.hid (hw6.keep (by omega) H3.out)
        have s1 := H1.out.lt
        have s3 := H3.out.lt
        clear hw6 hB5
        go_wp2_with (first
          | (with_reducible refine Mem.wpList_loadA rfl 36 _ rfl w.heap.size 0 rfl (crL (k : Int) ys) _ Try.underlying36 rfl (by rw [crL_length, HLj1.out]; kernel_rfl) (fun j v h => by rw [Nat.zero_add, H1.out.cell]; exact h) ?_)
          | (with_reducible refine Mem.wpList_loadA rfl 26 _ rfl (w.heap.size + 1 + 1) 0 rfl (fL ps) _ Try.underlying26 rfl (by rw [fL_length, HP.out]; kernel_rfl) (fun j v h => by rw [Nat.zero_add, H3.out.cell]; exact h) ?_))
        refine (pricesWorth_calls k ps ys hk HLj1.out HP.out HPj1.out _).mono ?_
        rintro e w7 ⟨u, rfl, hu, hb7⟩
        have HU := Lib.hid (show Fl.canon u = Fl.canon (f (j + 1)) from hu.trans (by rw [HFj.out]))
        have hB7 := below_call hB6 hb7
        have H1 := Lib.hid (H1.out.below hb7 s1)
        have H2 := Lib.hid (H2.out.below hb7 H2.out.lt)
        have H3 := Lib.hid (H3.out.below hb7 s3)
        clear hu hb7 hB6 s1 s3
        have hgt : Fl.gt u v = Fl.gt (f (j + 1)) (bestBy f j).2 := by rw [← Fl.gt_canon, HU.out, HV.out, Fl.gt_canon]
        cases hgz : Fl.gt (f (j + 1)) (bestBy f j).2
        · rw [hgz] at hgt
          have HW := Lib.hid (bestBy_no hgz)
          clear hgz
          go_wp2_with fail
          go_roundw
          case rel => exact ⟨j + 1, v, by omega, by go_num, by rw [HW.out], rfl, by rw [HW.out]; exact HV.out, by rw [← HYS.out]; exact H1.out, H2.out, H3.out, hB7⟩
          case measure => simp [intOf]; omega
        · rw [hgz] at hgt
          have HW := Lib.hid (bestBy_yes hgz)
          clear hgz
          go_wp2_with fail
          go_roundw
          case rel => exact ⟨j + 1, u, by omega, by go_num, by rw [HW.out]; go_num, rfl, by rw [HW.out]; exact HU.out, by rw [← HYS.out]; exact H1.out, H2.out, H3.out, hB7⟩
          case measure => simp [intOf]; omega
      · obtain rfl : j = m := by omega
        go_wp2_with fail
        go_ret3
        exact ⟨v, by rw [HY.out]; rfl, by rw [HX.out]; exact HV.out, hB⟩
  · have HX := Lib.hid (show res = 0 by rw [HB.out, if_neg h0])
    have HY := Lib.hid (show day = 0 by rw [HD.out, if_neg h0])
    go_wp2_with fail
    go_ret3
    exact ⟨0, by rw [HY.out]; rfl, by rw [HX.out], hb⟩
end Go.Proofs.Ytfbflbiohbhmmaa
