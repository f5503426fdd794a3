/-
  The walk of the law on WorthOf.
-/
import Derived.Test.YtfbflbiohbhmmaaPworth
import Derived.Test.YtfbflbiohbhmmaaPsame
namespace Go.Proofs.Ytfbflbiohbhmmaa
open Go.RowKit

def woOk (c : Int) (rs ps : List Nat) : Bool := vCrate c rs && vPrices ps
def woCode (c : Int) (rs ps : List Nat) : Int := if woOk c rs ps then 0 else 1
def woOf (c : Int) (rs ps : List Nat) : Nat := if woOk c rs ps then worthN ps rs c.toNat else 0

set_option maxHeartbeats 1000000 in
theorem specWorthOf_calls (c : Int) (rs ps : List Nat) (hr : rs.length = 16) (hlo : -128 ≤ c) (hhi : c ≤ 127) (hp : ps.length = 8) (w : World) :
    Calls Try.prog 14 #[.agg (crL c rs).toArray, .agg (fL ps).toArray] w (RetFC (woOf c rs ps) (woCode c rs ps) w) := by
  have HR := Lib.hid hr
  have HP := Lib.hid hp
  clear hr hp
  go_enter Try.func14, Try.ntmps14
  go_upto_region 1 with (fail)
  generalize hw1 : (w.alloc _).alloc _ = w1
  have h1 : Mem.Blk w1 w.heap.size (crL c rs) 36 := hw1 ▸ (Mem.Blk.new w _ _).alloc _
  have h2 : Mem.Blk w1 (w.heap.size + 1) (fL ps) 26 := hw1 ▸ (Mem.Blk.new1 w _ _ _)
  have hb : Below w.heap.size w w1 := hw1 ▸ below_a2 w _ _
  clear hw1
  have H1 := Lib.hid h1
  have H2 := Lib.hid h2
  have s1 := h1.lt
  have s2 := h2.lt
  clear h1 h2
  go_wp2_with fail
  refine (l01Crate_calls w.heap.size 0 c rs HR.out hlo hhi w1 (H1.out.cell 0) (HoldsF.of_crL H1.out)).mono ?_
  rintro e w2 ⟨rfl, rfl⟩
  cases hv : vCrate c rs
  · have HX := Lib.hid (show woOk c rs ps = false by unfold woOk; rw [hv]; rfl)
    clear hv
    go_wp2_with fail
    go_ret2
    exact ⟨0, by unfold woCode; rw [HX.out]; rfl, by unfold woOf; rw [HX.out]; rfl, hb⟩
  · obtain ⟨k, rfl, hk, hkv⟩ := vCrate_nat hv
    have HKV := Lib.hid hkv
    have HV := Lib.hid hv
    clear hv hkv
    go_wp2_with fail
    refine (l05Prices_calls (w.heap.size + 1) ps HP.out _ (HoldsF.of_blk H2.out (fun _ _ => rfl)) s2).mono ?_
    rintro e w3 ⟨rfl, rfl⟩
    cases hq : vPrices ps
    · have HX := Lib.hid (show woOk (k : Int) rs ps = false by unfold woOk; rw [hq, Bool.and_false])
      clear hq
      go_wp2_with fail
      go_ret2
      exact ⟨0, by unfold woCode; rw [HX.out]; rfl, by unfold woOf; rw [HX.out]; rfl, hb⟩
    · have HX := Lib.hid (show woOk (k : Int) rs ps = true by unfold woOk; rw [hq, HV.out]; rfl)
      clear hq
      go_wp2_with fail
      refine (l05Worth_calls w.heap.size (w.heap.size + 1) k ps rs hk HR.out HP.out HKV.out _ (H1.out.cell 0) (HoldsF.of_crL H1.out) s1 (HoldsF.of_blk H2.out (fun _ _ => rfl)) s2).mono ?_
      rintro e w4 ⟨v, rfl, hv, hb4⟩
      have HVV := Lib.hid hv
      clear hv
      go_wp2_with fail
      go_ret2
      exact ⟨v, by unfold woCode; rw [HX.out]; rfl, by unfold woOf; rw [HX.out]; exact HVV.out, below_call hb hb4⟩

set_option maxHeartbeats 1000000 in
theorem implWorthOf_calls (c : Int) (rs ps : List Nat) (hr : rs.length = 16) (hlo : -128 ≤ c) (hhi : c ≤ 127) (hp : ps.length = 8) (w : World) :
    Calls Try.prog 16 #[.agg (crL c rs).toArray, .agg (fL ps).toArray] w (RetFC (woOf c rs ps) (woCode c rs ps) w) := by
  have HR := Lib.hid hr
  have HP := Lib.hid hp
  clear hr hp
  go_enter Try.func16, Try.ntmps16
  go_upto_region 1 with (fail)
  generalize hw1 : (w.alloc _).alloc _ = w1
  have h1 : Mem.Blk w1 w.heap.size (crL c rs) 36 := hw1 ▸ (Mem.Blk.new w _ _).alloc _
  have h2 : Mem.Blk w1 (w.heap.size + 1) (fL ps) 26 := hw1 ▸ (Mem.Blk.new1 w _ _ _)
  have hb : Below w.heap.size w w1 := hw1 ▸ below_a2 w _ _
  clear hw1
  have H1 := Lib.hid h1
  have H2 := Lib.hid h2
  have s1 := h1.lt
  have s2 := h2.lt
  clear h1 h2
  go_wp2_with (with_reducible refine Mem.wpList_loadA rfl 36 _ rfl w.heap.size 0 rfl (crL c rs) _ Try.underlying36 rfl (by rw [crL_length, HR.out]; kernel_rfl) (fun j v h => by rw [Nat.zero_add, H1.out.cell]; exact h) ?_)
  refine (implValidCrate_calls c rs HR.out hlo hhi w1).mono ?_
  rintro e w2 ⟨rfl, hb2⟩
  have hB2 := below_call hb hb2
  have H1 := Lib.hid (H1.out.below hb2 s1)
  have H2 := Lib.hid (H2.out.below hb2 s2)
  have s1 := H1.out.lt
  have s2 := H2.out.lt
  clear hb hb2
  cases hv : vCrate c rs
  · have HX := Lib.hid (show woOk c rs ps = false by unfold woOk; rw [hv]; rfl)
    clear hv
    go_wp2_with fail
    go_ret2
    exact ⟨0, by unfold woCode; rw [HX.out]; rfl, by unfold woOf; rw [HX.out]; rfl, hB2⟩
  · obtain ⟨k, rfl, hk, hkv⟩ := vCrate_nat hv
    have HKV := Lib.hid hkv
    have HV := Lib.hid hv
    clear hv hkv
    go_wp2_with (with_reducible refine Mem.wpList_loadG rfl 26 _ rfl (w.heap.size + 1) 0 rfl (fL ps) _ Try.underlying26 rfl (by rw [fL_length, HP.out]; kernel_rfl) (fun j v h => by rw [Nat.zero_add, H2.out.cell]; exact h) ?_)
    refine (implValidPrices_calls ps HP.out _).mono ?_
    rintro e w3 ⟨rfl, hb3⟩
    have hB3 := below_call hB2 hb3
    have H1 := Lib.hid (H1.out.below hb3 s1)
    have H2 := Lib.hid (H2.out.below hb3 s2)
    have s1 := H1.out.lt
    have s2 := H2.out.lt
    clear hB2 hb3
    cases hq : vPrices ps
    · have HX := Lib.hid (show woOk (k : Int) rs ps = false by unfold woOk; rw [hq, Bool.and_false])
      clear hq
      go_wp2_with fail
      go_ret2
      exact ⟨0, by unfold woCode; rw [HX.out]; rfl, by unfold woOf; rw [HX.out]; rfl, hB3⟩
    · have HX := Lib.hid (show woOk (k : Int) rs ps = true by unfold woOk; rw [hq, HV.out]; rfl)
      clear hq
      go_wp2_with (first
        | (with_reducible refine Mem.wpList_loadA rfl 26 _ rfl (w.heap.size + 1) 0 rfl (fL ps) _ Try.underlying26 rfl (by rw [fL_length, HP.out]; kernel_rfl) (fun j v h => by rw [Nat.zero_add, H2.out.cell]; exact h) ?_)
        | (with_reducible refine Mem.wpList_loadA rfl 36 _ rfl w.heap.size 0 rfl (crL (k : Int) rs) _ Try.underlying36 rfl (by rw [crL_length, HR.out]; kernel_rfl) (fun j v h => by rw [Nat.zero_add, H1.out.cell]; exact h) ?_))
      refine (pricesWorth_calls k ps rs hk HR.out HP.out HKV.out _).mono ?_
      rintro e w4 ⟨v, rfl, hv, hb4⟩
      have HVV := Lib.hid hv
      clear hv
      go_wp2_with fail
      go_ret2
      exact ⟨v, by unfold woCode; rw [HX.out]; rfl, by unfold woOf; rw [HX.out]; exact HVV.out, below_call hB3 hb4⟩

set_option maxHeartbeats 2000000 in
theorem fnExactWorthOf_walk (c : Int) (rs ps : List Nat) (w : World) (hr : rs.length = 16) (hc : IntKind.i8.has c) (_hf : ∀ i, i < 16 → FloatKind.f32.has (rs.getD i 0)) (hp : ps.length = 8) :
    Calls Try.prog 4 #[.agg (crL c rs).toArray, .agg (fL ps).toArray] w (RetBool true w) := by
  have hlo : -128 ≤ c := hc.1
  have hhi : c ≤ 127 := hc.2
  have HR := Lib.hid hr
  have HP := Lib.hid hp
  clear hr hp hc
  go_enter Try.func4, Try.ntmps4
  go_upto_region 1 with (fail)
  generalize hw1 : (w.alloc _).alloc _ = w1
  have h1 : Mem.Blk w1 w.heap.size (crL c rs) 34 := hw1 ▸ (Mem.Blk.new w _ _).alloc _
  have h2 : Mem.Blk w1 (w.heap.size + 1) (fL ps) 23 := hw1 ▸ (Mem.Blk.new1 w _ _ _)
  have hb : Below w.heap.size w w1 := hw1 ▸ below_a2 w _ _
  clear hw1
  have s1 := h1.lt
  have s2 := h2.lt
  have K1 := Lib.hid (show ∀ W, Below w1.heap.size w1 W → ∀ j v, (crL c rs)[j]? = some v → W.cell? ⟨w.heap.size, 0 + j, none⟩ = some v from fun W hW j v h => ((h1.below hW s1).cell (0 + j)).trans (by rw [Nat.zero_add]; exact h))
  have K2 := Lib.hid (show ∀ W, Below w1.heap.size w1 W → ∀ j v, (fL ps)[j]? = some v → W.cell? ⟨w.heap.size + 1, 0 + j, none⟩ = some v from fun W hW j v h => ((h2.below hW s2).cell (0 + j)).trans (by rw [Nat.zero_add]; exact h))
  clear h1 h2
  obtain ⟨cd, hcd⟩ : ∃ cd, cd = woCode c rs ps := ⟨_, rfl⟩
  obtain ⟨val, hval⟩ : ∃ val, val = woOf c rs ps := ⟨_, rfl⟩
  have HSp := Lib.hid (fun W => specWorthOf_calls c rs ps HR.out hlo hhi HP.out W)
  have HIm := Lib.hid (fun W => implWorthOf_calls c rs ps HR.out hlo hhi HP.out W)
  rw [← hcd, ← hval] at HSp HIm
  clear hcd hval
  go_wp2_with fail
  (refine Rg.region_tail 9 (fun w' => Below (w1).heap.size w1 w') (fun f args v => (f = 15 ∧ v = .agg (crL c rs).toArray) ∨ (f = 11 ∧ v = .agg (fL ps).toArray) ∨ (f = 14 ∧ ∃ u, v = .tuple #[.float .f32 u, .int .i64 cd] ∧ Fl.canon u = Fl.canon val)) (by kernel_rfl) (by kernel_rfl) (by exact (Below.refl (w1).heap.size w1).drew) ?_; simp only [List.take_succ_cons, List.take_zero, List.drop_succ_cons, List.drop_zero])
  (with_reducible refine Rg.walk_loadA rfl 34 _ rfl w.heap.size 0 rfl (crL c rs) _ Try.underlying34 rfl (by rw [crL_length, HR.out]; kernel_rfl) (fun W hW => K1.out W hW) ?_)
  refine Rg.walk_calls rfl 15 #[.agg (crL c rs).toArray] (fun W hW => ⟨by go_simp, (toCrate_calls c rs HR.out W).mono fun e w2 ⟨he, hb2⟩ => ⟨_, he, .inl ⟨rfl, rfl⟩, below_call hW hb2⟩⟩) (fun u hu => ?_)
  obtain rfl : u = .agg (crL c rs).toArray := by rcases hu with ⟨_, h⟩ | ⟨h, _⟩ | ⟨h, _⟩; exact h; exact absurd h (by decide); exact absurd h (by decide)
  clear hu
  (with_reducible refine Rg.walk_loadA rfl 23 _ rfl (w.heap.size + 1) 0 rfl (fL ps) _ Try.underlying23 rfl (by rw [fL_length, HP.out]; kernel_rfl) (fun W hW => K2.out W hW) ?_)
  refine Rg.walk_calls rfl 11 #[.agg (fL ps).toArray] (fun W hW => ⟨by go_simp, (toPrices_calls ps HP.out W).mono fun e w2 ⟨he, hb2⟩ => ⟨_, he, .inr (.inl ⟨rfl, rfl⟩), below_call hW hb2⟩⟩) (fun u hu => ?_)
  obtain rfl : u = .agg (fL ps).toArray := by rcases hu with ⟨h, _⟩ | ⟨_, h⟩ | ⟨h, _⟩; exact absurd h (by decide); exact h; exact absurd h (by decide)
  clear hu
  refine Rg.walk_calls rfl 14 #[.agg (crL c rs).toArray, .agg (fL ps).toArray] (fun W hW => ⟨by go_simp, (HSp.out W).mono fun e w2 ⟨u, he, hu, hb2⟩ => ⟨_, he, .inr (.inr ⟨rfl, u, rfl, hu⟩), below_call hW hb2⟩⟩) (fun u hu => ?_)
  obtain ⟨v, rfl, hv⟩ : ∃ z, u = .tuple #[.float .f32 z, .int .i64 cd] ∧ Fl.canon z = Fl.canon val := by rcases hu with ⟨h, _⟩ | ⟨h, _⟩ | ⟨_, h⟩; exact absurd h (by decide); exact absurd h (by decide); exact h
  clear hu
  have Hv := Lib.hid hv
  clear hv
  (repeat (first | ((with_reducible refine Rg.walk_plain rfl (fun Kz hKz wz hwz => ?_)); (have hclz : ∀ bb oo, bb < (w1).heap.size → wz.cell? ⟨bb, oo, none⟩ = (w1).cell? ⟨bb, oo, none⟩ := fun bb oo h => hwz.cell (p := ⟨bb, oo, none⟩) h); go_simp; refine hKz _ ?_; clear hKz hwz hclz Kz wz) | ((with_reducible refine Rg.walk_on ?_ (fun Kz hKz wz hwz => ?_)); (next => (go_simp; done)); (have hclz : ∀ bb oo, bb < (w1).heap.size → wz.cell? ⟨bb, oo, none⟩ = (w1).cell? ⟨bb, oo, none⟩ := fun bb oo h => hwz.cell (p := ⟨bb, oo, none⟩) h); go_simp; refine hKz _ ?_; clear hKz hwz hclz Kz wz) | ((with_reducible refine Rg.walk_step (fun Kz hKz => ?_)); go_simp; refine hKz _ ?_; clear hKz Kz)))
  refine Rg.walk_nil ?_
  intro w2 B1
  go_upto_region 2 with (fail)
  (refine Rg.region_tail 9 (fun w' => Below (w2).heap.size w2 w') (fun f args v => (f = 15 ∧ v = .agg (crL c rs).toArray) ∨ (f = 11 ∧ v = .agg (fL ps).toArray) ∨ (f = 16 ∧ ∃ u, v = .tuple #[.float .f32 u, .int .i64 cd] ∧ Fl.canon u = Fl.canon val)) (by kernel_rfl) (by kernel_rfl) (by exact (Below.refl (w2).heap.size w2).drew) ?_; simp only [List.take_succ_cons, List.take_zero, List.drop_succ_cons, List.drop_zero])
  (with_reducible refine Rg.walk_loadA rfl 34 _ rfl w.heap.size 0 rfl (crL c rs) _ Try.underlying34 rfl (by rw [crL_length, HR.out]; kernel_rfl) (fun W hW => K1.out W (B1.trans (hW.mono B1.size))) ?_)
  refine Rg.walk_calls rfl 15 #[.agg (crL c rs).toArray] (fun W hW => ⟨by go_simp, (toCrate_calls c rs HR.out W).mono fun e w2 ⟨he, hb2⟩ => ⟨_, he, .inl ⟨rfl, rfl⟩, below_call hW hb2⟩⟩) (fun u hu => ?_)
  obtain rfl : u = .agg (crL c rs).toArray := by rcases hu with ⟨_, h⟩ | ⟨h, _⟩ | ⟨h, _⟩; exact h; exact absurd h (by decide); exact absurd h (by decide)
  clear hu
  (with_reducible refine Rg.walk_loadA rfl 23 _ rfl (w.heap.size + 1) 0 rfl (fL ps) _ Try.underlying23 rfl (by rw [fL_length, HP.out]; kernel_rfl) (fun W hW => K2.out W (B1.trans (hW.mono B1.size))) ?_)
  refine Rg.walk_calls rfl 11 #[.agg (fL ps).toArray] (fun W hW => ⟨by go_simp, (toPrices_calls ps HP.out W).mono fun e w2 ⟨he, hb2⟩ => ⟨_, he, .inr (.inl ⟨rfl, rfl⟩), below_call hW hb2⟩⟩) (fun u hu => ?_)
  obtain rfl : u = .agg (fL ps).toArray := by rcases hu with ⟨h, _⟩ | ⟨_, h⟩ | ⟨h, _⟩; exact absurd h (by decide); exact h; exact absurd h (by decide)
  clear hu
  refine Rg.walk_calls rfl 16 #[.agg (crL c rs).toArray, .agg (fL ps).toArray] (fun W hW => ⟨by go_simp, (HIm.out W).mono fun e w2 ⟨u, he, hu, hb2⟩ => ⟨_, he, .inr (.inr ⟨rfl, u, rfl, hu⟩), below_call hW hb2⟩⟩) (fun u hu => ?_)
  obtain ⟨u', rfl, hu2⟩ : ∃ z, u = .tuple #[.float .f32 z, .int .i64 cd] ∧ Fl.canon z = Fl.canon val := by rcases hu with ⟨h, _⟩ | ⟨h, _⟩ | ⟨_, h⟩; exact absurd h (by decide); exact absurd h (by decide); exact h
  clear hu
  have HU := Lib.hid hu2
  clear hu2
  (repeat (first | ((with_reducible refine Rg.walk_plain rfl (fun Kz hKz wz hwz => ?_)); (have hclz : ∀ bb oo, bb < (w2).heap.size → wz.cell? ⟨bb, oo, none⟩ = (w2).cell? ⟨bb, oo, none⟩ := fun bb oo h => hwz.cell (p := ⟨bb, oo, none⟩) h); go_simp; refine hKz _ ?_; clear hKz hwz hclz Kz wz) | ((with_reducible refine Rg.walk_on ?_ (fun Kz hKz wz hwz => ?_)); (next => (go_simp; done)); (have hclz : ∀ bb oo, bb < (w2).heap.size → wz.cell? ⟨bb, oo, none⟩ = (w2).cell? ⟨bb, oo, none⟩ := fun bb oo h => hwz.cell (p := ⟨bb, oo, none⟩) h); go_simp; refine hKz _ ?_; clear hKz hwz hclz Kz wz) | ((with_reducible refine Rg.walk_step (fun Kz hKz => ?_)); go_simp; refine hKz _ ?_; clear hKz Kz)))
  refine Rg.walk_nil ?_
  intro w3 hw3
  have B2 := B1.trans (hw3.mono B1.size)
  go_wp2_with fail
  refine (sameFloat_calls _ _ _ (Fl.same_conv (HU.out.trans Hv.out.symm) _ _)).mono ?_
  rintro e w6 ⟨rfl, rfl⟩
  go_wp2_with fail
  all_goals go_ret
  all_goals exact ⟨rfl, below_n (below_call hb B2) _⟩
end Go.Proofs.Ytfbflbiohbhmmaa
