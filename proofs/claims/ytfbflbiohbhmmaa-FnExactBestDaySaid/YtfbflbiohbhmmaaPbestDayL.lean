/-
  The walk of the law on BestDay.
-/
import Derived.Test.YtfbflbiohbhmmaaPbestDay
namespace Go.Proofs.Ytfbflbiohbhmmaa
open Go.RowKit

set_option maxHeartbeats 2000000 in
theorem fnExactBestDay_walk (c : Int) (rs : List Nat) (a g : Nat) (ps : List Nat) (n : Int) (_hn : IntKind.i64.has n) (w : World) (hr : rs.length = 16) (hc : IntKind.i8.has c) (_hf : ∀ i, i < 16 → FloatKind.f32.has (rs.getD i 0)) (hp : ps.length = 8) :
    Calls Try.prog 6 #[.agg (crL c rs).toArray, .agg #[.float .f32 a, .float .f32 g], .agg (fL ps).toArray, .int .i64 n] w (RetBool true w) := by
  have hlo : -128 ≤ c := hc.1
  have hhi : c ≤ 127 := hc.2
  have HR := Lib.hid hr
  have HP := Lib.hid hp
  clear hr hp hc
  obtain ⟨cd, hcd⟩ : ∃ cd, cd = wbCode c rs a g ps (daysN n) := ⟨_, rfl⟩
  obtain ⟨val, hval⟩ : ∃ val, val = mostOf c rs a g ps n := ⟨_, rfl⟩
  obtain ⟨dy, hdy⟩ : ∃ dy, dy = dayOf c rs a g ps n := ⟨_, rfl⟩
  have HSp := Lib.hid (fun W => specBestDay_calls c rs a g ps n HR.out hlo hhi HP.out W)
  have HIm := Lib.hid (fun W => implBestDay_calls c rs a g ps n HR.out hlo hhi HP.out W)
  rw [← hcd, ← hval, ← hdy] at HSp HIm
  clear hcd hval hdy
  go_enter Try.func6, Try.ntmps6
  go_upto_region 1 with (fail)
  generalize hw1 : ((w.alloc _).alloc _).alloc _ = w1
  have h1 : Mem.Blk w1 w.heap.size (crL c rs) 34 := hw1 ▸ ((Mem.Blk.new w _ _).alloc _).alloc _
  have h2 : Mem.Blk w1 (w.heap.size + 1) [.float .f32 a, .float .f32 g] 40 := hw1 ▸ (Mem.Blk.new1 w _ _ _).alloc _
  have h3 : Mem.Blk w1 (w.heap.size + 1 + 1) (fL ps) 23 := hw1 ▸ (Mem.Blk.new2 w _ _ _ _)
  have hb : Below w.heap.size w w1 := hw1 ▸ below_a3 w _ _ _
  clear hw1
  have s1 := h1.lt
  have s2 := h2.lt
  have s3 := h3.lt
  have K1 := Lib.hid (show ∀ W, Below w1.heap.size w1 W → ∀ j v, (crL c rs)[j]? = some v → W.cell? ⟨w.heap.size, 0 + j, none⟩ = some v from fun W hW j v h => ((h1.below hW s1).cell (0 + j)).trans (by rw [Nat.zero_add]; exact h))
  have K2 := Lib.hid (show ∀ W, Below w1.heap.size w1 W → ∀ j v, [Value.float .f32 a, Value.float .f32 g][j]? = some v → W.cell? ⟨w.heap.size + 1, 0 + j, none⟩ = some v from fun W hW j v h => ((h2.below hW s2).cell (0 + j)).trans (by rw [Nat.zero_add]; exact h))
  have K3 := Lib.hid (show ∀ W, Below w1.heap.size w1 W → ∀ j v, (fL ps)[j]? = some v → W.cell? ⟨w.heap.size + 1 + 1, 0 + j, none⟩ = some v from fun W hW j v h => ((h3.below hW s3).cell (0 + j)).trans (by rw [Nat.zero_add]; exact h))
  clear h1 h2 h3
  go_wp2_with fail
  (refine Rg.region_tail 14 (fun w' => Below (w1).heap.size w1 w') (fun f args v => (f = 15 ∧ v = .agg (crL c rs).toArray) ∨ (f = 11 ∧ v = .agg (fL ps).toArray) ∨ (f = 20 ∧ ∃ u, v = .tuple #[.int .i64 dy, .float .f32 u, .int .i64 cd] ∧ Fl.canon u = Fl.canon val) ∨ (f = 18 ∧ v = .agg #[.float .f32 a, .float .f32 g])) (by kernel_rfl) (by kernel_rfl) (by exact (Below.refl (w1).heap.size w1).drew) ?_; simp only [List.take_succ_cons, List.take_zero, List.drop_succ_cons, List.drop_zero])
  (with_reducible refine Rg.walk_loadA rfl 34 _ rfl w.heap.size 0 rfl (crL c rs) _ Try.underlying34 rfl (by rw [crL_length, HR.out]; kernel_rfl) (fun W hW => K1.out W hW) ?_)
  refine Rg.walk_calls rfl 15 #[.agg (crL c rs).toArray] (fun W hW => ⟨by go_simp, (toCrate_calls c rs HR.out W).mono fun e w2 ⟨he, hb2⟩ => ⟨_, he, .inl ⟨rfl, rfl⟩, below_call hW hb2⟩⟩) (fun u hu => ?_)
  obtain rfl : u = .agg (crL c rs).toArray := by rcases hu with ⟨_, h⟩ | ⟨h, _⟩ | ⟨h, _⟩ | ⟨h, _⟩; exact h; exact absurd h (by decide); exact absurd h (by decide); exact absurd h (by decide)
  clear hu
  (with_reducible refine Rg.walk_loadA rfl 40 _ rfl (w.heap.size + 1) 0 rfl [.float .f32 a, .float .f32 g] _ Try.underlying40 rfl (by kernel_rfl) (fun W hW => K2.out W hW) ?_)
  refine Rg.walk_calls rfl 18 #[.agg #[.float .f32 a, .float .f32 g]] (fun W hW => ⟨by go_simp, (toAir_calls a g W).mono fun e w2 ⟨he, hb2⟩ => ⟨_, he, .inr (.inr (.inr ⟨rfl, rfl⟩)), below_call hW hb2⟩⟩) (fun u hu => ?_)
  obtain rfl : u = .agg #[.float .f32 a, .float .f32 g] := by rcases hu with ⟨h, _⟩ | ⟨h, _⟩ | ⟨h, _⟩ | ⟨_, h⟩; exact absurd h (by decide); exact absurd h (by decide); exact absurd h (by decide); exact h
  clear hu
  (with_reducible refine Rg.walk_loadA rfl 23 _ rfl (w.heap.size + 1 + 1) 0 rfl (fL ps) _ Try.underlying23 rfl (by rw [fL_length, HP.out]; kernel_rfl) (fun W hW => K3.out W hW) ?_)
  refine Rg.walk_calls rfl 11 #[.agg (fL ps).toArray] (fun W hW => ⟨by go_simp, (toPrices_calls ps HP.out W).mono fun e w2 ⟨he, hb2⟩ => ⟨_, he, .inr (.inl ⟨rfl, rfl⟩), below_call hW hb2⟩⟩) (fun u hu => ?_)
  obtain rfl : u = .agg (fL ps).toArray := by rcases hu with ⟨h, _⟩ | ⟨_, h⟩ | ⟨h, _⟩ | ⟨h, _⟩; exact absurd h (by decide); exact h; exact absurd h (by decide); exact absurd h (by decide)
  clear hu
  (repeat (first | ((with_reducible refine Rg.walk_plain rfl (fun Kz hKz wz hwz => ?_)); (have hclz : ∀ bb oo, bb < (w1).heap.size → wz.cell? ⟨bb, oo, none⟩ = (w1).cell? ⟨bb, oo, none⟩ := fun bb oo h => hwz.cell (p := ⟨bb, oo, none⟩) h); go_simp; refine hKz _ ?_; clear hKz hwz hclz Kz wz) | ((with_reducible refine Rg.walk_on ?_ (fun Kz hKz wz hwz => ?_)); (next => (go_simp; done)); (have hclz : ∀ bb oo, bb < (w1).heap.size → wz.cell? ⟨bb, oo, none⟩ = (w1).cell? ⟨bb, oo, none⟩ := fun bb oo h => hwz.cell (p := ⟨bb, oo, none⟩) h); go_simp; refine hKz _ ?_; clear hKz hwz hclz Kz wz) | ((with_reducible refine Rg.walk_step (fun Kz hKz => ?_)); go_simp; refine hKz _ ?_; clear hKz Kz)))
  refine Rg.walk_calls rfl 20 #[.agg (crL c rs).toArray, .agg #[.float .f32 a, .float .f32 g], .agg (fL ps).toArray, .int .i64 n] (fun W hW => ⟨by go_simp, (HSp.out W).mono fun e w2 ⟨u, he, hu, hb2⟩ => ⟨_, he, .inr (.inr (.inl ⟨rfl, u, rfl, hu⟩)), below_call hW hb2⟩⟩) (fun u hu => ?_)
  obtain ⟨v, rfl, hv⟩ : ∃ z, u = .tuple #[.int .i64 dy, .float .f32 z, .int .i64 cd] ∧ Fl.canon z = Fl.canon val := by rcases hu with ⟨h, _⟩ | ⟨h, _⟩ | ⟨_, h⟩ | ⟨h, _⟩; exact absurd h (by decide); exact absurd h (by decide); exact h; exact absurd h (by decide)
  clear hu
  have Hv := Lib.hid hv
  clear hv
  (repeat (first | ((with_reducible refine Rg.walk_plain rfl (fun Kz hKz wz hwz => ?_)); (have hclz : ∀ bb oo, bb < (w1).heap.size → wz.cell? ⟨bb, oo, none⟩ = (w1).cell? ⟨bb, oo, none⟩ := fun bb oo h => hwz.cell (p := ⟨bb, oo, none⟩) h); go_simp; refine hKz _ ?_; clear hKz hwz hclz Kz wz) | ((with_reducible refine Rg.walk_on ?_ (fun Kz hKz wz hwz => ?_)); (next => (go_simp; done)); (have hclz : ∀ bb oo, bb < (w1).heap.size → wz.cell? ⟨bb, oo, none⟩ = (w1).cell? ⟨bb, oo, none⟩ := fun bb oo h => hwz.cell (p := ⟨bb, oo, none⟩) h); go_simp; refine hKz _ ?_; clear hKz hwz hclz Kz wz) | ((with_reducible refine Rg.walk_step (fun Kz hKz => ?_)); go_simp; refine hKz _ ?_; clear hKz Kz)))
  refine Rg.walk_nil ?_
  intro w2 B1
  go_upto_region 2 with (fail)
  (refine Rg.region_tail 14 (fun w' => Below (w2).heap.size w2 w') (fun f args v => (f = 15 ∧ v = .agg (crL c rs).toArray) ∨ (f = 11 ∧ v = .agg (fL ps).toArray) ∨ (f = 21 ∧ ∃ u, v = .tuple #[.int .i64 dy, .float .f32 u, .int .i64 cd] ∧ Fl.canon u = Fl.canon val) ∨ (f = 18 ∧ v = .agg #[.float .f32 a, .float .f32 g])) (by kernel_rfl) (by kernel_rfl) (by exact (Below.refl (w2).heap.size w2).drew) ?_; simp only [List.take_succ_cons, List.take_zero, List.drop_succ_cons, List.drop_zero])
  (with_reducible refine Rg.walk_loadA rfl 34 _ rfl w.heap.size 0 rfl (crL c rs) _ Try.underlying34 rfl (by rw [crL_length, HR.out]; kernel_rfl) (fun W hW => K1.out W (B1.trans (hW.mono B1.size))) ?_)
  refine Rg.walk_calls rfl 15 #[.agg (crL c rs).toArray] (fun W hW => ⟨by go_simp, (toCrate_calls c rs HR.out W).mono fun e w2 ⟨he, hb2⟩ => ⟨_, he, .inl ⟨rfl, rfl⟩, below_call hW hb2⟩⟩) (fun u hu => ?_)
  obtain rfl : u = .agg (crL c rs).toArray := by rcases hu with ⟨_, h⟩ | ⟨h, _⟩ | ⟨h, _⟩ | ⟨h, _⟩; exact h; exact absurd h (by decide); exact absurd h (by decide); exact absurd h (by decide)
  clear hu
  (with_reducible refine Rg.walk_loadA rfl 40 _ rfl (w.heap.size + 1) 0 rfl [.float .f32 a, .float .f32 g] _ Try.underlying40 rfl (by kernel_rfl) (fun W hW => K2.out W (B1.trans (hW.mono B1.size))) ?_)
  refine Rg.walk_calls rfl 18 #[.agg #[.float .f32 a, .float .f32 g]] (fun W hW => ⟨by go_simp, (toAir_calls a g W).mono fun e w2 ⟨he, hb2⟩ => ⟨_, he, .inr (.inr (.inr ⟨rfl, rfl⟩)), below_call hW hb2⟩⟩) (fun u hu => ?_)
  obtain rfl : u = .agg #[.float .f32 a, .float .f32 g] := by rcases hu with ⟨h, _⟩ | ⟨h, _⟩ | ⟨h, _⟩ | ⟨_, h⟩; exact absurd h (by decide); exact absurd h (by decide); exact absurd h (by decide); exact h
  clear hu
  (with_reducible refine Rg.walk_loadA rfl 23 _ rfl (w.heap.size + 1 + 1) 0 rfl (fL ps) _ Try.underlying23 rfl (by rw [fL_length, HP.out]; kernel_rfl) (fun W hW => K3.out W (B1.trans (hW.mono B1.size))) ?_)
  refine Rg.walk_calls rfl 11 #[.agg (fL ps).toArray] (fun W hW => ⟨by go_simp, (toPrices_calls ps HP.out W).mono fun e w2 ⟨he, hb2⟩ => ⟨_, he, .inr (.inl ⟨rfl, rfl⟩), below_call hW hb2⟩⟩) (fun u hu => ?_)
  obtain rfl : u = .agg (fL ps).toArray := by rcases hu with ⟨h, _⟩ | ⟨_, h⟩ | ⟨h, _⟩ | ⟨h, _⟩; exact absurd h (by decide); exact h; exact absurd h (by decide); exact absurd h (by decide)
  clear hu
  (repeat (first | ((with_reducible refine Rg.walk_plain rfl (fun Kz hKz wz hwz => ?_)); (have hclz : ∀ bb oo, bb < (w2).heap.size → wz.cell? ⟨bb, oo, none⟩ = (w2).cell? ⟨bb, oo, none⟩ := fun bb oo h => hwz.cell (p := ⟨bb, oo, none⟩) h); go_simp; refine hKz _ ?_; clear hKz hwz hclz Kz wz) | ((with_reducible refine Rg.walk_on ?_ (fun Kz hKz wz hwz => ?_)); (next => (go_simp; done)); (have hclz : ∀ bb oo, bb < (w2).heap.size → wz.cell? ⟨bb, oo, none⟩ = (w2).cell? ⟨bb, oo, none⟩ := fun bb oo h => hwz.cell (p := ⟨bb, oo, none⟩) h); go_simp; refine hKz _ ?_; clear hKz hwz hclz Kz wz) | ((with_reducible refine Rg.walk_step (fun Kz hKz => ?_)); go_simp; refine hKz _ ?_; clear hKz Kz)))
  refine Rg.walk_calls rfl 21 #[.agg (crL c rs).toArray, .agg #[.float .f32 a, .float .f32 g], .agg (fL ps).toArray, .int .i64 n] (fun W hW => ⟨by go_simp, (HIm.out W).mono fun e w2 ⟨u, he, hu, hb2⟩ => ⟨_, he, .inr (.inr (.inl ⟨rfl, u, rfl, hu⟩)), below_call hW hb2⟩⟩) (fun u hu => ?_)
  obtain ⟨z2, rfl, hz2⟩ : ∃ z, u = .tuple #[.int .i64 dy, .float .f32 z, .int .i64 cd] ∧ Fl.canon z = Fl.canon val := by rcases hu with ⟨h, _⟩ | ⟨h, _⟩ | ⟨_, h⟩ | ⟨h, _⟩; exact absurd h (by decide); exact absurd h (by decide); exact h; exact absurd h (by decide)
  clear hu
  have Hz2 := Lib.hid hz2
  clear hz2
  (repeat (first | ((with_reducible refine Rg.walk_plain rfl (fun Kz hKz wz hwz => ?_)); (have hclz : ∀ bb oo, bb < (w2).heap.size → wz.cell? ⟨bb, oo, none⟩ = (w2).cell? ⟨bb, oo, none⟩ := fun bb oo h => hwz.cell (p := ⟨bb, oo, none⟩) h); go_simp; refine hKz _ ?_; clear hKz hwz hclz Kz wz) | ((with_reducible refine Rg.walk_on ?_ (fun Kz hKz wz hwz => ?_)); (next => (go_simp; done)); (have hclz : ∀ bb oo, bb < (w2).heap.size → wz.cell? ⟨bb, oo, none⟩ = (w2).cell? ⟨bb, oo, none⟩ := fun bb oo h => hwz.cell (p := ⟨bb, oo, none⟩) h); go_simp; refine hKz _ ?_; clear hKz hwz hclz Kz wz) | ((with_reducible refine Rg.walk_step (fun Kz hKz => ?_)); go_simp; refine hKz _ ?_; clear hKz Kz)))
  refine Rg.walk_nil ?_
  intro w3 hw3
  have B2 := B1.trans (hw3.mono B1.size)
  go_wp2_with fail
  refine (sameFloat_calls _ _ _ (Fl.same_conv (Hz2.out.trans Hv.out.symm) _ _)).mono ?_
  rintro e w6 ⟨rfl, rfl⟩
  go_wp2_with fail
  all_goals go_ret
  all_goals exact ⟨rfl, below_n (below_call hb B2) _⟩
end Go.Proofs.Ytfbflbiohbhmmaa
