/-
  A price at a ripeness: what both programs compute.
-/
import Derived.Test.YtfbflbiohbhmmaaPprice
namespace Go.Proofs.Ytfbflbiohbhmmaa
open Go.RowKit

theorem rsubC {W : World} {u v x y : Nat} (hu : Fl.canon u = Fl.canon x) (hv : Fl.canon v = Fl.canon y) : Fl.canon (Fl.rSub W u v) = Fl.canon (Fl.sub x y) := by
  rw [Fl.canon_rSub, Fl.canon_subv]; exact (Fl.sub_of hu hv).trans (Fl.sub_canon _ _)
theorem raddC {W : World} {u v x y : Nat} (hu : Fl.canon u = Fl.canon x) (hv : Fl.canon v = Fl.canon y) : Fl.canon (Fl.rAdd W u v) = Fl.canon (Fl.add x y) := by
  rw [Fl.canon_rAdd, Fl.canon_addv]; exact (Fl.add_of hu hv).trans (Fl.add_canon _ _)
theorem rmulC {W : World} {u v x y : Nat} (hu : Fl.canon u = Fl.canon x) (hv : Fl.canon v = Fl.canon y) : Fl.canon (Fl.rMul W u v) = Fl.canon (Fl.mul x y) := by
  rw [Fl.canon_rMul, Fl.canon_mulv]; exact (Fl.mul_of hu hv).trans (Fl.mul_canon _ _)

/-- The step of a number of steps: at most 6. -/
def stepOf (v : Nat) : Nat := min 6 (Fl.flN v)
def steps (a : Nat) : Nat := (Ieee.single.mul a 1088421888).getD 0
def priceAt (rs : List Nat) (a : Nat) : Nat :=
  Fl.add (rs.getD (stepOf (steps a)) 0) (Fl.mul (Fl.sub (rs.getD (stepOf (steps a) + 1) 0) (rs.getD (stepOf (steps a)) 0)) (Fl.sub (steps a) (ofI (stepOf (steps a) : Nat))))

theorem steps_pos {a : Nat} (h : vPart a = true) : Fl.Pos (7 * 2 ^ 149) (steps a) ∧ (∀ W, Fl.rMul W a 1088421888 = steps a) ∧ Fl.nMul a 1088421888 = 0 := by
  obtain ⟨v, hv, hp⟩ := Fl.seven_pos (Fl.part_pos h)
  have e : steps a = v := by unfold steps; rw [hv]; rfl
  refine ⟨e ▸ hp, fun W => ?_, ?_⟩
  · unfold Fl.rMul; rw [hv, e]; rfl
  · unfold Fl.nMul; rw [hv]; rfl

set_option maxHeartbeats 2000000 in
theorem l05At_calls (g : Nat) (rs : List Nat) (a : Nat) (hr : rs.length = 8) (ha : vPart a = true) (w : World) (hd : HoldsF w g 0 rs) (hg : g < w.heap.size) :
    Calls Try.prog 44 #[.pointer (some ⟨g, 0, none⟩), .float .f32 a] w (RetF (priceAt rs a) w) := by
  have hcv : ∀ (W : World) (n : Int), (convert 3 22 (.int .i64 n)).run Try.prog W = .ok (.float .f32 (ofI n)) W := fun W n => run_toF32 _ _ _ _ Try.underlying22 (by rw [Try.underlying3]; rfl)
  obtain ⟨hp, hm, hn⟩ := steps_pos ha
  have HD := Lib.hid hd
  have HR := Lib.hid hr
  have HP := Lib.hid hp
  have HA : Hid (priceAt rs a = Fl.add (rs.getD (stepOf (steps a)) 0) (Fl.mul (Fl.sub (rs.getD (stepOf (steps a) + 1) 0) (rs.getD (stepOf (steps a)) 0)) (Fl.sub (steps a) (ofI (stepOf (steps a) : Nat))))) := Lib.hid rfl
  generalize steps a = v at hp hm hn HP HA
  generalize priceAt rs a = res at HA
  clear hd hr hp ha
  go_enter Try.func44, Try.ntmps44
  go_upto_region 2 with (fail)
  rw [World.drewN_zero]
  clear hm hn
  go_wp2_with fail
  go_loopw [6] (fun i wr => ∃ k : Nat, k ≤ 6 ∧ k ≤ Fl.flN v ∧ i = .int .i64 k ∧ wr = w) (fun i _ => 6 - (intOf i).toNat)
  case atStart => exact ⟨0, Nat.zero_le _, Nat.zero_le _, rfl, by first | trivial | rfl⟩
  case round =>
    obtain ⟨k, hk, hkv, rfl, rfl⟩ := hrel
    by_cases hgo : k < 6 ∧ k + 1 ≤ Fl.flN v
    · obtain ⟨hlt, hle⟩ := hgo
      have hf : Fl.le (ofI ((k : Int) + 1)) v = true := by
        have := Fl.le_flN HP.out (k + 1) (by omega)
        rw [decide_eq_true hle] at this
        exact this
      go_wp2_with fail
      go_roundw
      case rel => exact ⟨k + 1, by omega, by omega, by go_num, by first | trivial | rfl⟩
      case measure => simp [intOf]; omega
    · have hst : stepOf v = k := by unfold stepOf; omega
      rw [hst] at HA
      have hk7 : k + 1 ≤ 7 := by omega
      have c0 := HD.out k (by rw [HR.out]; omega)
      have c1 := HD.out (k + 1) (by rw [HR.out]; omega)
      rw [Nat.zero_add] at c0 c1
      generalize rs.getD k 0 = p at c0 HA
      generalize rs.getD (k + 1) 0 = q at c1 HA
      have hwk : IntKind.i64.wrap (k : Int) = k := by rw [IntKind.wrap_i64]; omega
      have hb0 : (k : Int) < 8 := by omega
      have hb1 : (k : Int) + 1 < 8 := by omega
      have hb2 : (0 : Int) ≤ (k : Int) + 1 := by omega
      have hwk1 : IntKind.i64.wrap ((k : Int) + 1) = k + 1 := by rw [IntKind.wrap_i64]; omega
      by_cases hlt : k < 6
      · have hf : Fl.le (ofI ((k : Int) + 1)) v = false := by
          have := Fl.le_flN HP.out (k + 1) (by omega)
          rw [decide_eq_false (by omega)] at this
          exact this
        clear hgo hst
        go_wp2_with fail
        (refine Rg.region_tail 23 (fun w' => Below (wr).heap.size wr w') (fun _ _ _ => False) (by kernel_rfl) (by kernel_rfl) (by exact (Below.refl (wr).heap.size wr).drew) ?_; simp only [List.take_succ_cons, List.take_zero, List.drop_succ_cons, List.drop_zero])
        (repeat (first | ((with_reducible refine Rg.walk_plain rfl (fun Kz hKz wz hwz => ?_)); (have hclz : ∀ bb oo, bb < (wr).heap.size → wz.cell? ⟨bb, oo, none⟩ = (wr).cell? ⟨bb, oo, none⟩ := fun bb oo h => hwz.cell (p := ⟨bb, oo, none⟩) h); go_simp; refine hKz _ ?_; clear hKz hwz hclz Kz wz) | ((with_reducible refine Rg.walk_on ?_ (fun Kz hKz wz hwz => ?_)); (next => (go_simp; done)); (have hclz : ∀ bb oo, bb < (wr).heap.size → wz.cell? ⟨bb, oo, none⟩ = (wr).cell? ⟨bb, oo, none⟩ := fun bb oo h => hwz.cell (p := ⟨bb, oo, none⟩) h); go_simp; refine hKz _ ?_; clear hKz hwz hclz Kz wz) | ((with_reducible refine Rg.walk_step (fun Kz hKz => ?_)); go_simp; refine hKz _ ?_; clear hKz Kz)))
        refine Rg.walk_plain rfl (fun K hK w1 hw1 => ?_)
        go_simp
        refine ⟨below_n hw1 _, hK _ ?_⟩
        obtain ⟨y, hy⟩ : ∃ y, y = Fl.rSub w1 q p := ⟨_, rfl⟩
        rw [← hy]
        have HY : Hid (Fl.canon y = Fl.canon (Fl.sub q p)) := by
          refine Lib.hid ?_
          rw [hy]; exact rsubC rfl rfl
        clear hy hK hw1 K w1
        (repeat (first | ((with_reducible refine Rg.walk_plain rfl (fun Kz hKz wz hwz => ?_)); (have hclz : ∀ bb oo, bb < (wr).heap.size → wz.cell? ⟨bb, oo, none⟩ = (wr).cell? ⟨bb, oo, none⟩ := fun bb oo h => hwz.cell (p := ⟨bb, oo, none⟩) h); go_simp; refine hKz _ ?_; clear hKz hwz hclz Kz wz) | ((with_reducible refine Rg.walk_on ?_ (fun Kz hKz wz hwz => ?_)); (next => (go_simp; done)); (have hclz : ∀ bb oo, bb < (wr).heap.size → wz.cell? ⟨bb, oo, none⟩ = (wr).cell? ⟨bb, oo, none⟩ := fun bb oo h => hwz.cell (p := ⟨bb, oo, none⟩) h); go_simp; refine hKz _ ?_; clear hKz hwz hclz Kz wz) | ((with_reducible refine Rg.walk_step (fun Kz hKz => ?_)); go_simp; refine hKz _ ?_; clear hKz Kz)))
        refine Rg.walk_plain rfl (fun K hK w1 hw1 => ?_)
        go_simp
        refine ⟨below_n hw1 _, hK _ ?_⟩
        obtain ⟨z, hz⟩ : ∃ z, z = Fl.rSub w1 v (ofI ↑k) := ⟨_, rfl⟩
        rw [← hz]
        have HZ : Hid (Fl.canon z = Fl.canon (Fl.sub v (ofI ↑k))) := by
          refine Lib.hid ?_
          rw [hz]; exact rsubC rfl rfl
        clear hz hK hw1 K w1
        (repeat (first | ((with_reducible refine Rg.walk_plain rfl (fun Kz hKz wz hwz => ?_)); (have hclz : ∀ bb oo, bb < (wr).heap.size → wz.cell? ⟨bb, oo, none⟩ = (wr).cell? ⟨bb, oo, none⟩ := fun bb oo h => hwz.cell (p := ⟨bb, oo, none⟩) h); go_simp; refine hKz _ ?_; clear hKz hwz hclz Kz wz) | ((with_reducible refine Rg.walk_on ?_ (fun Kz hKz wz hwz => ?_)); (next => (go_simp; done)); (have hclz : ∀ bb oo, bb < (wr).heap.size → wz.cell? ⟨bb, oo, none⟩ = (wr).cell? ⟨bb, oo, none⟩ := fun bb oo h => hwz.cell (p := ⟨bb, oo, none⟩) h); go_simp; refine hKz _ ?_; clear hKz hwz hclz Kz wz) | ((with_reducible refine Rg.walk_step (fun Kz hKz => ?_)); go_simp; refine hKz _ ?_; clear hKz Kz)))
        refine Rg.walk_plain rfl (fun K hK w1 hw1 => ?_)
        go_simp
        refine ⟨below_n hw1 _, hK _ ?_⟩
        obtain ⟨t, ht⟩ : ∃ t, t = Fl.rMul w1 y z := ⟨_, rfl⟩
        rw [← ht]
        have HT : Hid (Fl.canon t = Fl.canon (Fl.mul (Fl.sub q p) (Fl.sub v (ofI ↑k)))) := by
          refine Lib.hid ?_
          rw [ht]; exact rmulC HY.out HZ.out
        clear ht hK hw1 K w1
        (repeat (first | ((with_reducible refine Rg.walk_plain rfl (fun Kz hKz wz hwz => ?_)); (have hclz : ∀ bb oo, bb < (wr).heap.size → wz.cell? ⟨bb, oo, none⟩ = (wr).cell? ⟨bb, oo, none⟩ := fun bb oo h => hwz.cell (p := ⟨bb, oo, none⟩) h); go_simp; refine hKz _ ?_; clear hKz hwz hclz Kz wz) | ((with_reducible refine Rg.walk_on ?_ (fun Kz hKz wz hwz => ?_)); (next => (go_simp; done)); (have hclz : ∀ bb oo, bb < (wr).heap.size → wz.cell? ⟨bb, oo, none⟩ = (wr).cell? ⟨bb, oo, none⟩ := fun bb oo h => hwz.cell (p := ⟨bb, oo, none⟩) h); go_simp; refine hKz _ ?_; clear hKz hwz hclz Kz wz) | ((with_reducible refine Rg.walk_step (fun Kz hKz => ?_)); go_simp; refine hKz _ ?_; clear hKz Kz)))
        refine Rg.walk_plain rfl (fun K hK w1 hw1 => ?_)
        go_simp
        refine ⟨below_n hw1 _, hK _ ?_⟩
        obtain ⟨x, hx⟩ : ∃ x, x = Fl.rAdd w1 p t := ⟨_, rfl⟩
        rw [← hx]
        have HX : Hid (Fl.canon x = Fl.canon (Fl.add p (Fl.mul (Fl.sub q p) (Fl.sub v (ofI ↑k))))) := by
          refine Lib.hid ?_
          rw [hx]; exact raddC rfl HT.out
        clear hx hK hw1 K w1
        (repeat (first | ((with_reducible refine Rg.walk_plain rfl (fun Kz hKz wz hwz => ?_)); (have hclz : ∀ bb oo, bb < (wr).heap.size → wz.cell? ⟨bb, oo, none⟩ = (wr).cell? ⟨bb, oo, none⟩ := fun bb oo h => hwz.cell (p := ⟨bb, oo, none⟩) h); go_simp; refine hKz _ ?_; clear hKz hwz hclz Kz wz) | ((with_reducible refine Rg.walk_on ?_ (fun Kz hKz wz hwz => ?_)); (next => (go_simp; done)); (have hclz : ∀ bb oo, bb < (wr).heap.size → wz.cell? ⟨bb, oo, none⟩ = (wr).cell? ⟨bb, oo, none⟩ := fun bb oo h => hwz.cell (p := ⟨bb, oo, none⟩) h); go_simp; refine hKz _ ?_; clear hKz hwz hclz Kz wz) | ((with_reducible refine Rg.walk_step (fun Kz hKz => ?_)); go_simp; refine hKz _ ?_; clear hKz Kz)))
        refine Rg.walk_nil ?_
        intro w3 hw3
        go_wp2_with fail
        go_ret
        exact ⟨x, rfl, by rw [HA.out]; exact HX.out, hw3⟩
      · clear hgo hst
        go_wp2_with fail
        (refine Rg.region_tail 23 (fun w' => Below (wr).heap.size wr w') (fun _ _ _ => False) (by kernel_rfl) (by kernel_rfl) (by exact (Below.refl (wr).heap.size wr).drew) ?_; simp only [List.take_succ_cons, List.take_zero, List.drop_succ_cons, List.drop_zero])
        (repeat (first | ((with_reducible refine Rg.walk_plain rfl (fun Kz hKz wz hwz => ?_)); (have hclz : ∀ bb oo, bb < (wr).heap.size → wz.cell? ⟨bb, oo, none⟩ = (wr).cell? ⟨bb, oo, none⟩ := fun bb oo h => hwz.cell (p := ⟨bb, oo, none⟩) h); go_simp; refine hKz _ ?_; clear hKz hwz hclz Kz wz) | ((with_reducible refine Rg.walk_on ?_ (fun Kz hKz wz hwz => ?_)); (next => (go_simp; done)); (have hclz : ∀ bb oo, bb < (wr).heap.size → wz.cell? ⟨bb, oo, none⟩ = (wr).cell? ⟨bb, oo, none⟩ := fun bb oo h => hwz.cell (p := ⟨bb, oo, none⟩) h); go_simp; refine hKz _ ?_; clear hKz hwz hclz Kz wz) | ((with_reducible refine Rg.walk_step (fun Kz hKz => ?_)); go_simp; refine hKz _ ?_; clear hKz Kz)))
        refine Rg.walk_plain rfl (fun K hK w1 hw1 => ?_)
        go_simp
        refine ⟨below_n hw1 _, hK _ ?_⟩
        obtain ⟨y, hy⟩ : ∃ y, y = Fl.rSub w1 q p := ⟨_, rfl⟩
        rw [← hy]
        have HY : Hid (Fl.canon y = Fl.canon (Fl.sub q p)) := by
          refine Lib.hid ?_
          rw [hy]; exact rsubC rfl rfl
        clear hy hK hw1 K w1
        (repeat (first | ((with_reducible refine Rg.walk_plain rfl (fun Kz hKz wz hwz => ?_)); (have hclz : ∀ bb oo, bb < (wr).heap.size → wz.cell? ⟨bb, oo, none⟩ = (wr).cell? ⟨bb, oo, none⟩ := fun bb oo h => hwz.cell (p := ⟨bb, oo, none⟩) h); go_simp; refine hKz _ ?_; clear hKz hwz hclz Kz wz) | ((with_reducible refine Rg.walk_on ?_ (fun Kz hKz wz hwz => ?_)); (next => (go_simp; done)); (have hclz : ∀ bb oo, bb < (wr).heap.size → wz.cell? ⟨bb, oo, none⟩ = (wr).cell? ⟨bb, oo, none⟩ := fun bb oo h => hwz.cell (p := ⟨bb, oo, none⟩) h); go_simp; refine hKz _ ?_; clear hKz hwz hclz Kz wz) | ((with_reducible refine Rg.walk_step (fun Kz hKz => ?_)); go_simp; refine hKz _ ?_; clear hKz Kz)))
        refine Rg.walk_plain rfl (fun K hK w1 hw1 => ?_)
        go_simp
        refine ⟨below_n hw1 _, hK _ ?_⟩
        obtain ⟨z, hz⟩ : ∃ z, z = Fl.rSub w1 v (ofI ↑k) := ⟨_, rfl⟩
        rw [← hz]
        have HZ : Hid (Fl.canon z = Fl.canon (Fl.sub v (ofI ↑k))) := by
          refine Lib.hid ?_
          rw [hz]; exact rsubC rfl rfl
        clear hz hK hw1 K w1
        (repeat (first | ((with_reducible refine Rg.walk_plain rfl (fun Kz hKz wz hwz => ?_)); (have hclz : ∀ bb oo, bb < (wr).heap.size → wz.cell? ⟨bb, oo, none⟩ = (wr).cell? ⟨bb, oo, none⟩ := fun bb oo h => hwz.cell (p := ⟨bb, oo, none⟩) h); go_simp; refine hKz _ ?_; clear hKz hwz hclz Kz wz) | ((with_reducible refine Rg.walk_on ?_ (fun Kz hKz wz hwz => ?_)); (next => (go_simp; done)); (have hclz : ∀ bb oo, bb < (wr).heap.size → wz.cell? ⟨bb, oo, none⟩ = (wr).cell? ⟨bb, oo, none⟩ := fun bb oo h => hwz.cell (p := ⟨bb, oo, none⟩) h); go_simp; refine hKz _ ?_; clear hKz hwz hclz Kz wz) | ((with_reducible refine Rg.walk_step (fun Kz hKz => ?_)); go_simp; refine hKz _ ?_; clear hKz Kz)))
        refine Rg.walk_plain rfl (fun K hK w1 hw1 => ?_)
        go_simp
        refine ⟨below_n hw1 _, hK _ ?_⟩
        obtain ⟨t, ht⟩ : ∃ t, t = Fl.rMul w1 y z := ⟨_, rfl⟩
        rw [← ht]
        have HT : Hid (Fl.canon t = Fl.canon (Fl.mul (Fl.sub q p) (Fl.sub v (ofI ↑k)))) := by
          refine Lib.hid ?_
          rw [ht]; exact rmulC HY.out HZ.out
        clear ht hK hw1 K w1
        (repeat (first | ((with_reducible refine Rg.walk_plain rfl (fun Kz hKz wz hwz => ?_)); (have hclz : ∀ bb oo, bb < (wr).heap.size → wz.cell? ⟨bb, oo, none⟩ = (wr).cell? ⟨bb, oo, none⟩ := fun bb oo h => hwz.cell (p := ⟨bb, oo, none⟩) h); go_simp; refine hKz _ ?_; clear hKz hwz hclz Kz wz) | ((with_reducible refine Rg.walk_on ?_ (fun Kz hKz wz hwz => ?_)); (next => (go_simp; done)); (have hclz : ∀ bb oo, bb < (wr).heap.size → wz.cell? ⟨bb, oo, none⟩ = (wr).cell? ⟨bb, oo, none⟩ := fun bb oo h => hwz.cell (p := ⟨bb, oo, none⟩) h); go_simp; refine hKz _ ?_; clear hKz hwz hclz Kz wz) | ((with_reducible refine Rg.walk_step (fun Kz hKz => ?_)); go_simp; refine hKz _ ?_; clear hKz Kz)))
        refine Rg.walk_plain rfl (fun K hK w1 hw1 => ?_)
        go_simp
        refine ⟨below_n hw1 _, hK _ ?_⟩
        obtain ⟨x, hx⟩ : ∃ x, x = Fl.rAdd w1 p t := ⟨_, rfl⟩
        rw [← hx]
        have HX : Hid (Fl.canon x = Fl.canon (Fl.add p (Fl.mul (Fl.sub q p) (Fl.sub v (ofI ↑k))))) := by
          refine Lib.hid ?_
          rw [hx]; exact raddC rfl HT.out
        clear hx hK hw1 K w1
        (repeat (first | ((with_reducible refine Rg.walk_plain rfl (fun Kz hKz wz hwz => ?_)); (have hclz : ∀ bb oo, bb < (wr).heap.size → wz.cell? ⟨bb, oo, none⟩ = (wr).cell? ⟨bb, oo, none⟩ := fun bb oo h => hwz.cell (p := ⟨bb, oo, none⟩) h); go_simp; refine hKz _ ?_; clear hKz hwz hclz Kz wz) | ((with_reducible refine Rg.walk_on ?_ (fun Kz hKz wz hwz => ?_)); (next => (go_simp; done)); (have hclz : ∀ bb oo, bb < (wr).heap.size → wz.cell? ⟨bb, oo, none⟩ = (wr).cell? ⟨bb, oo, none⟩ := fun bb oo h => hwz.cell (p := ⟨bb, oo, none⟩) h); go_simp; refine hKz _ ?_; clear hKz hwz hclz Kz wz) | ((with_reducible refine Rg.walk_step (fun Kz hKz => ?_)); go_simp; refine hKz _ ?_; clear hKz Kz)))
        refine Rg.walk_nil ?_
        intro w3 hw3
        go_wp2_with fail
        go_ret
        exact ⟨x, rfl, by rw [HA.out]; exact HX.out, hw3⟩

/-- The floor of the double word: a whole number up to 7, as a double word. -/
def flWord (v : Nat) : Nat := FloatKind.f64.encode ((FloatKind.f64.decode (Fl.dbl v)).integral .down)
theorem arch_is (x : Nat) (h : (FloatKind.f64.decode x).isNaN = false) : (Extern.MathFloor.toIntegral "math.archFloor" .down #[.float .f64 x]) = pure (.float .f64 (FloatKind.f64.encode ((FloatKind.f64.decode x).integral .down))) := by
  have e : (Extern.MathFloor.toIntegral "math.archFloor" .down #[.float .f64 x]) = (match FloatKind.f64.decode x with
    | .nan s t =>
      if FloatKind.f64.format.quiet t = t then pure (.float .f64 x) else do
      let kept ← choose (.extern "math.Floor,Ceil,Trunc,RoundToEven.signallingNaN kept" 2)
      pure (.float .f64 (if kept == 1 then x else FloatKind.f64.encode (.nan s (FloatKind.f64.format.quiet t))))
    | d => pure (.float .f64 (FloatKind.f64.encode (d.integral .down)))) := rfl
  rw [e]
  cases hd : FloatKind.f64.decode x with
  | nan s t => rw [hd] at h; cases h
  | infinity s => rfl
  | number s m e => rfl
theorem arch_run (x : Nat) (w : World) (h : (FloatKind.f64.decode x).isNaN = false) : (callFunc 95 #[.float .f64 x]).run Try.prog w = .ok (.value (.float .f64 (FloatKind.f64.encode ((FloatKind.f64.decode x).integral .down)))) w := by
  have e : (callFunc 95 #[.float .f64 x]).run Try.prog w = (Extern.MathFloor.toIntegral "math.archFloor" .down #[.float .f64 x] >>= fun v => pure (Next.value v)).run Try.prog w := by kernel_rfl
  rw [e, arch_is x h]
  rfl
theorem flWord_int {v : Nat} (h : Fl.Pos (7 * 2 ^ 149) v) : floatToIntVal .f64 (flWord v) .i64 = some (Fl.flN v : Int) := by
  have e := Fl.floor_int h
  have h7 := Fl.flN_le h
  unfold floatToIntVal
  have e2 : (FloatKind.f64.decode (flWord v)).toInt .zero = some (Fl.flN v : Int) := e
  rw [e2]
  have h1 : IntKind.i64.min = -9223372036854775808 := by decide
  have h2 : IntKind.i64.max = 9223372036854775807 := by decide
  simp only [h1, h2]
  rw [if_pos (by omega)]

theorem floor_calls (v : Nat) (h : Fl.Pos (7 * 2 ^ 149) v) (w : World) :
    Calls Try.prog 78 #[.float .f64 (Fl.dbl v)] w fun e w' => e = .returned (.float .f64 (flWord v)) ∧ w' = w := by
  have harch : ∀ W, (callFunc 95 #[.float .f64 (Fl.dbl v)]).run Try.prog W = .ok (.value (.float .f64 (flWord v))) W := fun W => arch_run _ W (by obtain ⟨s, h1, _⟩ := Fl.floor_dbl h; exact h1)
  clear h
  go_enter Try.func78, Try.ntmps78
  go_wp2
  go_ret
  exact ⟨rfl, rfl⟩

set_option maxHeartbeats 2000000 in
theorem pricesAt_calls (rs : List Nat) (a : Nat) (hr : rs.length = 8) (ha : vPart a = true) (w : World) :
    Calls Try.prog 46 #[.agg (fL rs).toArray, .float .f32 a] w (RetF (priceAt rs a) w) := by
  have hcv : ∀ (W : World) (n : Int), (convert 3 22 (.int .i64 n)).run Try.prog W = .ok (.float .f32 (ofI n)) W := fun W n => run_toF32 _ _ _ _ Try.underlying22 (by rw [Try.underlying3]; rfl)
  obtain ⟨hp, hm, hn⟩ := steps_pos ha
  have HR := Lib.hid hr
  have HP := Lib.hid hp
  have HA : Hid (priceAt rs a = Fl.add (rs.getD (stepOf (steps a)) 0) (Fl.mul (Fl.sub (rs.getD (stepOf (steps a) + 1) 0) (rs.getD (stepOf (steps a)) 0)) (Fl.sub (steps a) (ofI (stepOf (steps a) : Nat))))) := Lib.hid rfl
  generalize steps a = v at hp hm hn HP HA
  generalize priceAt rs a = res at HA
  have hc1 : ∀ W, Fl.rConv W v = Fl.dbl v := fun W => Fl.rConv_num hp W
  have hc2 : Fl.nConv v = 0 := Fl.nConv_num hp
  have hci : ∀ W : World, (convert 29 3 (.float .f64 (flWord v))).run Try.prog W = .ok (.int .i64 (Fl.flN v : Int)) W := fun W => run_convert_float_int W _ _ _ _ _ _ (by rw [Try.underlying29]; rfl) Try.underlying3 (flWord_int hp)
  clear hr hp ha
  go_enter Try.func46, Try.ntmps46
  go_upto_region 1 with (fail)
  generalize hw1 : w.alloc _ = w1
  have hB1 : Below w.heap.size w w1 := hw1 ▸ below_a1 w _
  have h1 : Mem.Blk w1 w.heap.size (fL rs) 26 := hw1 ▸ Mem.Blk.new w _ _
  have H1 := Lib.hid h1
  clear hw1 h1
  by_cases h6 : Fl.flN v < 6
  · have hst : stepOf v = Fl.flN v := by unfold stepOf; omega
    rw [hst] at HA
    clear hst
    generalize Fl.flN v = k at h6 HA hci
    have c0 : w1.cell? ⟨w.heap.size, k, none⟩ = some (.float .f32 (rs.getD k 0)) := (H1.out.cell _).trans (fL_get rs _ (by rw [HR.out]; omega))
    have c1 : w1.cell? ⟨w.heap.size, (k + 1), none⟩ = some (.float .f32 (rs.getD (k + 1) 0)) := (H1.out.cell _).trans (fL_get rs _ (by rw [HR.out]; omega))
    have lt1 := H1.out.lt
    generalize rs.getD (k) 0 = p at c0 HA
    generalize rs.getD (k + 1) 0 = q at c1 HA
    have hb0 : (k : Int) < 8 := by omega
    have hb1 : (k : Int) + 1 < 8 := by omega
    have hb2 : (0 : Int) ≤ (k : Int) + 1 := by omega
    have hwk : IntKind.i64.wrap (k : Int) = k := by rw [IntKind.wrap_i64]; omega
    have hwk1 : IntKind.i64.wrap ((k : Int) + 1) = k + 1 := by rw [IntKind.wrap_i64]; omega
    go_wp2_with (go_at_call 78; refine (floor_calls v HP.out _).mono ?_; rintro e w2 ⟨rfl, rfl⟩)
    rw [World.drewN_zero]
    (refine Rg.region_tail 8 (fun w' => Below (w1).heap.size w1 w') (fun _ _ _ => False) (by kernel_rfl) (by kernel_rfl) (by exact (Below.refl (w1).heap.size w1).drew) ?_; simp only [List.take_succ_cons, List.take_zero, List.drop_succ_cons, List.drop_zero])
    (repeat (first | ((with_reducible refine Rg.walk_plain rfl (fun Kz hKz wz hwz => ?_)); (have hclz : ∀ bb oo, bb < (w1).heap.size → wz.cell? ⟨bb, oo, none⟩ = (w1).cell? ⟨bb, oo, none⟩ := fun bb oo h => hwz.cell (p := ⟨bb, oo, none⟩) h); go_simp; refine hKz _ ?_; clear hKz hwz hclz Kz wz) | ((with_reducible refine Rg.walk_on ?_ (fun Kz hKz wz hwz => ?_)); (next => (go_simp; done)); (have hclz : ∀ bb oo, bb < (w1).heap.size → wz.cell? ⟨bb, oo, none⟩ = (w1).cell? ⟨bb, oo, none⟩ := fun bb oo h => hwz.cell (p := ⟨bb, oo, none⟩) h); go_simp; refine hKz _ ?_; clear hKz hwz hclz Kz wz) | ((with_reducible refine Rg.walk_step (fun Kz hKz => ?_)); go_simp; refine hKz _ ?_; clear hKz Kz)))
    refine Rg.walk_nil ?_
    intro w3 hw3
    clear c0 c1
    go_wp2_with fail
    go_ret
    refine ⟨_, rfl, ?_, below_n (below_call hB1 hw3) _⟩
    rw [HA.out]
    exact raddC rfl (rmulC (rsubC rfl rfl) (rsubC rfl rfl))
  · have hst : stepOf v = 6 := by unfold stepOf; omega
    rw [hst] at HA
    clear hst
    generalize Fl.flN v = k at h6 HA hci
    obtain ⟨m, hm6⟩ : ∃ m : Nat, m = 6 := ⟨6, rfl⟩
    have hm7 : (6 : Int) = (m : Int) := by omega
    rw [← hm6] at HA
    have HM := Lib.hid hm6
    have HM7 := Lib.hid hm7
    clear hm6 hm7
    have c0 : w1.cell? ⟨w.heap.size, m, none⟩ = some (.float .f32 (rs.getD m 0)) := (H1.out.cell _).trans (fL_get rs _ (by rw [HR.out, HM.out]; omega))
    have c1 : w1.cell? ⟨w.heap.size, m + 1, none⟩ = some (.float .f32 (rs.getD (m + 1) 0)) := (H1.out.cell _).trans (fL_get rs _ (by rw [HR.out, HM.out]; omega))
    have lt1 := H1.out.lt
    generalize rs.getD m 0 = p at c0 HA
    generalize rs.getD (m + 1) 0 = q at c1 HA
    go_wp2_with (go_at_call 78; refine (floor_calls v HP.out _).mono ?_; rintro e w2 ⟨rfl, rfl⟩)
    rw [World.drewN_zero, HM7.out]
    have hb0 : (m : Int) < 8 := by rw [HM.out]; omega
    have hb1 : (m : Int) + 1 < 8 := by rw [HM.out]; omega
    have hb2 : (0 : Int) ≤ (m : Int) + 1 := by omega
    have hwk : IntKind.i64.wrap (m : Int) = m := by rw [IntKind.wrap_i64]; omega
    have hwk1 : IntKind.i64.wrap ((m : Int) + 1) = m + 1 := by rw [IntKind.wrap_i64]; omega
    (refine Rg.region_tail 8 (fun w' => Below (w1).heap.size w1 w') (fun _ _ _ => False) (by kernel_rfl) (by kernel_rfl) (by exact (Below.refl (w1).heap.size w1).drew) ?_; simp only [List.take_succ_cons, List.take_zero, List.drop_succ_cons, List.drop_zero])
    (repeat (first | ((with_reducible refine Rg.walk_plain rfl (fun Kz hKz wz hwz => ?_)); (have hclz : ∀ bb oo, bb < (w1).heap.size → wz.cell? ⟨bb, oo, none⟩ = (w1).cell? ⟨bb, oo, none⟩ := fun bb oo h => hwz.cell (p := ⟨bb, oo, none⟩) h); go_simp; refine hKz _ ?_; clear hKz hwz hclz Kz wz) | ((with_reducible refine Rg.walk_on ?_ (fun Kz hKz wz hwz => ?_)); (next => (go_simp; done)); (have hclz : ∀ bb oo, bb < (w1).heap.size → wz.cell? ⟨bb, oo, none⟩ = (w1).cell? ⟨bb, oo, none⟩ := fun bb oo h => hwz.cell (p := ⟨bb, oo, none⟩) h); go_simp; refine hKz _ ?_; clear hKz hwz hclz Kz wz) | ((with_reducible refine Rg.walk_step (fun Kz hKz => ?_)); go_simp; refine hKz _ ?_; clear hKz Kz)))
    refine Rg.walk_nil ?_
    intro w3 hw3
    clear c0 c1
    go_wp2_with fail
    go_ret
    refine ⟨_, rfl, ?_, below_n (below_call hB1 hw3) _⟩
    rw [HA.out]
    exact raddC rfl (rmulC (rsubC rfl rfl) (rsubC rfl rfl))
end Go.Proofs.Ytfbflbiohbhmmaa
