/-
  Valid stores: what both programs answer.
-/
import Derived.Test.YtclbgkajhpknlaaPvalidCr
namespace Go.Proofs.Ytclbgkajhpknlaa
open Go.RowKit

def countedN (n : Int) : Bool := decide (0 ≤ n) && decide (n ≤ 10000)
def vStore (c : Int) (rs : List Nat) (b s t : Int) (m : Nat) : Bool :=
  vCrate c rs && (b / 2 ^ c.toNat == 0) && countedN s && countedN t && Fl.ge m 0 && Fl.le m 1233125376

set_option maxHeartbeats 400000 in
theorem isCounted_calls (n : Int) (h1 : -32768 ≤ n) (h2 : n ≤ 32767) (w : World) :
    Calls Try.prog 48 #[.int .i16 n] w fun e w' => e = .returned (.bool (countedN n)) ∧ w' = w := by
  go_enter Try.func48, Try.ntmps48
  go_wp2_with fail
  refine (within_calls _ _ _ _).mono ?_
  rintro e w2 ⟨rfl, rfl⟩
  go_wp2_with fail
  go_ret
  exact ⟨rfl, rfl⟩

set_option maxHeartbeats 400000 in
theorem l07Number_calls (n : Int) (w : World) :
    Calls Try.prog 75 #[.int .i16 n] w fun e w' => e = .returned (.bool (countedN n)) ∧ w' = w := by
  go_enter Try.func75, Try.ntmps75
  unfold countedN
  go_wp2
  all_goals go_ret
  all_goals (refine ⟨?_, rfl⟩; simp_all; try omega)

theorem StOk.bounds {c : Int} {rs : List Nat} {b s t : Int} {m : Nat} (h : StOk c rs b s t m) : -128 ≤ c ∧ c ≤ 127 ∧ 0 ≤ b ∧ b ≤ 65535 ∧ -32768 ≤ s ∧ s ≤ 32767 ∧ -32768 ≤ t ∧ t ≤ 32767 :=
  ⟨h.hc.1, h.hc.2, h.hb.1, h.hb.2, h.hs.1, h.hs.2, h.ht.1, h.ht.2⟩

theorem vCrate_bounds {c : Int} {rs : List Nat} (h : vCrate c rs = true) : 0 ≤ c ∧ c ≤ 16 := by
  unfold vCrate at h
  simp only [Bool.and_eq_true, decide_eq_true_eq] at h
  exact h.1

set_option maxHeartbeats 1000000 in
theorem implValidStore_calls (c : Int) (rs : List Nat) (b s t : Int) (m : Nat) (h : StOk c rs b s t m) (w : World) :
    Calls Try.prog 20 #[.agg (stL c rs b s t m).toArray] w (RetBool (vStore c rs b s t m) w) := by
  obtain ⟨hc1, hc2, hb1, hb2, hs1, hs2, ht1, ht2⟩ := h.bounds
  have HR := Lib.hid h.len
  clear h
  go_enter Try.func20, Try.ntmps20
  go_upto_region 1 with (fail)
  generalize hw1 : w.alloc _ = w1
  have h1 : Mem.Blk w1 w.heap.size (stL c rs b s t m) 40 := hw1 ▸ Mem.Blk.new w _ _
  have hb : Below w.heap.size w w1 := hw1 ▸ below_a1 w _
  clear hw1
  have s1 := h1.lt
  have K1 := Lib.hid (show ∀ j v, (crL c rs)[j]? = some v → w1.cell? ⟨w.heap.size, 0 + j, none⟩ = some v from fun j v h => (h1.cell (0 + j)).trans (by rw [Nat.zero_add]; exact stL_crate c rs b s t m j v h))
  have H1 := Lib.hid h1
  clear h1
  go_wp2_with (with_reducible refine Mem.wpList_loadA rfl 38 _ rfl w.heap.size 0 rfl (crL c rs) _ Try.underlying38 rfl (by rw [crL_length, HR.out]; kernel_rfl) K1.out ?_)
  refine (implValidCrate_calls c rs HR.out hc1 hc2 w1).mono ?_
  rintro e w2 ⟨rfl, hb2'⟩
  have hB := below_call hb hb2'
  have g1 := H1.out.below hb2' s1
  have c9 : w2.cell? ⟨w.heap.size, 0, none⟩ = some (.int .i8 c) := (g1.cell 0).trans rfl
  have c0 : w2.cell? ⟨w.heap.size, 17, none⟩ = some (.int .u16 b) := (g1.cell 17).trans (stL_get c rs b s t m HR.out 0)
  have c1 : w2.cell? ⟨w.heap.size, 18, none⟩ = some (.int .i16 s) := (g1.cell 18).trans (stL_get c rs b s t m HR.out 1)
  have c2 : w2.cell? ⟨w.heap.size, 19, none⟩ = some (.int .i16 t) := (g1.cell 19).trans (stL_get c rs b s t m HR.out 2)
  have c3 : w2.cell? ⟨w.heap.size, 20, none⟩ = some (.float .f32 m) := (g1.cell 20).trans (stL_get c rs b s t m HR.out 3)
  clear H1 g1 K1 hb2' s1 hb
  cases hv : vCrate c rs
  · have HX := Lib.hid (show vStore c rs b s t m = false by unfold vStore; rw [hv]; rfl)
    clear hv
    go_wp2_with fail
    go_ret
    exact ⟨by rw [HX.out]; rfl, hB⟩
  obtain ⟨hc3, hc4⟩ := vCrate_bounds hv
  obtain ⟨k, rfl⟩ : ∃ k : Nat, c = k := ⟨c.toNat, by omega⟩
  obtain ⟨n, rfl⟩ : ∃ n : Nat, b = n := ⟨b.toNat, by omega⟩
  have HX := Lib.hid (show vStore (k : Int) rs (n : Int) s t m = (((n : Int) / 2 ^ k == 0) && countedN s && countedN t && Fl.ge m 0 && Fl.le m 1233125376) by unfold vStore; rw [hv]; rfl)
  clear hv
  cases h0 : ((n : Int) / 2 ^ k == 0)
  · have X0 := Lib.hid h0
    rw [beq_eq_false_iff_ne] at h0
    go_wp2_with fail
    go_ret
    exact ⟨by rw [HX.out, X0.out]; rfl, hB⟩
  have X0 := Lib.hid h0
  rw [beq_iff_eq] at h0
  go_wp2_with fail
  refine (isCounted_calls _ hs1 hs2 _).mono ?_
  rintro e w3 ⟨rfl, rfl⟩
  cases h3 : countedN s
  · have X1 := Lib.hid h3
    go_wp2_with fail
    go_ret
    exact ⟨by rw [HX.out, X0.out, X1.out]; rfl, hB⟩
  have X1 := Lib.hid h3
  clear h3
  go_wp2_with fail
  refine (isCounted_calls _ ht1 ht2 _).mono ?_
  rintro e w3 ⟨rfl, rfl⟩
  cases h3 : countedN t
  · have X2 := Lib.hid h3
    go_wp2_with fail
    go_ret
    exact ⟨by rw [HX.out, X0.out, X1.out, X2.out]; rfl, hB⟩
  have X2 := Lib.hid h3
  clear h3
  cases h3 : Fl.ge m 0
  · have X3 := h3
    go_wp2_with fail
    go_ret
    exact ⟨by rw [HX.out, X0.out, X1.out, X2.out, X3]; rfl, hB⟩
  cases h4 : Fl.le m 1233125376
  · go_wp2_with fail
    go_ret
    exact ⟨by rw [HX.out, X0.out, X1.out, X2.out, h3, h4]; rfl, hB⟩
  · go_wp2_with fail
    go_ret
    exact ⟨by rw [HX.out, X0.out, X1.out, X2.out, h3, h4]; rfl, hB⟩
/-- A store that lies somewhere. -/
structure HoldsSt (w : World) (g o : Nat) (c : Int) (rs : List Nat) (b s t : Int) (m : Nat) : Prop where
  lt : g < w.heap.size
  h0 : w.cell? ⟨g, o, none⟩ = some (.int .i8 c)
  hf : HoldsF w g (o + 1) rs
  hb : w.cell? ⟨g, o + 17, none⟩ = some (.int .u16 b)
  hs : w.cell? ⟨g, o + 18, none⟩ = some (.int .i16 s)
  ht : w.cell? ⟨g, o + 19, none⟩ = some (.int .i16 t)
  hm : w.cell? ⟨g, o + 20, none⟩ = some (.float .f32 m)
theorem HoldsSt.below {w w' : World} {g o : Nat} {c : Int} {rs : List Nat} {b s t : Int} {m : Nat} (h : HoldsSt w g o c rs b s t m) (hb : Below w.heap.size w w') : HoldsSt w' g o c rs b s t m :=
  ⟨by have := hb.size; have := h.lt; omega, (hb.cell (p := ⟨g, o, none⟩) h.lt).trans h.h0, h.hf.below hb h.lt, (hb.cell (p := ⟨g, o + 17, none⟩) h.lt).trans h.hb, (hb.cell (p := ⟨g, o + 18, none⟩) h.lt).trans h.hs,
    (hb.cell (p := ⟨g, o + 19, none⟩) h.lt).trans h.ht, (hb.cell (p := ⟨g, o + 20, none⟩) h.lt).trans h.hm⟩
theorem HoldsSt.of_blk {w : World} {g : Nat} {c : Int} {rs : List Nat} {b s t : Int} {m : Nat} {ty : TypeId} (h : Mem.Blk w g (stL c rs b s t m) ty) (hr : rs.length = 16) : HoldsSt w g 0 c rs b s t m :=
  ⟨h.lt, (h.cell 0).trans rfl, fun i hi => (h.cell (1 + i)).trans (stL_crate c rs b s t m _ _ (crL_succ c rs i hi)), (h.cell 17).trans (stL_get c rs b s t m hr 0), (h.cell 18).trans (stL_get c rs b s t m hr 1),
    (h.cell 19).trans (stL_get c rs b s t m hr 2), (h.cell 20).trans (stL_get c rs b s t m hr 3)⟩

set_option maxHeartbeats 2000000 in
theorem l07Ok_calls (g o : Nat) (c : Int) (rs : List Nat) (b s t : Int) (m : Nat) (h : StOk c rs b s t m) (w : World) (H : HoldsSt w g o c rs b s t m) :
    Calls Try.prog 46 #[.pointer (some ⟨g, o, none⟩)] w (RetBool (vStore c rs b s t m) w) := by
  obtain ⟨hc1, hc2, hb1, hb2, hs1, hs2, ht1, ht2⟩ := h.bounds
  have HR := Lib.hid h.len
  clear h
  obtain ⟨lg, c9, hf, c0, c1, c2, c3⟩ := H
  have HF := Lib.hid hf
  have C9 := Lib.hid c9
  clear hf
  cases hv : vCrate c rs
  · have HX := Lib.hid (show vStore c rs b s t m = false by unfold vStore; rw [hv]; rfl)
    go_enter Try.func46, Try.ntmps46
    go_wp2_with fail
    (refine Rg.region_tail 35 (fun w' => Below (w).heap.size w w') (fun f _ v => v = .bool (vCrate c rs)) (by kernel_rfl) (by kernel_rfl) (by exact (Below.refl (w).heap.size w).drew) ?_; simp only [List.take_succ_cons, List.take_zero, List.drop_succ_cons, List.drop_zero])
    (repeat (first | ((with_reducible refine Rg.walk_plain rfl (fun Kz hKz wz hwz => ?_)); (have hclz : ∀ bb oo, bb < (w).heap.size → wz.cell? ⟨bb, oo, none⟩ = (w).cell? ⟨bb, oo, none⟩ := fun bb oo h => hwz.cell (p := ⟨bb, oo, none⟩) h); go_simp; refine hKz _ ?_; clear hKz hwz hclz Kz wz) | ((with_reducible refine Rg.walk_on ?_ (fun Kz hKz wz hwz => ?_)); (next => (go_simp; done)); (have hclz : ∀ bb oo, bb < (w).heap.size → wz.cell? ⟨bb, oo, none⟩ = (w).cell? ⟨bb, oo, none⟩ := fun bb oo h => hwz.cell (p := ⟨bb, oo, none⟩) h); go_simp; refine hKz _ ?_; clear hKz hwz hclz Kz wz) | ((with_reducible refine Rg.walk_step (fun Kz hKz => ?_)); go_simp; refine hKz _ ?_; clear hKz Kz)))
    refine Rg.walk_calls rfl 53 #[.pointer (some ⟨g, o, none⟩)] (fun W hW => ⟨by go_simp, (l01Crate_calls g o c rs HR.out hc1 hc2 W ((hW.cell (p := ⟨g, o, none⟩) lg).trans C9.out) (HF.out.below hW lg)).mono fun e w2 ⟨he, hb2⟩ => ⟨_, he, rfl, by rw [hb2]; exact hW⟩⟩) (fun u hu => ?_)
    subst hu
    rw [hv]
    (repeat (first | ((with_reducible refine Rg.walk_plain rfl (fun Kz hKz wz hwz => ?_)); (have hclz : ∀ bb oo, bb < (w).heap.size → wz.cell? ⟨bb, oo, none⟩ = (w).cell? ⟨bb, oo, none⟩ := fun bb oo h => hwz.cell (p := ⟨bb, oo, none⟩) h); go_simp; refine hKz _ ?_; clear hKz hwz hclz Kz wz) | ((with_reducible refine Rg.walk_on ?_ (fun Kz hKz wz hwz => ?_)); (next => (go_simp; done)); (have hclz : ∀ bb oo, bb < (w).heap.size → wz.cell? ⟨bb, oo, none⟩ = (w).cell? ⟨bb, oo, none⟩ := fun bb oo h => hwz.cell (p := ⟨bb, oo, none⟩) h); go_simp; refine hKz _ ?_; clear hKz hwz hclz Kz wz) | ((with_reducible refine Rg.walk_step (fun Kz hKz => ?_)); go_simp; refine hKz _ ?_; clear hKz Kz)))
    refine Rg.walk_nil ?_
    intro w2 hw2
    clear c0 c1 c2 c3 c9
    go_wp2_with fail
    go_ret
    exact ⟨by rw [HX.out]; rfl, hw2⟩
  obtain ⟨hc3, hc4⟩ := vCrate_bounds hv
  obtain ⟨k, rfl⟩ : ∃ k : Nat, c = k := ⟨c.toNat, by omega⟩
  obtain ⟨n, rfl⟩ : ∃ n : Nat, b = n := ⟨b.toNat, by omega⟩
  have HX := Lib.hid (show vStore (k : Int) rs (n : Int) s t m = (((n : Int) / 2 ^ k == 0) && countedN s && countedN t && Fl.ge m 0 && Fl.le m 1233125376) by unfold vStore; rw [hv]; rfl)
  have HV := Lib.hid hv
  clear hv
  have hwr1 : IntKind.i64.wrap (n : Int) = n := by rw [IntKind.wrap_i64]; omega
  have hwr2 : IntKind.u64.wrap (k : Int) = k := by rw [IntKind.wrap_u64]; omega
  have hmin : min k 64 = k := Nat.min_eq_left (by omega)
  cases h0 : ((n : Int) / 2 ^ k == 0)
  · have X0 := Lib.hid h0
    have h0' : ((n : Int) / 2 ^ k != 0) = true := by rw [bne, h0]; rfl
    rw [beq_eq_false_iff_ne] at h0
    go_enter Try.func46, Try.ntmps46
    go_wp2_with fail
    (refine Rg.region_tail 35 (fun w' => Below (w).heap.size w w') (fun f args v => (f = 53 ∧ v = .bool true) ∨ (f = 75 ∧ ∃ x, args = #[.int .i16 x] ∧ v = .bool (countedN x))) (by kernel_rfl) (by kernel_rfl) (by exact (Below.refl (w).heap.size w).drew) ?_; simp only [List.take_succ_cons, List.take_zero, List.drop_succ_cons, List.drop_zero])
    (repeat (first | ((with_reducible refine Rg.walk_plain rfl (fun Kz hKz wz hwz => ?_)); (have hclz : ∀ bb oo, bb < (w).heap.size → wz.cell? ⟨bb, oo, none⟩ = (w).cell? ⟨bb, oo, none⟩ := fun bb oo h => hwz.cell (p := ⟨bb, oo, none⟩) h); go_simp; refine hKz _ ?_; clear hKz hwz hclz Kz wz) | ((with_reducible refine Rg.walk_on ?_ (fun Kz hKz wz hwz => ?_)); (next => (go_simp; done)); (have hclz : ∀ bb oo, bb < (w).heap.size → wz.cell? ⟨bb, oo, none⟩ = (w).cell? ⟨bb, oo, none⟩ := fun bb oo h => hwz.cell (p := ⟨bb, oo, none⟩) h); go_simp; refine hKz _ ?_; clear hKz hwz hclz Kz wz) | ((with_reducible refine Rg.walk_step (fun Kz hKz => ?_)); go_simp; refine hKz _ ?_; clear hKz Kz)))
    refine Rg.walk_calls rfl 53 #[.pointer (some ⟨g, o, none⟩)] (fun W hW => ⟨by go_simp, (l01Crate_calls g o k rs HR.out hc1 hc2 W ((hW.cell (p := ⟨g, o, none⟩) lg).trans C9.out) (HF.out.below hW lg)).mono fun e w2 ⟨he, hb2⟩ => ⟨_, he, .inl ⟨rfl, by rw [HV.out]⟩, by rw [hb2]; exact hW⟩⟩) (fun u hu => ?_)
    obtain rfl : u = .bool true := by rcases hu with ⟨_, h⟩ | ⟨h, _⟩; exact h; exact absurd h (by decide)
    clear hu
    (repeat (first | ((with_reducible refine Rg.walk_plain rfl (fun Kz hKz wz hwz => ?_)); (have hclz : ∀ bb oo, bb < (w).heap.size → wz.cell? ⟨bb, oo, none⟩ = (w).cell? ⟨bb, oo, none⟩ := fun bb oo h => hwz.cell (p := ⟨bb, oo, none⟩) h); go_simp; refine hKz _ ?_; clear hKz hwz hclz Kz wz) | ((with_reducible refine Rg.walk_on ?_ (fun Kz hKz wz hwz => ?_)); (next => (go_simp; done)); (have hclz : ∀ bb oo, bb < (w).heap.size → wz.cell? ⟨bb, oo, none⟩ = (w).cell? ⟨bb, oo, none⟩ := fun bb oo h => hwz.cell (p := ⟨bb, oo, none⟩) h); go_simp; refine hKz _ ?_; clear hKz hwz hclz Kz wz) | ((with_reducible refine Rg.walk_step (fun Kz hKz => ?_)); go_simp; refine hKz _ ?_; clear hKz Kz)))
    refine Rg.walk_nil ?_
    intro w2 hw2
    clear c0 c1 c2 c3 c9
    go_wp2_with fail
    go_ret
    exact ⟨by rw [HX.out, X0.out]; rfl, hw2⟩
  have X0 := Lib.hid h0
  have h0' : ((n : Int) / 2 ^ k != 0) = false := by rw [bne, h0]; rfl
  rw [beq_iff_eq] at h0
  cases h1 : countedN s
  · have X1 := Lib.hid h1
    clear h1
    go_enter Try.func46, Try.ntmps46
    go_wp2_with fail
    (refine Rg.region_tail 35 (fun w' => Below (w).heap.size w w') (fun f args v => (f = 53 ∧ v = .bool true) ∨ (f = 75 ∧ ∃ x, args = #[.int .i16 x] ∧ v = .bool (countedN x))) (by kernel_rfl) (by kernel_rfl) (by exact (Below.refl (w).heap.size w).drew) ?_; simp only [List.take_succ_cons, List.take_zero, List.drop_succ_cons, List.drop_zero])
    (repeat (first | ((with_reducible refine Rg.walk_plain rfl (fun Kz hKz wz hwz => ?_)); (have hclz : ∀ bb oo, bb < (w).heap.size → wz.cell? ⟨bb, oo, none⟩ = (w).cell? ⟨bb, oo, none⟩ := fun bb oo h => hwz.cell (p := ⟨bb, oo, none⟩) h); go_simp; refine hKz _ ?_; clear hKz hwz hclz Kz wz) | ((with_reducible refine Rg.walk_on ?_ (fun Kz hKz wz hwz => ?_)); (next => (go_simp; done)); (have hclz : ∀ bb oo, bb < (w).heap.size → wz.cell? ⟨bb, oo, none⟩ = (w).cell? ⟨bb, oo, none⟩ := fun bb oo h => hwz.cell (p := ⟨bb, oo, none⟩) h); go_simp; refine hKz _ ?_; clear hKz hwz hclz Kz wz) | ((with_reducible refine Rg.walk_step (fun Kz hKz => ?_)); go_simp; refine hKz _ ?_; clear hKz Kz)))
    refine Rg.walk_calls rfl 53 #[.pointer (some ⟨g, o, none⟩)] (fun W hW => ⟨by go_simp, (l01Crate_calls g o k rs HR.out hc1 hc2 W ((hW.cell (p := ⟨g, o, none⟩) lg).trans C9.out) (HF.out.below hW lg)).mono fun e w2 ⟨he, hb2⟩ => ⟨_, he, .inl ⟨rfl, by rw [HV.out]⟩, by rw [hb2]; exact hW⟩⟩) (fun u hu => ?_)
    obtain rfl : u = .bool true := by rcases hu with ⟨_, h⟩ | ⟨h, _⟩; exact h; exact absurd h (by decide)
    clear hu
    (repeat (first | ((with_reducible refine Rg.walk_plain rfl (fun Kz hKz wz hwz => ?_)); (have hclz : ∀ bb oo, bb < (w).heap.size → wz.cell? ⟨bb, oo, none⟩ = (w).cell? ⟨bb, oo, none⟩ := fun bb oo h => hwz.cell (p := ⟨bb, oo, none⟩) h); go_simp; refine hKz _ ?_; clear hKz hwz hclz Kz wz) | ((with_reducible refine Rg.walk_on ?_ (fun Kz hKz wz hwz => ?_)); (next => (go_simp; done)); (have hclz : ∀ bb oo, bb < (w).heap.size → wz.cell? ⟨bb, oo, none⟩ = (w).cell? ⟨bb, oo, none⟩ := fun bb oo h => hwz.cell (p := ⟨bb, oo, none⟩) h); go_simp; refine hKz _ ?_; clear hKz hwz hclz Kz wz) | ((with_reducible refine Rg.walk_step (fun Kz hKz => ?_)); go_simp; refine hKz _ ?_; clear hKz Kz)))
    refine Rg.walk_on_call (by go_simp) 75 #[.int .i16 s] (fun W hW => ⟨by go_simp, (l07Number_calls s W).mono fun e w2 ⟨he, hb2⟩ => ⟨_, he, .inr ⟨rfl, _, rfl, rfl⟩, by rw [hb2]; exact hW⟩⟩) (fun u hu => ?_)
    obtain rfl : u = .bool (countedN s) := by rcases hu with ⟨h, _⟩ | ⟨_, x, hx, h⟩; exact absurd h (by decide); simp at hx; rw [h, hx]
    clear hu
    rw [X1.out]
    (repeat (first | ((with_reducible refine Rg.walk_plain rfl (fun Kz hKz wz hwz => ?_)); (have hclz : ∀ bb oo, bb < (w).heap.size → wz.cell? ⟨bb, oo, none⟩ = (w).cell? ⟨bb, oo, none⟩ := fun bb oo h => hwz.cell (p := ⟨bb, oo, none⟩) h); go_simp; refine hKz _ ?_; clear hKz hwz hclz Kz wz) | ((with_reducible refine Rg.walk_on ?_ (fun Kz hKz wz hwz => ?_)); (next => (go_simp; done)); (have hclz : ∀ bb oo, bb < (w).heap.size → wz.cell? ⟨bb, oo, none⟩ = (w).cell? ⟨bb, oo, none⟩ := fun bb oo h => hwz.cell (p := ⟨bb, oo, none⟩) h); go_simp; refine hKz _ ?_; clear hKz hwz hclz Kz wz) | ((with_reducible refine Rg.walk_step (fun Kz hKz => ?_)); go_simp; refine hKz _ ?_; clear hKz Kz)))
    refine Rg.walk_nil ?_
    intro w2 hw2
    clear c0 c1 c2 c3 c9
    go_wp2_with fail
    go_ret
    exact ⟨by rw [HX.out, X0.out, X1.out]; rfl, hw2⟩
  have X1 := Lib.hid h1
  clear h1
  cases h2 : countedN t
  · have X2 := Lib.hid h2
    clear h2
    go_enter Try.func46, Try.ntmps46
    go_wp2_with fail
    (refine Rg.region_tail 35 (fun w' => Below (w).heap.size w w') (fun f args v => (f = 53 ∧ v = .bool true) ∨ (f = 75 ∧ ∃ x, args = #[.int .i16 x] ∧ v = .bool (countedN x))) (by kernel_rfl) (by kernel_rfl) (by exact (Below.refl (w).heap.size w).drew) ?_; simp only [List.take_succ_cons, List.take_zero, List.drop_succ_cons, List.drop_zero])
    (repeat (first | ((with_reducible refine Rg.walk_plain rfl (fun Kz hKz wz hwz => ?_)); (have hclz : ∀ bb oo, bb < (w).heap.size → wz.cell? ⟨bb, oo, none⟩ = (w).cell? ⟨bb, oo, none⟩ := fun bb oo h => hwz.cell (p := ⟨bb, oo, none⟩) h); go_simp; refine hKz _ ?_; clear hKz hwz hclz Kz wz) | ((with_reducible refine Rg.walk_on ?_ (fun Kz hKz wz hwz => ?_)); (next => (go_simp; done)); (have hclz : ∀ bb oo, bb < (w).heap.size → wz.cell? ⟨bb, oo, none⟩ = (w).cell? ⟨bb, oo, none⟩ := fun bb oo h => hwz.cell (p := ⟨bb, oo, none⟩) h); go_simp; refine hKz _ ?_; clear hKz hwz hclz Kz wz) | ((with_reducible refine Rg.walk_step (fun Kz hKz => ?_)); go_simp; refine hKz _ ?_; clear hKz Kz)))
    refine Rg.walk_calls rfl 53 #[.pointer (some ⟨g, o, none⟩)] (fun W hW => ⟨by go_simp, (l01Crate_calls g o k rs HR.out hc1 hc2 W ((hW.cell (p := ⟨g, o, none⟩) lg).trans C9.out) (HF.out.below hW lg)).mono fun e w2 ⟨he, hb2⟩ => ⟨_, he, .inl ⟨rfl, by rw [HV.out]⟩, by rw [hb2]; exact hW⟩⟩) (fun u hu => ?_)
    obtain rfl : u = .bool true := by rcases hu with ⟨_, h⟩ | ⟨h, _⟩; exact h; exact absurd h (by decide)
    clear hu
    (repeat (first | ((with_reducible refine Rg.walk_plain rfl (fun Kz hKz wz hwz => ?_)); (have hclz : ∀ bb oo, bb < (w).heap.size → wz.cell? ⟨bb, oo, none⟩ = (w).cell? ⟨bb, oo, none⟩ := fun bb oo h => hwz.cell (p := ⟨bb, oo, none⟩) h); go_simp; refine hKz _ ?_; clear hKz hwz hclz Kz wz) | ((with_reducible refine Rg.walk_on ?_ (fun Kz hKz wz hwz => ?_)); (next => (go_simp; done)); (have hclz : ∀ bb oo, bb < (w).heap.size → wz.cell? ⟨bb, oo, none⟩ = (w).cell? ⟨bb, oo, none⟩ := fun bb oo h => hwz.cell (p := ⟨bb, oo, none⟩) h); go_simp; refine hKz _ ?_; clear hKz hwz hclz Kz wz) | ((with_reducible refine Rg.walk_step (fun Kz hKz => ?_)); go_simp; refine hKz _ ?_; clear hKz Kz)))
    refine Rg.walk_on_call (by go_simp) 75 #[.int .i16 s] (fun W hW => ⟨by go_simp, (l07Number_calls s W).mono fun e w2 ⟨he, hb2⟩ => ⟨_, he, .inr ⟨rfl, _, rfl, rfl⟩, by rw [hb2]; exact hW⟩⟩) (fun u hu => ?_)
    obtain rfl : u = .bool (countedN s) := by rcases hu with ⟨h, _⟩ | ⟨_, x, hx, h⟩; exact absurd h (by decide); simp at hx; rw [h, hx]
    clear hu
    rw [X1.out]
    (repeat (first | ((with_reducible refine Rg.walk_plain rfl (fun Kz hKz wz hwz => ?_)); (have hclz : ∀ bb oo, bb < (w).heap.size → wz.cell? ⟨bb, oo, none⟩ = (w).cell? ⟨bb, oo, none⟩ := fun bb oo h => hwz.cell (p := ⟨bb, oo, none⟩) h); go_simp; refine hKz _ ?_; clear hKz hwz hclz Kz wz) | ((with_reducible refine Rg.walk_on ?_ (fun Kz hKz wz hwz => ?_)); (next => (go_simp; done)); (have hclz : ∀ bb oo, bb < (w).heap.size → wz.cell? ⟨bb, oo, none⟩ = (w).cell? ⟨bb, oo, none⟩ := fun bb oo h => hwz.cell (p := ⟨bb, oo, none⟩) h); go_simp; refine hKz _ ?_; clear hKz hwz hclz Kz wz) | ((with_reducible refine Rg.walk_step (fun Kz hKz => ?_)); go_simp; refine hKz _ ?_; clear hKz Kz)))
    refine Rg.walk_on_call (by go_simp) 75 #[.int .i16 t] (fun W hW => ⟨by go_simp, (l07Number_calls t W).mono fun e w2 ⟨he, hb2⟩ => ⟨_, he, .inr ⟨rfl, _, rfl, rfl⟩, by rw [hb2]; exact hW⟩⟩) (fun u hu => ?_)
    obtain rfl : u = .bool (countedN t) := by rcases hu with ⟨h, _⟩ | ⟨_, x, hx, h⟩; exact absurd h (by decide); simp at hx; rw [h, hx]
    clear hu
    rw [X2.out]
    (repeat (first | ((with_reducible refine Rg.walk_plain rfl (fun Kz hKz wz hwz => ?_)); (have hclz : ∀ bb oo, bb < (w).heap.size → wz.cell? ⟨bb, oo, none⟩ = (w).cell? ⟨bb, oo, none⟩ := fun bb oo h => hwz.cell (p := ⟨bb, oo, none⟩) h); go_simp; refine hKz _ ?_; clear hKz hwz hclz Kz wz) | ((with_reducible refine Rg.walk_on ?_ (fun Kz hKz wz hwz => ?_)); (next => (go_simp; done)); (have hclz : ∀ bb oo, bb < (w).heap.size → wz.cell? ⟨bb, oo, none⟩ = (w).cell? ⟨bb, oo, none⟩ := fun bb oo h => hwz.cell (p := ⟨bb, oo, none⟩) h); go_simp; refine hKz _ ?_; clear hKz hwz hclz Kz wz) | ((with_reducible refine Rg.walk_step (fun Kz hKz => ?_)); go_simp; refine hKz _ ?_; clear hKz Kz)))
    refine Rg.walk_nil ?_
    intro w2 hw2
    clear c0 c1 c2 c3 c9
    go_wp2_with fail
    go_ret
    exact ⟨by rw [HX.out, X0.out, X1.out, X2.out]; rfl, hw2⟩
  have X2 := Lib.hid h2
  clear h2
  go_enter Try.func46, Try.ntmps46
  go_wp2_with fail
  (refine Rg.region_tail 35 (fun w' => Below (w).heap.size w w') (fun f args v => (f = 53 ∧ v = .bool true) ∨ (f = 75 ∧ ∃ x, args = #[.int .i16 x] ∧ v = .bool (countedN x))) (by kernel_rfl) (by kernel_rfl) (by exact (Below.refl (w).heap.size w).drew) ?_; simp only [List.take_succ_cons, List.take_zero, List.drop_succ_cons, List.drop_zero])
  (repeat (first | ((with_reducible refine Rg.walk_plain rfl (fun Kz hKz wz hwz => ?_)); (have hclz : ∀ bb oo, bb < (w).heap.size → wz.cell? ⟨bb, oo, none⟩ = (w).cell? ⟨bb, oo, none⟩ := fun bb oo h => hwz.cell (p := ⟨bb, oo, none⟩) h); go_simp; refine hKz _ ?_; clear hKz hwz hclz Kz wz) | ((with_reducible refine Rg.walk_on ?_ (fun Kz hKz wz hwz => ?_)); (next => (go_simp; done)); (have hclz : ∀ bb oo, bb < (w).heap.size → wz.cell? ⟨bb, oo, none⟩ = (w).cell? ⟨bb, oo, none⟩ := fun bb oo h => hwz.cell (p := ⟨bb, oo, none⟩) h); go_simp; refine hKz _ ?_; clear hKz hwz hclz Kz wz) | ((with_reducible refine Rg.walk_step (fun Kz hKz => ?_)); go_simp; refine hKz _ ?_; clear hKz Kz)))
  refine Rg.walk_calls rfl 53 #[.pointer (some ⟨g, o, none⟩)] (fun W hW => ⟨by go_simp, (l01Crate_calls g o k rs HR.out hc1 hc2 W ((hW.cell (p := ⟨g, o, none⟩) lg).trans C9.out) (HF.out.below hW lg)).mono fun e w2 ⟨he, hb2⟩ => ⟨_, he, .inl ⟨rfl, by rw [HV.out]⟩, by rw [hb2]; exact hW⟩⟩) (fun u hu => ?_)
  obtain rfl : u = .bool true := by rcases hu with ⟨_, h⟩ | ⟨h, _⟩; exact h; exact absurd h (by decide)
  clear hu
  (repeat (first | ((with_reducible refine Rg.walk_plain rfl (fun Kz hKz wz hwz => ?_)); (have hclz : ∀ bb oo, bb < (w).heap.size → wz.cell? ⟨bb, oo, none⟩ = (w).cell? ⟨bb, oo, none⟩ := fun bb oo h => hwz.cell (p := ⟨bb, oo, none⟩) h); go_simp; refine hKz _ ?_; clear hKz hwz hclz Kz wz) | ((with_reducible refine Rg.walk_on ?_ (fun Kz hKz wz hwz => ?_)); (next => (go_simp; done)); (have hclz : ∀ bb oo, bb < (w).heap.size → wz.cell? ⟨bb, oo, none⟩ = (w).cell? ⟨bb, oo, none⟩ := fun bb oo h => hwz.cell (p := ⟨bb, oo, none⟩) h); go_simp; refine hKz _ ?_; clear hKz hwz hclz Kz wz) | ((with_reducible refine Rg.walk_step (fun Kz hKz => ?_)); go_simp; refine hKz _ ?_; clear hKz Kz)))
  refine Rg.walk_on_call (by go_simp) 75 #[.int .i16 s] (fun W hW => ⟨by go_simp, (l07Number_calls s W).mono fun e w2 ⟨he, hb2⟩ => ⟨_, he, .inr ⟨rfl, _, rfl, rfl⟩, by rw [hb2]; exact hW⟩⟩) (fun u hu => ?_)
  obtain rfl : u = .bool (countedN s) := by rcases hu with ⟨h, _⟩ | ⟨_, x, hx, h⟩; exact absurd h (by decide); simp at hx; rw [h, hx]
  clear hu
  rw [X1.out]
  (repeat (first | ((with_reducible refine Rg.walk_plain rfl (fun Kz hKz wz hwz => ?_)); (have hclz : ∀ bb oo, bb < (w).heap.size → wz.cell? ⟨bb, oo, none⟩ = (w).cell? ⟨bb, oo, none⟩ := fun bb oo h => hwz.cell (p := ⟨bb, oo, none⟩) h); go_simp; refine hKz _ ?_; clear hKz hwz hclz Kz wz) | ((with_reducible refine Rg.walk_on ?_ (fun Kz hKz wz hwz => ?_)); (next => (go_simp; done)); (have hclz : ∀ bb oo, bb < (w).heap.size → wz.cell? ⟨bb, oo, none⟩ = (w).cell? ⟨bb, oo, none⟩ := fun bb oo h => hwz.cell (p := ⟨bb, oo, none⟩) h); go_simp; refine hKz _ ?_; clear hKz hwz hclz Kz wz) | ((with_reducible refine Rg.walk_step (fun Kz hKz => ?_)); go_simp; refine hKz _ ?_; clear hKz Kz)))
  refine Rg.walk_on_call (by go_simp) 75 #[.int .i16 t] (fun W hW => ⟨by go_simp, (l07Number_calls t W).mono fun e w2 ⟨he, hb2⟩ => ⟨_, he, .inr ⟨rfl, _, rfl, rfl⟩, by rw [hb2]; exact hW⟩⟩) (fun u hu => ?_)
  obtain rfl : u = .bool (countedN t) := by rcases hu with ⟨h, _⟩ | ⟨_, x, hx, h⟩; exact absurd h (by decide); simp at hx; rw [h, hx]
  clear hu
  rw [X2.out]
  (repeat (first | ((with_reducible refine Rg.walk_plain rfl (fun Kz hKz wz hwz => ?_)); (have hclz : ∀ bb oo, bb < (w).heap.size → wz.cell? ⟨bb, oo, none⟩ = (w).cell? ⟨bb, oo, none⟩ := fun bb oo h => hwz.cell (p := ⟨bb, oo, none⟩) h); go_simp; refine hKz _ ?_; clear hKz hwz hclz Kz wz) | ((with_reducible refine Rg.walk_on ?_ (fun Kz hKz wz hwz => ?_)); (next => (go_simp; done)); (have hclz : ∀ bb oo, bb < (w).heap.size → wz.cell? ⟨bb, oo, none⟩ = (w).cell? ⟨bb, oo, none⟩ := fun bb oo h => hwz.cell (p := ⟨bb, oo, none⟩) h); go_simp; refine hKz _ ?_; clear hKz hwz hclz Kz wz) | ((with_reducible refine Rg.walk_step (fun Kz hKz => ?_)); go_simp; refine hKz _ ?_; clear hKz Kz)))
  refine Rg.walk_nil ?_
  intro w2 hw2
  have c5 := (hw2.cell (p := ⟨g, o + 20, none⟩) lg).trans c3
  clear c0 c1 c2 c3 c9
  cases h3 : Fl.ge m 0
  · go_wp2_with fail
    go_ret
    exact ⟨by rw [HX.out, X0.out, X1.out, X2.out, h3]; rfl, hw2⟩
  cases h4 : Fl.le m 1233125376
  · go_wp2_with fail
    go_ret
    exact ⟨by rw [HX.out, X0.out, X1.out, X2.out, h3, h4]; rfl, hw2⟩
  · go_wp2_with fail
    go_ret
    exact ⟨by rw [HX.out, X0.out, X1.out, X2.out, h3, h4]; rfl, hw2⟩

set_option maxHeartbeats 1000000 in
theorem specValidStore_calls (c : Int) (rs : List Nat) (b s t : Int) (m : Nat) (h : StOk c rs b s t m) (w : World) :
    Calls Try.prog 19 #[.agg (stL c rs b s t m).toArray] w (RetBool (vStore c rs b s t m) w) := by
  have HO := Lib.hid h
  clear h
  go_enter Try.func19, Try.ntmps19
  go_upto_region 1 with (fail)
  generalize hw1 : w.alloc _ = w1
  have h1 : Mem.Blk w1 w.heap.size (stL c rs b s t m) 40 := hw1 ▸ Mem.Blk.new w _ _
  have hb : Below w.heap.size w w1 := hw1 ▸ below_a1 w _
  clear hw1
  have HS := Lib.hid (HoldsSt.of_blk h1 HO.out.len)
  clear h1
  go_wp2_with fail
  refine (l07Ok_calls w.heap.size 0 c rs b s t m HO.out w1 HS.out).mono ?_
  rintro e w2 ⟨rfl, hb2⟩
  go_wp2_with fail
  go_ret
  exact ⟨rfl, below_call hb hb2⟩

set_option maxHeartbeats 1000000 in
theorem fnExactValidStore_walk (c : Int) (rs : List Nat) (b s t : Int) (m : Nat) (w : World) (h : StOk c rs b s t m) :
    Calls Try.prog 5 #[.agg (stL c rs b s t m).toArray] w (RetBool true w) := by
  have HO := Lib.hid h
  have HR := Lib.hid h.len
  clear h
  go_enter Try.func5, Try.ntmps5
  go_upto_region 1 with (fail)
  generalize hw1 : w.alloc _ = w1
  have h1 : Mem.Blk w1 w.heap.size (stL c rs b s t m) 36 := hw1 ▸ Mem.Blk.new w _ _
  have hb : Below w.heap.size w w1 := hw1 ▸ below_a1 w _
  clear hw1
  have s1 := h1.lt
  have K1 := Lib.hid (show ∀ W, Below w1.heap.size w1 W → ∀ j v, (stL c rs b s t m)[j]? = some v → W.cell? ⟨w.heap.size, 0 + j, none⟩ = some v from fun W hW j v h => ((h1.below hW s1).cell (0 + j)).trans (by rw [Nat.zero_add]; exact h))
  clear h1
  go_wp2_with (with_reducible refine Mem.wpList_loadA rfl 36 _ rfl w.heap.size 0 rfl (stL c rs b s t m) _ Try.underlying36 rfl (by rw [stL_length, HR.out]; kernel_rfl) (K1.out _ (Below.refl _ _)) ?_)
  refine (toStore_calls c rs b s t m HR.out _).mono ?_
  rintro e w2 ⟨rfl, hx2⟩
  have B2 := hx2
  go_wp2_with fail
  refine (specValidStore_calls c rs b s t m HO.out _).mono ?_
  rintro e w3 ⟨rfl, hx3⟩
  have B3 := below_call B2 hx3
  go_wp2_with (with_reducible refine Mem.wpList_loadA rfl 36 _ rfl w.heap.size 0 rfl (stL c rs b s t m) _ Try.underlying36 rfl (by rw [stL_length, HR.out]; kernel_rfl) (K1.out _ B3) ?_)
  refine (toStore_calls c rs b s t m HR.out _).mono ?_
  rintro e w4 ⟨rfl, hx4⟩
  have B4 := below_call B3 hx4
  go_wp2_with fail
  refine (implValidStore_calls c rs b s t m HO.out _).mono ?_
  rintro e w5 ⟨rfl, hx5⟩
  have B5 := below_call B4 hx5
  go_wp2_with fail
  all_goals go_ret
  all_goals exact ⟨rfl, below_call hb B5⟩
end Go.Proofs.Ytclbgkajhpknlaa
