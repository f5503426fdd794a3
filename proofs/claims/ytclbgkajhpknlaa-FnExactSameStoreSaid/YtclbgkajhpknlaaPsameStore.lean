/-
  Crates and stores that are the same: the reference's crate, and both programs' stores.
-/
import Derived.Test.YtclbgkajhpknlaaPsameCr
import Derived.Deep.Cut
namespace Go.Proofs.Ytclbgkajhpknlaa
open Go.RowKit

set_option maxHeartbeats 1000000 in
theorem specSameCrate_calls (c : Int) (rs : List Nat) (c' : Int) (rs' : List Nat) (hr : rs.length = 16) (hr' : rs'.length = 16) (w : World) :
    Calls Try.prog 42 #[.agg (crL c rs).toArray, .agg (crL c' rs').toArray] w (RetBool (sameCr c rs c' rs') w) := by
  have HR := Lib.hid hr
  have HR' := Lib.hid hr'
  clear hr hr'
  go_enter Try.func42, Try.ntmps42
  go_upto_region 1 with (fail)
  generalize hw1 : (w.alloc _).alloc _ = w1
  have h1 : Mem.Blk w1 w.heap.size (crL c rs) 38 := hw1 ▸ (Mem.Blk.new w _ _).alloc _
  have h2 : Mem.Blk w1 (w.heap.size + 1) (crL c' rs') 38 := hw1 ▸ (Mem.Blk.new1 w _ _ _)
  have hb : Below w.heap.size w w1 := hw1 ▸ below_a2 w _ _
  clear hw1
  have s1 := h1.lt
  have s2 := h2.lt
  have c0 : w1.cell? ⟨w.heap.size, 0, none⟩ = some (.int .i8 c) := h1.cell 0
  have d0 : w1.cell? ⟨w.heap.size + 1, 0, none⟩ = some (.int .i8 c') := h2.cell 0
  have H1 := Lib.hid (HoldsF.of_crL h1)
  have H2 := Lib.hid (HoldsF.of_crL h2)
  clear h1 h2
  cases hc : (c == c')
  · have HC := Lib.hid (show sameCr c rs c' rs' = false by simp [sameCr, hc])
    have hc' : (c != c') = true := by rw [bne, hc]; rfl
    go_wp2_with fail
    go_ret
    exact ⟨by rw [HC.out]; rfl, hb⟩
  · have HC := Lib.hid (show sameCr c rs c' rs' = sameFs rs rs' by simp [sameCr, hc])
    have hc' : (c != c') = false := by rw [bne, hc]; rfl
    go_upto_region 4 with (fail)
    clear hc hc' c0 d0
    go_loopw [5] (fun i wr => ∃ k : Nat, k ≤ 16 ∧ i = .int .i64 k ∧ (∀ j, j < k → sameN (rs.getD j 0) (rs'.getD j 0) = true) ∧ Below w1.heap.size w1 wr) (fun i _ => 16 - (intOf i).toNat)
    case atStart => exact ⟨0, Nat.zero_le _, rfl, fun j hj => by omega, Below.refl _ _⟩
    case round =>
      obtain ⟨k, hk, rfl, hno, hB⟩ := hrel
      have HN := Lib.hid hno
      clear hno
      by_cases hlt : k < 16
      · have hsz := hB.size
        have c0 := (H1.out.below hB s1) k (by rw [HR.out]; exact hlt)
        have d0 := (H2.out.below hB s2) k (by rw [HR'.out]; exact hlt)
        obtain ⟨p, hp⟩ : ∃ p, p = rs.getD k 0 := ⟨_, rfl⟩
        obtain ⟨q, hq⟩ : ∃ q, q = rs'.getD k 0 := ⟨_, rfl⟩
        rw [← hp] at c0
        rw [← hq] at d0
        have HPp := Lib.hid hp
        have HQ := Lib.hid hq
        clear hp hq
        have lb : w.heap.size < wr.heap.size := by omega
        have lb' : w.heap.size + 1 < wr.heap.size := by omega
        go_wp2_with fail
        (refine Rg.region_tail 9 (fun w' => Below (wr).heap.size wr w') (fun _ _ v => v = .bool (sameN p q)) (by kernel_rfl) (by kernel_rfl) (by exact (Below.refl (wr).heap.size wr).drew) ?_; simp only [List.take_succ_cons, List.take_zero, List.drop_succ_cons, List.drop_zero])
        (repeat (first | ((with_reducible refine Rg.walk_plain rfl (fun Kz hKz wz hwz => ?_)); (have hclz : ∀ bb oo, bb < (wr).heap.size → wz.cell? ⟨bb, oo, none⟩ = (wr).cell? ⟨bb, oo, none⟩ := fun bb oo h => hwz.cell (p := ⟨bb, oo, none⟩) h); go_simp; refine hKz _ ?_; clear hKz hwz hclz Kz wz) | ((with_reducible refine Rg.walk_on ?_ (fun Kz hKz wz hwz => ?_)); (next => (go_simp; done)); (have hclz : ∀ bb oo, bb < (wr).heap.size → wz.cell? ⟨bb, oo, none⟩ = (wr).cell? ⟨bb, oo, none⟩ := fun bb oo h => hwz.cell (p := ⟨bb, oo, none⟩) h); go_simp; refine hKz _ ?_; clear hKz hwz hclz Kz wz) | ((with_reducible refine Rg.walk_step (fun Kz hKz => ?_)); go_simp; refine hKz _ ?_; clear hKz Kz)))
        refine Rg.walk_calls rfl 43 #[.float .f32 p, .float .f32 q] (fun w1 hw1 => ⟨by go_simp, (l01Same_calls _ _ _).mono fun e w2 ⟨he, hb2⟩ => ⟨_, he, rfl, by rw [hb2]; exact hw1⟩⟩) (fun u hu => ?_)
        subst hu
        (repeat (first | ((with_reducible refine Rg.walk_plain rfl (fun Kz hKz wz hwz => ?_)); (have hclz : ∀ bb oo, bb < (wr).heap.size → wz.cell? ⟨bb, oo, none⟩ = (wr).cell? ⟨bb, oo, none⟩ := fun bb oo h => hwz.cell (p := ⟨bb, oo, none⟩) h); go_simp; refine hKz _ ?_; clear hKz hwz hclz Kz wz) | ((with_reducible refine Rg.walk_on ?_ (fun Kz hKz wz hwz => ?_)); (next => (go_simp; done)); (have hclz : ∀ bb oo, bb < (wr).heap.size → wz.cell? ⟨bb, oo, none⟩ = (wr).cell? ⟨bb, oo, none⟩ := fun bb oo h => hwz.cell (p := ⟨bb, oo, none⟩) h); go_simp; refine hKz _ ?_; clear hKz hwz hclz Kz wz) | ((with_reducible refine Rg.walk_step (fun Kz hKz => ?_)); go_simp; refine hKz _ ?_; clear hKz Kz)))
        refine Rg.walk_nil ?_
        intro w2 hw2
        have hB2 := below_call hB hw2
        clear c0 d0 hw2
        cases hpx : sameN p q with
        | false =>
          have hres : sameFs rs rs' = false := sameFs_at (k := k) (by rw [HR.out]; exact hlt) (by rw [← HPp.out, ← HQ.out]; exact hpx)
          have HRs := Lib.hid hres
          clear hres hpx
          go_wp2
          go_ret
          exact ⟨by rw [HC.out, HRs.out]; rfl, below_call hb hB2⟩
        | true =>
          have HX := Lib.hid hpx
          clear hpx
          go_wp2
          go_roundw
          case rel => exact ⟨k + 1, by omega, by go_num, fun j hj => by rcases Nat.lt_succ_iff_lt_or_eq.1 hj with h | h; exact HN.out j h; subst h; rw [← HPp.out, ← HQ.out]; exact HX.out, hB2⟩
          case measure => simp [intOf]; omega
      · have hres : sameFs rs rs' = true := sameFs_yes (by rw [HR.out, HR'.out]) (fun j hj => HN.out j (by have := HR.out; omega))
        have HRs := Lib.hid hres
        clear hres
        go_wp2
        go_ret
        exact ⟨by rw [HC.out, HRs.out]; rfl, below_call hb hB⟩

def sameSt (c : Int) (rs : List Nat) (b s t : Int) (m : Nat) (c' : Int) (rs' : List Nat) (b' s' t' : Int) (m' : Nat) : Bool :=
  sameCr c rs c' rs' && (b == b') && (s == s') && (t == t') && sameN m m'

set_option maxHeartbeats 1000000 in
theorem specSameStore_calls (c : Int) (rs : List Nat) (b s t : Int) (m : Nat) (c' : Int) (rs' : List Nat) (b' s' t' : Int) (m' : Nat) (hr : rs.length = 16) (hr' : rs'.length = 16) (w : World) :
    Calls Try.prog 16 #[.agg (stL c rs b s t m).toArray, .agg (stL c' rs' b' s' t' m').toArray] w (RetBool (sameSt c rs b s t m c' rs' b' s' t' m') w) := by
  have HR := Lib.hid hr
  have HR' := Lib.hid hr'
  clear hr hr'
  go_enter Try.func16, Try.ntmps16
  go_upto_region 1 with (fail)
  generalize hw1 : (w.alloc _).alloc _ = w1
  have h1 : Mem.Blk w1 w.heap.size (stL c rs b s t m) 40 := hw1 ▸ (Mem.Blk.new w _ _).alloc _
  have h2 : Mem.Blk w1 (w.heap.size + 1) (stL c' rs' b' s' t' m') 40 := hw1 ▸ (Mem.Blk.new1 w _ _ _)
  have hb : Below w.heap.size w w1 := hw1 ▸ below_a2 w _ _
  clear hw1
  have s1 := h1.lt
  have s2 := h2.lt
  have K1 := Lib.hid (show ∀ j v, (crL c rs)[j]? = some v → w1.cell? ⟨w.heap.size, 0 + j, none⟩ = some v from fun j v h => (h1.cell (0 + j)).trans (by rw [Nat.zero_add]; exact stL_crate c rs b s t m j v h))
  have K2 := Lib.hid (show ∀ j v, (crL c' rs')[j]? = some v → w1.cell? ⟨w.heap.size + 1, 0 + j, none⟩ = some v from fun j v h => (h2.cell (0 + j)).trans (by rw [Nat.zero_add]; exact stL_crate c' rs' b' s' t' m' j v h))
  have H1 := Lib.hid h1
  have H2 := Lib.hid h2
  clear h1 h2
  go_wp2_with (first
    | (with_reducible refine Mem.wpList_loadA rfl 38 _ rfl w.heap.size 0 rfl (crL c rs) _ Try.underlying38 rfl (by rw [crL_length, HR.out]; kernel_rfl) K1.out ?_)
    | (with_reducible refine Mem.wpList_loadA rfl 38 _ rfl (w.heap.size + 1) 0 rfl (crL c' rs') _ Try.underlying38 rfl (by rw [crL_length, HR'.out]; kernel_rfl) K2.out ?_))
  refine (specSameCrate_calls c rs c' rs' HR.out HR'.out w1).mono ?_
  rintro e w2 ⟨rfl, hb2⟩
  have hB := below_call hb hb2
  have g1 := H1.out.below hb2 s1
  have g2 := H2.out.below hb2 s2
  have c0 : w2.cell? ⟨w.heap.size, 17, none⟩ = some (.int .u16 b) := (g1.cell 17).trans (stL_get c rs b s t m HR.out 0)
  have d0 : w2.cell? ⟨w.heap.size + 1, 17, none⟩ = some (.int .u16 b') := (g2.cell 17).trans (stL_get c' rs' b' s' t' m' HR'.out 0)
  have c1 : w2.cell? ⟨w.heap.size, 18, none⟩ = some (.int .i16 s) := (g1.cell 18).trans (stL_get c rs b s t m HR.out 1)
  have d1 : w2.cell? ⟨w.heap.size + 1, 18, none⟩ = some (.int .i16 s') := (g2.cell 18).trans (stL_get c' rs' b' s' t' m' HR'.out 1)
  have c2 : w2.cell? ⟨w.heap.size, 19, none⟩ = some (.int .i16 t) := (g1.cell 19).trans (stL_get c rs b s t m HR.out 2)
  have d2 : w2.cell? ⟨w.heap.size + 1, 19, none⟩ = some (.int .i16 t') := (g2.cell 19).trans (stL_get c' rs' b' s' t' m' HR'.out 2)
  have c3 : w2.cell? ⟨w.heap.size, 20, none⟩ = some (.float .f32 m) := (g1.cell 20).trans (stL_get c rs b s t m HR.out 3)
  have d3 : w2.cell? ⟨w.heap.size + 1, 20, none⟩ = some (.float .f32 m') := (g2.cell 20).trans (stL_get c' rs' b' s' t' m' HR'.out 3)
  clear g1 g2 hb2 K1 K2 H1 H2 s1 s2 hb
  have HS : Hid (sameSt c rs b s t m c' rs' b' s' t' m' = (sameCr c rs c' rs' && (b == b') && (s == s') && (t == t') && sameN m m')) := rfl
  cases h1 : sameCr c rs c' rs'
  · have X1 := Lib.hid h1
    clear h1
    go_wp2_with fail
    go_ret
    exact ⟨by rw [HS.out, X1.out]; rfl, hB⟩
  have X1 := Lib.hid h1
  clear h1
  cases h2 : (b == b')
  · have X2 := h2
    go_wp2_with fail
    go_ret
    exact ⟨by rw [HS.out, X1.out, X2]; rfl, hB⟩
  cases h3 : (s == s')
  · have X3 := h3
    go_wp2_with fail
    go_ret
    exact ⟨by rw [HS.out, X1.out, h2, X3]; rfl, hB⟩
  cases h4 : (t == t')
  · go_wp2_with fail
    go_ret
    exact ⟨by rw [HS.out, X1.out, h2, h3, h4]; rfl, hB⟩
  · go_wp2_with fail
    refine (l01Same_calls _ _ _).mono ?_
    rintro e w3 ⟨rfl, rfl⟩
    go_wp2_with fail
    go_ret
    exact ⟨by rw [HS.out, X1.out, h2, h3, h4]; rfl, hB⟩

set_option maxHeartbeats 1000000 in
theorem implSameStore_calls (c : Int) (rs : List Nat) (b s t : Int) (m : Nat) (c' : Int) (rs' : List Nat) (b' s' t' : Int) (m' : Nat) (hr : rs.length = 16) (hr' : rs'.length = 16) (w : World) :
    Calls Try.prog 18 #[.agg (stL c rs b s t m).toArray, .agg (stL c' rs' b' s' t' m').toArray] w (RetBool (sameSt c rs b s t m c' rs' b' s' t' m') w) := by
  have HR := Lib.hid hr
  have HR' := Lib.hid hr'
  clear hr hr'
  go_enter Try.func18, Try.ntmps18
  go_upto_region 1 with (fail)
  generalize hw1 : (w.alloc _).alloc _ = w1
  have h1 : Mem.Blk w1 w.heap.size (stL c rs b s t m) 40 := hw1 ▸ (Mem.Blk.new w _ _).alloc _
  have h2 : Mem.Blk w1 (w.heap.size + 1) (stL c' rs' b' s' t' m') 40 := hw1 ▸ (Mem.Blk.new1 w _ _ _)
  have hb : Below w.heap.size w w1 := hw1 ▸ below_a2 w _ _
  clear hw1
  have s1 := h1.lt
  have s2 := h2.lt
  have K1 := Lib.hid (show ∀ j v, (crL c rs)[j]? = some v → w1.cell? ⟨w.heap.size, 0 + j, none⟩ = some v from fun j v h => (h1.cell (0 + j)).trans (by rw [Nat.zero_add]; exact stL_crate c rs b s t m j v h))
  have K2 := Lib.hid (show ∀ j v, (crL c' rs')[j]? = some v → w1.cell? ⟨w.heap.size + 1, 0 + j, none⟩ = some v from fun j v h => (h2.cell (0 + j)).trans (by rw [Nat.zero_add]; exact stL_crate c' rs' b' s' t' m' j v h))
  have H1 := Lib.hid h1
  have H2 := Lib.hid h2
  clear h1 h2
  go_wp2_with (first
    | (with_reducible refine Mem.wpList_loadA rfl 38 _ rfl w.heap.size 0 rfl (crL c rs) _ Try.underlying38 rfl (by rw [crL_length, HR.out]; kernel_rfl) K1.out ?_)
    | (with_reducible refine Mem.wpList_loadA rfl 38 _ rfl (w.heap.size + 1) 0 rfl (crL c' rs') _ Try.underlying38 rfl (by rw [crL_length, HR'.out]; kernel_rfl) K2.out ?_))
  refine (implSameCrate_calls c rs c' rs' HR.out HR'.out w1).mono ?_
  rintro e w2 ⟨rfl, hb2⟩
  have hB := below_call hb hb2
  have g1 := H1.out.below hb2 s1
  have g2 := H2.out.below hb2 s2
  have c0 : w2.cell? ⟨w.heap.size, 17, none⟩ = some (.int .u16 b) := (g1.cell 17).trans (stL_get c rs b s t m HR.out 0)
  have d0 : w2.cell? ⟨w.heap.size + 1, 17, none⟩ = some (.int .u16 b') := (g2.cell 17).trans (stL_get c' rs' b' s' t' m' HR'.out 0)
  have c1 : w2.cell? ⟨w.heap.size, 18, none⟩ = some (.int .i16 s) := (g1.cell 18).trans (stL_get c rs b s t m HR.out 1)
  have d1 : w2.cell? ⟨w.heap.size + 1, 18, none⟩ = some (.int .i16 s') := (g2.cell 18).trans (stL_get c' rs' b' s' t' m' HR'.out 1)
  have c2 : w2.cell? ⟨w.heap.size, 19, none⟩ = some (.int .i16 t) := (g1.cell 19).trans (stL_get c rs b s t m HR.out 2)
  have d2 : w2.cell? ⟨w.heap.size + 1, 19, none⟩ = some (.int .i16 t') := (g2.cell 19).trans (stL_get c' rs' b' s' t' m' HR'.out 2)
  have c3 : w2.cell? ⟨w.heap.size, 20, none⟩ = some (.float .f32 m) := (g1.cell 20).trans (stL_get c rs b s t m HR.out 3)
  have d3 : w2.cell? ⟨w.heap.size + 1, 20, none⟩ = some (.float .f32 m') := (g2.cell 20).trans (stL_get c' rs' b' s' t' m' HR'.out 3)
  clear g1 g2 hb2 K1 K2 H1 H2 s1 s2 hb
  have HS : Hid (sameSt c rs b s t m c' rs' b' s' t' m' = (sameCr c rs c' rs' && (b == b') && (s == s') && (t == t') && sameN m m')) := rfl
  cases h1 : sameCr c rs c' rs'
  · have X1 := Lib.hid h1
    clear h1
    go_wp2_with fail
    go_ret
    exact ⟨by rw [HS.out, X1.out]; rfl, hB⟩
  have X1 := Lib.hid h1
  clear h1
  cases h2 : (b == b')
  · have X2 := h2
    go_wp2_with fail
    go_ret
    exact ⟨by rw [HS.out, X1.out, X2]; rfl, hB⟩
  cases h3 : (s == s')
  · have X3 := h3
    go_wp2_with fail
    go_ret
    exact ⟨by rw [HS.out, X1.out, h2, X3]; rfl, hB⟩
  cases h4 : (t == t')
  · go_wp2_with fail
    go_ret
    exact ⟨by rw [HS.out, X1.out, h2, h3, h4]; rfl, hB⟩
  · go_wp2_with fail
    refine (SameNumber_calls _ _ _).mono ?_
    rintro e w3 ⟨rfl, rfl⟩
    go_wp2_with fail
    go_ret
    exact ⟨by rw [HS.out, X1.out, h2, h3, h4]; rfl, hB⟩

set_option maxHeartbeats 1000000 in
theorem fnExactSameStore_walk (c : Int) (rs : List Nat) (b s t : Int) (m : Nat) (c' : Int) (rs' : List Nat) (b' s' t' : Int) (m' : Nat) (w : World) (hs : StOk c rs b s t m) (hs' : StOk c' rs' b' s' t' m') :
    Calls Try.prog 4 #[.agg (stL c rs b s t m).toArray, .agg (stL c' rs' b' s' t' m').toArray] w (RetBool true w) := by
  have HR := Lib.hid hs.len
  have HR' := Lib.hid hs'.len
  clear hs hs'
  go_enter Try.func4, Try.ntmps4
  go_upto_region 1 with (fail)
  generalize hw1 : (w.alloc _).alloc _ = w1
  have h1 : Mem.Blk w1 w.heap.size (stL c rs b s t m) 36 := hw1 ▸ (Mem.Blk.new w _ _).alloc _
  have h2 : Mem.Blk w1 (w.heap.size + 1) (stL c' rs' b' s' t' m') 36 := hw1 ▸ (Mem.Blk.new1 w _ _ _)
  have hb : Below w.heap.size w w1 := hw1 ▸ below_a2 w _ _
  clear hw1
  have s1 := h1.lt
  have s2 := h2.lt
  have K1 := Lib.hid (show ∀ W, Below w1.heap.size w1 W → ∀ j v, (stL c rs b s t m)[j]? = some v → W.cell? ⟨w.heap.size, 0 + j, none⟩ = some v from fun W hW j v h => ((h1.below hW s1).cell (0 + j)).trans (by rw [Nat.zero_add]; exact h))
  have K2 := Lib.hid (show ∀ W, Below w1.heap.size w1 W → ∀ j v, (stL c' rs' b' s' t' m')[j]? = some v → W.cell? ⟨w.heap.size + 1, 0 + j, none⟩ = some v from fun W hW j v h => ((h2.below hW s2).cell (0 + j)).trans (by rw [Nat.zero_add]; exact h))
  clear h1 h2
  go_wp2_with fail
  (refine Rg.region_tail 5 (fun w' => Below (w1).heap.size w1 w') (fun f args v => (f = 17 ∧ v = args.getD 0 undef) ∨ (f = 16 ∧ v = .bool (sameSt c rs b s t m c' rs' b' s' t' m'))) (by kernel_rfl) (by kernel_rfl) (by exact (Below.refl (w1).heap.size w1).drew) ?_; simp only [List.take_succ_cons, List.take_zero, List.drop_succ_cons, List.drop_zero])
  (with_reducible refine Rg.walk_loadA rfl 36 _ rfl w.heap.size 0 rfl (stL c rs b s t m) _ Try.underlying36 rfl (by rw [stL_length, HR.out]; kernel_rfl) (fun W hW => K1.out W hW) ?_)
  refine Rg.walk_calls rfl 17 #[.agg (stL c rs b s t m).toArray] (fun W hW => ⟨by go_simp, (toStore_calls c rs b s t m HR.out W).mono fun e w2 ⟨he, hb2⟩ => ⟨_, he, .inl ⟨rfl, rfl⟩, below_call hW hb2⟩⟩) (fun u hu => ?_)
  obtain rfl : u = .agg (stL c rs b s t m).toArray := by rcases hu with ⟨_, h⟩ | ⟨h, _⟩; exact h; exact absurd h (by decide)
  clear hu
  (with_reducible refine Rg.walk_loadA rfl 36 _ rfl (w.heap.size + 1) 0 rfl (stL c' rs' b' s' t' m') _ Try.underlying36 rfl (by rw [stL_length, HR'.out]; kernel_rfl) (fun W hW => K2.out W hW) ?_)
  refine Rg.walk_calls rfl 17 #[.agg (stL c' rs' b' s' t' m').toArray] (fun W hW => ⟨by go_simp, (toStore_calls c' rs' b' s' t' m' HR'.out W).mono fun e w2 ⟨he, hb2⟩ => ⟨_, he, .inl ⟨rfl, rfl⟩, below_call hW hb2⟩⟩) (fun u hu => ?_)
  obtain rfl : u = .agg (stL c' rs' b' s' t' m').toArray := by rcases hu with ⟨_, h⟩ | ⟨h, _⟩; exact h; exact absurd h (by decide)
  clear hu
  refine Rg.walk_calls rfl 16 #[.agg (stL c rs b s t m).toArray, .agg (stL c' rs' b' s' t' m').toArray] (fun W hW => ⟨by go_simp, (specSameStore_calls c rs b s t m c' rs' b' s' t' m' HR.out HR'.out W).mono fun e w2 ⟨he, hb2⟩ => ⟨_, he, .inr ⟨rfl, rfl⟩, below_call hW hb2⟩⟩) (fun u hu => ?_)
  obtain rfl : u = .bool (sameSt c rs b s t m c' rs' b' s' t' m') := by rcases hu with ⟨h, _⟩ | ⟨_, h⟩; exact absurd h (by decide); exact h
  clear hu
  (repeat (first | ((with_reducible refine Rg.walk_plain rfl (fun Kz hKz wz hwz => ?_)); (have hclz : ∀ bb oo, bb < (w1).heap.size → wz.cell? ⟨bb, oo, none⟩ = (w1).cell? ⟨bb, oo, none⟩ := fun bb oo h => hwz.cell (p := ⟨bb, oo, none⟩) h); go_simp; refine hKz _ ?_; clear hKz hwz hclz Kz wz) | ((with_reducible refine Rg.walk_on ?_ (fun Kz hKz wz hwz => ?_)); (next => (go_simp; done)); (have hclz : ∀ bb oo, bb < (w1).heap.size → wz.cell? ⟨bb, oo, none⟩ = (w1).cell? ⟨bb, oo, none⟩ := fun bb oo h => hwz.cell (p := ⟨bb, oo, none⟩) h); go_simp; refine hKz _ ?_; clear hKz hwz hclz Kz wz) | ((with_reducible refine Rg.walk_step (fun Kz hKz => ?_)); go_simp; refine hKz _ ?_; clear hKz Kz)))
  refine Rg.walk_nil ?_
  intro w2 hw2
  have B1 := hw2
  go_upto_region 2 with (fail)
  (refine Rg.region_tail 5 (fun w' => Below (w2).heap.size w2 w') (fun f args v => (f = 17 ∧ v = args.getD 0 undef) ∨ (f = 18 ∧ v = .bool (sameSt c rs b s t m c' rs' b' s' t' m'))) (by kernel_rfl) (by kernel_rfl) (by exact (Below.refl (w2).heap.size w2).drew) ?_; simp only [List.take_succ_cons, List.take_zero, List.drop_succ_cons, List.drop_zero])
  (with_reducible refine Rg.walk_loadA rfl 36 _ rfl w.heap.size 0 rfl (stL c rs b s t m) _ Try.underlying36 rfl (by rw [stL_length, HR.out]; kernel_rfl) (fun W hW => K1.out W (B1.trans (hW.mono B1.size))) ?_)
  refine Rg.walk_calls rfl 17 #[.agg (stL c rs b s t m).toArray] (fun W hW => ⟨by go_simp, (toStore_calls c rs b s t m HR.out W).mono fun e w2 ⟨he, hb2⟩ => ⟨_, he, .inl ⟨rfl, rfl⟩, below_call hW hb2⟩⟩) (fun u hu => ?_)
  obtain rfl : u = .agg (stL c rs b s t m).toArray := by rcases hu with ⟨_, h⟩ | ⟨h, _⟩; exact h; exact absurd h (by decide)
  clear hu
  (with_reducible refine Rg.walk_loadA rfl 36 _ rfl (w.heap.size + 1) 0 rfl (stL c' rs' b' s' t' m') _ Try.underlying36 rfl (by rw [stL_length, HR'.out]; kernel_rfl) (fun W hW => K2.out W (B1.trans (hW.mono B1.size))) ?_)
  refine Rg.walk_calls rfl 17 #[.agg (stL c' rs' b' s' t' m').toArray] (fun W hW => ⟨by go_simp, (toStore_calls c' rs' b' s' t' m' HR'.out W).mono fun e w2 ⟨he, hb2⟩ => ⟨_, he, .inl ⟨rfl, rfl⟩, below_call hW hb2⟩⟩) (fun u hu => ?_)
  obtain rfl : u = .agg (stL c' rs' b' s' t' m').toArray := by rcases hu with ⟨_, h⟩ | ⟨h, _⟩; exact h; exact absurd h (by decide)
  clear hu
  refine Rg.walk_calls rfl 18 #[.agg (stL c rs b s t m).toArray, .agg (stL c' rs' b' s' t' m').toArray] (fun W hW => ⟨by go_simp, (implSameStore_calls c rs b s t m c' rs' b' s' t' m' HR.out HR'.out W).mono fun e w2 ⟨he, hb2⟩ => ⟨_, he, .inr ⟨rfl, rfl⟩, below_call hW hb2⟩⟩) (fun u hu => ?_)
  obtain rfl : u = .bool (sameSt c rs b s t m c' rs' b' s' t' m') := by rcases hu with ⟨h, _⟩ | ⟨_, h⟩; exact absurd h (by decide); exact h
  clear hu
  (repeat (first | ((with_reducible refine Rg.walk_plain rfl (fun Kz hKz wz hwz => ?_)); (have hclz : ∀ bb oo, bb < (w2).heap.size → wz.cell? ⟨bb, oo, none⟩ = (w2).cell? ⟨bb, oo, none⟩ := fun bb oo h => hwz.cell (p := ⟨bb, oo, none⟩) h); go_simp; refine hKz _ ?_; clear hKz hwz hclz Kz wz) | ((with_reducible refine Rg.walk_on ?_ (fun Kz hKz wz hwz => ?_)); (next => (go_simp; done)); (have hclz : ∀ bb oo, bb < (w2).heap.size → wz.cell? ⟨bb, oo, none⟩ = (w2).cell? ⟨bb, oo, none⟩ := fun bb oo h => hwz.cell (p := ⟨bb, oo, none⟩) h); go_simp; refine hKz _ ?_; clear hKz hwz hclz Kz wz) | ((with_reducible refine Rg.walk_step (fun Kz hKz => ?_)); go_simp; refine hKz _ ?_; clear hKz Kz)))
  refine Rg.walk_nil ?_
  intro w3 hw3
  have B2 := B1.trans (hw3.mono B1.size)
  go_wp2_with fail
  all_goals go_ret
  all_goals exact ⟨rfl, below_call hb B2⟩
end Go.Proofs.Ytclbgkajhpknlaa
