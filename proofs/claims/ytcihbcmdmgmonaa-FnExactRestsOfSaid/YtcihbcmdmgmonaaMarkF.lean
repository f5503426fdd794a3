/-
  A slice of numbers is marked, the marks are looked for, two slices are compared.
-/
import Derived.Test.YtcihbcmdmgmonaaLie
import Derived.Test.YtcihbcmdmgmonaaRegT
import Derived.Test.YtcihbcmdmgmonaaPsame
import Derived.Test.YtcihbcmdmgmonaaPrests
namespace Go.Proofs.Ytcihbcmdmgmonaa
open Go.RowKit

set_option maxHeartbeats 1000000 in
theorem markF_calls (ad : Option Addr) (cap g base : Nat) (xs : List Nat) (k : Int) (w : World) (h : LyF w base ad g xs) (h0 : 0 ≤ k) (h1 : k ≤ 1152921504606846976) (hl : xs.length ≤ 1152921504606846976) :
    Calls Try.prog 29 #[.slice ad xs.length cap, .int .i64 k] w fun e w' => e = .returned (.int .i64 (k + xs.length)) ∧ But g w w' ∧ LyF w' base ad g (mkL k xs.length) := by
  have hcv : ∀ (W : World) (n : Int), (convert 3 22 (.int .i64 n)).run Try.prog W = .ok (.float .f32 (ofI n)) W := fun W n => run_toF32 _ _ _ _ Try.underlying22 (by rw [Try.underlying3]; rfl)
  by_cases hx : xs = []
  · subst hx
    clear h
    go_enter Try.func29, Try.ntmps29
    go_wp2
    refine wp_loop_once ?_
    go_wp2
    go_ret
    exact ⟨by simp, But.refl _ _, .inl rfl⟩
  · rcases h with h | ⟨rfl, hb, cur, t, hblk, htk⟩
    · exact absurd h hx
    have hcur : xs.length ≤ cur.length := by
      have := congrArg List.length htk
      rw [List.length_take, fL_length] at this
      omega
    clear htk
    have hg := hblk.lt
    go_enter Try.func29, Try.ntmps29
    go_wp2
    go_loopw [5, 1] (fun i v wr => ∃ j : Nat, j ≤ xs.length ∧ i = .int .i64 j ∧ v = .int .i64 (k + j) ∧ But g w wr ∧ Mem.Blk wr g (fL (mkL k j) ++ cur.drop j) t) (fun i _ _ => xs.length - (intOf i).toNat)
    case atStart => exact ⟨0, Nat.zero_le _, rfl, by simp, But.refl _ _, by simpa [mkL, fL] using hblk⟩
    case round =>
      clear hblk
      obtain ⟨j, hj, rfl, rfl, hB, hblk⟩ := hrel
      by_cases hlt : j < xs.length
      · have hfit : j < (fL (mkL k j) ++ cur.drop j).length := by rw [List.length_append, fL_length, mkL_length, List.length_drop]; omega
        have HP := Lib.hid (mkL_push k j cur (by omega))
        have HB := Lib.hid hblk
        clear hblk
        go_wp2_with (with_reducible refine Mem.wpList_store1 rfl 22 _ _ rfl g j rfl _ _ rfl _ HB.out (by kernel_rfl) hfit rfl ?_; intro w3 hw3)
        have hw4 : Mem.Wrote wr w3 g (fL (mkL k (j + 1)) ++ cur.drop (j + 1)) t := by rw [← HP.out]; exact hw3
        have HW := Lib.hid hw4
        clear hw3 hw4 hfit
        go_roundw
        case rel => exact ⟨j + 1, by omega, by go_num, by go_num, hB.trans (But.wrote HW.out), HW.out.blk⟩
        case measure => simp [intOf]; omega
      · obtain rfl : j = xs.length := by omega
        have HB := Lib.hid hblk
        clear hblk
        go_wp2
        go_ret
        exact ⟨rfl, hB, .inr ⟨rfl, hb, _, _, HB.out, by rw [List.take_left' (by rw [fL_length])]⟩⟩

set_option maxHeartbeats 1000000 in
theorem heldF_calls (ad : Option Addr) (cap g base n : Nat) (k : Int) (w : World) (h : LyF w base ad g (mkL k n)) (h0 : 0 ≤ k) (h1 : k ≤ 1152921504606846976) (hl : n ≤ 1152921504606846976) :
    Calls Try.prog 30 #[.slice ad n cap, .int .i64 k] w fun e w' => e = .returned (.int .i64 (k + n)) ∧ w' = w := by
  have hcv : ∀ (W : World) (n : Int), (convert 3 22 (.int .i64 n)).run Try.prog W = .ok (.float .f32 (ofI n)) W := fun W n => run_toF32 _ _ _ _ Try.underlying22 (by rw [Try.underlying3]; rfl)
  have hsl := h.sl
  clear h
  by_cases hx : n = 0
  · subst hx
    clear hsl
    go_enter Try.func30, Try.ntmps30
    go_wp2
    refine wp_loop_once ?_
    go_wp2
    go_ret
    exact ⟨by simp, rfl⟩
  · rcases hsl with h | ⟨b, o, rfl, hb, hF⟩
    · exact absurd (by rw [← mkL_length k n, h]; rfl) hx
    have HF := Lib.hid hF
    clear hF
    go_enter Try.func30, Try.ntmps30
    go_wp2
    go_loopw [5, 1] (fun i v wr => ∃ j : Nat, j ≤ n ∧ i = .int .i64 j ∧ v = .int .i64 (k + j) ∧ wr = w) (fun i _ _ => n - (intOf i).toNat)
    case atStart => exact ⟨0, Nat.zero_le _, rfl, by simp, by first | trivial | rfl⟩
    case round =>
      obtain ⟨j, hj, rfl, rfl, rfl⟩ := hrel
      by_cases hlt : j < n
      · have c0 := HF.out j (by rw [mkL_length]; exact hlt)
        rw [mkL_get _ _ _ hlt] at c0
        have he : Fl.eq (ofI (k + j)) (ofI (k + j)) = true := ofI_eq _
        go_wp2_with fail
        go_roundw
        case rel => exact ⟨j + 1, by omega, by go_num, by go_num, by first | trivial | rfl⟩
        case measure => simp [intOf]; omega
      · obtain rfl : j = n := by omega
        go_wp2
        go_ret
        exact ⟨rfl, by first | trivial | rfl⟩

set_option maxHeartbeats 1000000 in
theorem eqF_calls (ad ae : Option Addr) (cap cap' n : Nat) (xs ys : List Nat) (w : World) (hx : SlF w ad xs) (hy : SlF w ae ys) (h1 : xs.length = n) (h2 : ys.length = n) (hs : ∀ i, i < n → Fl.canon (xs.getD i 0) = Fl.canon (ys.getD i 0)) (hl : n ≤ maxLen) :
    Calls Try.prog 28 #[.slice ad n cap, .slice ae n cap'] w (RetBool true w) := by
  unfold maxLen at hl
  by_cases h0 : n = 0
  · subst h0
    clear hx hy hs h1 h2
    go_enter Try.func28, Try.ntmps28
    go_wp2
    refine wp_loop_once ?_
    go_wp2
    go_ret
    exact ⟨rfl, Below.refl _ _⟩
  · rcases hx with h | ⟨b, o, rfl, hb, hF⟩
    · exact absurd (by rw [← h1, h]; rfl) h0
    rcases hy with h | ⟨b', o', rfl, hb', hG⟩
    · exact absurd (by rw [← h2, h]; rfl) h0
    have HF := Lib.hid hF
    have HG := Lib.hid hG
    have HS := Lib.hid hs
    have H1 := Lib.hid h1
    have H2 := Lib.hid h2
    clear hF hG hs h1 h2
    go_enter Try.func28, Try.ntmps28
    go_wp2
    go_loopw [5] (fun i wr => ∃ k : Nat, k ≤ n ∧ i = .int .i64 k ∧ Below w.heap.size w wr) (fun i _ => n - (intOf i).toNat)
    case atStart => exact ⟨0, Nat.zero_le _, rfl, Below.refl _ _⟩
    case round =>
      obtain ⟨k, hk, rfl, hB⟩ := hrel
      by_cases hlt : k < n
      · have hsz := hB.size
        have c0 := HF.out.below hB hb k (by rw [H1.out]; exact hlt)
        have d0 := HG.out.below hB hb' k (by rw [H2.out]; exact hlt)
        have hc := HS.out k hlt
        generalize xs.getD k 0 = p at c0 hc
        generalize ys.getD k 0 = q at d0 hc
        have HC := Lib.hid hc
        clear hc
        have lb : b < wr.heap.size := by omega
        have lb' : b' < wr.heap.size := by omega
        go_wp2_with fail
        (refine Rg.region_tail 11 (fun w' => Below (wr).heap.size wr w') (fun _ _ v => v = .bool true) (by kernel_rfl) (by kernel_rfl) (by exact (Below.refl (wr).heap.size wr).drew) ?_; simp only [List.take_succ_cons, List.take_zero, List.drop_succ_cons, List.drop_zero])
        (repeat (first | ((with_reducible refine Rg.walk_plain rfl (fun Kz hKz wz hwz => ?_)); (have hclz : ∀ bb oo, bb < (wr).heap.size → wz.cell? ⟨bb, oo, none⟩ = (wr).cell? ⟨bb, oo, none⟩ := fun bb oo h => hwz.cell (p := ⟨bb, oo, none⟩) h); go_simp; refine hKz _ ?_; clear hKz hwz hclz Kz wz) | ((with_reducible refine Rg.walk_on ?_ (fun Kz hKz wz hwz => ?_)); (next => (go_simp; done)); (have hclz : ∀ bb oo, bb < (wr).heap.size → wz.cell? ⟨bb, oo, none⟩ = (wr).cell? ⟨bb, oo, none⟩ := fun bb oo h => hwz.cell (p := ⟨bb, oo, none⟩) h); go_simp; refine hKz _ ?_; clear hKz hwz hclz Kz wz) | ((with_reducible refine Rg.walk_step (fun Kz hKz => ?_)); go_simp; refine hKz _ ?_; clear hKz Kz)))
        refine Rg.walk_plain rfl (fun K hK w1 hw1 => ?_)
        go_simp
        refine ⟨below_n hw1 _, hK _ ?_⟩
        obtain ⟨x, hx⟩ : ∃ x, x = Fl.rConv w1 p := ⟨_, rfl⟩
        rw [← hx]
        have HX : Hid (∃ W, x = Fl.rConv W p) := Lib.hid ⟨w1, hx⟩
        clear hx hK hw1 K w1
        (repeat (first | ((with_reducible refine Rg.walk_plain rfl (fun Kz hKz wz hwz => ?_)); (have hclz : ∀ bb oo, bb < (wr).heap.size → wz.cell? ⟨bb, oo, none⟩ = (wr).cell? ⟨bb, oo, none⟩ := fun bb oo h => hwz.cell (p := ⟨bb, oo, none⟩) h); go_simp; refine hKz _ ?_; clear hKz hwz hclz Kz wz) | ((with_reducible refine Rg.walk_on ?_ (fun Kz hKz wz hwz => ?_)); (next => (go_simp; done)); (have hclz : ∀ bb oo, bb < (wr).heap.size → wz.cell? ⟨bb, oo, none⟩ = (wr).cell? ⟨bb, oo, none⟩ := fun bb oo h => hwz.cell (p := ⟨bb, oo, none⟩) h); go_simp; refine hKz _ ?_; clear hKz hwz hclz Kz wz) | ((with_reducible refine Rg.walk_step (fun Kz hKz => ?_)); go_simp; refine hKz _ ?_; clear hKz Kz)))
        refine Rg.walk_plain rfl (fun K hK w1 hw1 => ?_)
        go_simp
        refine ⟨below_n hw1 _, hK _ ?_⟩
        obtain ⟨y, hy⟩ : ∃ y, y = Fl.rConv w1 q := ⟨_, rfl⟩
        rw [← hy]
        have HY : Hid (∃ W, y = Fl.rConv W q) := Lib.hid ⟨w1, hy⟩
        clear hy hK hw1 K w1
        refine Rg.walk_calls rfl 18 #[.float .f64 x, .float .f64 y] (fun W hW => ⟨by go_simp, (sameFloat_calls x y W (by obtain ⟨W1, rfl⟩ := HX.out; obtain ⟨W2, rfl⟩ := HY.out; exact Fl.same_conv HC.out _ _)).mono fun e w2 ⟨he, hw⟩ => ⟨_, he, rfl, by subst hw; exact hW⟩⟩) (fun u hu => ?_)
        subst hu
        (repeat (first | ((with_reducible refine Rg.walk_plain rfl (fun Kz hKz wz hwz => ?_)); (have hclz : ∀ bb oo, bb < (wr).heap.size → wz.cell? ⟨bb, oo, none⟩ = (wr).cell? ⟨bb, oo, none⟩ := fun bb oo h => hwz.cell (p := ⟨bb, oo, none⟩) h); go_simp; refine hKz _ ?_; clear hKz hwz hclz Kz wz) | ((with_reducible refine Rg.walk_on ?_ (fun Kz hKz wz hwz => ?_)); (next => (go_simp; done)); (have hclz : ∀ bb oo, bb < (wr).heap.size → wz.cell? ⟨bb, oo, none⟩ = (wr).cell? ⟨bb, oo, none⟩ := fun bb oo h => hwz.cell (p := ⟨bb, oo, none⟩) h); go_simp; refine hKz _ ?_; clear hKz hwz hclz Kz wz) | ((with_reducible refine Rg.walk_step (fun Kz hKz => ?_)); go_simp; refine hKz _ ?_; clear hKz Kz)))
        refine Rg.walk_nil ?_
        intro w2 hw2
        have hB2 := below_call hB hw2
        clear c0 d0 hw2
        go_wp2_with fail
        go_roundw
        case rel => exact ⟨k + 1, by omega, by go_num, hB2⟩
        case measure => simp [intOf]; omega
      · obtain rfl : k = n := by omega
        go_wp2
        go_ret
        exact ⟨rfl, hB⟩
end Go.Proofs.Ytcihbcmdmgmonaa
