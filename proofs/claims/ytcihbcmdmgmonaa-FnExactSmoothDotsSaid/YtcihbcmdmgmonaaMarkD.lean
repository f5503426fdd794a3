/-
  A slice of dots is marked, the marks are looked for.
-/
import Derived.Test.YtcihbcmdmgmonaaLie
import Derived.Test.YtcihbcmdmgmonaaRegT
import Derived.Deep.Cut
namespace Go.Proofs.Ytcihbcmdmgmonaa
open Go.RowKit

set_option maxHeartbeats 1000000 in
theorem markD_calls (ad : Option Addr) (cap g base : Nat) (xs : List (Nat × Nat)) (k : Int) (w : World) (h : LyD w base ad g xs) (h0 : 0 ≤ k) (h1 : k ≤ 1152921504606846976) (hl : xs.length ≤ 1152921504606846976) :
    Calls Try.prog 22 #[.slice ad xs.length cap, .int .i64 k] w fun e w' => e = .returned (.int .i64 (k + 2 * xs.length)) ∧ But g w w' ∧ LyD w' base ad g (mkD k xs.length) := by
  have hcv : ∀ (W : World) (n : Int), (convert 3 22 (.int .i64 n)).run Try.prog W = .ok (.float .f32 (ofI n)) W := fun W n => run_toF32 _ _ _ _ Try.underlying22 (by rw [Try.underlying3]; rfl)
  by_cases hx : xs = []
  · subst hx
    clear h
    go_enter Try.func22, Try.ntmps22
    go_wp2
    refine wp_loop_once ?_
    go_wp2
    go_ret
    exact ⟨by simp, But.refl _ _, .inl rfl⟩
  · rcases h with h | ⟨rfl, hb, cur, t, hblk, htk⟩
    · exact absurd h hx
    have hcur : xs.length * 2 ≤ cur.length := by
      have := congrArg List.length htk
      rw [List.length_take, dL_length] at this
      omega
    clear htk
    have hg := hblk.lt
    go_enter Try.func22, Try.ntmps22
    go_wp2
    go_loopw [5, 1] (fun i v wr => ∃ j : Nat, j ≤ xs.length ∧ i = .int .i64 j ∧ v = .int .i64 (k + 2 * j) ∧ But g w wr ∧ Mem.Blk wr g (dL (mkD k j) ++ cur.drop (j * 2)) t) (fun i _ _ => xs.length - (intOf i).toNat)
    case atStart => exact ⟨0, Nat.zero_le _, rfl, by simp, But.refl _ _, by simpa [mkD, dL] using hblk⟩
    case round =>
      clear hblk
      obtain ⟨j, hj, rfl, rfl, hB, hblk⟩ := hrel
      have hsz := hB.size
      by_cases hlt : j < xs.length
      · have hfit : (dL (mkD k j) ++ cur.drop (j * 2)).length = cur.length := by rw [List.length_append, dL_length, mkD_length, List.length_drop]; omega
        have HP := Lib.hid (mkD_push k j cur (by omega))
        have HB := Lib.hid hblk
        clear hblk
        go_upto_region 5 with (with_reducible refine Mem.wpList_store1 rfl 22 _ _ rfl g (j * 2) rfl (Value.float .f32 (ofI (k + 2 * j))) _ rfl _ HB.out (by kernel_rfl) (by rw [hfit]; omega) rfl ?_; intro w3 hw3)
        have HW3 := Lib.hid hw3
        have hs3 := hw3.size
        clear hw3
        go_wp2_with (with_reducible refine Mem.wpList_store1 rfl 22 _ _ rfl g (j * 2 + 1) rfl (Value.float .f32 (ofI (k + 2 * j + 1))) _ rfl _ HW3.out.blk (by kernel_rfl) (by rw [List.length_set, hfit]; omega) rfl ?_; intro w4 hw4)
        have HW4 := Lib.hid hw4
        have hblk4 := hw4.blk
        rw [HP.out] at hblk4
        have HB4 := Lib.hid hblk4
        clear hw4 hfit hblk4
        go_roundw
        case rel => exact ⟨j + 1, by omega, by go_num, by go_num, (hB.trans (But.wrote HW3.out)).trans (But.wrote HW4.out), HB4.out⟩
        case measure => simp [intOf]; omega
      · obtain rfl : j = xs.length := by omega
        have HB := Lib.hid hblk
        clear hblk
        go_wp2
        go_ret
        exact ⟨rfl, hB, .inr ⟨rfl, hb, _, _, HB.out, by rw [List.take_left' (by rw [dL_length])]⟩⟩

set_option maxHeartbeats 1000000 in
theorem heldD_calls (ad : Option Addr) (cap g base n : Nat) (k : Int) (w : World) (h : LyD w base ad g (mkD k n)) (h0 : 0 ≤ k) (h1 : k ≤ 1152921504606846976) (hl : n ≤ 1152921504606846976) :
    Calls Try.prog 23 #[.slice ad n cap, .int .i64 k] w fun e w' => e = .returned (.int .i64 (k + 2 * n)) ∧ w' = w := by
  have hcv : ∀ (W : World) (n : Int), (convert 3 22 (.int .i64 n)).run Try.prog W = .ok (.float .f32 (ofI n)) W := fun W n => run_toF32 _ _ _ _ Try.underlying22 (by rw [Try.underlying3]; rfl)
  have hsl := h.sl
  clear h
  by_cases hx : n = 0
  · subst hx
    clear hsl
    go_enter Try.func23, Try.ntmps23
    go_wp2
    refine wp_loop_once ?_
    go_wp2
    go_ret
    exact ⟨by simp, rfl⟩
  · rcases hsl with h | ⟨b, o, rfl, hb, hF⟩
    · exact absurd (by rw [← mkD_length k n, h]; rfl) hx
    have HF := Lib.hid hF
    clear hF
    go_enter Try.func23, Try.ntmps23
    go_wp2
    go_loopw [5, 1] (fun i v wr => ∃ j : Nat, j ≤ n ∧ i = .int .i64 j ∧ v = .int .i64 (k + 2 * j) ∧ wr = w) (fun i _ _ => n - (intOf i).toNat)
    case atStart => exact ⟨0, Nat.zero_le _, rfl, by simp, by first | trivial | rfl⟩
    case round =>
      obtain ⟨j, hj, rfl, rfl, rfl⟩ := hrel
      by_cases hlt : j < n
      · obtain ⟨c0, c1⟩ := HF.out j (by rw [mkD_length]; exact hlt)
        rw [mkD_get _ _ _ hlt] at c0 c1
        simp only at c0 c1
        have he : Fl.eq (ofI (k + 2 * j)) (ofI (k + 2 * j)) = true := ofI_eq _
        have he' : Fl.eq (ofI (k + 2 * j + 1)) (ofI (k + 2 * j + 1)) = true := ofI_eq _
        go_wp2_with fail
        go_roundw
        case rel => exact ⟨j + 1, by omega, by go_num, by go_num, by first | trivial | rfl⟩
        case measure => simp [intOf]; omega
      · obtain rfl : j = n := by omega
        go_wp2
        go_ret
        exact ⟨rfl, by first | trivial | rfl⟩
end Go.Proofs.Ytcihbcmdmgmonaa
