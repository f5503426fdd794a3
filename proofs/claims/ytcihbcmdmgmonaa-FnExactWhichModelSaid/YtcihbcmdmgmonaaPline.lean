/-
  Plain numbers, and lines that are valid: what both programs answer.
-/
import Derived.Test.YtcihbcmdmgmonaaPidx
namespace Go.Proofs.Ytcihbcmdmgmonaa
open Go.RowKit

def vPlain (a : Nat) : Bool := Fl.ge a 3380609024 && Fl.le a 1233125376

set_option maxHeartbeats 400000 in
theorem l01Plain_calls (a : Nat) (w : World) :
    Calls Try.prog 101 #[.float .f32 a] w fun e w' => e = .returned (.bool (vPlain a)) ∧ w' = w := by
  go_enter Try.func101, Try.ntmps101
  unfold vPlain
  go_wp2
  all_goals go_ret
  all_goals (refine ⟨?_, rfl⟩; simp_all)

set_option maxHeartbeats 400000 in
theorem IsPlain_calls (a : Nat) (w : World) :
    Calls Try.prog 119 #[.float .f32 a] w fun e w' => e = .returned (.bool (vPlain a)) ∧ w' = w := by
  go_enter Try.func119, Try.ntmps119
  unfold vPlain
  go_wp2
  all_goals go_ret
  all_goals (refine ⟨?_, rfl⟩; simp_all)

def vLine (s b : Nat) : Bool := vPlain s && vPlain b

set_option maxHeartbeats 400000 in
theorem l06Line_calls (s b : Nat) (w : World) :
    Calls Try.prog 63 #[.agg #[.float .f32 s, .float .f32 b]] w (RetBool (vLine s b) w) := by
  have e : vLine s b = (vPlain s && vPlain b) := rfl
  rw [e]
  clear e
  go_enter Try.func63, Try.ntmps63
  cases hs : vPlain s
  all_goals
    go_wp2_with (go_at_call 101; refine (l01Plain_calls _ _).mono ?_; rintro e w' ⟨rfl, rfl⟩)
    go_ret
    first | exact ⟨rfl, below_a1 _ _⟩ | exact ⟨by simp, below_a1 _ _⟩

theorem arePlain1_tests (w : World) : TestsF Try.prog 118 #[] (fun a => !vPlain a) w := by
  refine ⟨fun args W => by kernel_rfl, fun x W _ => ?_⟩
  go_enter Try.func118, Try.ntmps118
  go_wp2_with (go_at_call 119; refine (IsPlain_calls _ _).mono ?_; rintro e w' ⟨rfl, rfl⟩)
  go_ret
  exact ⟨rfl, Below.refl _ _⟩

set_option maxHeartbeats 400000 in
theorem arePlain_calls (b o cap : Nat) (xs : List Nat) (w : World) (hs : HoldsF w b o xs) (hb : b < w.heap.size) (hl : xs.length ≤ maxLen) :
    Calls Try.prog 106 #[.slice (some ⟨b, o, none⟩) xs.length cap] w (RetBool (!xs.any (fun a => !vPlain a)) w) := by
  have HC := Lib.hid (containsFuncF_calls _ _ _ b o cap xs w hs hb hl (arePlain1_tests w))
  clear hs
  go_enter Try.func106, Try.ntmps106
  go_wp2_with fail
  refine HC.out.mono ?_
  rintro e w1 ⟨rfl, hb1⟩
  go_wp2_with fail
  go_ret
  exact ⟨rfl, hb1⟩

set_option maxHeartbeats 400000 in
theorem implValidLine_calls (s b : Nat) (w : World) :
    Calls Try.prog 85 #[.agg #[.float .f32 s, .float .f32 b]] w (RetBool (vLine s b) w) := by
  go_enter Try.func85, Try.ntmps85
  go_wp2_with fail
  refine (arePlain_calls (w.heap.size + 1) 0 2 [s, b] _ ?_ (by simp) (by simp [maxLen])).mono ?_
  · intro i hi
    match i, hi with
    | 0, _ => simp [go_sem]
    | 1, _ => simp [go_sem]
  rintro e w1 ⟨rfl, hb1⟩
  go_wp2_with fail
  go_ret
  exact ⟨by simp [vLine], below_call (below_a2 _ _ _) hb1⟩

set_option maxHeartbeats 400000 in
theorem toLine_calls (s b : Nat) (w : World) :
    Calls Try.prog 15 #[.agg #[.float .f32 s, .float .f32 b]] w (Ret (.agg #[.float .f32 s, .float .f32 b]) w) := by
  go_enter Try.func15, Try.ntmps15
  go_wp2
  exact bodyPost_ret (v := .agg #[.float .f32 s, .float .f32 b]) (by simp [results, Try.results15, go_sem]) rfl ⟨rfl, below_a3 _ _ _ _⟩
end Go.Proofs.Ytcihbcmdmgmonaa
