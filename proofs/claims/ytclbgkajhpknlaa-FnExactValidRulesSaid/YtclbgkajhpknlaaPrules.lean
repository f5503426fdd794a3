/-
  Rules that are valid: what both programs answer.
-/
import Derived.Test.YtclbgkajhpknlaaPpart
namespace Go.Proofs.Ytclbgkajhpknlaa
open Go.RowKit

def vRules (a b : Nat) : Bool := vPart a && vPart b

set_option maxHeartbeats 400000 in
theorem l07Rules_calls (g a b : Nat) (w : World) (h0 : w.cell? ⟨g, 0, none⟩ = some (.float .f32 a)) (h1 : w.cell? ⟨g, 1, none⟩ = some (.float .f32 b)) :
    Calls Try.prog 40 #[.pointer (some ⟨g, 0, none⟩)] w fun e w' => e = .returned (.bool (vRules a b)) ∧ w' = w := by
  cases ha : vPart a <;> cases hb : vPart b
  all_goals
    have HR : Hid (vRules a b = (vPart a && vPart b)) := rfl
    have H0 := Lib.hid ha
    have H1 := Lib.hid hb
    clear ha hb
    go_enter Try.func40, Try.ntmps40
    go_wp2_with fail
    refine (l01Part_calls _ _).mono ?_
    rintro e w' ⟨rfl, rfl⟩
    rw [H0.out]
    go_wp2_with fail
    first | (refine (l01Part_calls _ _).mono ?_; rintro e w' ⟨rfl, rfl⟩; rw [H1.out]; go_wp2_with fail) | skip
    go_ret
    exact ⟨by rw [HR.out, H0.out, H1.out]; rfl, rfl⟩

set_option maxHeartbeats 400000 in
theorem implValidRules_calls (a b : Nat) (w : World) :
    Calls Try.prog 15 #[.agg #[.float .f32 a, .float .f32 b]] w (RetBool (vRules a b) w) := by
  go_enter Try.func15, Try.ntmps15
  go_wp2_with fail
  refine (areParts_calls (w.heap.size + 1) 0 2 [a, b] _ ?_ (by simp) (by simp [maxLen])).mono ?_
  · intro i hi
    match i, hi with
    | 0, _ => simp [go_sem]
    | 1, _ => simp [go_sem]
  rintro e w1 ⟨rfl, hb1⟩
  go_wp2_with fail
  go_ret
  exact ⟨by simp [vRules], below_call (below_a2 _ _ _) hb1⟩

set_option maxHeartbeats 400000 in
theorem toRules_calls (s b : Nat) (w : World) :
    Calls Try.prog 14 #[.agg #[.float .f32 s, .float .f32 b]] w (Ret (.agg #[.float .f32 s, .float .f32 b]) w) := by
  go_enter Try.func14, Try.ntmps14
  go_wp2
  exact bodyPost_ret (v := .agg #[.float .f32 s, .float .f32 b]) (by simp [results, Try.results14, go_sem]) rfl ⟨rfl, below_a3 _ _ _ _⟩
end Go.Proofs.Ytclbgkajhpknlaa
