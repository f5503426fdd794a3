/-
  Dots that are the same: what both programs answer.
-/
import Derived.Test.YtgeeggfedopeeaaPsn
import Derived.Test.YtgeeggfedopeeaaReg
namespace Go.Proofs.Ytgeeggfedopeeaa
open Go.RowKit

def sameD (p q : Nat × Nat) : Bool := sameN p.1 q.1 && sameN p.2 q.2
def sameDs (ds es : List (Nat × Nat)) : Bool := decide (ds.length = es.length) && (List.range ds.length).all fun i => sameD (ds.getD i (0, 0)) (es.getD i (0, 0))

theorem sameDs_no {ds es : List (Nat × Nat)} (h : ds.length ≠ es.length) : sameDs ds es = false := by unfold sameDs; rw [decide_eq_false h]; rfl
theorem sameDs_at {ds es : List (Nat × Nat)} {k : Nat} (hk : k < ds.length) (h : sameD (ds.getD k (0, 0)) (es.getD k (0, 0)) = false) : sameDs ds es = false := by
  unfold sameDs
  rw [show ((List.range ds.length).all fun i => sameD (ds.getD i (0, 0)) (es.getD i (0, 0))) = false from by
    rw [List.all_eq_false]; exact ⟨k, List.mem_range.2 hk, by simpa using h⟩, Bool.and_false]
theorem sameDs_yes {ds es : List (Nat × Nat)} (hl : ds.length = es.length) (h : ∀ j, j < ds.length → sameD (ds.getD j (0, 0)) (es.getD j (0, 0)) = true) : sameDs ds es = true := by
  unfold sameDs
  rw [decide_eq_true hl, Bool.true_and, List.all_eq_true]
  exact fun j hj => h j (List.mem_range.1 hj)

set_option maxHeartbeats 400000 in
theorem specSameDots_calls (b o cap b' o' cap' : Nat) (ds es : List (Nat × Nat)) (w : World) (hd : HoldsD w b o ds) (hb : b < w.heap.size) (he : HoldsD w b' o' es) (hb' : b' < w.heap.size) (hl : ds.length ≤ maxLen) :
    Calls Try.prog 24 #[.slice (some ⟨b, o, none⟩) ds.length cap, .slice (some ⟨b', o', none⟩) es.length cap'] w (RetBool (sameDs ds es) w) := by
  unfold maxLen at hl
  by_cases hlen : ds.length = es.length
  · rw [← hlen]
    have HL := Lib.hid hlen
    clear hlen
    go_enter Try.func24, Try.ntmps24
    go_wp2_with fail
    go_loopw [5] (fun i wr => ∃ k : Nat, k ≤ ds.length ∧ i = .int .i64 k ∧ (∀ j, j < k → sameD (ds.getD j (0, 0)) (es.getD j (0, 0)) = true) ∧ Below w.heap.size w wr) (fun i _ => ds.length - (intOf i).toNat)
    case atStart => exact ⟨0, Nat.zero_le _, rfl, fun j hj => by omega, Below.refl _ _⟩
    case round =>
      obtain ⟨k, hk, rfl, hno, hB⟩ := hrel
      have HN := Lib.hid hno
      clear hno
      by_cases hlt : k < ds.length
      · have hsz := hB.size
        have hbr : b < wr.heap.size := by omega
        have hbr' : b' < wr.heap.size := by omega
        obtain ⟨c0, c1⟩ := hd.below hB hb k hlt
        obtain ⟨d0, d1⟩ := he.below hB hb' k (HL.out ▸ hlt)
        have HD := Lib.hid hd
        have HE := Lib.hid he
        clear hd he
        obtain ⟨p, hp⟩ : ∃ p, p = ds.getD k (0, 0) := ⟨_, rfl⟩
        obtain ⟨q, hq⟩ : ∃ q, q = es.getD k (0, 0) := ⟨_, rfl⟩
        rw [← hp] at c0 c1
        rw [← hq] at d0 d1
        obtain ⟨p0, p1⟩ := p
        obtain ⟨q0, q1⟩ := q
        have HP := Lib.hid hp
        have HQ := Lib.hid hq
        clear hp hq
        simp only at c0 c1 d0 d1
        cases s0 : sameN p0 q0
        · have hres : sameDs ds es = false := sameDs_at hlt (by rw [← HP.out, ← HQ.out]; simp [sameD, s0])
          have HR := Lib.hid hres
          have S0 := Lib.hid s0
          clear hres s0
          go_wp2_with fail
          refine Rg.region_tail 25 (fun w' => Below wr.heap.size wr w') (fun _ _ v => v = .bool false) (by kernel_rfl) (by kernel_rfl) (by exact (Below.refl wr.heap.size wr).drew) ?_
          simp only [List.take_succ_cons, List.take_zero, List.drop_succ_cons, List.drop_zero]
          repeat ((with_reducible refine Rg.walk_plain rfl (fun K hK w1 hw1 => ?_)); have hcl : ∀ bb oo, bb < wr.heap.size → w1.cell? ⟨bb, oo, none⟩ = wr.cell? ⟨bb, oo, none⟩ := fun bb oo h => hw1.cell (p := ⟨bb, oo, none⟩) h; go_simp; refine hK _ ?_; clear hK hw1 hcl K w1)
          refine Rg.walk_calls rfl 50 #[.float .f32 p0, .float .f32 q0] (fun w1 hw1 => ⟨by go_simp, (l01Same_calls _ _ _).mono fun e w2 ⟨he, hb2⟩ => ⟨_, he, by rw [S0.out], by rw [hb2]; exact hw1⟩⟩) (fun u hu => ?_)
          subst hu
          repeat (first
            | ((with_reducible refine Rg.walk_plain rfl (fun K hK w1 hw1 => ?_)); go_simp; refine hK _ ?_; clear hK hw1 K w1)
            | ((with_reducible refine Rg.walk_step (fun K hK => ?_)); go_simp; refine hK _ ?_; clear hK K))
          refine Rg.walk_nil ?_
          intro w2 hw2
          have hB2 := below_call hB hw2
          clear c0 c1 d0 d1 hw2
          go_wp2
          go_ret
          exact ⟨by rw [HR.out]; rfl, hB2⟩
        · cases s1 : sameN p1 q1
          · have hres : sameDs ds es = false := sameDs_at hlt (by rw [← HP.out, ← HQ.out]; simp [sameD, s1])
            have HR := Lib.hid hres
            have S0 := Lib.hid s0
            have S1 := Lib.hid s1
            clear hres s0 s1
            go_wp2_with fail
            refine Rg.region_tail 25 (fun w' => Below wr.heap.size wr w') (fun _ args v => ∃ x y, args = #[.float .f32 x, .float .f32 y] ∧ v = .bool (sameN x y)) (by kernel_rfl) (by kernel_rfl) (by exact (Below.refl wr.heap.size wr).drew) ?_
            simp only [List.take_succ_cons, List.take_zero, List.drop_succ_cons, List.drop_zero]
            repeat ((with_reducible refine Rg.walk_plain rfl (fun K hK w1 hw1 => ?_)); have hcl : ∀ bb oo, bb < wr.heap.size → w1.cell? ⟨bb, oo, none⟩ = wr.cell? ⟨bb, oo, none⟩ := fun bb oo h => hw1.cell (p := ⟨bb, oo, none⟩) h; go_simp; refine hK _ ?_; clear hK hw1 hcl K w1)
            refine Rg.walk_calls rfl 50 #[.float .f32 p0, .float .f32 q0] (fun w1 hw1 => ⟨by go_simp, (l01Same_calls _ _ _).mono fun e w2 ⟨he, hb2⟩ => ⟨_, he, ⟨_, _, rfl, rfl⟩, by rw [hb2]; exact hw1⟩⟩) (fun u hu => ?_)
            obtain ⟨x, y, hxy, rfl⟩ := hu
            simp at hxy
            obtain ⟨rfl, rfl⟩ := hxy
            rw [S0.out]
            repeat (first
              | ((with_reducible refine Rg.walk_plain rfl (fun K hK w1 hw1 => ?_)); go_simp; refine hK _ ?_; clear hK hw1 K w1)
              | ((with_reducible refine Rg.walk_on (by go_simp) (fun K hK w1 hw1 => ?_)); have hcl : ∀ bb oo, bb < wr.heap.size → w1.cell? ⟨bb, oo, none⟩ = wr.cell? ⟨bb, oo, none⟩ := fun bb oo h => hw1.cell (p := ⟨bb, oo, none⟩) h; go_simp; refine hK _ ?_; clear hK hw1 hcl K w1))
            refine Rg.walk_on_call (by go_simp) 50 #[.float .f32 p1, .float .f32 q1] (fun w1 hw1 => ⟨by go_simp, (l01Same_calls _ _ _).mono fun e w2 ⟨he, hb2⟩ => ⟨_, he, ⟨_, _, rfl, rfl⟩, by rw [hb2]; exact hw1⟩⟩) (fun u hu => ?_)
            obtain ⟨x, y, hxy, rfl⟩ := hu
            simp at hxy
            obtain ⟨rfl, rfl⟩ := hxy
            rw [S1.out]
            repeat (first
              | ((with_reducible refine Rg.walk_plain rfl (fun K hK w1 hw1 => ?_)); go_simp; refine hK _ ?_; clear hK hw1 K w1)
              | ((with_reducible refine Rg.walk_on (by go_simp) (fun K hK w1 hw1 => ?_)); go_simp; refine hK _ ?_; clear hK hw1 K w1))
            refine Rg.walk_nil ?_
            intro w2 hw2
            have hB2 := below_call hB hw2
            clear c0 c1 d0 d1 hw2
            go_wp2
            go_ret
            exact ⟨by rw [HR.out]; rfl, hB2⟩
          · have HN' : ∀ j, j < k + 1 → sameD (ds.getD j (0, 0)) (es.getD j (0, 0)) = true := fun j hj => by
              rcases Nat.lt_succ_iff_lt_or_eq.1 hj with h | h
              · exact HN.out j h
              · subst h; rw [← HP.out, ← HQ.out]; simp [sameD, s0, s1]
            have HM := Lib.hid HN'
            have S0 := Lib.hid s0
            have S1 := Lib.hid s1
            clear HN' s0 s1
            go_wp2_with fail
            refine Rg.region_tail 25 (fun w' => Below wr.heap.size wr w') (fun _ args v => ∃ x y, args = #[.float .f32 x, .float .f32 y] ∧ v = .bool (sameN x y)) (by kernel_rfl) (by kernel_rfl) (by exact (Below.refl wr.heap.size wr).drew) ?_
            simp only [List.take_succ_cons, List.take_zero, List.drop_succ_cons, List.drop_zero]
            repeat ((with_reducible refine Rg.walk_plain rfl (fun K hK w1 hw1 => ?_)); have hcl : ∀ bb oo, bb < wr.heap.size → w1.cell? ⟨bb, oo, none⟩ = wr.cell? ⟨bb, oo, none⟩ := fun bb oo h => hw1.cell (p := ⟨bb, oo, none⟩) h; go_simp; refine hK _ ?_; clear hK hw1 hcl K w1)
            refine Rg.walk_calls rfl 50 #[.float .f32 p0, .float .f32 q0] (fun w1 hw1 => ⟨by go_simp, (l01Same_calls _ _ _).mono fun e w2 ⟨he, hb2⟩ => ⟨_, he, ⟨_, _, rfl, rfl⟩, by rw [hb2]; exact hw1⟩⟩) (fun u hu => ?_)
            obtain ⟨x, y, hxy, rfl⟩ := hu
            simp at hxy
            obtain ⟨rfl, rfl⟩ := hxy
            rw [S0.out]
            repeat (first
              | ((with_reducible refine Rg.walk_plain rfl (fun K hK w1 hw1 => ?_)); go_simp; refine hK _ ?_; clear hK hw1 K w1)
              | ((with_reducible refine Rg.walk_on (by go_simp) (fun K hK w1 hw1 => ?_)); have hcl : ∀ bb oo, bb < wr.heap.size → w1.cell? ⟨bb, oo, none⟩ = wr.cell? ⟨bb, oo, none⟩ := fun bb oo h => hw1.cell (p := ⟨bb, oo, none⟩) h; go_simp; refine hK _ ?_; clear hK hw1 hcl K w1))
            refine Rg.walk_on_call (by go_simp) 50 #[.float .f32 p1, .float .f32 q1] (fun w1 hw1 => ⟨by go_simp, (l01Same_calls _ _ _).mono fun e w2 ⟨he, hb2⟩ => ⟨_, he, ⟨_, _, rfl, rfl⟩, by rw [hb2]; exact hw1⟩⟩) (fun u hu => ?_)
            obtain ⟨x, y, hxy, rfl⟩ := hu
            simp at hxy
            obtain ⟨rfl, rfl⟩ := hxy
            rw [S1.out]
            repeat (first
              | ((with_reducible refine Rg.walk_plain rfl (fun K hK w1 hw1 => ?_)); go_simp; refine hK _ ?_; clear hK hw1 K w1)
              | ((with_reducible refine Rg.walk_on (by go_simp) (fun K hK w1 hw1 => ?_)); go_simp; refine hK _ ?_; clear hK hw1 K w1))
            refine Rg.walk_nil ?_
            intro w2 hw2
            have hB2 := below_call hB hw2
            clear c0 c1 d0 d1 hw2
            go_wp2
            go_roundw
            case rel => exact ⟨k + 1, by omega, by go_num, HM.out, hB2⟩
            case measure => simp [intOf]; omega
      · have hres : sameDs ds es = true := sameDs_yes HL.out (fun j hj => HN.out j (by omega))
        have HR := Lib.hid hres
        clear hres
        go_wp2
        go_ret
        exact ⟨by rw [HR.out]; rfl, hB⟩
  · have hres := sameDs_no hlen
    have HR := Lib.hid hres
    clear hres
    have hb2 : ((ds.length : Int) != (es.length : Int)) = true := by rw [bne_iff_ne]; omega
    clear hd he
    go_enter Try.func24, Try.ntmps24
    go_wp2
    go_ret
    exact ⟨by rw [HR.out]; rfl, Below.refl _ _⟩
end Go.Proofs.Ytgeeggfedopeeaa
