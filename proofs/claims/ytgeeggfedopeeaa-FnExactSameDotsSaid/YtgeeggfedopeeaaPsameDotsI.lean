/-
  SameDots of the program, and the walk of the law on it.
-/
import Derived.Test.YtgeeggfedopeeaaPsameDots
import Derived.Test.YtgeeggfedopeeaaPdotS
namespace Go.Proofs.Ytgeeggfedopeeaa
open Go.RowKit

/-- A function value that answers a test of two pairs of numbers, leaving alone all that was there. -/
def TestsDD (P : Program) (g : Nat) (cap : Array Value) (p : Nat × Nat → Nat × Nat → Bool) (w : World) : Prop :=
  (∀ (args : Array Value) (W : World), (callFunc g args).run P W = .ok (.enter g args) W) ∧
  ∀ (x y x' y' : Nat) (W : World), Below w.heap.size w W → Calls P g (#[.agg #[.float .f32 x, .float .f32 y], .agg #[.float .f32 x', .float .f32 y']] ++ cap) W (RetBool (p (x, y) (x', y')) W)

set_option maxHeartbeats 400000 in
theorem sameDots1_tests (w : World) : TestsDD Try.prog 52 #[] sameD w := by
  refine ⟨fun args W => by kernel_rfl, fun x y x' y' W _ => ?_⟩
  cases h0 : sameN x x' <;> cases h1 : sameN y y'
  all_goals
    have HR : Hid (sameD (x, y) (x', y') = (sameN x x' && sameN y y')) := rfl
    have H0 := Lib.hid h0
    have H1 := Lib.hid h1
    clear h0 h1
    go_enter Try.func52, Try.ntmps52
    go_wp2_with fail
    refine (SameNumber_calls _ _ _).mono ?_
    rintro e w' ⟨rfl, rfl⟩
    rw [H0.out]
    go_wp2_with fail
    first | (refine (SameNumber_calls _ _ _).mono ?_; rintro e w' ⟨rfl, rfl⟩; rw [H1.out]; go_wp2_with fail) | skip
    go_ret
    exact ⟨by rw [HR.out, H0.out, H1.out]; rfl, below_a2 _ _ _⟩

set_option maxHeartbeats 1000000 in
theorem equalFuncD_calls (g : Nat) (cp : Array Value) (b o cap b' o' cap' : Nat) (ds es : List (Nat × Nat)) (w : World) (hd : HoldsD w b o ds) (hb : b < w.heap.size) (he : HoldsD w b' o' es) (hb' : b' < w.heap.size) (hl : ds.length ≤ maxLen) (hp : TestsDD Try.prog g cp sameD w) :
    Calls Try.prog 51 #[.slice (some ⟨b, o, none⟩) ds.length cap, .slice (some ⟨b', o', none⟩) es.length cap', .func (.func g) #[] cp] w (RetBool (sameDs ds es) w) := by
  unfold maxLen at hl
  have hcf := hp.1
  have HP := Lib.hid hp.2
  clear hp
  by_cases hlen : ds.length = es.length
  · rw [← hlen]
    have HL := Lib.hid hlen
    clear hlen
    go_enter Try.func51, Try.ntmps51
    go_wp2_with fail
    go_loopw [17] (fun i wr => ∃ k : Nat, k ≤ ds.length ∧ i = .int .i64 k ∧ (∀ j, j < k → sameD (ds.getD j (0, 0)) (es.getD j (0, 0)) = true) ∧ Below w.heap.size w wr) (fun i _ => ds.length - (intOf i).toNat)
    case atStart => exact ⟨0, Nat.zero_le _, rfl, fun j hj => by omega, Below.refl _ _⟩
    case round =>
      obtain ⟨k, hk, rfl, hno, hB⟩ := hrel
      have HN := Lib.hid hno
      clear hno
      by_cases hlt : k < ds.length
      · have hsz := hB.size
        obtain ⟨c0, c1⟩ := hd.below hB hb k hlt
        obtain ⟨d0, d1⟩ := he.below hB hb' k (HL.out ▸ hlt)
        have HD := Lib.hid hd
        have HE := Lib.hid he
        clear hd he
        obtain ⟨p, hp⟩ : ∃ p, p = ds.getD k (0, 0) := ⟨_, rfl⟩
        obtain ⟨q, hq⟩ : ∃ q, q = es.getD k (0, 0) := ⟨_, rfl⟩
        rw [← hp] at c0 c1
        rw [← hq] at d0 d1
        obtain ⟨p0, p1⟩ := p
        obtain ⟨q0, q1⟩ := q
        have HPp := Lib.hid hp
        have HQ := Lib.hid hq
        clear hp hq
        simp only at c0 c1 d0 d1
        have lb : b < wr.heap.size := by omega
        have lb' : b' < wr.heap.size := by omega
        go_wp2_with fail
        refine (HP.out _ _ _ _ _ (hB.trans ((below_a2 _ _ _).mono hsz))).mono ?_
        clear hcf c0 c1 d0 d1
        rintro e w1 ⟨rfl, hb1⟩
        have hB2 := below_call hB (below_call (below_a2 _ _ _) hb1)
        cases hpx : sameD (p0, p1) (q0, q1) with
        | false =>
          have hres : sameDs ds es = false := sameDs_at hlt (by rw [← HPp.out, ← HQ.out]; exact hpx)
          have HR := Lib.hid hres
          clear hres hpx
          go_wp2
          go_ret
          exact ⟨by rw [HR.out]; rfl, hB2⟩
        | true =>
          have HX := Lib.hid hpx
          clear hpx
          go_wp2
          go_roundw
          case rel => exact ⟨k + 1, by omega, by go_num, fun j hj => by rcases Nat.lt_succ_iff_lt_or_eq.1 hj with h | h; exact HN.out j h; subst h; rw [← HPp.out, ← HQ.out]; exact HX.out, hB2⟩
          case measure => simp [intOf]; omega
      · have hres : sameDs ds es = true := sameDs_yes HL.out (fun j hj => HN.out j (by omega))
        have HR := Lib.hid hres
        clear hres
        go_wp2
        go_ret
        exact ⟨by rw [HR.out]; rfl, hB⟩
  · have hres := sameDs_no hlen
    have HR := Lib.hid hres
    clear hres
    have hb2 : ((ds.length : Int) != (es.length : Int)) = true := by rw [bne_iff_ne]; omega
    clear hd he
    go_enter Try.func51, Try.ntmps51
    go_wp2
    go_ret
    exact ⟨by rw [HR.out]; rfl, Below.refl _ _⟩

set_option maxHeartbeats 400000 in
theorem implSameDots_calls (b o cap b' o' cap' : Nat) (ds es : List (Nat × Nat)) (w : World) (hd : HoldsD w b o ds) (hb : b < w.heap.size) (he : HoldsD w b' o' es) (hb' : b' < w.heap.size) (hl : ds.length ≤ maxLen) :
    Calls Try.prog 25 #[.slice (some ⟨b, o, none⟩) ds.length cap, .slice (some ⟨b', o', none⟩) es.length cap'] w (RetBool (sameDs ds es) w) := by
  have HC := Lib.hid (equalFuncD_calls _ _ b o cap b' o' cap' ds es w hd hb he hb' hl (sameDots1_tests w))
  clear hd he hl
  go_enter Try.func25, Try.ntmps25
  go_wp2_with fail
  refine HC.out.mono ?_
  rintro e w1 ⟨rfl, hb1⟩
  go_wp2_with fail
  go_ret
  exact ⟨rfl, hb1⟩

set_option maxHeartbeats 1000000 in
theorem fnExactSameDots_walk (ds : List (Nat × Nat)) (ad : Option Addr) (cap : Nat) (es : List (Nat × Nat)) (ae : Option Addr) (cap' : Nat) (w : World) (hd : SlD w ad ds) (hl : ds.length ≤ maxLen) (he : SlD w ae es) (hl2 : es.length ≤ maxLen) :
    Calls Try.prog 6 #[.slice ad ds.length cap, .slice ae es.length cap'] w (RetBool true w) := by
  have hl' := hl
  have hl2' := hl2
  unfold maxLen at hl' hl2'
  by_cases h20 : 1048576 - (ds.length : Int) < 0
  · go_enter Try.func6, Try.ntmps6
    clear hd hl he hl2
    go_wp2_with fail
    refine (szDotS_calls _ _ _ _ _ (by omega) (by omega) (by omega)).mono ?_
    rintro e w1 ⟨rfl, rfl⟩
    rw [if_pos (by omega)]
    go_wp2_with fail
    go_ret
    exact ⟨rfl, Below.refl _ _⟩
  by_cases h21 : 1048576 - (ds.length : Int) - (es.length : Int) < 0
  · go_enter Try.func6, Try.ntmps6
    clear hd hl he hl2
    go_wp2_with fail
    refine (szDotS_calls _ _ _ _ _ (by omega) (by omega) (by omega)).mono ?_
    rintro e w1 ⟨rfl, rfl⟩
    rw [if_neg (by omega)]
    go_wp2_with fail
    refine (szDotS_calls _ _ _ _ _ (by omega) (by omega) (by omega)).mono ?_
    rintro e w1 ⟨rfl, rfl⟩
    rw [if_pos (by omega)]
    go_wp2_with fail
    go_ret
    exact ⟨rfl, Below.refl _ _⟩
  · have hn : ds.length ≤ 1048576 := by omega
    have hn2 : es.length ≤ 1048576 := by omega
    have HD := Lib.hid hd
    have HE := Lib.hid he
    have HL := Lib.hid hl
    have HL2 := Lib.hid hl2
    clear hd hl he hl2
    go_enter Try.func6, Try.ntmps6
    go_wp2_with fail
    refine (szDotS_calls _ _ _ _ _ (by omega) (by omega) (by omega)).mono ?_
    rintro e w1 ⟨rfl, rfl⟩
    rw [if_neg (by omega)]
    go_wp2_with fail
    refine (szDotS_calls _ _ _ _ _ (by omega) (by omega) (by omega)).mono ?_
    rintro e w1 ⟨rfl, rfl⟩
    rw [if_neg (by omega)]
    go_wp2_with fail
    refine (toDotS_calls ad cap ds _ HD.out hn).mono ?_
    rintro e w1 ⟨g1, rfl, hg1, hblk1, hb1⟩
    have HB1 := Lib.hid hblk1
    clear hblk1
    go_wp2_with fail
    refine (toDotS_calls ae cap' es _ (HE.out.below hb1) hn2).mono ?_
    rintro e w2 ⟨g2, rfl, hg2, hblk2, hb2⟩
    have HB2 := Lib.hid hblk2
    have HB1' := Lib.hid (HB1.out.below hb2 HB1.out.lt)
    have hB2 := below_call hb1 hb2
    clear hblk2
    go_wp2_with fail
    refine (specSameDots_calls g1 0 _ g2 0 _ ds es _ (holds_blk HB1'.out) HB1'.out.lt (holds_blk HB2.out) HB2.out.lt HL.out).mono ?_
    rintro e w3 ⟨rfl, hb3⟩
    have hB3 := below_call hB2 hb3
    clear HB1 HB2 HB1' hb1 hb2 hb3 hB2 hg1 hg2
    go_wp2_with fail
    refine (toDotS_calls ad cap ds _ (HD.out.below hB3) hn).mono ?_
    rintro e w4 ⟨g4, rfl, hg4, hblk4, hb4⟩
    have HB4 := Lib.hid hblk4
    have hB4 := below_call hB3 hb4
    clear hblk4
    go_wp2_with fail
    refine (toDotS_calls ae cap' es _ (HE.out.below hB4) hn2).mono ?_
    rintro e w5 ⟨g5, rfl, hg5, hblk5, hb5⟩
    have HB5 := Lib.hid hblk5
    have hB5 := below_call hB4 hb5
    have HB4' := Lib.hid (HB4.out.below hb5 HB4.out.lt)
    clear hblk5
    go_wp2_with fail
    refine (implSameDots_calls g4 0 _ g5 0 _ ds es _ (holds_blk HB4'.out) HB4'.out.lt (holds_blk HB5.out) HB5.out.lt HL.out).mono ?_
    rintro e w6 ⟨rfl, hb6⟩
    have hB6 := below_call hB5 hb6
    have HX4 := Lib.hid (HB4'.out.below hb6 HB4'.out.lt)
    have HX5 := Lib.hid (HB5.out.below hb6 HB5.out.lt)
    clear HB4 HB5 HB4' hb4 hb5 hb6
    go_wp2_with fail
    refine (toDotS_calls ad cap ds _ (HD.out.below hB6) hn).mono ?_
    rintro e w7 ⟨g7, rfl, hg7, hblk7, hb7⟩
    have HB7 := Lib.hid hblk7
    have hB7 := below_call hB6 hb7
    have HX4' := Lib.hid (HX4.out.below hb7 HX4.out.lt)
    have HX5' := Lib.hid (HX5.out.below hb7 HX5.out.lt)
    clear hblk7
    go_wp2_with fail
    refine (eqDotS_calls _ _ _ _ ds ds _ (.inr ⟨g4, 0, rfl, HX4'.out.lt, holds_blk HX4'.out⟩) (.inr ⟨g7, 0, rfl, HB7.out.lt, holds_blk HB7.out⟩) (sameP_refl ds) HL.out).mono ?_
    rintro e w8 ⟨rfl, hb8⟩
    have hB8 := below_call hB7 hb8
    have HX5'' := Lib.hid (HX5'.out.below hb8 HX5'.out.lt)
    go_wp2_with fail
    refine (toDotS_calls ae cap' es _ (HE.out.below hB8) hn2).mono ?_
    rintro e w9 ⟨g9, rfl, hg9, hblk9, hb9⟩
    have HB9 := Lib.hid hblk9
    have hB9 := below_call hB8 hb9
    have HY5 := Lib.hid (HX5''.out.below hb9 HX5''.out.lt)
    clear hblk9
    go_wp2_with fail
    refine (eqDotS_calls _ _ _ _ es es _ (.inr ⟨g5, 0, rfl, HY5.out.lt, holds_blk HY5.out⟩) (.inr ⟨g9, 0, rfl, HB9.out.lt, holds_blk HB9.out⟩) (sameP_refl es) HL2.out).mono ?_
    rintro e w10 ⟨rfl, hb10⟩
    go_wp2_with fail
    all_goals go_ret
    all_goals exact ⟨rfl, below_call hB9 hb10⟩
end Go.Proofs.Ytgeeggfedopeeaa
