/-
  The walk of the law on ValidDots.
-/
import Derived.Test.YtgeeggfedopeeaaPdotOk
import Derived.Test.YtgeeggfedopeeaaPdotS
namespace Go.Proofs.Ytgeeggfedopeeaa
open Go.RowKit

set_option maxHeartbeats 400000 in
theorem specValidDots_calls (b o cap : Nat) (ds : List (Nat × Nat)) (w : World) (hd : HoldsD w b o ds) (hb : b < w.heap.size) (hl : ds.length ≤ maxLen) :
    Calls Try.prog 20 #[.slice (some ⟨b, o, none⟩) ds.length cap] w fun e w' => e = .returned (.bool (vDots ds)) ∧ w' = w := by
  have HC := Lib.hid (l06Ok_calls b o cap ds w hd hb hl)
  clear hd hl
  go_enter Try.func20, Try.ntmps20
  go_wp2_with fail
  refine HC.out.mono ?_
  rintro e w1 ⟨rfl, rfl⟩
  go_wp2_with fail
  go_ret
  exact ⟨rfl, rfl⟩


set_option maxHeartbeats 1000000 in
theorem fnExactValidDots_walk (ds : List (Nat × Nat)) (ad : Option Addr) (cap : Nat) (w : World) (hd : SlD w ad ds) (hl : ds.length ≤ maxLen) :
    Calls Try.prog 5 #[.slice ad ds.length cap] w (RetBool true w) := by
  have hl' := hl
  unfold maxLen at hl'
  by_cases h20 : 1048576 - (ds.length : Int) < 0
  · go_enter Try.func5, Try.ntmps5
    clear hd hl
    go_wp2_with fail
    refine (szDotS_calls _ _ _ _ _ (by omega) (by omega) (by omega)).mono ?_
    rintro e w1 ⟨rfl, rfl⟩
    rw [if_pos (by omega)]
    go_wp2_with fail
    go_ret
    exact ⟨rfl, Below.refl _ _⟩
  · have hn : ds.length ≤ 1048576 := by omega
    have HD := Lib.hid hd
    have HL := Lib.hid hl
    clear hd hl
    go_enter Try.func5, Try.ntmps5
    go_wp2_with fail
    refine (szDotS_calls _ _ _ _ _ (by omega) (by omega) (by omega)).mono ?_
    rintro e w1 ⟨rfl, rfl⟩
    rw [if_neg (by omega)]
    go_wp2_with fail
    refine (toDotS_calls ad cap ds _ HD.out hn).mono ?_
    rintro e w1 ⟨g1, rfl, hg1, hblk1, hb1⟩
    have HB1 := Lib.hid hblk1
    clear hblk1
    go_wp2_with fail
    refine (specValidDots_calls g1 0 _ ds _ (holds_blk HB1.out) HB1.out.lt HL.out).mono ?_
    rintro e w2 ⟨rfl, rfl⟩
    go_wp2_with fail
    refine (toDotS_calls ad cap ds _ (HD.out.below hb1) hn).mono ?_
    rintro e w3 ⟨g3, rfl, hg3, hblk3, hb3⟩
    have HB3 := Lib.hid hblk3
    have hB3 := below_call hb1 hb3
    clear hblk3
    go_wp2_with fail
    refine (implValidDots_calls g3 0 _ ds _ (holds_blk HB3.out) HB3.out.lt HL.out).mono ?_
    rintro e w4 ⟨rfl, hb4⟩
    have hB4 := below_call hB3 hb4
    have HB4 := Lib.hid (HB3.out.below hb4 HB3.out.lt)
    go_wp2_with fail
    refine (toDotS_calls ad cap ds _ (HD.out.below hB4) hn).mono ?_
    rintro e w5 ⟨g5, rfl, hg5, hblk5, hb5⟩
    have HB5 := Lib.hid hblk5
    have hB5 := below_call hB4 hb5
    have HB4' := Lib.hid (HB4.out.below hb5 HB4.out.lt)
    clear hblk5
    go_wp2_with fail
    refine (eqDotS_calls _ _ _ _ ds ds _ (.inr ⟨g3, 0, rfl, HB4'.out.lt, holds_blk HB4'.out⟩) (.inr ⟨g5, 0, rfl, HB5.out.lt, holds_blk HB5.out⟩) (sameP_refl ds) HL.out).mono ?_
    rintro e w6 ⟨rfl, hb6⟩
    go_wp2_with fail
    all_goals go_ret
    all_goals exact ⟨rfl, below_call hB5 hb6⟩
end Go.Proofs.Ytgeeggfedopeeaa
