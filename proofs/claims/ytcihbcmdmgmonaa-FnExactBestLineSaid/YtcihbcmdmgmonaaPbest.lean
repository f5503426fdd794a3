/-
  The line with the least sum of squares: what both programs answer, and the law's walk.
-/
import Derived.Test.YtcihbcmdmgmonaaPlineS
import Derived.Test.YtcihbcmdmgmonaaPsquareSum
import Derived.Test.YtcihbcmdmgmonaaRegT
namespace Go.Proofs.Ytcihbcmdmgmonaa
open Go.RowKit

/-- The sum of squares of line l. -/
def sqAt (ds : List (Nat × Nat)) (l : Nat × Nat) : Nat := sqL (restL l.1 l.2 ds)
/-- The place of the least sum among the first k lines. -/
def blAt (ls ds : List (Nat × Nat)) : Nat → Nat
  | 0 => 0
  | k + 1 => if Fl.lt (sqAt ds (ls.getD k (0, 0))) (sqAt ds (ls.getD (blAt ls ds k) (0, 0))) then k else blAt ls ds k
theorem blAt_lt (ls ds : List (Nat × Nat)) : ∀ k, 0 < k → blAt ls ds k < k
  | 0, h => absurd h (by omega)
  | k + 1, _ => by
    show (if _ then k else blAt ls ds k) < k + 1
    split
    · omega
    · rcases Nat.eq_zero_or_pos k with rfl | h
      · exact Nat.one_pos
      · have := blAt_lt ls ds k h; omega
theorem blAt_one (ls ds : List (Nat × Nat)) : blAt ls ds 1 = 0 := by show (if _ then 0 else blAt ls ds 0) = 0; split <;> rfl
theorem blAt_succ (ls ds : List (Nat × Nat)) (k : Nat) : blAt ls ds (k + 1) = if Fl.lt (sqAt ds (ls.getD k (0, 0))) (sqAt ds (ls.getD (blAt ls ds k) (0, 0))) then k else blAt ls ds k := rfl

def blOk (ls ds : List (Nat × Nat)) : Bool := vDots ds && ls.all fun l => vLine l.1 l.2
def blC (ls ds : List (Nat × Nat)) : Int := sel (blOk ls ds) (sel (decide (ls.length ≤ 6)) (sel (decide (0 < ls.length)) 0 6) 3) 1
def blGo (ls ds : List (Nat × Nat)) : Bool := blOk ls ds && (decide (ls.length ≤ 6) && decide (0 < ls.length))
def blI (ls ds : List (Nat × Nat)) : Int := sel (blGo ls ds) (blAt ls ds ls.length : Int) 0
def blX (ls ds : List (Nat × Nat)) : Nat := sel (blGo ls ds) (sqAt ds (ls.getD (blAt ls ds ls.length) (0, 0))) 0
/-- A place, a number and a code. -/
def RetINC (i : Int) (x : Nat) (c : Int) (W : World) (e : Ending) (W' : World) : Prop := ∃ v, e = .returned (.tuple #[.int .i64 i, .float .f32 v, .int .i64 c]) ∧ Fl.canon v = Fl.canon x ∧ Below W.heap.size W W'

theorem bestLine1_tests (w : World) : TestsD Try.prog 84 #[] (fun d => !vLine d.1 d.2) w := by
  refine ⟨fun args W => by kernel_rfl, fun x y W _ => ?_⟩
  go_enter Try.func84, Try.ntmps84
  go_upto_region 1 with (fail)
  generalize hw1 : W.alloc _ = w1
  have hb1 : Below W.heap.size W w1 := hw1 ▸ below_a1 W _
  have c0 : w1.cell? ⟨W.heap.size, 0, none⟩ = some (.float .f32 x) := by rw [← hw1]; simp [go_sem]
  have c1 : w1.cell? ⟨W.heap.size, 1, none⟩ = some (.float .f32 y) := by rw [← hw1]; simp [go_sem]
  have lw : W.heap.size < w1.heap.size := by rw [← hw1]; simp
  clear hw1
  go_wp2_with fail
  refine (implValidLine_calls _ _ _).mono ?_
  rintro e w' ⟨rfl, hb⟩
  clear c0 c1
  go_wp2_with fail
  go_ret
  exact ⟨rfl, below_call hb1 hb⟩

set_option maxHeartbeats 2000000 in
theorem specBestLine_calls (b o cap b' o' cap' : Nat) (ls ds : List (Nat × Nat)) (w : World) (hL : HoldsD w b o ls) (hb : b < w.heap.size) (hD : HoldsD w b' o' ds) (hb' : b' < w.heap.size) (hl : ls.length ≤ 1048576) (hd : ds.length ≤ 1048576) :
    Calls Try.prog 36 #[.slice (some ⟨b, o, none⟩) ls.length cap, .slice (some ⟨b', o', none⟩) ds.length cap'] w (RetINC (blI ls ds) (blX ls ds) (blC ls ds) w) := by
  have HL := Lib.hid hL
  have HD := Lib.hid hD
  have hm : ds.length ≤ maxLen := by unfold maxLen; omega
  have EI : Hid (blI ls ds = sel (blGo ls ds) (blAt ls ds ls.length : Int) 0) := rfl
  have EX : Hid (blX ls ds = sel (blGo ls ds) (sqAt ds (ls.getD (blAt ls ds ls.length) (0, 0))) 0) := rfl
  have EC : Hid (blC ls ds = sel (blOk ls ds) (sel (decide (ls.length ≤ 6)) (sel (decide (0 < ls.length)) 0 6) 3) 1) := rfl
  have EG : Hid (blGo ls ds = (blOk ls ds && (decide (ls.length ≤ 6) && decide (0 < ls.length)))) := rfl
  have EO : Hid (blOk ls ds = (vDots ds && ls.all fun l => vLine l.1 l.2)) := rfl
  clear hL hD
  go_enter Try.func36, Try.ntmps36
  go_wp2_with fail
  refine (l06Ok_calls b' o' _ ds _ HD.out hb' hm).mono ?_
  rintro e w2 ⟨rfl, rfl⟩
  cases h1 : vDots ds
  · have HO := Lib.hid (show blOk ls ds = false by rw [EO.out, h1]; rfl)
    clear h1
    go_wp2_with fail
    go_ret3
    exact ⟨0, by rw [EI.out, EC.out, EG.out, HO.out]; rfl, by rw [EX.out, EG.out, HO.out]; rfl, Below.refl _ _⟩
  · have H1 := Lib.hid h1
    clear h1
    go_upto_region 4 with (fail)
    go_loopw [7] (fun i wr => ∃ k : Nat, k ≤ ls.length ∧ i = .int .i64 k ∧ (∀ j, j < k → (fun l : Nat × Nat => vLine l.1 l.2) (ls.getD j (0, 0)) = true) ∧ Below w2.heap.size w2 wr) (fun i _ => ls.length - (intOf i).toNat)
    case atStart => exact ⟨0, Nat.zero_le _, rfl, fun j hj => absurd hj (Nat.not_lt_zero _), Below.refl _ _⟩
    case round =>
      obtain ⟨k, hk, rfl, hall, hB⟩ := hrel
      have HA := Lib.hid hall
      have hsz := hB.size
      clear hall
      by_cases hlt : k < ls.length
      · obtain ⟨c0, c1⟩ := HL.out.below hB hb k hlt
        have HP : Hid ((fun l : Nat × Nat => vLine l.1 l.2) (ls.getD k (0, 0)) = vLine (ls.getD k (0, 0)).1 (ls.getD k (0, 0)).2) := rfl
        generalize (ls.getD k (0, 0)).1 = s at c0 HP
        generalize (ls.getD k (0, 0)).2 = t at c1 HP
        have lb : b < wr.heap.size := by omega
        go_wp2_with fail
        refine (l06Line_calls s t _).mono ?_
        rintro e w3 ⟨rfl, hb3⟩
        have hB3 := below_call hB hb3
        clear c0 c1
        cases hv : vLine s t
        · have HO := Lib.hid (show blOk ls ds = false by rw [EO.out, all_not (0, 0) _ ls k hlt (HP.out.trans hv), Bool.and_false])
          clear hv
          go_wp2_with fail
          go_ret3
          exact ⟨0, by rw [EI.out, EC.out, EG.out, HO.out]; rfl, by rw [EX.out, EG.out, HO.out]; rfl, hB3⟩
        · have HV := Lib.hid (HP.out.trans hv)
          clear hv
          go_wp2_with fail
          go_roundw
          case rel => exact ⟨k + 1, by omega, by go_num, fun j hj => by rcases Nat.lt_succ_iff_lt_or_eq.1 hj with h | h; exact HA.out j h; subst h; exact HV.out, hB3⟩
          case measure => simp [intOf]; omega
      · have HO := Lib.hid (show blOk ls ds = true by rw [EO.out, H1.out, all_upto (0, 0) _ ls (fun j hj => HA.out j (by omega))]; rfl)
        clear HA
        by_cases h6 : ls.length ≤ 6
        · by_cases h0 : 0 < ls.length
          · have HG := Lib.hid (show blGo ls ds = true by rw [EG.out, HO.out, decide_eq_true h6, decide_eq_true h0]; rfl)
            have HC := Lib.hid (show blC ls ds = 0 by rw [EC.out, HO.out, decide_eq_true h6, decide_eq_true h0]; rfl)
            have g6 : ((ls.length : Nat) : Int) ≤ 6 := by omega
            have q0 : (((ls.length : Nat) : Int) == 0) = false := by rw [beq_eq_false_iff_ne]; omega
            obtain ⟨c0, c1⟩ := HL.out.below hB hb 0 h0
            rw [Nat.zero_mul, Nat.add_zero] at c0 c1
            have S0 : Hid (sqAt ds (ls.getD 0 (0, 0)) = sqL (restL (ls.getD 0 (0, 0)).1 (ls.getD 0 (0, 0)).2 ds)) := rfl
            generalize (ls.getD 0 (0, 0)).1 = s at c0 S0
            generalize (ls.getD 0 (0, 0)).2 = t at c1 S0
            have lb : b < wr.heap.size := by omega
            go_wp2_with fail
            refine (l06Squares_calls s t b' o' _ ds _ (HD.out.below hB hb') (by omega) hd).mono ?_
            rintro e w3 ⟨q, rfl, hq, hb3⟩
            have HQ : Hid (Fl.canon q = Fl.canon (sqAt ds (ls.getD (blAt ls ds 1) (0, 0)))) := Lib.hid (by rw [blAt_one, S0.out]; exact hq)
            have hB3 := below_call hB hb3
            clear hq c0 c1 q0
            go_upto_region 15 with (fail)
            go_loopw [10, 8, 9] (fun i v u wr => ∃ k q : Nat, 1 ≤ k ∧ k ≤ ls.length ∧ i = .int .i64 k ∧ v = .int .i64 (blAt ls ds k) ∧ u = .float .f32 q ∧ Fl.canon q = Fl.canon (sqAt ds (ls.getD (blAt ls ds k) (0, 0))) ∧ Below w2.heap.size w2 wr) (fun i _ _ _ => ls.length - (intOf i).toNat)
            case atStart => exact ⟨1, q, Nat.le_refl _, h0, rfl, by rw [blAt_one]; rfl, rfl, HQ.out, hB3⟩
            case round =>
              clear hB hsz lb hb3 hB3 HQ
              obtain ⟨k, q, hk1, hk, rfl, rfl, rfl, hq, hB⟩ := hrel
              have HQ := Lib.hid hq
              have hsz := hB.size
              clear hq
              by_cases hlt2 : k < ls.length
              · obtain ⟨c0, c1⟩ := HL.out.below hB hb k hlt2
                have HS := Lib.hid (blAt_succ ls ds k)
                have S0 : Hid (sqAt ds (ls.getD k (0, 0)) = sqL (restL (ls.getD k (0, 0)).1 (ls.getD k (0, 0)).2 ds)) := rfl
                generalize (ls.getD k (0, 0)).1 = s at c0 S0
                generalize (ls.getD k (0, 0)).2 = t at c1 S0
                have lb : b < wr.heap.size := by omega
                go_wp2_with fail
                refine (l06Squares_calls s t b' o' _ ds _ (HD.out.below hB hb') (by omega) hd).mono ?_
                rintro e w3 ⟨y, rfl, hy, hb3⟩
                have HY : Hid (Fl.canon y = Fl.canon (sqAt ds (ls.getD k (0, 0)))) := Lib.hid (by rw [S0.out]; exact hy)
                have hB3 := below_call hB hb3
                have HLT : Hid (Fl.lt (sqAt ds (ls.getD k (0, 0))) (sqAt ds (ls.getD (blAt ls ds k) (0, 0))) = Fl.lt y q) := Lib.hid (by rw [← Fl.lt_canon y q, HY.out, HQ.out, Fl.lt_canon])
                clear hy c0 c1
                cases hc : Fl.lt y q
                · have HB1 := Lib.hid (show blAt ls ds (k + 1) = blAt ls ds k by rw [HS.out, HLT.out, hc]; rfl)
                  go_wp2_with fail
                  go_roundw
                  case rel => exact ⟨k + 1, q, by omega, by omega, by go_num, by rw [HB1.out], rfl, by rw [HB1.out]; exact HQ.out, hB3⟩
                  case measure => simp [intOf]; omega
                · have HB1 := Lib.hid (show blAt ls ds (k + 1) = k by rw [HS.out, HLT.out, hc]; rfl)
                  go_wp2_with fail
                  go_roundw
                  case rel => exact ⟨k + 1, y, by omega, by omega, by go_num, by rw [HB1.out], rfl, by rw [HB1.out]; exact HY.out, hB3⟩
                  case measure => simp [intOf]; omega
              · obtain rfl : k = ls.length := by omega
                go_wp2_with fail
                go_ret3
                exact ⟨q, by rw [EI.out, HC.out, HG.out]; rfl, by rw [EX.out, HG.out]; exact HQ.out, hB⟩
          · have HG := Lib.hid (show blGo ls ds = false by rw [EG.out, HO.out, decide_eq_true h6, decide_eq_false h0]; rfl)
            have HC := Lib.hid (show blC ls ds = 6 by rw [EC.out, HO.out, decide_eq_true h6, decide_eq_false h0]; rfl)
            have g6 : ((ls.length : Nat) : Int) ≤ 6 := by omega
            have q0 : (((ls.length : Nat) : Int) == 0) = true := by rw [beq_iff_eq]; omega
            go_wp2_with fail
            go_ret3
            exact ⟨0, by rw [EI.out, HC.out, HG.out]; rfl, by rw [EX.out, HG.out]; rfl, hB⟩
        · have HG := Lib.hid (show blGo ls ds = false by rw [EG.out, HO.out, decide_eq_false h6]; rfl)
          have HC := Lib.hid (show blC ls ds = 3 by rw [EC.out, HO.out, decide_eq_false h6]; rfl)
          have g6 : (6 : Int) < ((ls.length : Nat) : Int) := by omega
          go_wp2_with fail
          go_ret3
          exact ⟨0, by rw [EI.out, HC.out, HG.out]; rfl, by rw [EX.out, HG.out]; rfl, hB⟩

set_option maxHeartbeats 2000000 in
theorem implBestLine_calls (b o cap b' o' cap' : Nat) (ls ds : List (Nat × Nat)) (w : World) (hL : HoldsD w b o ls) (hb : b < w.heap.size) (hD : HoldsD w b' o' ds) (hb' : b' < w.heap.size) (hl : ls.length ≤ 1048576) (hd : ds.length ≤ 1048576) :
    Calls Try.prog 38 #[.slice (some ⟨b, o, none⟩) ls.length cap, .slice (some ⟨b', o', none⟩) ds.length cap'] w (RetINC (blI ls ds) (blX ls ds) (blC ls ds) w) := by
  have HL := Lib.hid hL
  have HD := Lib.hid hD
  have hm : ds.length ≤ maxLen := by unfold maxLen; omega
  have hm2 : ls.length ≤ maxLen := by unfold maxLen; omega
  have EI : Hid (blI ls ds = sel (blGo ls ds) (blAt ls ds ls.length : Int) 0) := rfl
  have EX : Hid (blX ls ds = sel (blGo ls ds) (sqAt ds (ls.getD (blAt ls ds ls.length) (0, 0))) 0) := rfl
  have EC : Hid (blC ls ds = sel (blOk ls ds) (sel (decide (ls.length ≤ 6)) (sel (decide (0 < ls.length)) 0 6) 3) 1) := rfl
  have EG : Hid (blGo ls ds = (blOk ls ds && (decide (ls.length ≤ 6) && decide (0 < ls.length)))) := rfl
  have EO : Hid (blOk ls ds = (vDots ds && ls.all fun l => vLine l.1 l.2)) := rfl
  have EA : Hid (ls.any (fun d => !vLine d.1 d.2) = !(ls.all fun l => vLine l.1 l.2)) := Lib.hid (by rw [List.all_eq_not_any_not, Bool.not_not])
  clear hL hD
  go_enter Try.func38, Try.ntmps38
  go_wp2_with fail
  refine (implValidDots_calls b' o' _ ds _ HD.out hb' hm).mono ?_
  rintro e w2 ⟨rfl, hB2⟩
  cases h1 : vDots ds
  · have HO := Lib.hid (show blOk ls ds = false by rw [EO.out, h1]; rfl)
    clear h1
    go_wp2_with fail
    go_ret3
    exact ⟨0, by rw [EI.out, EC.out, EG.out, HO.out]; rfl, by rw [EX.out, EG.out, HO.out]; rfl, hB2⟩
  · have H1 := Lib.hid h1
    clear h1
    go_wp2_with fail
    refine (containsFuncL_calls _ _ _ b o _ ls _ (HL.out.below hB2 hb) (by have := hB2.size; omega) hm2 (bestLine1_tests _)).mono ?_
    rw [EA.out]
    rintro e w3 ⟨rfl, hb3⟩
    have hB := below_call hB2 hb3
    have hsz := hB.size
    cases ha : (ls.all fun l => vLine l.1 l.2)
    · have HO := Lib.hid (show blOk ls ds = false by rw [EO.out, ha, Bool.and_false])
      clear ha
      go_wp2_with fail
      go_ret3
      exact ⟨0, by rw [EI.out, EC.out, EG.out, HO.out]; rfl, by rw [EX.out, EG.out, HO.out]; rfl, hB⟩
    · have HO := Lib.hid (show blOk ls ds = true by rw [EO.out, H1.out, ha]; rfl)
      clear ha
      by_cases h6 : ls.length ≤ 6
      · by_cases h0 : 0 < ls.length
        · have HG := Lib.hid (show blGo ls ds = true by rw [EG.out, HO.out, decide_eq_true h6, decide_eq_true h0]; rfl)
          have HC := Lib.hid (show blC ls ds = 0 by rw [EC.out, HO.out, decide_eq_true h6, decide_eq_true h0]; rfl)
          have g6 : ((ls.length : Nat) : Int) ≤ 6 := by omega
          have q0 : (((ls.length : Nat) : Int) == 0) = false := by rw [beq_eq_false_iff_ne]; omega
          go_upto_region 9 with (fail)
          go_loopw [28, 7] (fun i v wr => ∃ k : Nat, k ≤ ls.length ∧ i = .int .i64 k ∧ v = .int .i64 (blAt ls ds k) ∧ Below w.heap.size w wr) (fun i _ _ => ls.length - (intOf i).toNat)
          case atStart => exact ⟨0, Nat.zero_le _, rfl, rfl, hB⟩
          case round =>
            clear hB hsz hb3 hB2
            obtain ⟨k, hk, rfl, rfl, hB⟩ := hrel
            have hsz := hB.size
            have lb : b < wr.heap.size := by omega
            by_cases hlt2 : k < ls.length
            · have hbk : blAt ls ds k < ls.length := by
                rcases Nat.eq_zero_or_pos k with rfl | h
                · exact h0
                · exact Nat.lt_trans (blAt_lt ls ds k h) hlt2
              obtain ⟨c0, c1⟩ := HL.out.below hB hb k hlt2
              obtain ⟨d0, d1⟩ := HL.out.below hB hb (blAt ls ds k) hbk
              have HS := Lib.hid (blAt_succ ls ds k)
              have S0 : Hid (sqAt ds (ls.getD k (0, 0)) = sqL (restL (ls.getD k (0, 0)).1 (ls.getD k (0, 0)).2 ds)) := rfl
              have S1 : Hid (sqAt ds (ls.getD (blAt ls ds k) (0, 0)) = sqL (restL (ls.getD (blAt ls ds k) (0, 0)).1 (ls.getD (blAt ls ds k) (0, 0)).2 ds)) := rfl
              generalize (ls.getD k (0, 0)).1 = s at c0 S0
              generalize (ls.getD k (0, 0)).2 = t at c1 S0
              generalize (ls.getD (blAt ls ds k) (0, 0)).1 = s' at d0 S1
              generalize (ls.getD (blAt ls ds k) (0, 0)).2 = t' at d1 S1
              obtain ⟨m, hm⟩ : ∃ m, m = blAt ls ds k := ⟨_, rfl⟩
              have HM := Lib.hid hm
              rw [← hm] at hbk d0 d1 ⊢
              clear hm
              go_upto_region 11 with (fail)
              generalize hwq : wr.alloc _ = wq
              have hBq : Below wr.heap.size wr wq := hwq ▸ below_a1 wr _
              have e0 : wq.cell? ⟨wr.heap.size, 0, none⟩ = some (.float .f32 s) := by rw [← hwq]; simp [go_sem]
              have e1 : wq.cell? ⟨wr.heap.size, 1, none⟩ = some (.float .f32 t) := by rw [← hwq]; simp [go_sem]
              have f0 := (hBq.cell (p := ⟨b, o + m * 2, none⟩) lb).trans d0
              have f1 := (hBq.cell (p := ⟨b, o + m * 2 + 1, none⟩) lb).trans d1
              have zq : wq.heap.size = wr.heap.size + 1 := by rw [← hwq]; simp
              have lq : wr.heap.size < wq.heap.size := by omega
              have lq' : b < wq.heap.size := by omega
              have hBB := hB.trans (hBq.mono hsz)
              have HDq := Lib.hid (HD.out.below hBB hb')
              have lb' : b' < wq.heap.size := by omega
              clear hwq c0 c1 d0 d1 zq
              go_wp2_with fail
              (refine Rg.region_tail 9 (fun w' => Below (wq).heap.size wq w') (fun _ args v => ∃ u, v = .float .f32 u ∧ (∀ a c, args.getD 0 undef = .agg #[.float .f32 a, .float .f32 c] → Fl.canon u = Fl.canon (sqL (restL a c ds)))) (by kernel_rfl) (by kernel_rfl) (by exact (Below.refl (wq).heap.size wq).drew) ?_; simp only [List.take_succ_cons, List.take_zero, List.drop_succ_cons, List.drop_zero])
              (repeat (first | ((with_reducible refine Rg.walk_plain rfl (fun Kz hKz wz hwz => ?_)); (have hclz : ∀ bb oo, bb < (wq).heap.size → wz.cell? ⟨bb, oo, none⟩ = (wq).cell? ⟨bb, oo, none⟩ := fun bb oo h => hwz.cell (p := ⟨bb, oo, none⟩) h); go_simp; refine hKz _ ?_; clear hKz hwz hclz Kz wz) | ((with_reducible refine Rg.walk_on ?_ (fun Kz hKz wz hwz => ?_)); (next => (go_simp; done)); (have hclz : ∀ bb oo, bb < (wq).heap.size → wz.cell? ⟨bb, oo, none⟩ = (wq).cell? ⟨bb, oo, none⟩ := fun bb oo h => hwz.cell (p := ⟨bb, oo, none⟩) h); go_simp; refine hKz _ ?_; clear hKz hwz hclz Kz wz) | ((with_reducible refine Rg.walk_step (fun Kz hKz => ?_)); go_simp; refine hKz _ ?_; clear hKz Kz)))
              refine Rg.walk_calls rfl 68 #[.agg #[.float .f32 s, .float .f32 t], .slice (some ⟨b', o', none⟩) ds.length cap'] (fun W hW => ⟨by go_simp, (squares_calls s t b' o' cap' ds W (HDq.out.below hW lb') (by have := hW.size; omega) hd).mono fun e w2 ⟨v, he, hc, hb2⟩ => ⟨_, he, ⟨v, rfl, fun a c h => by simp at h; obtain ⟨rfl, rfl⟩ := h; exact hc⟩, below_call hW hb2⟩⟩) (fun u hu => ?_)
              obtain ⟨x, rfl, hx⟩ := hu
              have HX := Lib.hid (hx s t rfl)
              clear hx
              (repeat (first | ((with_reducible refine Rg.walk_plain rfl (fun Kz hKz wz hwz => ?_)); (have hclz : ∀ bb oo, bb < (wq).heap.size → wz.cell? ⟨bb, oo, none⟩ = (wq).cell? ⟨bb, oo, none⟩ := fun bb oo h => hwz.cell (p := ⟨bb, oo, none⟩) h); go_simp; refine hKz _ ?_; clear hKz hwz hclz Kz wz) | ((with_reducible refine Rg.walk_on ?_ (fun Kz hKz wz hwz => ?_)); (next => (go_simp; done)); (have hclz : ∀ bb oo, bb < (wq).heap.size → wz.cell? ⟨bb, oo, none⟩ = (wq).cell? ⟨bb, oo, none⟩ := fun bb oo h => hwz.cell (p := ⟨bb, oo, none⟩) h); go_simp; refine hKz _ ?_; clear hKz hwz hclz Kz wz) | ((with_reducible refine Rg.walk_step (fun Kz hKz => ?_)); go_simp; refine hKz _ ?_; clear hKz Kz)))
              refine Rg.walk_calls rfl 68 #[.agg #[.float .f32 s', .float .f32 t'], .slice (some ⟨b', o', none⟩) ds.length cap'] (fun W hW => ⟨by go_simp, (squares_calls s' t' b' o' cap' ds W (HDq.out.below hW lb') (by have := hW.size; omega) hd).mono fun e w2 ⟨v, he, hc, hb2⟩ => ⟨_, he, ⟨v, rfl, fun a c h => by simp at h; obtain ⟨rfl, rfl⟩ := h; exact hc⟩, below_call hW hb2⟩⟩) (fun u hu => ?_)
              obtain ⟨y, rfl, hy⟩ := hu
              have HY := Lib.hid (hy s' t' rfl)
              clear hy
              refine Rg.walk_nil ?_
              intro w5 hw5
              have hB5 := below_call hBB hw5
              have HLT : Hid (Fl.lt (sqAt ds (ls.getD k (0, 0))) (sqAt ds (ls.getD (blAt ls ds k) (0, 0))) = Fl.lt x y) := Lib.hid (by rw [← Fl.lt_canon x y, HX.out, HY.out, Fl.lt_canon, S0.out, S1.out])
              clear e0 e1 f0 f1
              cases hc : Fl.lt x y
              · have HB1 := Lib.hid (show blAt ls ds (k + 1) = m by rw [HS.out, HLT.out, hc, HM.out]; rfl)
                go_wp2_with fail
                go_roundw
                case rel => exact ⟨k + 1, by omega, by go_num, by rw [HB1.out], hB5⟩
                case measure => simp [intOf]; omega
              · have HB1 := Lib.hid (show blAt ls ds (k + 1) = k by rw [HS.out, HLT.out, hc]; rfl)
                go_wp2_with fail
                go_roundw
                case rel => exact ⟨k + 1, by omega, by go_num, by rw [HB1.out], hB5⟩
                case measure => simp [intOf]; omega
            · obtain rfl : k = ls.length := by omega
              have hbk : blAt ls ds ls.length < ls.length := blAt_lt ls ds _ h0
              obtain ⟨d0, d1⟩ := HL.out.below hB hb (blAt ls ds ls.length) hbk
              have S1 : Hid (sqAt ds (ls.getD (blAt ls ds ls.length) (0, 0)) = sqL (restL (ls.getD (blAt ls ds ls.length) (0, 0)).1 (ls.getD (blAt ls ds ls.length) (0, 0)).2 ds)) := rfl
              generalize (ls.getD (blAt ls ds ls.length) (0, 0)).1 = s' at d0 S1
              generalize (ls.getD (blAt ls ds ls.length) (0, 0)).2 = t' at d1 S1
              obtain ⟨m, hm⟩ : ∃ m, m = blAt ls ds ls.length := ⟨_, rfl⟩
              have HM := Lib.hid hm
              rw [← hm] at hbk d0 d1 ⊢
              clear hm
              go_wp2_with fail
              refine (squares_calls s' t' b' o' _ ds _ (HD.out.below hB hb') (by omega) hd).mono ?_
              rintro e w5 ⟨y, rfl, hy, hb5⟩
              have HY := Lib.hid hy
              clear hy d0 d1
              go_wp2_with fail
              go_ret3
              exact ⟨y, by rw [EI.out, HC.out, HG.out, HM.out]; rfl, by rw [EX.out, HG.out, sel_t, S1.out]; exact HY.out, below_call hB hb5⟩
        · have HG := Lib.hid (show blGo ls ds = false by rw [EG.out, HO.out, decide_eq_true h6, decide_eq_false h0]; rfl)
          have HC := Lib.hid (show blC ls ds = 6 by rw [EC.out, HO.out, decide_eq_true h6, decide_eq_false h0]; rfl)
          have g6 : ((ls.length : Nat) : Int) ≤ 6 := by omega
          have q0 : (((ls.length : Nat) : Int) == 0) = true := by rw [beq_iff_eq]; omega
          go_wp2_with fail
          go_ret3
          exact ⟨0, by rw [EI.out, HC.out, HG.out]; rfl, by rw [EX.out, HG.out]; rfl, hB⟩
      · have HG := Lib.hid (show blGo ls ds = false by rw [EG.out, HO.out, decide_eq_false h6]; rfl)
        have HC := Lib.hid (show blC ls ds = 3 by rw [EC.out, HO.out, decide_eq_false h6]; rfl)
        have g6 : (6 : Int) < ((ls.length : Nat) : Int) := by omega
        go_wp2_with fail
        go_ret3
        exact ⟨0, by rw [EI.out, HC.out, HG.out]; rfl, by rw [EX.out, HG.out]; rfl, hB⟩

set_option maxHeartbeats 2000000 in
theorem fnExactBestLine_walk (ls : List (Nat × Nat)) (al : Option Addr) (capl : Nat) (ds : List (Nat × Nat)) (ad : Option Addr) (cap : Nat) (w : World) (hdl : SlD w al ls) (hll : ls.length ≤ maxLen) (hd : SlD w ad ds) (hl : ds.length ≤ maxLen) :
    Calls Try.prog 9 #[.slice al ls.length capl, .slice ad ds.length cap] w (RetBool true w) := by
  have hl' := hl
  have hll' := hll
  unfold maxLen at hl' hll'
  have HD := Lib.hid hd
  have HDL := Lib.hid hdl
  have HL := Lib.hid hl
  have HLL := Lib.hid hll
  clear hd hl hdl hll
  go_enter Try.func9, Try.ntmps9
  go_wp2_with fail
  refine (szLineS_calls _ _ _ _ _ (by omega) (by omega) (by omega)).mono ?_
  rintro e w1 ⟨rfl, rfl⟩
  by_cases h19 : 1048576 - (ls.length : Int) < 0
  · rw [if_pos h19]
    go_wp2_with fail
    go_ret
    exact ⟨rfl, Below.refl _ _⟩
  · rw [if_neg h19]
    go_wp2_with fail
    refine (szDotS_calls _ _ _ _ _ (by omega) (by omega) (by omega)).mono ?_
    rintro e w2 ⟨rfl, rfl⟩
    by_cases h20 : 1048576 - (ls.length : Int) - (ds.length : Int) < 0
    · rw [if_pos h20]
      go_wp2_with fail
      go_ret
      exact ⟨rfl, Below.refl _ _⟩
    · rw [if_neg h20]
      have hn : ds.length ≤ 1048576 := by omega
      have hnl : ls.length ≤ 1048576 := by omega
      go_wp2_with fail
      refine (toLineS_calls al capl ls _ HDL.out hnl).mono ?_
      rintro e w3 ⟨g3, rfl, hg3, hblk3, hb3⟩
      have HB3 := Lib.hid hblk3
      clear hblk3
      go_wp2_with fail
      refine (toDotS_calls ad cap ds _ (HD.out.below hb3) hn).mono ?_
      rintro e w4 ⟨g4, rfl, hg4, hblk4, hb4⟩
      have HB4 := Lib.hid hblk4
      have HB34 := Lib.hid (HB3.out.below hb4 HB3.out.lt)
      have hB4 := below_call hb3 hb4
      clear hblk4
      go_wp2_with fail
      refine (specBestLine_calls g3 0 _ g4 0 _ ls ds _ (holds_blk HB34.out) HB34.out.lt (holds_blk HB4.out) HB4.out.lt hnl hn).mono ?_
      rintro e w5 ⟨v, rfl, hv, hb5⟩
      have HV := Lib.hid hv
      have hB5 := below_call hB4 hb5
      clear hv hb3 hb4 hb5 hg3 hg4 HB3 HB4 HB34
      go_wp2_with fail
      refine (toLineS_calls al capl ls _ (HDL.out.below hB5) hnl).mono ?_
      rintro e w6 ⟨g6, rfl, hg6, hblk6, hb6⟩
      have HB6 := Lib.hid hblk6
      have hB6 := below_call hB5 hb6
      clear hblk6
      go_wp2_with fail
      refine (toDotS_calls ad cap ds _ (HD.out.below hB6) hn).mono ?_
      rintro e w7 ⟨g7, rfl, hg7, hblk7, hb7⟩
      have HB7 := Lib.hid hblk7
      have HB67 := Lib.hid (HB6.out.below hb7 HB6.out.lt)
      have hB7 := below_call hB6 hb7
      clear hblk7
      go_wp2_with fail
      refine (implBestLine_calls g6 0 _ g7 0 _ ls ds _ (holds_blk HB67.out) HB67.out.lt (holds_blk HB7.out) HB7.out.lt hnl hn).mono ?_
      rintro e w8 ⟨u, rfl, hu, hb8⟩
      have HU := Lib.hid hu
      have hB8 := below_call hB7 hb8
      have HL8 := Lib.hid (HB67.out.below hb8 HB67.out.lt)
      have HD8 := Lib.hid (HB7.out.below hb8 HB7.out.lt)
      clear hu hb6 hb7 hb8 hg6 hg7 HB6 HB7 HB67
      go_wp2_with fail
      refine (sameFloat_calls _ _ _ (Fl.same_conv (HU.out.trans HV.out.symm) _ _)).mono ?_
      rintro e w9 ⟨rfl, rfl⟩
      go_wp2_with fail
      refine (toLineS_calls al capl ls _ (HDL.out.below (below_n hB8 _)) hnl).mono ?_
      rintro e w10 ⟨g10, rfl, hg10, hblk10, hb10⟩
      have HB10 := Lib.hid hblk10
      have hB10 := below_call (below_n hB8 _) hb10
      have HL10 := Lib.hid ((HL8.out.drewN _).below hb10 (HL8.out.drewN _).lt)
      have HD10 := Lib.hid ((HD8.out.drewN _).below hb10 (HD8.out.drewN _).lt)
      clear hblk10
      go_wp2_with fail
      refine (eqLineS_calls _ _ _ _ ls ls _ (.inr ⟨g6, 0, rfl, HL10.out.lt, holds_blk HL10.out⟩) (.inr ⟨g10, 0, rfl, HB10.out.lt, holds_blk HB10.out⟩) (sameP_refl ls) HLL.out).mono ?_
      rintro e w11 ⟨rfl, hb11⟩
      have hB11 := below_call hB10 hb11
      have HD11 := Lib.hid (HD10.out.below hb11 HD10.out.lt)
      go_wp2_with fail
      refine (toDotS_calls ad cap ds _ (HD.out.below hB11) hn).mono ?_
      rintro e w12 ⟨g12, rfl, hg12, hblk12, hb12⟩
      have HB12 := Lib.hid hblk12
      have hB12 := below_call hB11 hb12
      have HD12 := Lib.hid (HD11.out.below hb12 HD11.out.lt)
      clear hblk12
      go_wp2_with fail
      refine (eqDotS_calls _ _ _ _ ds ds _ (.inr ⟨g7, 0, rfl, HD12.out.lt, holds_blk HD12.out⟩) (.inr ⟨g12, 0, rfl, HB12.out.lt, holds_blk HB12.out⟩) (sameP_refl ds) HL.out).mono ?_
      rintro e w13 ⟨rfl, hb13⟩
      go_wp2_with fail
      all_goals go_ret
      all_goals exact ⟨rfl, below_call hB12 hb13⟩
end Go.Proofs.Ytcihbcmdmgmonaa
