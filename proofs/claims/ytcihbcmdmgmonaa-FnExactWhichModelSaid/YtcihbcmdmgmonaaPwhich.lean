/-
  The model whose fit has the least sum of squares: what both programs answer, and the law's walk.
-/
import Derived.Test.YtcihbcmdmgmonaaPmodel
import Derived.Test.YtcihbcmdmgmonaaPsquareSum
namespace Go.Proofs.Ytcihbcmdmgmonaa
open Go.RowKit

theorem restL_same {s t s' t' : Nat} (h : Fl.canon s = Fl.canon s') (h' : Fl.canon t = Fl.canon t') (ds : List (Nat × Nat)) : restL s t ds = restL s' t' ds := by
  have e : ∀ x, lineAt s t x = lineAt s' t' x := fun x => by
    unfold lineAt
    have e1 : Fl.mul s x = Fl.mul s' x := by rw [← Fl.mul_canon s x, h, Fl.mul_canon]
    rw [e1, ← Fl.add_canon _ t, h', Fl.add_canon]
  unfold restL
  simp only [e]
/-- The sum of squares of model k's fit. -/
def wmSq (ds : List (Nat × Nat)) (k : Nat) : Nat := sqL (restL (mdS ds k) (mdB ds k) ds)
/-- The best model among the first k, and its sum. -/
def wmN (ds : List (Nat × Nat)) : Nat → Int × Nat
  | 0 => (-1, 0)
  | k + 1 => sel (decide (mdC ds k = 0) && (decide ((wmN ds k).1 < 0) || Fl.lt (wmSq ds k) (wmN ds k).2)) ((k : Int), wmSq ds k) (wmN ds k)
theorem wmN_succ (ds : List (Nat × Nat)) (k : Nat) : wmN ds (k + 1) = sel (decide (mdC ds k = 0) && (decide ((wmN ds k).1 < 0) || Fl.lt (wmSq ds k) (wmN ds k).2)) ((k : Int), wmSq ds k) (wmN ds k) := rfl
theorem wmN_range (ds : List (Nat × Nat)) : ∀ k, -1 ≤ (wmN ds k).1 ∧ (wmN ds k).1 ≤ k
  | 0 => ⟨by show (-1 : Int) ≤ -1; decide, by show (-1 : Int) ≤ ((0 : Nat) : Int); decide⟩
  | k + 1 => by
    rw [wmN_succ]
    have := wmN_range ds k
    cases (decide (mdC ds k = 0) && (decide ((wmN ds k).1 < 0) || Fl.lt (wmSq ds k) (wmN ds k).2))
    · rw [sel_f]; omega
    · rw [sel_t]; show -1 ≤ (k : Int) ∧ (k : Int) ≤ _; omega
def wmOk (ds : List (Nat × Nat)) : Bool := vDots ds && !decide ((wmN ds 3).1 < 0)
def wmI (ds : List (Nat × Nat)) : Int := sel (wmOk ds) (wmN ds 3).1 0
def wmX (ds : List (Nat × Nat)) : Nat := sel (wmOk ds) (wmN ds 3).2 0
def wmC (ds : List (Nat × Nat)) : Int := sel (vDots ds) (sel (decide ((wmN ds 3).1 < 0)) 6 0) 1
def RetIXC (i : Int) (x : Nat) (c : Int) (W : World) (e : Ending) (W' : World) : Prop := ∃ v, e = .returned (.tuple #[.int .i64 i, .float .f32 v, .int .i64 c]) ∧ Fl.canon v = Fl.canon x ∧ Below W.heap.size W W'

set_option maxHeartbeats 2000000 in
theorem specWhichModel_calls (b o cap : Nat) (ds : List (Nat × Nat)) (w : World) (hd : HoldsD w b o ds) (hb : b < w.heap.size) (hl : ds.length ≤ 1048576) :
    Calls Try.prog 40 #[.slice (some ⟨b, o, none⟩) ds.length cap] w (RetIXC (wmI ds) (wmX ds) (wmC ds) w) := by
  have HD := Lib.hid hd
  have hm : ds.length ≤ maxLen := by unfold maxLen; omega
  have EI : Hid (wmI ds = sel (wmOk ds) (wmN ds 3).1 0) := rfl
  have EX : Hid (wmX ds = sel (wmOk ds) (wmN ds 3).2 0) := rfl
  have EC : Hid (wmC ds = sel (vDots ds) (sel (decide ((wmN ds 3).1 < 0)) 6 0) 1) := rfl
  have EO : Hid (wmOk ds = (vDots ds && !decide ((wmN ds 3).1 < 0))) := rfl
  clear hd
  go_enter Try.func40, Try.ntmps40
  go_wp2_with fail
  refine (l06Ok_calls b o _ ds _ HD.out hb hm).mono ?_
  rintro e w0 ⟨rfl, rfl⟩
  have hB2 : Below w0.heap.size w0 w0 := Below.refl _ _
  have hb' := hb
  cases h1 : vDots ds
  · have HO := Lib.hid (show wmOk ds = false by rw [EO.out, h1]; rfl)
    have H1 := Lib.hid h1
    clear h1
    go_wp2_with fail
    go_ret3
    exact ⟨0, by rw [EI.out, EC.out, HO.out, H1.out]; rfl, by rw [EX.out, HO.out]; rfl, hB2⟩
  · have H1 := Lib.hid h1
    clear h1
    go_upto_region 6 with (fail)
    go_loopw [7, 5, 6] (fun i v u wr => ∃ k q : Nat, k ≤ 3 ∧ i = .int .i64 k ∧ v = .int .i64 (wmN ds k).1 ∧ u = .float .f32 q ∧ Fl.canon q = Fl.canon (wmN ds k).2 ∧ Below w0.heap.size w0 wr) (fun i _ _ _ => 3 - (intOf i).toNat)
    case atStart => exact ⟨0, 0, Nat.zero_le _, rfl, rfl, rfl, rfl, hB2⟩
    case round =>
      clear hB2
      obtain ⟨k, q, hk, rfl, rfl, rfl, hq, hB⟩ := hrel
      have HQ := Lib.hid hq
      have hsz := hB.size
      clear hq
      by_cases hlt : k < 3
      · have hle : ((k : Nat) : Int) ≤ 2 := by omega
        have HS := Lib.hid (wmN_succ ds k)
        have HR := Lib.hid (wmN_range ds k)
        go_wp2_with fail
        refine (l06Model_calls b o _ ds (k : Int) _ (HD.out.below hB hb') (by omega) hl).mono ?_
        rintro e w3 ⟨u, v, rfl, hu, hv, hb3⟩
        have HSQ : Hid (wmSq ds k = sqL (restL u v ds)) := Lib.hid (by unfold wmSq; rw [restL_same hu hv])
        have hB3 := below_call hB hb3
        clear hu hv hb3
        obtain ⟨cd, hcd⟩ : ∃ cd, cd = mdC ds (k : Int) := ⟨_, rfl⟩
        have HCD := Lib.hid hcd
        rw [← hcd]
        clear hcd
        by_cases h0 : cd = 0
        · have HD0 := Lib.hid (show decide (mdC ds (k : Int) = 0) = true from decide_eq_true (HCD.out ▸ h0))
          have hz : (cd == 0) = true := by rw [beq_iff_eq]; exact h0
          go_upto_region 10 with (fail)
          generalize hw4 : World.alloc _ _ = w4
          have hB4 : Below w0.heap.size w0 w4 := hw4 ▸ hB3.alloc (by have := hB3.size; omega) _
          have hb4 : Mem.Blk w4 w3.heap.size (l2 u v) 29 := hw4 ▸ Mem.Blk.new w3 (l2 u v) _
          have e0 : w4.cell? ⟨w3.heap.size, 0, none⟩ = some (.float .f32 u) := hb4.cell 0
          have e1 : w4.cell? ⟨w3.heap.size, 1, none⟩ = some (.float .f32 v) := hb4.cell 1
          have l4 : w3.heap.size < w4.heap.size := hb4.lt
          clear hw4 hb4
          go_wp2_with fail
          refine (l06Squares_calls u v b o _ ds _ (HD.out.below hB4 hb') (by have := hB4.size; omega) hl).mono ?_
          rintro e w5 ⟨y, rfl, hy, hb5⟩
          have HY : Hid (Fl.canon y = Fl.canon (wmSq ds k)) := Lib.hid (by rw [HSQ.out]; exact hy)
          have hB5 := below_call hB4 hb5
          have HLT : Hid (Fl.lt (wmSq ds k) (wmN ds k).2 = Fl.lt y q) := Lib.hid (by rw [← Fl.lt_canon y q, HY.out, HQ.out, Fl.lt_canon])
          clear hy e0 e1 hb5
          obtain ⟨bs, hbs⟩ : ∃ bs, bs = (wmN ds k).1 := ⟨_, rfl⟩
          have HBS := Lib.hid hbs
          rw [← hbs]
          clear hbs
          by_cases hn : bs < 0
          · have HN := Lib.hid (show wmN ds (k + 1) = ((k : Int), wmSq ds k) by rw [HS.out, HD0.out, ← HBS.out, decide_eq_true hn]; rfl)
            have hn' : decide (bs < 0) = true := decide_eq_true hn
            go_wp2_with fail
            go_roundw
            case rel => exact ⟨k + 1, y, by omega, by go_num, by rw [HN.out], rfl, by rw [HN.out]; exact HY.out, hB5⟩
            case measure => simp [intOf]; omega
          · have hn' : decide (bs < 0) = false := decide_eq_false hn
            cases hc : Fl.lt y q
            · have HN := Lib.hid (show wmN ds (k + 1) = wmN ds k by rw [HS.out, HD0.out, ← HBS.out, hn', HLT.out, hc]; rfl)
              go_wp2_with fail
              go_roundw
              case rel => exact ⟨k + 1, q, by omega, by go_num, by rw [HN.out, ← HBS.out], rfl, by rw [HN.out]; exact HQ.out, hB5⟩
              case measure => simp [intOf]; omega
            · have HN := Lib.hid (show wmN ds (k + 1) = ((k : Int), wmSq ds k) by rw [HS.out, HD0.out, ← HBS.out, hn', HLT.out, hc]; rfl)
              go_wp2_with fail
              go_roundw
              case rel => exact ⟨k + 1, y, by omega, by go_num, by rw [HN.out], rfl, by rw [HN.out]; exact HY.out, hB5⟩
              case measure => simp [intOf]; omega
        · have HD0 := Lib.hid (show decide (mdC ds (k : Int) = 0) = false from decide_eq_false (HCD.out ▸ h0))
          have hz : (cd == 0) = false := by rw [beq_eq_false_iff_ne]; exact h0
          have HN := Lib.hid (show wmN ds (k + 1) = wmN ds k by rw [HS.out, HD0.out]; rfl)
          have hB4 : Below w0.heap.size w0 (w3.alloc (.cells (l2 u v).toArray 29)) := hB3.alloc (by have := hB3.size; omega) _
          go_wp2_with fail
          go_roundw
          case rel => exact ⟨k + 1, q, by omega, by go_num, by rw [HN.out], rfl, by rw [HN.out]; exact HQ.out, hB4⟩
          case measure => simp [intOf]; omega
      · obtain rfl : k = 3 := by omega
        obtain ⟨bs, hbs⟩ : ∃ bs, bs = (wmN ds 3).1 := ⟨_, rfl⟩
        have HBS := Lib.hid hbs
        rw [← hbs]
        clear hbs
        by_cases hn : bs < 0
        · have hn' : decide (bs < 0) = true := decide_eq_true hn
          have HO := Lib.hid (show wmOk ds = false by rw [EO.out, ← HBS.out, hn', H1.out]; rfl)
          have HC := Lib.hid (show wmC ds = 6 by rw [EC.out, ← HBS.out, hn', H1.out]; rfl)
          go_wp2_with fail
          go_ret3
          exact ⟨0, by rw [EI.out, HC.out, HO.out]; rfl, by rw [EX.out, HO.out]; rfl, hB⟩
        · have hn' : decide (bs < 0) = false := decide_eq_false hn
          have HO := Lib.hid (show wmOk ds = true by rw [EO.out, ← HBS.out, hn', H1.out]; rfl)
          have HC := Lib.hid (show wmC ds = 0 by rw [EC.out, ← HBS.out, hn', H1.out]; rfl)
          go_wp2_with fail
          go_ret3
          exact ⟨q, by rw [EI.out, HC.out, HO.out, ← HBS.out]; rfl, by rw [EX.out, HO.out]; exact HQ.out, hB⟩

set_option maxHeartbeats 2000000 in
theorem implWhichModel_calls (b o cap : Nat) (ds : List (Nat × Nat)) (w : World) (hd : HoldsD w b o ds) (hb : b < w.heap.size) (hl : ds.length ≤ 1048576) :
    Calls Try.prog 41 #[.slice (some ⟨b, o, none⟩) ds.length cap] w (RetIXC (wmI ds) (wmX ds) (wmC ds) w) := by
  have HD := Lib.hid hd
  have hm : ds.length ≤ maxLen := by unfold maxLen; omega
  have EI : Hid (wmI ds = sel (wmOk ds) (wmN ds 3).1 0) := rfl
  have EX : Hid (wmX ds = sel (wmOk ds) (wmN ds 3).2 0) := rfl
  have EC : Hid (wmC ds = sel (vDots ds) (sel (decide ((wmN ds 3).1 < 0)) 6 0) 1) := rfl
  have EO : Hid (wmOk ds = (vDots ds && !decide ((wmN ds 3).1 < 0))) := rfl
  clear hd
  go_enter Try.func41, Try.ntmps41
  go_wp2_with fail
  refine (implValidDots_calls b o _ ds _ HD.out hb hm).mono ?_
  rintro e w2 ⟨rfl, hB2⟩
  have hb' := hb
  cases h1 : vDots ds
  · have HO := Lib.hid (show wmOk ds = false by rw [EO.out, h1]; rfl)
    have H1 := Lib.hid h1
    clear h1
    go_wp2_with fail
    go_ret3
    exact ⟨0, by rw [EI.out, EC.out, HO.out, H1.out]; rfl, by rw [EX.out, HO.out]; rfl, hB2⟩
  · have H1 := Lib.hid h1
    clear h1
    go_upto_region 5 with (fail)
    go_loopw [7, 5, 6] (fun i v u wr => ∃ k q : Nat, k ≤ 3 ∧ i = .int .i64 k ∧ v = .int .i64 (wmN ds k).1 ∧ u = .float .f32 q ∧ Fl.canon q = Fl.canon (wmN ds k).2 ∧ Below w.heap.size w wr) (fun i _ _ _ => 3 - (intOf i).toNat)
    case atStart => exact ⟨0, 0, Nat.zero_le _, rfl, rfl, rfl, rfl, hB2⟩
    case round =>
      clear hB2
      obtain ⟨k, q, hk, rfl, rfl, rfl, hq, hB⟩ := hrel
      have HQ := Lib.hid hq
      have hsz := hB.size
      clear hq
      by_cases hlt : k < 3
      · have hle : ((k : Nat) : Int) ≤ 2 := by omega
        have HS := Lib.hid (wmN_succ ds k)
        have HR := Lib.hid (wmN_range ds k)
        go_wp2_with fail
        refine (fitModel_calls b o _ ds (k : Int) _ (HD.out.below hB hb') (by omega) hl H1.out).mono ?_
        rintro e w3 ⟨u, v, rfl, hu, hv, hb3⟩
        have HSQ : Hid (wmSq ds k = sqL (restL u v ds)) := Lib.hid (by unfold wmSq; rw [restL_same hu hv])
        have hB3 := below_call hB hb3
        clear hu hv hb3
        obtain ⟨cd, hcd⟩ : ∃ cd, cd = mdC ds (k : Int) := ⟨_, rfl⟩
        have HCD := Lib.hid hcd
        rw [← hcd]
        clear hcd
        by_cases h0 : cd = 0
        · have HD0 := Lib.hid (show decide (mdC ds (k : Int) = 0) = true from decide_eq_true (HCD.out ▸ h0))
          have hz : (cd == 0) = true := by rw [beq_iff_eq]; exact h0
          go_upto_region 9 with (fail)
          generalize hw4 : World.alloc _ _ = w4
          have hB4 : Below w.heap.size w w4 := hw4 ▸ hB3.alloc (by have := hB3.size; omega) _
          have hb4 : Mem.Blk w4 w3.heap.size (l2 u v) 29 := hw4 ▸ Mem.Blk.new w3 (l2 u v) _
          have e0 : w4.cell? ⟨w3.heap.size, 0, none⟩ = some (.float .f32 u) := hb4.cell 0
          have e1 : w4.cell? ⟨w3.heap.size, 1, none⟩ = some (.float .f32 v) := hb4.cell 1
          have l4 : w3.heap.size < w4.heap.size := hb4.lt
          clear hw4 hb4
          go_wp2_with fail
          refine (squares_calls u v b o _ ds _ (HD.out.below hB4 hb') (by have := hB4.size; omega) hl).mono ?_
          rintro e w5 ⟨y, rfl, hy, hb5⟩
          have HY : Hid (Fl.canon y = Fl.canon (wmSq ds k)) := Lib.hid (by rw [HSQ.out]; exact hy)
          have hB5 := below_call hB4 hb5
          have HLT : Hid (Fl.lt (wmSq ds k) (wmN ds k).2 = Fl.lt y q) := Lib.hid (by rw [← Fl.lt_canon y q, HY.out, HQ.out, Fl.lt_canon])
          clear hy e0 e1 hb5
          obtain ⟨bs, hbs⟩ : ∃ bs, bs = (wmN ds k).1 := ⟨_, rfl⟩
          have HBS := Lib.hid hbs
          rw [← hbs]
          clear hbs
          by_cases hn : bs < 0
          · have HN := Lib.hid (show wmN ds (k + 1) = ((k : Int), wmSq ds k) by rw [HS.out, HD0.out, ← HBS.out, decide_eq_true hn]; rfl)
            have hn' : decide (bs < 0) = true := decide_eq_true hn
            go_wp2_with fail
            go_roundw
            case rel => exact ⟨k + 1, y, by omega, by go_num, by rw [HN.out], rfl, by rw [HN.out]; exact HY.out, hB5⟩
            case measure => simp [intOf]; omega
          · have hn' : decide (bs < 0) = false := decide_eq_false hn
            cases hc : Fl.lt y q
            · have HN := Lib.hid (show wmN ds (k + 1) = wmN ds k by rw [HS.out, HD0.out, ← HBS.out, hn', HLT.out, hc]; rfl)
              go_wp2_with fail
              go_roundw
              case rel => exact ⟨k + 1, q, by omega, by go_num, by rw [HN.out, ← HBS.out], rfl, by rw [HN.out]; exact HQ.out, hB5⟩
              case measure => simp [intOf]; omega
            · have HN := Lib.hid (show wmN ds (k + 1) = ((k : Int), wmSq ds k) by rw [HS.out, HD0.out, ← HBS.out, hn', HLT.out, hc]; rfl)
              go_wp2_with fail
              go_roundw
              case rel => exact ⟨k + 1, y, by omega, by go_num, by rw [HN.out], rfl, by rw [HN.out]; exact HY.out, hB5⟩
              case measure => simp [intOf]; omega
        · have HD0 := Lib.hid (show decide (mdC ds (k : Int) = 0) = false from decide_eq_false (HCD.out ▸ h0))
          have hz : (cd == 0) = false := by rw [beq_eq_false_iff_ne]; exact h0
          have HN := Lib.hid (show wmN ds (k + 1) = wmN ds k by rw [HS.out, HD0.out]; rfl)
          have hB4 : Below w.heap.size w (w3.alloc (.cells (l2 u v).toArray 29)) := hB3.alloc (by have := hB3.size; omega) _
          go_wp2_with fail
          go_roundw
          case rel => exact ⟨k + 1, q, by omega, by go_num, by rw [HN.out], rfl, by rw [HN.out]; exact HQ.out, hB4⟩
          case measure => simp [intOf]; omega
      · obtain rfl : k = 3 := by omega
        obtain ⟨bs, hbs⟩ : ∃ bs, bs = (wmN ds 3).1 := ⟨_, rfl⟩
        have HBS := Lib.hid hbs
        rw [← hbs]
        clear hbs
        by_cases hn : bs < 0
        · have hn' : decide (bs < 0) = true := decide_eq_true hn
          have HO := Lib.hid (show wmOk ds = false by rw [EO.out, ← HBS.out, hn', H1.out]; rfl)
          have HC := Lib.hid (show wmC ds = 6 by rw [EC.out, ← HBS.out, hn', H1.out]; rfl)
          go_wp2_with fail
          go_ret3
          exact ⟨0, by rw [EI.out, HC.out, HO.out]; rfl, by rw [EX.out, HO.out]; rfl, hB⟩
        · have hn' : decide (bs < 0) = false := decide_eq_false hn
          have HO := Lib.hid (show wmOk ds = true by rw [EO.out, ← HBS.out, hn', H1.out]; rfl)
          have HC := Lib.hid (show wmC ds = 0 by rw [EC.out, ← HBS.out, hn', H1.out]; rfl)
          go_wp2_with fail
          go_ret3
          exact ⟨q, by rw [EI.out, HC.out, HO.out, ← HBS.out]; rfl, by rw [EX.out, HO.out]; exact HQ.out, hB⟩

set_option maxHeartbeats 1000000 in
theorem fnExactWhichModel_walk (ds : List (Nat × Nat)) (ad : Option Addr) (cap : Nat) (w : World) (hd : SlD w ad ds) (hl : ds.length ≤ maxLen) :
    Calls Try.prog 10 #[.slice ad ds.length cap] w (RetBool true w) := by
  have hl' := hl
  unfold maxLen at hl'
  have HD := Lib.hid hd
  have HL := Lib.hid hl
  clear hd hl
  go_enter Try.func10, Try.ntmps10
  go_wp2_with fail
  refine (szDotS_calls _ _ _ _ _ (by omega) (by omega) (by omega)).mono ?_
  rintro e w2 ⟨rfl, rfl⟩
  have hb1 : Below w2.heap.size w2 w2 := Below.refl _ _
  by_cases h20 : 1048576 - (ds.length : Int) < 0
  · rw [if_pos h20]
    go_wp2_with fail
    go_ret
    exact ⟨rfl, hb1⟩
  · rw [if_neg h20]
    have hn : ds.length ≤ 1048576 := by omega
    go_wp2_with fail
    refine (toDotS_calls ad cap ds _ (HD.out.below hb1) hn).mono ?_
    rintro e w4 ⟨g4, rfl, hg4, hblk4, hb4⟩
    have HB4 := Lib.hid hblk4
    have hB4 := below_call hb1 hb4
    clear hblk4
    go_wp2_with fail
    refine (specWhichModel_calls g4 0 _ ds _ (holds_blk HB4.out) HB4.out.lt hn).mono ?_
    rintro e w5 ⟨v0, rfl, hv0, hb5⟩
    have HV0 := Lib.hid hv0
    have hB5 := below_call hB4 hb5
    clear hv0
    clear hb4 hb5 hB4 HB4 hg4
    go_wp2_with fail
    refine (toDotS_calls ad cap ds _ (HD.out.below hB5) hn).mono ?_
    rintro e w6 ⟨g6, rfl, hg6, hblk6, hb6⟩
    have HB6 := Lib.hid hblk6
    have hB6 := below_call hB5 hb6
    have hB7 := hB6
    have HB7 := HB6
    clear hblk6 hg6
    go_wp2_with fail
    refine (implWhichModel_calls g6 0 _ ds _ (holds_blk HB7.out) HB7.out.lt hn).mono ?_
    rintro e w8 ⟨u0, rfl, hu0, hb8⟩
    have HU0 := Lib.hid hu0
    have hB8 := below_call hB7 hb8
    have HB8 := Lib.hid (HB7.out.below hb8 HB7.out.lt)
    clear hu0
    go_wp2_with fail
    refine (sameFloat_calls _ _ _ (Fl.same_conv (HU0.out.trans HV0.out.symm) _ _)).mono ?_
    rintro e w20 ⟨rfl, rfl⟩
    go_wp2_with fail
    refine (toDotS_calls ad cap ds _ (HD.out.below (below_n hB8 _)) hn).mono ?_
    rintro e w10 ⟨g10, rfl, hg10, hblk10, hb10⟩
    have HB10 := Lib.hid hblk10
    have hB10 := below_call (below_n hB8 _) hb10
    have HB8' := Lib.hid ((HB8.out.drewN _).below hb10 (HB8.out.drewN _).lt)
    clear hblk10
    go_wp2_with fail
    refine (eqDotS_calls _ _ _ _ ds ds _ (.inr ⟨g6, 0, rfl, HB8'.out.lt, holds_blk HB8'.out⟩) (.inr ⟨g10, 0, rfl, HB10.out.lt, holds_blk HB10.out⟩) (sameP_refl ds) HL.out).mono ?_
    rintro e w11 ⟨rfl, hb11⟩
    go_wp2_with fail
    all_goals go_ret
    all_goals exact ⟨rfl, below_call hB10 hb11⟩

end Go.Proofs.Ytcihbcmdmgmonaa
