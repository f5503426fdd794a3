/-
  The laws' own copies of dots, and their comparison.
-/
import Derived.Test.YtcihbcmdmgmonaaPsame
import Derived.Test.YtcihbcmdmgmonaaReg
namespace Go.Proofs.Ytcihbcmdmgmonaa
open Go.RowKit

theorem infoDot : (Try.prog.info? 77).map (fun i => (i.zero, i.size, i.bytes)) = some (some (.agg #[.float .f32 0, .float .f32 0]), 2, 8) := by kernel_rfl

theorem sameP_refl (ds : List (Nat × Nat)) : SameP ds ds := ⟨rfl, fun _ _ => ⟨rfl, rfl⟩⟩
theorem holds_blk {w : World} {g : Nat} {ds : List (Nat × Nat)} {t : TypeId} (h : Mem.Blk w g (dL ds) t) : HoldsD w g 0 ds := HoldsD.of_blk h (fun _ _ => rfl)

set_option maxHeartbeats 400000 in
theorem szDotS_calls (ad : Option Addr) (n cap : Nat) (left : Int) (w : World) (h0 : 0 ≤ left) (h1 : left ≤ 1048576) (hn : n ≤ 9223372036854775807) :
    Calls Try.prog 13 #[.slice ad n cap, .int .i64 left] w fun e w' => e = .returned (.int .i64 (if left - (n : Int) < 0 then -1 else left - n)) ∧ w' = w := by
  by_cases h : left - (n : Int) < 0
  · rw [if_pos h]
    go_enter Try.func13, Try.ntmps13
    go_wp2
    go_ret
    exact ⟨rfl, rfl⟩
  · rw [if_neg h]
    go_enter Try.func13, Try.ntmps13
    go_wp2
    go_ret
    exact ⟨rfl, rfl⟩

set_option maxHeartbeats 400000 in
theorem toDot_calls (s b : Nat) (w : World) :
    Calls Try.prog 66 #[.agg #[.float .f32 s, .float .f32 b]] w (Ret (.agg #[.float .f32 s, .float .f32 b]) w) := by
  go_enter Try.func66, Try.ntmps66
  go_wp2
  exact bodyPost_ret (v := .agg #[.float .f32 s, .float .f32 b]) (by simp [results, Try.results66, go_sem]) rfl ⟨rfl, below_a3 _ _ _ _⟩

theorem splice_step (ds : List (Nat × Nat)) (cur : List Value) (k : Nat) (hk : k < ds.length) :
    (dL (ds.take k) ++ cur.drop (k * 2)).take (k * 2) ++ [.float .f32 (ds.getD k (0, 0)).1, .float .f32 (ds.getD k (0, 0)).2] ++ (dL (ds.take k) ++ cur.drop (k * 2)).drop (k * 2 + 2) =
      dL (ds.take (k + 1)) ++ cur.drop ((k + 1) * 2) := by
  have h1 : (dL (ds.take k)).length = k * 2 := by rw [dL_length, List.length_take, Nat.min_eq_left (by omega)]
  have e2 : ds.take (k + 1) = ds.take k ++ [ds.getD k (0, 0)] := by rw [List.take_succ_eq_append_getElem hk]; simp [hk]
  rw [e2, dL_append, List.take_append_of_le_length (by omega), List.take_of_length_le (by omega), List.drop_append, List.drop_of_length_le (by omega), List.drop_drop]
  simp only [List.nil_append, List.append_assoc]
  rw [h1, show k * 2 + (k * 2 + 2 - k * 2) = (k + 1) * 2 by omega]
  rfl

set_option maxHeartbeats 1000000 in
theorem toDotS_calls (ad : Option Addr) (cap : Nat) (ds : List (Nat × Nat)) (w : World) (hd : SlD w ad ds) (hn : ds.length ≤ 1048576) :
    Calls Try.prog 16 #[.slice ad ds.length cap] w (RetD 77 ds w) := by
  obtain ⟨i0, hi, hz0, hz1, hz2⟩ := info_parts infoDot
  go_enter Try.func16, Try.ntmps16
  go_wp2_with (first | (at_make; refine wpList_make_full _ rfl _ _ 31 rfl w.heap.size 77 i0 _ 2 Try.underlying31 hi hz0 hz1 .i64 .i64 _ _ ds.length rfl rfl rfl rfl (by rw [hz2]; omega) (by unfold maxLen; omega) (Nat.le_refl _) ?_; intro w1 hown1 hgrow1) | fail)
  obtain ⟨hblk, _, hlen⟩ := Mem.blk_of_owns hown1
  have hb1 : Below w.heap.size w w1 := (Below.refl _ _).grown hgrow1 (Nat.le_refl _) (fun k h => by cases h)
  generalize (madeCells (Value.agg #[.float .f32 0, .float .f32 0]).cells (ds.length * 2)).toList = cur at *
  have hd1 : SlD w1 ad ds := hd.below hb1
  have hbw : ds = [] ∨ ∃ b o, ad = some ⟨b, o, none⟩ ∧ b < w.heap.size := by
    rcases hd with h | ⟨b, o, h1, h2, _⟩
    · exact .inl h
    · exact .inr ⟨b, o, h1, h2⟩
  clear hown1 hgrow1 hd
  go_loopw [4] (fun i wr => ∃ k : Nat, k ≤ ds.length ∧ i = .int .i64 k ∧ Mem.Blk wr w.heap.size (dL (ds.take k) ++ cur.drop (k * 2)) 77 ∧ Below w.heap.size w wr ∧ (∀ b o, ad = some ⟨b, o, none⟩ → b < w.heap.size → ds ≠ [] → HoldsD wr b o ds)) (fun i _ => ds.length - (intOf i).toNat)
  case atStart =>
    refine ⟨0, Nat.zero_le _, rfl, by simpa [dL] using hblk, hb1, fun b o h1 h2 h3 => ?_⟩
    rcases hd1 with h | ⟨b', o', h4, _, h6⟩
    · exact absurd h h3
    · rw [h1] at h4; simp at h4; obtain ⟨rfl, rfl⟩ := h4; exact h6
  case round =>
    clear hblk hb1 hd1
    obtain ⟨k, hk, rfl, hblk, hb, hold⟩ := hrel
    by_cases hlt : k < ds.length
    · have hne : ds ≠ [] := by intro h; rw [h] at hlt; cases hlt
      rcases hbw with h | ⟨b, o, rfl, hbo⟩
      · exact absurd h hne
      · have hH := hold b o rfl hbo hne
        have c0 : wr.cell? ⟨b, o + k * 2, none⟩ = some (.float .f32 (ds.getD k (0, 0)).1) := (hH k hlt).1
        have c1 : wr.cell? ⟨b, o + k * 2 + 1, none⟩ = some (.float .f32 (ds.getD k (0, 0)).2) := (hH k hlt).2
        have HO := Lib.hid hold
        have HB := Lib.hid hblk
        clear hold hblk hH
        obtain ⟨x, hx⟩ : ∃ x, x = (ds.getD k (0, 0)).1 := ⟨_, rfl⟩
        obtain ⟨y, hy⟩ : ∃ y, y = (ds.getD k (0, 0)).2 := ⟨_, rfl⟩
        rw [← hx] at c0
        rw [← hy] at c1
        have HX := Lib.hid hx
        have HY := Lib.hid hy
        clear hx hy
        go_wp2_with fail
        refine (toDot_calls _ _ _).mono ?_
        rintro e w2 ⟨rfl, hb2⟩
        have hblk2 := HB.out.below hb2 HB.out.lt
        have hlen2 : k * 2 + [Value.float .f32 x, .float .f32 y].length ≤ (dL (ds.take k) ++ cur.drop (k * 2)).length := by
          rw [List.length_append, dL_length, List.length_take, List.length_drop, hlen]; simp; omega
        clear c0 c1
        go_wp2_with (with_reducible refine Mem.wpList_storeA rfl 77 _ _ rfl w.heap.size (k * 2) rfl [.float .f32 x, .float .f32 y] _ rfl _ hblk2 (by kernel_rfl) hlen2 (by simp [Value.oneCell']) ?_; intro w3 hw3)
        have hw4 : Mem.Wrote w2 w3 w.heap.size (dL (ds.take (k + 1)) ++ cur.drop ((k + 1) * 2)) 77 := by
          rw [← splice_step ds cur k hlt, ← HX.out, ← HY.out]; exact hw3
        clear hw3 hblk2 hlen2
        go_roundw
        case rel =>
          refine ⟨k + 1, by omega, by go_num, hw4.blk, below_call hb hb2 |>.trans (hw4.below (Nat.le_refl _)), fun b' o' h1 h2 h3 => ?_⟩
          have := (HO.out b' o' h1 h2 h3).below hb2 (Nat.lt_of_lt_of_le h2 hb.size)
          exact this.congr fun q => hw4.cell (by simp; omega)
        case measure => simp [intOf]; omega
    · obtain rfl : k = ds.length := by omega
      have hfin : Mem.Blk wr w.heap.size (dL ds) 77 := by
        rw [List.take_of_length_le (Nat.le_refl _), List.drop_of_length_le (by omega), List.append_nil] at hblk; exact hblk
      clear hblk hold
      go_wp2
      go_ret
      exact ⟨w.heap.size, rfl, Nat.le_refl _, hfin, hb⟩

set_option maxHeartbeats 400000 in
theorem eqDot_calls (a b c d : Nat) (w : World) (h1 : Fl.canon a = Fl.canon c) (h2 : Fl.canon b = Fl.canon d) :
    Calls Try.prog 69 #[.agg #[.float .f32 a, .float .f32 b], .agg #[.float .f32 c, .float .f32 d]] w (RetBool true w) := by
  have H1 := Lib.hid h1
  have H2 := Lib.hid h2
  clear h1 h2
  go_enter Try.func69, Try.ntmps69
  go_wp2_with fail
  refine (sameFloat_calls _ _ _ (Fl.same_conv H1.out _ _)).mono ?_
  rintro e w1 ⟨rfl, rfl⟩
  go_wp2_with fail
  refine (sameFloat_calls _ _ _ (Fl.same_conv H2.out _ _)).mono ?_
  rintro e w1 ⟨rfl, rfl⟩
  go_wp2_with fail
  go_ret
  exact ⟨rfl, below_n (below_a2 _ _ _) _⟩

set_option maxHeartbeats 1000000 in
theorem eqDotS_calls (ad ae : Option Addr) (cap cap' : Nat) (ds es : List (Nat × Nat)) (w : World) (hd : SlD w ad ds) (he : SlD w ae es) (hs : SameP ds es) (hl : ds.length ≤ maxLen) :
    Calls Try.prog 19 #[.slice ad ds.length cap, .slice ae es.length cap'] w (RetBool true w) := by
  have hlen := hs.1
  rw [← hlen]
  unfold maxLen at hl
  rcases hd with rfl | ⟨b, o, rfl, hb, hD⟩
  · go_enter Try.func19, Try.ntmps19
    clear hlen
    go_wp2
    refine wp_loop_once ?_
    go_wp2
    go_ret
    exact ⟨rfl, Below.refl _ _⟩
  · rcases he with rfl | ⟨b', o', rfl, hb', hE⟩
    · have h0 : ds.length = 0 := hlen
      clear hlen hD hs
      rw [h0]
      go_enter Try.func19, Try.ntmps19
      clear h0
      go_wp2
      refine wp_loop_once ?_
      go_wp2
      go_ret
      exact ⟨rfl, Below.refl _ _⟩
    · clear hlen
      go_enter Try.func19, Try.ntmps19
      go_wp2
      go_loopw [5] (fun i wr => ∃ k : Nat, k ≤ ds.length ∧ i = .int .i64 k ∧ Below w.heap.size w wr) (fun i _ => ds.length - (intOf i).toNat)
      case atStart => exact ⟨0, Nat.zero_le _, rfl, Below.refl _ _⟩
      case round =>
        obtain ⟨k, hk, rfl, hB⟩ := hrel
        by_cases hlt : k < ds.length
        · have hsz := hB.size
          have c0 : wr.cell? ⟨b, o + k * 2, none⟩ = some (.float .f32 (ds.getD k (0, 0)).1) := (hD.below hB hb k hlt).1
          have c1 : wr.cell? ⟨b, o + k * 2 + 1, none⟩ = some (.float .f32 (ds.getD k (0, 0)).2) := (hD.below hB hb k hlt).2
          have d0 : wr.cell? ⟨b', o' + k * 2, none⟩ = some (.float .f32 (es.getD k (0, 0)).1) := (hE.below hB hb' k (hs.1 ▸ hlt)).1
          have d1 : wr.cell? ⟨b', o' + k * 2 + 1, none⟩ = some (.float .f32 (es.getD k (0, 0)).2) := (hE.below hB hb' k (hs.1 ▸ hlt)).2
          have hq := hs.2 k hlt
          have hbr : b < wr.heap.size := by omega
          have hbr' : b' < wr.heap.size := by omega
          have HD := Lib.hid hD
          have HE := Lib.hid hE
          have HS := Lib.hid hs
          clear hD hE hs
          generalize ds.getD k (0, 0) = p at c0 c1 hq
          generalize es.getD k (0, 0) = q at d0 d1 hq
          obtain ⟨p0, p1⟩ := p
          obtain ⟨q0, q1⟩ := q
          have HQ := Lib.hid hq
          clear hq
          simp only at c0 c1 d0 d1
          go_wp2
          refine Rg.region_tail 9 (fun w' => Below wr.heap.size wr w') (fun _ _ v => v = .bool true) (by kernel_rfl) (by kernel_rfl) (by exact (Below.refl wr.heap.size wr).drew) ?_
          simp only [List.take_succ_cons, List.take_zero, List.drop_succ_cons, List.drop_zero]
          repeat (refine Rg.walk_plain rfl (fun K hK w1 hw1 => ?_); have hcl : ∀ bb oo, bb < wr.heap.size → w1.cell? ⟨bb, oo, none⟩ = wr.cell? ⟨bb, oo, none⟩ := fun bb oo h => hw1.cell (p := ⟨bb, oo, none⟩) h; go_simp; refine hK _ ?_; clear hK hw1 hcl K w1)
          refine Rg.walk_calls rfl 69 #[.agg #[.float .f32 p0, .float .f32 p1], .agg #[.float .f32 q0, .float .f32 q1]] (fun w1 hw1 => ⟨by go_simp, (eqDot_calls _ _ _ _ _ HQ.out.1 HQ.out.2).mono fun e w2 ⟨he, hb2⟩ => ⟨_, he, rfl, below_call hw1 hb2⟩⟩) (fun u hu => ?_)
          subst hu
          refine Rg.walk_nil ?_
          intro w2 hw2
          have hB2 := below_call hB hw2
          clear c0 c1 d0 d1 hw2
          go_wp2
          go_roundw
          case rel => exact ⟨k + 1, by omega, by go_num, hB2⟩
          case measure => simp [intOf]; omega
        · go_wp2
          go_ret
          exact ⟨rfl, hB⟩
end Go.Proofs.Ytcihbcmdmgmonaa
