/-
  Lines in slices: the laws' copies, comparisons and sizes; a test over lines.
-/
import Derived.Test.YtcihbcmdmgmonaaPdotS
import Derived.Test.YtcihbcmdmgmonaaPdotOk
import Derived.Test.YtcihbcmdmgmonaaPline
import Derived.Test.YtcihbcmdmgmonaaPeqLine
namespace Go.Proofs.Ytcihbcmdmgmonaa
open Go.RowKit

theorem infoLn : (Try.prog.info? 29).map (fun i => (i.zero, i.size, i.bytes)) = some (some (.agg #[.float .f32 0, .float .f32 0]), 2, 8) := by kernel_rfl

set_option maxHeartbeats 400000 in
theorem szLineS_calls (ad : Option Addr) (n cap : Nat) (left : Int) (w : World) (h0 : 0 ≤ left) (h1 : left ≤ 1048576) (hn : n ≤ 9223372036854775807) :
    Calls Try.prog 35 #[.slice ad n cap, .int .i64 left] w fun e w' => e = .returned (.int .i64 (if left - (n : Int) < 0 then -1 else left - n)) ∧ w' = w := by
  by_cases h : left - (n : Int) < 0
  · rw [if_pos h]
    go_enter Try.func35, Try.ntmps35
    go_wp2
    go_ret
    exact ⟨rfl, rfl⟩
  · rw [if_neg h]
    go_enter Try.func35, Try.ntmps35
    go_wp2
    go_ret
    exact ⟨rfl, rfl⟩

set_option maxHeartbeats 1000000 in
theorem toLineS_calls (ad : Option Addr) (cap : Nat) (ds : List (Nat × Nat)) (w : World) (hd : SlD w ad ds) (hn : ds.length ≤ 1048576) :
    Calls Try.prog 37 #[.slice ad ds.length cap] w (RetD 29 ds w) := by
  obtain ⟨i0, hi, hz0, hz1, hz2⟩ := info_parts infoLn
  go_enter Try.func37, Try.ntmps37
  go_wp2_with (first | (at_make; refine wpList_make_full _ rfl _ _ 56 rfl w.heap.size 29 i0 _ 2 Try.underlying56 hi hz0 hz1 .i64 .i64 _ _ ds.length rfl rfl rfl rfl (by rw [hz2]; omega) (by unfold maxLen; omega) (Nat.le_refl _) ?_; intro w1 hown1 hgrow1) | fail)
  obtain ⟨hblk, _, hlen⟩ := Mem.blk_of_owns hown1
  have hb1 : Below w.heap.size w w1 := (Below.refl _ _).grown hgrow1 (Nat.le_refl _) (fun k h => by cases h)
  generalize (madeCells (Value.agg #[.float .f32 0, .float .f32 0]).cells (ds.length * 2)).toList = cur at *
  have hd1 : SlD w1 ad ds := hd.below hb1
  have hbw : ds = [] ∨ ∃ b o, ad = some ⟨b, o, none⟩ ∧ b < w.heap.size := by
    rcases hd with h | ⟨b, o, h1, h2, _⟩
    · exact .inl h
    · exact .inr ⟨b, o, h1, h2⟩
  clear hown1 hgrow1 hd
  go_loopw [4] (fun i wr => ∃ k : Nat, k ≤ ds.length ∧ i = .int .i64 k ∧ Mem.Blk wr w.heap.size (dL (ds.take k) ++ cur.drop (k * 2)) 29 ∧ Below w.heap.size w wr ∧ (∀ b o, ad = some ⟨b, o, none⟩ → b < w.heap.size → ds ≠ [] → HoldsD wr b o ds)) (fun i _ => ds.length - (intOf i).toNat)
  case atStart =>
    refine ⟨0, Nat.zero_le _, rfl, by simpa [dL] using hblk, hb1, fun b o h1 h2 h3 => ?_⟩
    rcases hd1 with h | ⟨b', o', h4, _, h6⟩
    · exact absurd h h3
    · rw [h1] at h4; simp at h4; obtain ⟨rfl, rfl⟩ := h4; exact h6
  case round =>
    clear hblk hb1 hd1
    obtain ⟨k, hk, rfl, hblk, hb, hold⟩ := hrel
    by_cases hlt : k < ds.length
    · have hne : ds ≠ [] := by intro h; rw [h] at hlt; cases hlt
      rcases hbw with h | ⟨b, o, rfl, hbo⟩
      · exact absurd h hne
      · have hH := hold b o rfl hbo hne
        have c0 : wr.cell? ⟨b, o + k * 2, none⟩ = some (.float .f32 (ds.getD k (0, 0)).1) := (hH k hlt).1
        have c1 : wr.cell? ⟨b, o + k * 2 + 1, none⟩ = some (.float .f32 (ds.getD k (0, 0)).2) := (hH k hlt).2
        have HO := Lib.hid hold
        have HB := Lib.hid hblk
        clear hold hblk hH
        obtain ⟨x, hx⟩ : ∃ x, x = (ds.getD k (0, 0)).1 := ⟨_, rfl⟩
        obtain ⟨y, hy⟩ : ∃ y, y = (ds.getD k (0, 0)).2 := ⟨_, rfl⟩
        rw [← hx] at c0
        rw [← hy] at c1
        have HX := Lib.hid hx
        have HY := Lib.hid hy
        clear hx hy
        go_wp2_with fail
        refine (toLine_calls _ _ _).mono ?_
        rintro e w2 ⟨rfl, hb2⟩
        have hblk2 := HB.out.below hb2 HB.out.lt
        have hlen2 : k * 2 + [Value.float .f32 x, .float .f32 y].length ≤ (dL (ds.take k) ++ cur.drop (k * 2)).length := by
          rw [List.length_append, dL_length, List.length_take, List.length_drop, hlen]; simp; omega
        clear c0 c1
        go_wp2_with (with_reducible refine Mem.wpList_storeA rfl 29 _ _ rfl w.heap.size (k * 2) rfl [.float .f32 x, .float .f32 y] _ rfl _ hblk2 (by kernel_rfl) hlen2 (by simp [Value.oneCell']) ?_; intro w3 hw3)
        have hw4 : Mem.Wrote w2 w3 w.heap.size (dL (ds.take (k + 1)) ++ cur.drop ((k + 1) * 2)) 29 := by
          rw [← splice_step ds cur k hlt, ← HX.out, ← HY.out]; exact hw3
        clear hw3 hblk2 hlen2
        go_roundw
        case rel =>
          refine ⟨k + 1, by omega, by go_num, hw4.blk, below_call hb hb2 |>.trans (hw4.below (Nat.le_refl _)), fun b' o' h1 h2 h3 => ?_⟩
          have := (HO.out b' o' h1 h2 h3).below hb2 (Nat.lt_of_lt_of_le h2 hb.size)
          exact this.congr fun q => hw4.cell (by simp; omega)
        case measure => simp [intOf]; omega
    · obtain rfl : k = ds.length := by omega
      have hfin : Mem.Blk wr w.heap.size (dL ds) 29 := by
        rw [List.take_of_length_le (Nat.le_refl _), List.drop_of_length_le (by omega), List.append_nil] at hblk; exact hblk
      clear hblk hold
      go_wp2
      go_ret
      exact ⟨w.heap.size, rfl, Nat.le_refl _, hfin, hb⟩

set_option maxHeartbeats 1000000 in
theorem eqLineS_calls (ad ae : Option Addr) (cap cap' : Nat) (ds es : List (Nat × Nat)) (w : World) (hd : SlD w ad ds) (he : SlD w ae es) (hs : SameP ds es) (hl : ds.length ≤ maxLen) :
    Calls Try.prog 39 #[.slice ad ds.length cap, .slice ae es.length cap'] w (RetBool true w) := by
  have hlen := hs.1
  rw [← hlen]
  unfold maxLen at hl
  rcases hd with rfl | ⟨b, o, rfl, hb, hD⟩
  · go_enter Try.func39, Try.ntmps39
    clear hlen
    go_wp2
    refine wp_loop_once ?_
    go_wp2
    go_ret
    exact ⟨rfl, Below.refl _ _⟩
  · rcases he with rfl | ⟨b', o', rfl, hb', hE⟩
    · have h0 : ds.length = 0 := hlen
      clear hlen hD hs
      rw [h0]
      go_enter Try.func39, Try.ntmps39
      clear h0
      go_wp2
      refine wp_loop_once ?_
      go_wp2
      go_ret
      exact ⟨rfl, Below.refl _ _⟩
    · clear hlen
      go_enter Try.func39, Try.ntmps39
      go_wp2
      go_loopw [5] (fun i wr => ∃ k : Nat, k ≤ ds.length ∧ i = .int .i64 k ∧ Below w.heap.size w wr) (fun i _ => ds.length - (intOf i).toNat)
      case atStart => exact ⟨0, Nat.zero_le _, rfl, Below.refl _ _⟩
      case round =>
        obtain ⟨k, hk, rfl, hB⟩ := hrel
        by_cases hlt : k < ds.length
        · have hsz := hB.size
          have c0 : wr.cell? ⟨b, o + k * 2, none⟩ = some (.float .f32 (ds.getD k (0, 0)).1) := (hD.below hB hb k hlt).1
          have c1 : wr.cell? ⟨b, o + k * 2 + 1, none⟩ = some (.float .f32 (ds.getD k (0, 0)).2) := (hD.below hB hb k hlt).2
          have d0 : wr.cell? ⟨b', o' + k * 2, none⟩ = some (.float .f32 (es.getD k (0, 0)).1) := (hE.below hB hb' k (hs.1 ▸ hlt)).1
          have d1 : wr.cell? ⟨b', o' + k * 2 + 1, none⟩ = some (.float .f32 (es.getD k (0, 0)).2) := (hE.below hB hb' k (hs.1 ▸ hlt)).2
          have hq := hs.2 k hlt
          have hbr : b < wr.heap.size := by omega
          have hbr' : b' < wr.heap.size := by omega
          have HD := Lib.hid hD
          have HE := Lib.hid hE
          have HS := Lib.hid hs
          clear hD hE hs
          generalize ds.getD k (0, 0) = p at c0 c1 hq
          generalize es.getD k (0, 0) = q at d0 d1 hq
          obtain ⟨p0, p1⟩ := p
          obtain ⟨q0, q1⟩ := q
          have HQ := Lib.hid hq
          clear hq
          simp only at c0 c1 d0 d1
          go_wp2
          refine Rg.region_tail 9 (fun w' => Below wr.heap.size wr w') (fun _ _ v => v = .bool true) (by kernel_rfl) (by kernel_rfl) (by exact (Below.refl wr.heap.size wr).drew) ?_
          simp only [List.take_succ_cons, List.take_zero, List.drop_succ_cons, List.drop_zero]
          repeat (refine Rg.walk_plain rfl (fun K hK w1 hw1 => ?_); have hcl : ∀ bb oo, bb < wr.heap.size → w1.cell? ⟨bb, oo, none⟩ = wr.cell? ⟨bb, oo, none⟩ := fun bb oo h => hw1.cell (p := ⟨bb, oo, none⟩) h; go_simp; refine hK _ ?_; clear hK hw1 hcl K w1)
          refine Rg.walk_calls rfl 45 #[.agg #[.float .f32 p0, .float .f32 p1], .agg #[.float .f32 q0, .float .f32 q1]] (fun w1 hw1 => ⟨by go_simp, (eqLine_calls _ _ _ _ _ HQ.out.1 HQ.out.2).mono fun e w2 ⟨he, hb2⟩ => ⟨_, he, rfl, below_call hw1 hb2⟩⟩) (fun u hu => ?_)
          subst hu
          refine Rg.walk_nil ?_
          intro w2 hw2
          have hB2 := below_call hB hw2
          clear c0 c1 d0 d1 hw2
          go_wp2
          go_roundw
          case rel => exact ⟨k + 1, by omega, by go_num, hB2⟩
          case measure => simp [intOf]; omega
        · go_wp2
          go_ret
          exact ⟨rfl, hB⟩



set_option maxHeartbeats 400000 in
theorem indexFuncL_calls (g : Nat) (cp : Array Value) (p : Nat × Nat → Bool) (b o cap : Nat) (xs : List (Nat × Nat)) (w : World)
    (hs : HoldsD w b o xs) (hb : b < w.heap.size) (hl : xs.length ≤ maxLen) (hp : TestsD Try.prog g cp p w) :
    Calls Try.prog 105 #[.slice (some ⟨b, o, none⟩) xs.length cap, .func (.func g) #[] cp] w (RetInt (idxBy p xs) w) := by
  unfold maxLen at hl
  go_enter Try.func105, Try.ntmps105
  go_wp2
  go_loopw [8] (fun i wr => ∃ k : Nat, k ≤ xs.length ∧ i = .int .i64 k ∧ (∀ j, j < k → p (xs.getD j (0, 0)) = false) ∧ Below w.heap.size w wr) (fun i _ => xs.length - (intOf i).toNat)
  case atStart => exact ⟨0, Nat.zero_le _, rfl, fun j hj => by omega, Below.refl _ _⟩
  case round =>
    obtain ⟨k, hk, rfl, hno, hbl⟩ := hrel
    have HN := Lib.hid hno
    clear hno
    by_cases hlt : k < xs.length
    · obtain ⟨c0, c1⟩ := (hs.below hbl hb) k hlt
      obtain ⟨q, hq⟩ : ∃ q, q = xs.getD k (0, 0) := ⟨_, rfl⟩
      rw [← hq] at c0 c1
      obtain ⟨q0, q1⟩ := q
      have HQ := Lib.hid hq
      clear hq
      simp only at c0 c1
      have hsz := hbl.size
      have hcf := hp.1
      have HP := Lib.hid hp.2
      have HS := Lib.hid hs
      clear hp hs
      go_wp2_with fail
      refine (HP.out _ _ _ (by first | exact hbl | exact hbl.drew)).mono ?_
      clear hcf
      rintro e w1 ⟨rfl, hb1⟩
      have hb2 := hbl.trans (hb1.mono hsz)
      clear c0 c1
      cases hpx : p (q0, q1) with
      | true =>
        have hres : idxBy p xs = k := idxBy_hit (0, 0) p xs k hlt HN.out (by rw [← HQ.out]; exact hpx)
        have HR := Lib.hid hres
        clear hres hpx
        go_wp2
        go_ret
        exact ⟨by rw [HR.out]; rfl, hb2⟩
      | false =>
        have HX := Lib.hid hpx
        clear hpx
        go_wp2
        go_roundw
        case rel => exact ⟨k + 1, by omega, by go_num, fun j hj => by rcases Nat.lt_succ_iff_lt_or_eq.1 hj with h | h; exact HN.out j h; subst h; rw [← HQ.out]; exact HX.out, hb2⟩
        case measure => simp [intOf]; omega
    · have hres : idxBy p xs = -1 := idxBy_none (0, 0) p xs (fun j hj => HN.out j (by omega))
      have HR := Lib.hid hres
      clear hres
      go_wp2
      go_ret
      exact ⟨by rw [HR.out]; rfl, hbl⟩

set_option maxHeartbeats 400000 in
theorem containsFuncL_calls (g : Nat) (cp : Array Value) (p : Nat × Nat → Bool) (b o cap : Nat) (xs : List (Nat × Nat)) (w : World)
    (hs : HoldsD w b o xs) (hb : b < w.heap.size) (hl : xs.length ≤ maxLen) (hp : TestsD Try.prog g cp p w) :
    Calls Try.prog 83 #[.slice (some ⟨b, o, none⟩) xs.length cap, .func (.func g) #[] cp] w (RetBool (xs.any p) w) := by
  have HC := Lib.hid (indexFuncL_calls g cp p b o cap xs w hs hb hl hp)
  have HI := Lib.hid (idxBy_ge p xs)
  clear hs hp
  go_enter Try.func83, Try.ntmps83
  go_wp2_with fail
  refine HC.out.mono ?_
  rintro e w1 ⟨rfl, hb1⟩
  go_wp2_with fail
  go_ret
  exact ⟨congrArg (fun b => Ending.returned (.bool b)) HI.out, hb1⟩
end Go.Proofs.Ytcihbcmdmgmonaa
