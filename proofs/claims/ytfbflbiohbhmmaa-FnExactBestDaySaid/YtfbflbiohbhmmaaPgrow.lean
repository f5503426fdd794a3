/-
  Rates, growth of fruits and of crates: what both programs compute.
-/
import Derived.Test.YtfbflbiohbhmmaaFlg
import Derived.Test.YtfbflbiohbhmmaaPworth
namespace Go.Proofs.Ytfbflbiohbhmmaa
open Go.RowKit

theorem rMul_some {x y v : Nat} (h : Ieee.single.mul x y = some v) : (∀ W, Fl.rMul W x y = v) ∧ Fl.nMul x y = 0 := by
  unfold Fl.rMul Fl.nMul; rw [h]; exact ⟨fun _ => rfl, rfl⟩
theorem rAdd_some {x y v : Nat} (h : Ieee.single.add x y = some v) : (∀ W, Fl.rAdd W x y = v) ∧ Fl.nAdd x y = 0 := by
  unfold Fl.rAdd Fl.nAdd; rw [h]; exact ⟨fun _ => rfl, rfl⟩
theorem rSub_some {x y v : Nat} (h : Ieee.single.sub x y = some v) : (∀ W, Fl.rSub W x y = v) ∧ Fl.nSub x y = 0 := by
  unfold Fl.rSub Fl.nSub; rw [h]; exact ⟨fun _ => rfl, rfl⟩

set_option maxHeartbeats 1000000 in
theorem l01Rate_calls (b a g : Nat) (ha : vPart a = true) (hg : vPart g = true) (w : World) (h0 : w.cell? ⟨b, 0, none⟩ = some (.float .f32 a)) (h1 : w.cell? ⟨b, 1, none⟩ = some (.float .f32 g)) (hb : b < w.heap.size) :
    Calls Try.prog 55 #[.pointer (some ⟨b, 0, none⟩)] w (Ret (.float .f32 (Fl.rateOf a g)) w) := by
  obtain ⟨e1, e2, e3, _⟩ := Fl.rate_up ha hg
  obtain ⟨m1, n1⟩ := rMul_some e1
  obtain ⟨m2, n2⟩ := rAdd_some e2
  obtain ⟨m3, n3⟩ := rMul_some e3
  have hz := fun W : World => World.drewN_zero W
  clear e1 e2 e3 ha hg
  generalize Fl.rateOf a g = res at m3
  generalize Fl.q1 a = x at m1 m3 n3
  generalize Fl.q2 g = y at m2 m3 n3
  go_enter Try.func55, Try.ntmps55
  go_wp2_with fail
  (refine Rg.region_tail 11 (fun w' => Below (w).heap.size w w') (fun _ _ _ => False) (by kernel_rfl) (by kernel_rfl) (by exact (Below.refl (w).heap.size w).drew) ?_; simp only [List.take_succ_cons, List.take_zero, List.drop_succ_cons, List.drop_zero])
  (repeat (first | ((with_reducible refine Rg.walk_plain rfl (fun Kz hKz wz hwz => ?_)); (have hclz : ∀ bb oo, bb < (w).heap.size → wz.cell? ⟨bb, oo, none⟩ = (w).cell? ⟨bb, oo, none⟩ := fun bb oo h => hwz.cell (p := ⟨bb, oo, none⟩) h); go_simp; refine hKz _ ?_; clear hKz hwz hclz Kz wz) | ((with_reducible refine Rg.walk_on ?_ (fun Kz hKz wz hwz => ?_)); (next => (go_simp; done)); (have hclz : ∀ bb oo, bb < (w).heap.size → wz.cell? ⟨bb, oo, none⟩ = (w).cell? ⟨bb, oo, none⟩ := fun bb oo h => hwz.cell (p := ⟨bb, oo, none⟩) h); go_simp; refine hKz _ ?_; clear hKz hwz hclz Kz wz) | ((with_reducible refine Rg.walk_step (fun Kz hKz => ?_)); go_simp; refine hKz _ ?_; clear hKz Kz)))
  refine Rg.walk_nil ?_
  intro w1 hw1
  clear h0 h1
  go_wp2_with fail
  go_ret
  exact ⟨rfl, hw1⟩

set_option maxHeartbeats 1000000 in
theorem airRate_calls (a g : Nat) (ha : vPart a = true) (hg : vPart g = true) (w : World) :
    Calls Try.prog 66 #[.agg #[.float .f32 a, .float .f32 g]] w (Ret (.float .f32 (Fl.rateOf a g)) w) := by
  obtain ⟨e1, e2, e3, _⟩ := Fl.rate_up ha hg
  obtain ⟨m1, n1⟩ := rMul_some e1
  obtain ⟨m2, n2⟩ := rAdd_some e2
  obtain ⟨m3, n3⟩ := rMul_some e3
  clear e1 e2 e3 ha hg
  generalize Fl.rateOf a g = res at m3
  generalize Fl.q1 a = x at m1 m3 n3
  generalize Fl.q2 g = y at m2 m3 n3
  go_enter Try.func66, Try.ntmps66
  go_wp2_with fail
  go_ret
  exact ⟨rfl, below_n (below_a1 _ _) _⟩

set_option maxHeartbeats 1000000 in
theorem l01Grown_calls (a r : Nat) (ha : vPart a = true) (hr : Fl.Pos (2 ^ 147) r) (w : World) :
    Calls Try.prog 63 #[.float .f32 a, .float .f32 r] w fun e w' => e = .returned (.float .f32 (Fl.grownOf a r)) ∧ w' = w := by
  obtain ⟨e1, e2, e3, _⟩ := Fl.grown_up ha hr
  obtain ⟨m1, n1⟩ := rSub_some e1
  obtain ⟨m2, n2⟩ := rMul_some e2
  obtain ⟨m3, n3⟩ := rAdd_some e3
  clear e1 e2 e3 ha hr
  generalize Fl.grownOf a r = res at m3
  generalize Fl.d2 a r = y at m2 m3 n3
  generalize Fl.d1 a = x at m1 m2 n2
  go_enter Try.func63, Try.ntmps63
  go_wp2_with fail
  go_ret
  exact ⟨rfl, by simp only [World.drewN_zero]⟩

set_option maxHeartbeats 1000000 in
theorem grown_calls (a r : Nat) (ha : vPart a = true) (hr : Fl.Pos (2 ^ 147) r) (w : World) :
    Calls Try.prog 65 #[.float .f32 a, .float .f32 r] w fun e w' => e = .returned (.float .f32 (Fl.grownOf a r)) ∧ w' = w := by
  obtain ⟨e1, e2, e3, _⟩ := Fl.grown_up ha hr
  obtain ⟨m1, n1⟩ := rSub_some e1
  obtain ⟨m2, n2⟩ := rMul_some e2
  obtain ⟨m3, n3⟩ := rAdd_some e3
  clear e1 e2 e3 ha hr
  generalize Fl.grownOf a r = res at m3
  generalize Fl.d2 a r = y at m2 m3 n3
  generalize Fl.d1 a = x at m1 m2 n2
  go_enter Try.func65, Try.ntmps65
  go_wp2_with fail
  go_ret
  exact ⟨rfl, by simp only [World.drewN_zero]⟩

/-- The first j fruits grown. -/
def growL (r j : Nat) (rs : List Nat) : List Nat := (rs.take j).map (fun a => Fl.grownOf a r) ++ rs.drop j
/-- Behind n days. -/
def growD (r k : Nat) (rs : List Nat) : Nat → List Nat
  | 0 => rs
  | n + 1 => growL r k (growD r k rs n)
theorem growL_length (r j : Nat) (rs : List Nat) (h : j ≤ rs.length) : (growL r j rs).length = rs.length := by
  unfold growL
  rw [List.length_append, List.length_map, List.length_take, List.length_drop]; omega
theorem growD_length (r k : Nat) (rs : List Nat) (h : k ≤ rs.length) : ∀ n, (growD r k rs n).length = rs.length
  | 0 => rfl
  | n + 1 => by
    have := growD_length r k rs h n
    show (growL r k (growD r k rs n)).length = _
    rw [growL_length _ _ _ (by omega), this]
theorem growL_get (r j : Nat) (rs : List Nat) (i : Nat) (h : j ≤ i) (hj : j ≤ rs.length) : (growL r j rs).getD i 0 = rs.getD i 0 := by
  unfold growL
  have hl : ((rs.take j).map (fun a => Fl.grownOf a r)).length = j := by rw [List.length_map, List.length_take]; omega
  simp only [List.getD_eq_getElem?_getD]
  rw [List.getElem?_append_right (by omega), hl, List.getElem?_drop, show j + (i - j) = i by omega]
theorem growL_lt (r j : Nat) (rs : List Nat) (i : Nat) (h : i < j) (hj : j ≤ rs.length) : (growL r j rs).getD i 0 = Fl.grownOf (rs.getD i 0) r := by
  unfold growL
  have hl : ((rs.take j).map (fun a => Fl.grownOf a r)).length = j := by rw [List.length_map, List.length_take]; omega
  simp only [List.getD_eq_getElem?_getD]
  rw [List.getElem?_append_left (by omega), List.getElem?_map, List.getElem?_take_of_lt h]
  have : i < rs.length := by omega
  simp [this]
theorem growL_zero (r : Nat) (rs : List Nat) : growL r 0 rs = rs := by simp [growL]
theorem growL_set (r j : Nat) (rs : List Nat) (c : Int) (h : j < rs.length) : (crL c (growL r j rs)).set (1 + j) (.float .f32 (Fl.grownOf (rs.getD j 0) r)) = crL c (growL r (j + 1) rs) := by
  unfold crL
  rw [Nat.add_comm, List.set_cons_succ]
  congr 1
  have hl : ((rs.take j).map (fun a => Fl.grownOf a r)).length = j := by rw [List.length_map, List.length_take]; omega
  unfold growL
  have hd : rs.drop j = rs[j] :: rs.drop (j + 1) := List.drop_eq_getElem_cons h
  have ht : rs.take (j + 1) = rs.take j ++ [rs[j]] := List.take_succ_eq_append_getElem h
  have hg : rs.getD j 0 = rs[j] := by simp [h]
  rw [hg, ht, List.map_append, fL_append, fL_append, fL_append, List.set_append, fL_length, hl, if_neg (Nat.lt_irrefl _), Nat.sub_self, hd, List.append_assoc]
  rfl
theorem growD_parts (r k : Nat) (rs : List Nat) (hk : k ≤ rs.length) (hr : Fl.Pos (2 ^ 147) r) (h : ∀ i, i < k → vPart (rs.getD i 0) = true) : ∀ n i, i < k → vPart ((growD r k rs n).getD i 0) = true
  | 0, i, hi => h i hi
  | n + 1, i, hi => by
    have hl := growD_length r k rs hk n
    show vPart ((growL r k (growD r k rs n)).getD i 0) = true
    rw [growL_lt _ _ _ _ hi (by omega)]
    exact (Fl.grown_up (growD_parts r k rs hk hr h n i hi) hr).2.2.2

set_option maxHeartbeats 4000000 in
theorem l01Grow_calls (k r n : Nat) (rs : List Nat) (hk : k ≤ 16) (hr : rs.length = 16) (hv : ∀ i, i < k → vPart (rs.getD i 0) = true) (hq : Fl.Pos (2 ^ 147) r) (hn : n ≤ 1000) (w : World) :
    Calls Try.prog 54 #[.agg (crL (k : Int) rs).toArray, .float .f32 r, .int .i64 n] w (Ret (.agg (crL (k : Int) (growD r k rs n)).toArray) w) := by
  have HR := Lib.hid hr
  have HL := Lib.hid (fun n => (growD_length r k rs (by omega) n).trans hr)
  have HP := Lib.hid (growD_parts r k rs (by omega) hq hv)
  have HQ := Lib.hid hq
  clear hr hv hq
  go_enter Try.func54, Try.ntmps54
  go_upto_region 1 with (fail)
  generalize hw1 : (w.alloc _).alloc _ = w1
  have h1 : Mem.Blk w1 w.heap.size (crL (k : Int) rs) 36 := hw1 ▸ (Mem.Blk.new w _ _).alloc _
  have h2 : Mem.Blk w1 (w.heap.size + 1) (crL 0 (zeros 16)) 36 := hw1 ▸ (Mem.Blk.new1 w _ _ _)
  have hb : Below w.heap.size w w1 := hw1 ▸ below_a2 w _ _
  clear hw1
  have H1 := Lib.hid h1
  have H2 := Lib.hid h2
  clear h1 h2
  go_wp2_with fail
  go_loopw [7] (fun i wr => ∃ j : Nat, j ≤ n ∧ i = .int .i64 j ∧ Mem.Blk wr w.heap.size (crL (k : Int) (growD r k rs j)) 36 ∧ Mem.Blk wr (w.heap.size + 1) (crL 0 (zeros 16)) 36 ∧ Below w.heap.size w wr) (fun i _ => n - (intOf i).toNat)
  case atStart => exact ⟨0, Nat.zero_le _, rfl, H1.out, H2.out, hb⟩
  case round =>
    clear H1 H2 hb
    obtain ⟨j, hj, rfl, h1, h2, hB⟩ := hrel
    have H1 := Lib.hid h1
    have H2 := Lib.hid h2
    have s1 := h1.lt
    clear h1 h2
    by_cases hlt : j < n
    · have HLj := Lib.hid (HL.out j)
      have HPj := Lib.hid (HP.out j)
      have hst : Hid (growD r k rs (j + 1) = growL r k (growD r k rs j)) := Lib.hid rfl
      generalize growD r k rs j = xs at H1 HLj HPj hst
      go_wp2_with fail
      go_loopw [8] (fun i wi => ∃ i' : Nat, i' ≤ k ∧ i = .int .i64 i' ∧ Mem.Blk wi w.heap.size (crL (k : Int) (growL r i' xs)) 36 ∧ Mem.Blk wi (w.heap.size + 1) (crL 0 (zeros 16)) 36 ∧ Below w.heap.size w wi) (fun i _ => k - (intOf i).toNat)
      case atStart => exact ⟨0, Nat.zero_le _, rfl, by rw [growL_zero]; exact H1.out, H2.out, hB⟩
      case round =>
        clear H1 H2 hB
        obtain ⟨i', hi', rfl, h1, h2, hB⟩ := hrel
        have H1 := Lib.hid h1
        have H2 := Lib.hid h2
        have s1 := h1.lt
        have c0 : wr.cell? ⟨w.heap.size, 0, none⟩ = some (.int .i8 (k : Int)) := h1.cell 0
        clear h1 h2
        by_cases hlt2 : i' < k
        · have c1 := HoldsF.of_crL H1.out i' (by rw [growL_length _ _ _ (by rw [HLj.out]; omega), HLj.out]; omega)
          rw [growL_get _ _ _ _ (Nat.le_refl _) (by rw [HLj.out]; omega)] at c1
          have HX := Lib.hid (HPj.out i' hlt2)
          have HSt := Lib.hid (growL_set r i' xs (k : Int) (by rw [HLj.out]; omega))
          generalize xs.getD i' 0 = x at c1 HX HSt
          have hb1 : (i' : Int) < 16 := by omega
          go_wp2_with fail
          refine (l01Grown_calls x r HX.out HQ.out _).mono ?_
          rintro e w3 ⟨rfl, rfl⟩
          go_wp2_with (with_reducible refine Mem.wpList_store1 rfl 22 _ _ rfl w.heap.size (1 + i') rfl _ _ rfl _ H1.out (by kernel_rfl) (by rw [crL_length, growL_length _ _ _ (by rw [HLj.out]; omega), HLj.out]; omega) rfl ?_; intro w4 hw4)
          have hw4 : Mem.Wrote w3 w4 w.heap.size (crL (k : Int) (growL r (i' + 1) xs)) 36 := by rw [← HSt.out]; exact hw4
          clear c0 c1
          go_roundw
          case rel => exact ⟨i' + 1, by omega, by go_num, hw4.blk, hw4.keep (by omega) H2.out, hB.trans (hw4.below (by omega))⟩
          case measure => simp [intOf]; omega
        · obtain rfl : i' = k := by omega
          go_wp2_with fail
          go_roundw
          case rel => exact ⟨j + 1, by omega, by go_num, by rw [hst.out]; exact H1.out, H2.out, hB⟩
          case measure => simp [intOf]; omega
    · obtain rfl : j = n := by omega
      have HLj := Lib.hid (HL.out j)
      obtain ⟨xs, hxs⟩ : ∃ xs, xs = growD r k rs j := ⟨_, rfl⟩
      rw [← hxs] at H1 HLj
      have HXS := Lib.hid hxs
      clear hxs
      go_wp2_with (first
        | (with_reducible refine Mem.wpList_loadA rfl 36 _ rfl w.heap.size 0 rfl (crL (k : Int) xs) _ Try.underlying36 rfl (by rw [crL_length, HLj.out]; kernel_rfl) (fun j v h => by rw [Nat.zero_add, H1.out.cell]; exact h) ?_)
        | (with_reducible refine Mem.wpList_storeA rfl 36 _ _ rfl (w.heap.size + 1) 0 rfl (crL (k : Int) xs) _ rfl _ H2.out (by rw [crL_length, HLj.out]; kernel_rfl) (by rw [crL_length, crL_length, HLj.out]; simp [zeros]) (crL_one _ xs) ?_; intro w5 hw5))
      have hw6 : Mem.Blk w5 (w.heap.size + 1) (crL (k : Int) xs) 36 := by
        have e : List.take 0 (crL 0 (zeros 16)) ++ crL (k : Int) xs ++ List.drop (0 + (crL (k : Int) xs).length) (crL 0 (zeros 16)) = crL (k : Int) xs := by
          rw [List.drop_of_length_le (by rw [crL_length, crL_length, HLj.out]; simp [zeros])]; simp
        rw [← e]; exact hw5.blk
      exact bodyPost_ret (v := .agg (crL (k : Int) xs).toArray) (Mem.results_cellA Try.results54 _ (w.heap.size + 1) (crL (k : Int) xs) 36 _ rfl hw6 Try.underlying36 rfl (by rw [crL_length, HLj.out]; kernel_rfl)) rfl
        ⟨by rw [HXS.out], hB.trans (hw5.below (by omega))⟩

set_option maxHeartbeats 4000000 in
theorem crateGrow_calls (k a g : Nat) (rs : List Nat) (hk : k ≤ 16) (hr : rs.length = 16) (hv : ∀ i, i < k → vPart (rs.getD i 0) = true) (ha : vPart a = true) (hg : vPart g = true) (w : World) :
    Calls Try.prog 57 #[.agg (crL (k : Int) rs).toArray, .agg #[.float .f32 a, .float .f32 g]] w (Ret (.agg (crL (k : Int) (growL (Fl.rateOf a g) k rs)).toArray) w) := by
  have HQ := Lib.hid (Fl.rate_up ha hg).2.2.2
  have HA := Lib.hid ha
  have HG := Lib.hid hg
  have HR := Lib.hid hr
  have HV := Lib.hid hv
  clear ha hg hr hv
  obtain ⟨r, hrr⟩ : ∃ r, r = Fl.rateOf a g := ⟨_, rfl⟩
  rw [← hrr] at HQ ⊢
  have HRR := Lib.hid hrr
  clear hrr
  go_enter Try.func57, Try.ntmps57
  go_upto_region 1 with (fail)
  generalize hw1 : ((w.alloc _).alloc _).alloc _ = w1
  have h1 : Mem.Blk w1 w.heap.size (crL (k : Int) rs) 36 := hw1 ▸ ((Mem.Blk.new w _ _).alloc _).alloc _
  have h2 : Mem.Blk w1 (w.heap.size + 1) [.float .f32 a, .float .f32 g] 42 := hw1 ▸ (Mem.Blk.new1 w _ _ _).alloc _
  have h3 : Mem.Blk w1 (w.heap.size + 1 + 1) (crL 0 (zeros 16)) 36 := hw1 ▸ (Mem.Blk.new2 w _ _ _ _)
  have hb : Below w.heap.size w w1 := hw1 ▸ below_a3 w _ _ _
  clear hw1
  have H1 := Lib.hid h1
  have H2 := Lib.hid h2
  have H3 := Lib.hid h3
  have s1 := h1.lt
  clear h1 h2 h3
  go_wp2_with (go_at_call 64; refine (fruits_calls w.heap.size k hk w1 (H1.out.cell 0) s1).mono ?_; rintro e w2 ⟨rfl, hb2⟩)
  have hB2 := below_call hb hb2
  have H1 := Lib.hid (H1.out.below hb2 H1.out.lt)
  have H2 := Lib.hid (H2.out.below hb2 H2.out.lt)
  have H3 := Lib.hid (H3.out.below hb2 H3.out.lt)
  clear hb hb2 s1
  go_loopw [9] (fun i wi => ∃ i' : Nat, i' ≤ k ∧ i = .int .i64 i' ∧ Mem.Blk wi w.heap.size (crL (k : Int) (growL r i' rs)) 36 ∧ Mem.Blk wi (w.heap.size + 1) [.float .f32 a, .float .f32 g] 42 ∧ Mem.Blk wi (w.heap.size + 1 + 1) (crL 0 (zeros 16)) 36 ∧ Below w.heap.size w wi) (fun i _ => k - (intOf i).toNat)
  case atStart => exact ⟨0, Nat.zero_le _, rfl, by rw [growL_zero]; exact H1.out, H2.out, H3.out, hB2⟩
  case round =>
    clear H1 H2 H3 hB2
    obtain ⟨i', hi', rfl, h1, h2, h3, hB⟩ := hrel
    have H1 := Lib.hid h1
    have H2 := Lib.hid h2
    have H3 := Lib.hid h3
    have s1 := h1.lt
    have s2 := h2.lt
    clear h1 h2 h3
    by_cases hlt2 : i' < k
    · have c1 := HoldsF.of_crL H1.out i' (by rw [growL_length _ _ _ (by rw [HR.out]; omega), HR.out]; omega)
      rw [growL_get _ _ _ _ (Nat.le_refl _) (by rw [HR.out]; omega)] at c1
      have HX := Lib.hid (HV.out i' hlt2)
      have HSt := Lib.hid (growL_set r i' rs (k : Int) (by rw [HR.out]; omega))
      generalize rs.getD i' 0 = x at c1 HX HSt
      have hb1 : (i' : Int) < 16 := by omega
      go_wp2_with (with_reducible refine Mem.wpList_loadA rfl 42 _ rfl (w.heap.size + 1) 0 rfl [.float .f32 a, .float .f32 g] _ Try.underlying42 rfl (by kernel_rfl) (fun j v h => by rw [Nat.zero_add, H2.out.cell]; exact h) ?_)
      refine (airRate_calls a g HA.out HG.out _).mono ?_
      rintro e w3 ⟨rfl, hb3⟩
      rw [← HRR.out]
      have hB3 := below_call hB hb3
      have H1 := Lib.hid (H1.out.below hb3 H1.out.lt)
      have H2 := Lib.hid (H2.out.below hb3 H2.out.lt)
      have H3 := Lib.hid (H3.out.below hb3 H3.out.lt)
      have s1 := H1.out.lt
      clear c1 hb3 hB s2
      go_wp2_with fail
      refine (grown_calls x r HX.out HQ.out _).mono ?_
      rintro e w4 ⟨rfl, rfl⟩
      go_wp2_with (with_reducible refine Mem.wpList_store1 rfl 22 _ _ rfl w.heap.size (1 + i') rfl _ _ rfl _ H1.out (by kernel_rfl) (by rw [crL_length, growL_length _ _ _ (by rw [HR.out]; omega), HR.out]; omega) rfl ?_; intro w5 hw5)
      have hw5 : Mem.Wrote w4 w5 w.heap.size (crL (k : Int) (growL r (i' + 1) rs)) 36 := by rw [← HSt.out]; exact hw5
      go_roundw
      case rel => exact ⟨i' + 1, by omega, by go_num, hw5.blk, hw5.keep (by omega) H2.out, hw5.keep (by omega) H3.out, hB3.trans (hw5.below (by omega))⟩
      case measure => simp [intOf]; omega
    · obtain rfl : i' = k := by omega
      have HLj := Lib.hid ((growL_length r i' rs (by rw [HR.out]; omega)).trans HR.out)
      obtain ⟨xs, hxs⟩ : ∃ xs, xs = growL r i' rs := ⟨_, rfl⟩
      rw [← hxs] at H1 HLj
      have HXS := Lib.hid hxs
      clear hxs
      go_wp2_with (first
        | (with_reducible refine Mem.wpList_loadA rfl 36 _ rfl w.heap.size 0 rfl (crL (i' : Int) xs) _ Try.underlying36 rfl (by rw [crL_length, HLj.out]; kernel_rfl) (fun j v h => by rw [Nat.zero_add, H1.out.cell]; exact h) ?_)
        | (with_reducible refine Mem.wpList_storeA rfl 36 _ _ rfl (w.heap.size + 1 + 1) 0 rfl (crL (i' : Int) xs) _ rfl _ H3.out (by rw [crL_length, HLj.out]; kernel_rfl) (by rw [crL_length, crL_length, HLj.out]; simp [zeros]) (crL_one _ xs) ?_; intro w5 hw5))
      have hw6 : Mem.Blk w5 (w.heap.size + 1 + 1) (crL (i' : Int) xs) 36 := by
        have e : List.take 0 (crL 0 (zeros 16)) ++ crL (i' : Int) xs ++ List.drop (0 + (crL (i' : Int) xs).length) (crL 0 (zeros 16)) = crL (i' : Int) xs := by
          rw [List.drop_of_length_le (by rw [crL_length, crL_length, HLj.out]; simp [zeros])]; simp
        rw [← e]; exact hw5.blk
      exact bodyPost_ret (v := .agg (crL (i' : Int) xs).toArray) (Mem.results_cellA Try.results57 _ (w.heap.size + 1 + 1) (crL (i' : Int) xs) 36 _ rfl hw6 Try.underlying36 rfl (by rw [crL_length, HLj.out]; kernel_rfl)) rfl
        ⟨by rw [HXS.out], hB.trans (hw5.below (by omega))⟩
end Go.Proofs.Ytfbflbiohbhmmaa
