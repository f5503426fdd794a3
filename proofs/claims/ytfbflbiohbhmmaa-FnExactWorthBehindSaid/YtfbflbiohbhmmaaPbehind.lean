/-
  The walk of the law on WorthBehind.
-/
import Derived.Test.YtfbflbiohbhmmaaPthree
import Derived.Test.YtfbflbiohbhmmaaPsame
import Derived.Test.YtfbflbiohbhmmaaReg4
namespace Go.Proofs.Ytfbflbiohbhmmaa
open Go.RowKit

def behindOf (c : Int) (rs : List Nat) (a g : Nat) (ps : List Nat) (n : Int) : Nat :=
  if wbCode c rs a g ps (daysN n) = 0 then worthN ps (growD (Fl.rateOf a g) c.toNat rs n.toNat) c.toNat else 0

namespace Rg
theorem run_opStoreA {P : Program} {o : Oper} {a : Act} {w : World} (ty : TypeId) (x y : Operand) (ho : o.op = .store ty x y) (g off : Nat) (hx : a.eval x = .pointer (some ⟨g, off, none⟩)) (cs cur : List Value)
    (hy : a.eval y = .agg cs.toArray) (t : TypeId) (hg : Mem.Blk w g cur t) (hi : (P.info? ty).map (·.size) = some cs.length) (hfit : off + cs.length ≤ cur.length) (h1 : ∀ v ∈ cs, v.oneCell' = true) :
    (execOp a.eval o).run P w = .ok .skip (w.setRow g (cur.take off ++ cs ++ cur.drop (off + cs.length)).toArray) := by
  unfold execOp
  simp only [ho, hx, hy, Instr.storeAt, Instr.sureAddr, Sem.run_bind, Sem.run_pure, Result.andThen_ok, Mem.run_storeA ty g off cs cur t hg hi hfit h1]
end Rg

/-- What is known of the values of the region that makes the crate behind all days. -/
def endP (n0 k m r : Nat) (rs xs : List Nat) : Nat → (Nat → Value) → Value → World → Prop
  | 0, _, u, _ => u = .agg (crL (k : Int) rs).toArray
  | 1, _, u, _ => u = .float .f32 r
  | 2, _, u, _ => u = .int .i64 (m : Int)
  | 3, _, u, _ => u = .agg (crL (k : Int) xs).toArray
  | 4, _, u, W => ∃ b cur, u = .pointer (some ⟨b, 0, none⟩) ∧ n0 ≤ b ∧ Mem.Blk W b cur 36 ∧ cur.length = 17
  | 5, vs, _, W => ∃ b, vs 4 = .pointer (some ⟨b, 0, none⟩) ∧ n0 ≤ b ∧ Mem.Blk W b (crL (k : Int) xs) 36
  | _, _, _, _ => True
theorem endP_below {n0 k m r : Nat} {rs xs : List Nat} {W W' : World} (h : Below W.heap.size W W') (j : Nat) (vs : Nat → Value) (u : Value) (hp : endP n0 k m r rs xs j vs u W) : endP n0 k m r rs xs j vs u W' := by
  match j, hp with
  | 0, hp => exact hp
  | 1, hp => exact hp
  | 2, hp => exact hp
  | 3, hp => exact hp
  | 4, ⟨b, cur, h1, h2, h3, h4⟩ => exact ⟨b, cur, h1, h2, h3.below h h3.lt, h4⟩
  | 5, ⟨b, h1, h2, h3⟩ => exact ⟨b, h1, h2, h3.below h h3.lt⟩
  | _ + 6, _ => trivial
theorem endP_wrote {n0 k m r : Nat} {rs xs l : List Nat} {b : Nat} {W W' : World} (hl : l.length = 16) (h : Mem.Wrote W W' b (crL (k : Int) l) 36) (j : Nat) (vs : Nat → Value) (u : Value) (hj : j ≠ 5) (hp : endP n0 k m r rs xs j vs u W) : endP n0 k m r rs xs j vs u W' := by
  match j, hp with
  | 0, hp => exact hp
  | 1, hp => exact hp
  | 2, hp => exact hp
  | 3, hp => exact hp
  | 4, ⟨b', cur, h1, h2, h3, h4⟩ =>
    by_cases hb : b' = b
    · subst hb
      exact ⟨b', _, h1, h2, h.blk, by rw [crL_length, hl]⟩
    · exact ⟨b', cur, h1, h2, h.keep hb h3, h4⟩
  | 5, _ => exact absurd rfl hj
  | _ + 6, _ => trivial

set_option maxHeartbeats 2000000 in
theorem specWorthBehind_calls (c : Int) (rs : List Nat) (a g : Nat) (ps : List Nat) (n : Int) (hr : rs.length = 16) (hlo : -128 ≤ c) (hhi : c ≤ 127) (hp : ps.length = 8) (w : World) :
    Calls Try.prog 17 #[.agg (crL c rs).toArray, .agg #[.float .f32 a, .float .f32 g], .agg (fL ps).toArray, .int .i64 n] w (RetFC (behindOf c rs a g ps n) (wbCode c rs a g ps (daysN n)) w) := by
  have HB : Hid (behindOf c rs a g ps n = if wbCode c rs a g ps (daysN n) = 0 then worthN ps (growD (Fl.rateOf a g) c.toNat rs n.toNat) c.toNat else 0) := Lib.hid rfl
  have HZ := Lib.hid (@wb_zero c rs a g ps (daysN n))
  have HR := Lib.hid hr
  have HP := Lib.hid hp
  have HT := Lib.hid (fun gc ga gp W h1 h2 h3 => l05Three_calls gc ga gp c rs a g ps (daysN n) hr hlo hhi hp W h1 h2 h3)
  clear hr hp
  generalize behindOf c rs a g ps n = res at HB
  generalize wbCode c rs a g ps (daysN n) = cd at HB HZ HT
  go_enter Try.func17, Try.ntmps17
  go_upto_region 1 with (fail)
  generalize hw1 : ((w.alloc _).alloc _).alloc _ = w1
  have h1 : Mem.Blk w1 w.heap.size (crL c rs) 36 := hw1 ▸ ((Mem.Blk.new w _ _).alloc _).alloc _
  have h2 : Mem.Blk w1 (w.heap.size + 1) [.float .f32 a, .float .f32 g] 42 := hw1 ▸ (Mem.Blk.new1 w _ _ _).alloc _
  have h3 : Mem.Blk w1 (w.heap.size + 1 + 1) (fL ps) 26 := hw1 ▸ (Mem.Blk.new2 w _ _ _ _)
  have hb : Below w.heap.size w w1 := hw1 ▸ below_a3 w _ _ _
  clear hw1
  have H1 := Lib.hid h1
  have H2 := Lib.hid h2
  have H3 := Lib.hid h3
  have s1 := h1.lt
  have s2 := h2.lt
  have s3 := h3.lt
  clear h1 h2 h3
  go_wp2_with fail
  refine (l01Days_calls n _).mono ?_
  rintro e w2 ⟨rfl, rfl⟩
  go_wp2_with fail
  refine (HT.out w.heap.size (w.heap.size + 1) (w.heap.size + 1 + 1) _ H1.out H2.out H3.out).mono ?_
  rintro e w3 ⟨rfl, rfl⟩
  by_cases h0 : cd = 0
  · obtain ⟨⟨k, hck, hk, hkv⟩, ha, hg, hfine⟩ := HZ.out h0
    obtain ⟨m, hm, hm2⟩ := days_nat hfine
    subst hck hm h0
    have HX := Lib.hid (show res = worthN ps (growD (Fl.rateOf a g) k rs m) k by rw [HB.out, if_pos rfl]; rfl)
    have HKV := Lib.hid hkv
    have HA := Lib.hid ha
    have HG := Lib.hid hg
    clear ha hg hfine hkv HB HZ HT
    go_wp2_with fail
    have hxl : (growD (Fl.rateOf a g) k rs m).length = 16 := (growD_length _ _ _ (by rw [HR.out]; omega) _).trans HR.out
    have hpos := (Fl.rate_up HA.out HG.out).2.2.2
    have hparts := growD_parts (Fl.rateOf a g) k rs (by rw [HR.out]; omega) hpos HKV.out m
    have hmix : (Try.prog).follows .mixedOrders = true := by kernel_rfl
    refine Rg.region_og (fun W => Below w3.heap.size w3 W) (endP w3.heap.size k m (Fl.rateOf a g) rs (growD (Fl.rateOf a g) k rs m)) (fun _ _ => True) hmix ?_ (by kernel_rfl) ?_ (fun _ _ => trivial) ?_ ?_
    · intro i j vs v u W hw hp
      match j, hp with
      | 0, hp => exact hp
      | 1, hp => exact hp
      | 2, hp => exact hp
      | 3, hp => exact hp
      | 4, hp => exact hp
      | 5, ⟨b, h1, h2, h3⟩ =>
        refine ⟨b, ?_, h2, h3⟩
        have hi : ¬ 4 = i := by
          rintro rfl
          exact Bool.noConfusion (hw.symm.trans (by kernel_rfl : _ = true))
        unfold Rg.setV
        rw [if_neg hi]; exact h1
      | _ + 6, _ => trivial
    · exact ⟨rfl, rfl, rfl, Nat.le_refl _, fun _ _ => rfl⟩
    · simp only [Rg.parts]
      refine ⟨?_, ?_, ?_, ?_, ?_, ?_, trivial⟩
      · exact Rg.part_val rfl fun vs W hG _ _ _ => ⟨_, W, Rg.run_opLoadA 36 _ rfl w.heap.size 0 rfl (crL (k : Int) rs) _ Try.underlying36 rfl (by rw [crL_length, HR.out]; kernel_rfl) (fun j v h => by rw [Nat.zero_add, (H1.out.below hG s1).cell]; exact h), hG, rfl, fun _ _ _ _ h => h, fun _ _ _ => trivial⟩
      · exact Rg.part_call rfl fun vs W hG _ _ _ => ⟨55, #[.pointer (some ⟨w.heap.size + 1, 0, none⟩)], by simp only [Rg.putAll, Act.put, List.setIfInBounds_toArray, List.set_cons_succ, List.set_cons_zero]; go_simp,
          (l01Rate_calls (w.heap.size + 1) a g HA.out HG.out W ((H2.out.below hG s2).cell 0) ((H2.out.below hG s2).cell 1) (by have := hG.size; omega)).mono fun e w' ⟨he, hb'⟩ => ⟨_, he, below_call hG hb', rfl, fun j u _ _ h => endP_below hb' j vs u h, fun _ _ _ => trivial⟩⟩
      · exact Rg.part_val rfl fun vs W hG _ _ _ => ⟨.int .i64 (m : Int), W, by simp only [Rg.putAll, Act.put, List.setIfInBounds_toArray, List.set_cons_succ, List.set_cons_zero]; go_simp, hG, rfl, fun _ _ _ _ h => h, fun _ _ _ => trivial⟩
      · refine Rg.part_call rfl fun vs W hG _ hd _ => ?_
        have e0 : vs 0 = .agg (crL (k : Int) rs).toArray := hd 0 (by kernel_rfl)
        have e1 : vs 1 = .float .f32 (Fl.rateOf a g) := hd 1 (by kernel_rfl)
        have e2 : vs 2 = .int .i64 (m : Int) := hd 2 (by kernel_rfl)
        refine ⟨54, #[.agg (crL (k : Int) rs).toArray, .float .f32 (Fl.rateOf a g), .int .i64 (m : Int)], ?_, ?_⟩
        · simp only [Rg.putAll, Act.put, List.setIfInBounds_toArray, List.set_cons_succ, List.set_cons_zero, e0, e1, e2]
          go_simp
        · exact (l01Grow_calls k (Fl.rateOf a g) m rs hk HR.out HKV.out hpos (by omega) W).mono fun e w' ⟨he, hb'⟩ => ⟨_, he, below_call hG hb', rfl, fun j u _ _ h => endP_below hb' j vs u h, fun _ _ _ => trivial⟩
      · exact Rg.part_val rfl fun vs W hG _ _ _ => ⟨.pointer (some ⟨W.heap.size, 0, none⟩), W.alloc (.cells (crL 0 (zeros 16)).toArray 36), by simp only [Rg.putAll, Act.put, List.setIfInBounds_toArray, List.set_cons_succ, List.set_cons_zero]; go_simp; rfl, below_call hG (below_a1 _ _), ⟨W.heap.size, _, rfl, hG.size, Mem.Blk.new W _ _, by simp [crL, fL, zeros]⟩, fun j u _ _ h => endP_below (below_a1 _ _) j vs u h, fun _ _ _ => trivial⟩
      · refine Rg.part_skip rfl fun vs W hG _ hd _ => ?_
        have e3 : vs 3 = .agg (crL (k : Int) (growD (Fl.rateOf a g) k rs m)).toArray := hd 3 (by kernel_rfl)
        obtain ⟨b, cur, e4, hb0, hblk, hcl⟩ := hd 4 (by kernel_rfl)
        have hcx := crL_length (k : Int) (growD (Fl.rateOf a g) k rs m)
        have hrun := Rg.run_opStoreA (P := Try.prog) (o := { dst := none, op := Op.store 36 (Operand.tmp 11) (Operand.tmp 21), type := 0, pos := "", after := #[], guard := none }) (a := ⟨#[undef, undef, undef, undef, undef, undef, undef, undef, undef, undef, undef, vs 4, undef, undef, undef, undef, undef, undef, undef, undef, undef, vs 3], []⟩) 36 _ _ rfl b 0 e4 (crL (k : Int) (growD (Fl.rateOf a g) k rs m)) cur e3 36 hblk (by rw [hcx, hxl]; kernel_rfl) (by rw [hcx, hxl, hcl]; decide) (crL_one _ _)
        have hcur : cur.take 0 ++ crL (k : Int) (growD (Fl.rateOf a g) k rs m) ++ cur.drop (0 + (crL (k : Int) (growD (Fl.rateOf a g) k rs m)).length) = crL (k : Int) (growD (Fl.rateOf a g) k rs m) := by
          rw [List.drop_of_length_le (by rw [hcx, hxl, hcl]; decide)]; simp
        rw [hcur] at hrun
        have hwr : Mem.Wrote W _ b (crL (k : Int) (growD (Fl.rateOf a g) k rs m)) 36 := Mem.wrote_setRow hblk
        exact ⟨_, hrun, hG.trans (hwr.below hb0), ⟨b, e4, hb0, hwr.blk⟩, fun j u hj _ h => endP_wrote hxl hwr j vs u hj h, fun _ _ _ => trivial⟩
    · intro vs W hG hall
      obtain ⟨b, e4, hb0, hblk⟩ := hall 5 (of_decide_eq_true (by kernel_rfl))
      clear hall
      have HBK := Lib.hid hblk
      have HPs := Lib.hid (H3.out.below hG s3)
      have lb := hblk.lt
      have hB := below_call hb hG
      have HXL := Lib.hid hxl
      have HPT := Lib.hid hparts
      simp only [Rg.putAll, Act.put, List.setIfInBounds_toArray, List.set_cons_succ, List.set_cons_zero, e4]
      generalize vs 0 = t0 at *
      generalize vs 1 = t1 at *
      generalize vs 2 = t2 at *
      generalize vs 3 = t3 at *
      clear hblk hxl hparts hpos hmix s1 s2 s3 hG e4
      go_wp2_with fail
      refine (l05Worth_calls b (w.heap.size + 1 + 1) k ps _ hk HXL.out HP.out HPT.out W (HBK.out.cell 0) (HoldsF.of_crL HBK.out) lb (HoldsF.of_blk HPs.out (fun _ _ => rfl)) HPs.out.lt).mono ?_
      rintro e w4 ⟨v, rfl, hv, hb4⟩
      have HVV := Lib.hid hv
      clear hv
      go_wp2_with fail
      go_ret2
      exact ⟨v, rfl, by rw [HX.out]; exact HVV.out, below_call hB hb4⟩
  · have HX := Lib.hid (show res = 0 by rw [HB.out, if_neg h0])
    go_wp2_with fail
    go_ret2
    exact ⟨0, rfl, by rw [HX.out], hb⟩

theorem store_all {k : Int} {xs ys : List Nat} {c : Int} (h : xs.length = 16) (h' : ys.length = 16) : List.take 0 (crL c ys) ++ crL k xs ++ List.drop (0 + (crL k xs).length) (crL c ys) = crL k xs := by
  rw [List.drop_of_length_le (by rw [crL_length, crL_length, h, h']; decide)]; simp

set_option maxHeartbeats 2000000 in
theorem implWorthBehind_calls (c : Int) (rs : List Nat) (a g : Nat) (ps : List Nat) (n : Int) (hr : rs.length = 16) (hlo : -128 ≤ c) (hhi : c ≤ 127) (hp : ps.length = 8) (w : World) :
    Calls Try.prog 19 #[.agg (crL c rs).toArray, .agg #[.float .f32 a, .float .f32 g], .agg (fL ps).toArray, .int .i64 n] w (RetFC (behindOf c rs a g ps n) (wbCode c rs a g ps (daysN n)) w) := by
  have HB : Hid (behindOf c rs a g ps n = if wbCode c rs a g ps (daysN n) = 0 then worthN ps (growD (Fl.rateOf a g) c.toNat rs n.toNat) c.toNat else 0) := Lib.hid rfl
  have HZ := Lib.hid (@wb_zero c rs a g ps (daysN n))
  have HR := Lib.hid hr
  have HP := Lib.hid hp
  have HT := Lib.hid (fun W => worthCode_calls c rs a g ps n hr hlo hhi hp W)
  clear hr hp
  generalize behindOf c rs a g ps n = res at HB
  generalize wbCode c rs a g ps (daysN n) = cd at HB HZ HT
  go_enter Try.func19, Try.ntmps19
  go_upto_region 1 with (fail)
  generalize hw1 : ((w.alloc _).alloc _).alloc _ = w1
  have h1 : Mem.Blk w1 w.heap.size (crL c rs) 36 := hw1 ▸ ((Mem.Blk.new w _ _).alloc _).alloc _
  have h2 : Mem.Blk w1 (w.heap.size + 1) [.float .f32 a, .float .f32 g] 42 := hw1 ▸ (Mem.Blk.new1 w _ _ _).alloc _
  have h3 : Mem.Blk w1 (w.heap.size + 1 + 1) (fL ps) 26 := hw1 ▸ (Mem.Blk.new2 w _ _ _ _)
  have hb : Below w.heap.size w w1 := hw1 ▸ below_a3 w _ _ _
  clear hw1
  have H1 := Lib.hid h1
  have H2 := Lib.hid h2
  have H3 := Lib.hid h3
  clear h1 h2 h3
  go_wp2_with (first
    | (with_reducible refine Mem.wpList_loadA rfl 36 _ rfl w.heap.size 0 rfl (crL c rs) _ Try.underlying36 rfl (by rw [crL_length, HR.out]; kernel_rfl) (fun j v h => by rw [Nat.zero_add, H1.out.cell]; exact h) ?_)
    | (with_reducible refine Mem.wpList_loadA rfl 42 _ rfl (w.heap.size + 1) 0 rfl [.float .f32 a, .float .f32 g] _ Try.underlying42 rfl (by kernel_rfl) (fun j v h => by rw [Nat.zero_add, H2.out.cell]; exact h) ?_)
    | (with_reducible refine Mem.wpList_loadA rfl 26 _ rfl (w.heap.size + 1 + 1) 0 rfl (fL ps) _ Try.underlying26 rfl (by rw [fL_length, HP.out]; kernel_rfl) (fun j v h => by rw [Nat.zero_add, H3.out.cell]; exact h) ?_))
  refine (HT.out w1).mono ?_
  rintro e w2 ⟨rfl, hb2⟩
  have hB2 := below_call hb hb2
  have H1 := Lib.hid (H1.out.below hb2 H1.out.lt)
  have H2 := Lib.hid (H2.out.below hb2 H2.out.lt)
  have H3 := Lib.hid (H3.out.below hb2 H3.out.lt)
  clear hb hb2
  by_cases h0 : cd = 0
  · obtain ⟨⟨k, hck, hk, hkv⟩, ha, hg, hfine⟩ := HZ.out h0
    obtain ⟨m, hm, hm2⟩ := days_nat hfine
    subst hck hm h0
    have HX := Lib.hid (show res = worthN ps (growD (Fl.rateOf a g) k rs m) k by rw [HB.out, if_pos rfl]; rfl)
    have HA := Lib.hid ha
    have HG := Lib.hid hg
    have HL := Lib.hid (fun n => (growD_length (Fl.rateOf a g) k rs (by rw [HR.out]; omega) n).trans HR.out)
    have HPT := Lib.hid (growD_parts (Fl.rateOf a g) k rs (by rw [HR.out]; omega) (Fl.rate_up ha hg).2.2.2 hkv)
    have HST : Hid (∀ j, growD (Fl.rateOf a g) k rs (j + 1) = growL (Fl.rateOf a g) k (growD (Fl.rateOf a g) k rs j)) := Lib.hid (fun _ => rfl)
    have H0 : Hid (rs = growD (Fl.rateOf a g) k rs 0) := Lib.hid rfl
    clear ha hg hfine hkv HB HZ HT
    go_wp2_with fail
    go_loopw [20] (fun i wr => ∃ j : Nat, j ≤ m ∧ i = .int .i64 j ∧ Mem.Blk wr w.heap.size (crL (k : Int) (growD (Fl.rateOf a g) k rs j)) 36 ∧ Mem.Blk wr (w.heap.size + 1) [.float .f32 a, .float .f32 g] 42 ∧ Mem.Blk wr (w.heap.size + 1 + 1) (fL ps) 26 ∧ Below w.heap.size w wr) (fun i _ => m - (intOf i).toNat)
    case atStart => exact ⟨0, Nat.zero_le _, rfl, H1.out, H2.out, H3.out, hB2⟩
    case round =>
      clear H1 H2 H3 hB2
      obtain ⟨j, hj, rfl, h1, h2, h3, hB⟩ := hrel
      have H1 := Lib.hid h1
      have H2 := Lib.hid h2
      have H3 := Lib.hid h3
      clear h1 h2 h3
      by_cases hlt : j < m
      · have HLj := Lib.hid (HL.out j)
        have HPj := Lib.hid (HPT.out j)
        have HSj := Lib.hid (HST.out j)
        have HLj1 := Lib.hid (HL.out (j + 1))
        rw [HSj.out] at HLj1
        generalize growD (Fl.rateOf a g) k rs j = xs at H1 HLj HPj HSj HLj1
        go_wp2_with (first
          | (with_reducible refine Mem.wpList_loadA rfl 36 _ rfl w.heap.size 0 rfl (crL (k : Int) xs) _ Try.underlying36 rfl (by rw [crL_length, HLj.out]; kernel_rfl) (fun j v h => by rw [Nat.zero_add, H1.out.cell]; exact h) ?_)
          | (with_reducible refine Mem.wpList_loadA rfl 42 _ rfl (w.heap.size + 1) 0 rfl [.float .f32 a, .float .f32 g] _ Try.underlying42 rfl (by kernel_rfl) (fun j v h => by rw [Nat.zero_add, H2.out.cell]; exact h) ?_))
        refine (crateGrow_calls k a g xs hk HLj.out HPj.out HA.out HG.out _).mono ?_
        rintro e w3 ⟨rfl, hb3⟩
        have hB3 := below_call hB hb3
        have H1 := Lib.hid (H1.out.below hb3 H1.out.lt)
        have H2 := Lib.hid (H2.out.below hb3 H2.out.lt)
        have H3 := Lib.hid (H3.out.below hb3 H3.out.lt)
        clear hb3 hB
        go_wp2_with (with_reducible refine Mem.wpList_storeA rfl 36 _ _ rfl w.heap.size 0 rfl (crL (k : Int) (growL (Fl.rateOf a g) k xs)) _ rfl _ H1.out (by rw [crL_length, HLj1.out]; kernel_rfl) (by rw [crL_length, crL_length, HLj1.out, HLj.out]; decide) (crL_one _ _) ?_; intro w5 hw5)
        rw [store_all HLj1.out HLj.out, ← HSj.out] at hw5
        go_roundw
        case rel => exact ⟨j + 1, by omega, by go_num, hw5.blk, hw5.keep (by omega) H2.out, hw5.keep (by omega) H3.out, hB3.trans (hw5.below (by omega))⟩
        case measure => simp [intOf]; omega
      · obtain rfl : j = m := by omega
        have HLj := Lib.hid (HL.out j)
        have HPj := Lib.hid (HPT.out j)
        generalize growD (Fl.rateOf a g) k rs j = xs at H1 HLj HPj HX
        go_wp2_with (first
          | (with_reducible refine Mem.wpList_loadA rfl 36 _ rfl w.heap.size 0 rfl (crL (k : Int) xs) _ Try.underlying36 rfl (by rw [crL_length, HLj.out]; kernel_rfl) (fun j v h => by rw [Nat.zero_add, H1.out.cell]; exact h) ?_)
          | (with_reducible refine Mem.wpList_loadA rfl 26 _ rfl (w.heap.size + 1 + 1) 0 rfl (fL ps) _ Try.underlying26 rfl (by rw [fL_length, HP.out]; kernel_rfl) (fun j v h => by rw [Nat.zero_add, H3.out.cell]; exact h) ?_))
        refine (pricesWorth_calls k ps xs hk HLj.out HP.out HPj.out _).mono ?_
        rintro e w4 ⟨v, rfl, hv, hb4⟩
        have HVV := Lib.hid hv
        clear hv
        go_wp2_with fail
        go_ret2
        exact ⟨v, rfl, by rw [HX.out]; exact HVV.out, below_call hB hb4⟩
  · have HX := Lib.hid (show res = 0 by rw [HB.out, if_neg h0])
    go_wp2_with fail
    go_ret2
    exact ⟨0, rfl, by rw [HX.out], hB2⟩
end Go.Proofs.Ytfbflbiohbhmmaa
