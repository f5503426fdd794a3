/-
  What all fruits of a crate cost: what both programs compute.
-/
import Derived.Test.YtfbflbiohbhmmaaPat
import Derived.Test.YtfbflbiohbhmmaaPvalidCr
namespace Go.Proofs.Ytfbflbiohbhmmaa
open Go.RowKit

namespace Rg
/-- An operation that yields this value. -/
theorem walk_val {P : Program} {ops : Array Oper} {C : World → Prop} {S : FuncId → Array Value → Value → Prop} {Q : Act → Prop} {a : Act} {o : Oper} {rest : List Oper} (hgd : o.guard = none) (v : Value) (h : ∀ w, C w → (execOp a.eval o).run P w = .ok (.value v) w)
    (hk : walk P ops C S Q rest (a.put o.dst v)) : walk P ops C S Q (o :: rest) a :=
  walk_plain hgd fun K hK w hw => by
    unfold Oper.wp
    rw [h w hw]
    exact ⟨trivial, hw, hK _ hk⟩
end Rg

theorem vCrate_nat {c : Int} {rs : List Nat} (h : vCrate c rs = true) : ∃ k : Nat, c = (k : Int) ∧ k ≤ 16 ∧ ∀ i, i < k → vPart (rs.getD i 0) = true := by
  unfold vCrate at h
  obtain ⟨h1, h2⟩ := Bool.and_eq_true_iff.1 h
  obtain ⟨h3, h4⟩ := Bool.and_eq_true_iff.1 h1
  have h3 := of_decide_eq_true h3
  have h4 := of_decide_eq_true h4
  refine ⟨c.toNat, by omega, by omega, fun i hi => ?_⟩
  have := List.all_eq_true.1 h2 i (List.mem_range.2 (by omega))
  unfold fruitOk at this
  rwa [if_pos (by omega)] at this

/-- The first fruits' prices, added from nought on. -/
def worthN (ps rs : List Nat) : Nat → Nat
  | 0 => 0
  | k + 1 => Fl.add (worthN ps rs k) (priceAt ps (rs.getD k 0))

set_option maxHeartbeats 1000000 in
theorem fruits_calls (g k : Nat) (hk : k ≤ 16) (w : World) (h0 : w.cell? ⟨g, 0, none⟩ = some (.int .i8 (k : Int))) (hg : g < w.heap.size) :
    Calls Try.prog 64 #[.pointer (some ⟨g, 0, none⟩)] w (Ret (.slice (some ⟨g, 1, none⟩) k 16) w) := by
  go_enter Try.func64, Try.ntmps64
  go_wp2_with fail
  (refine Rg.region_tail 8 (fun w' => Below (w).heap.size w w') (fun _ _ _ => False) (by kernel_rfl) (by kernel_rfl) (by exact (Below.refl (w).heap.size w).drew) ?_; simp only [List.take_succ_cons, List.take_zero, List.drop_succ_cons, List.drop_zero])
  (repeat (first | ((with_reducible refine Rg.walk_plain rfl (fun Kz hKz wz hwz => ?_)); (have hclz : ∀ bb oo, bb < (w).heap.size → wz.cell? ⟨bb, oo, none⟩ = (w).cell? ⟨bb, oo, none⟩ := fun bb oo h => hwz.cell (p := ⟨bb, oo, none⟩) h); go_simp; refine hKz _ ?_; clear hKz hwz hclz Kz wz) | ((with_reducible refine Rg.walk_on ?_ (fun Kz hKz wz hwz => ?_)); (next => (go_simp; done)); (have hclz : ∀ bb oo, bb < (w).heap.size → wz.cell? ⟨bb, oo, none⟩ = (w).cell? ⟨bb, oo, none⟩ := fun bb oo h => hwz.cell (p := ⟨bb, oo, none⟩) h); go_simp; refine hKz _ ?_; clear hKz hwz hclz Kz wz) | ((with_reducible refine Rg.walk_step (fun Kz hKz => ?_)); go_simp; refine hKz _ ?_; clear hKz Kz)))
  refine Rg.walk_val rfl (.slice (some ⟨g, 1, none⟩) k 16) (fun W _ => Mem.run_opSliceH 32 _ _ rfl g 1 k 16 .i8 22 rfl rfl Try.underlying32 (by kernel_rfl) hk) ?_
  (repeat (first | ((with_reducible refine Rg.walk_plain rfl (fun Kz hKz wz hwz => ?_)); (have hclz : ∀ bb oo, bb < (w).heap.size → wz.cell? ⟨bb, oo, none⟩ = (w).cell? ⟨bb, oo, none⟩ := fun bb oo h => hwz.cell (p := ⟨bb, oo, none⟩) h); go_simp; refine hKz _ ?_; clear hKz hwz hclz Kz wz) | ((with_reducible refine Rg.walk_on ?_ (fun Kz hKz wz hwz => ?_)); (next => (go_simp; done)); (have hclz : ∀ bb oo, bb < (w).heap.size → wz.cell? ⟨bb, oo, none⟩ = (w).cell? ⟨bb, oo, none⟩ := fun bb oo h => hwz.cell (p := ⟨bb, oo, none⟩) h); go_simp; refine hKz _ ?_; clear hKz hwz hclz Kz wz) | ((with_reducible refine Rg.walk_step (fun Kz hKz => ?_)); go_simp; refine hKz _ ?_; clear hKz Kz)))
  refine Rg.walk_nil ?_
  intro w1 hw1
  clear h0
  go_wp2_with fail
  go_ret
  exact ⟨rfl, hw1⟩

set_option maxHeartbeats 2000000 in
theorem l05Worth_calls (g gp k : Nat) (ps rs : List Nat) (hk : k ≤ 16) (hr : rs.length = 16) (hp : ps.length = 8) (hv : ∀ i, i < k → vPart (rs.getD i 0) = true) (w : World)
    (h0 : w.cell? ⟨g, 0, none⟩ = some (.int .i8 (k : Int))) (hf : HoldsF w g 1 rs) (hg : g < w.heap.size) (hd : HoldsF w gp 0 ps) (hgp : gp < w.heap.size) :
    Calls Try.prog 48 #[.pointer (some ⟨g, 0, none⟩), .pointer (some ⟨gp, 0, none⟩)] w (RetF (worthN ps rs k) w) := by
  have HR := Lib.hid hr
  have HP := Lib.hid hp
  have HV := Lib.hid hv
  have HF := Lib.hid hf
  have HD := Lib.hid hd
  have H0 := Lib.hid h0
  clear hr hp hv hf hd h0
  go_enter Try.func48, Try.ntmps48
  go_wp2_with fail
  go_loopw [5, 6] (fun s i wr => ∃ (j : Nat) (v : Nat), j ≤ k ∧ i = .int .i64 j ∧ s = .float .f32 v ∧ Fl.canon v = Fl.canon (worthN ps rs j) ∧ Below w.heap.size w wr) (fun _ i _ => k - (intOf i).toNat)
  case atStart => exact ⟨0, 0, Nat.zero_le _, rfl, rfl, rfl, Below.refl _ _⟩
  case round =>
    obtain ⟨j, v, hj, rfl, rfl, hcv, hB⟩ := hrel
    have HC := Lib.hid hcv
    clear hcv
    have c0 := (hB.cell (p := ⟨g, 0, none⟩) hg).trans H0.out
    have zr := hB.size
    have lg : g < wr.heap.size := by omega
    by_cases hlt : j < k
    · have c1 := (HF.out.below hB hg) j (by rw [HR.out]; omega)
      have hst : Hid (worthN ps rs (j + 1) = Fl.add (worthN ps rs j) (priceAt ps (rs.getD j 0))) := rfl
      have HVx := Lib.hid (HV.out j hlt)
      have HDr := Lib.hid (HD.out.below hB hgp)
      obtain ⟨x, hx⟩ : ∃ x, x = rs.getD j 0 := ⟨_, rfl⟩
      rw [← hx] at c1 hst HVx
      clear hx
      have hb1 : (j : Int) < 16 := by omega
      go_wp2_with fail
      refine (l05At_calls gp ps x HP.out HVx.out _ HDr.out (by omega)).mono ?_
      rintro e w2 ⟨u, rfl, hu, hb2⟩
      have HU := Lib.hid hu
      have hB2 := below_call hB hb2
      clear hu c0 c1
      go_wp2_with fail
      go_roundw
      case rel => exact ⟨j + 1, _, by omega, by go_num, rfl, by rw [hst.out]; exact raddC HC.out HU.out, below_n hB2 _⟩
      case measure => simp [intOf]; omega
    · obtain rfl : j = k := by omega
      go_wp2_with fail
      go_ret
      exact ⟨v, rfl, HC.out, hB⟩

set_option maxHeartbeats 2000000 in
theorem pricesWorth_calls (k : Nat) (ps rs : List Nat) (hk : k ≤ 16) (hr : rs.length = 16) (hp : ps.length = 8) (hv : ∀ i, i < k → vPart (rs.getD i 0) = true) (w : World) :
    Calls Try.prog 51 #[.agg (fL ps).toArray, .agg (crL (k : Int) rs).toArray] w (RetF (worthN ps rs k) w) := by
  have HR := Lib.hid hr
  have HP := Lib.hid hp
  have HV := Lib.hid hv
  clear hr hp hv
  go_enter Try.func51, Try.ntmps51
  go_upto_region 1 with (fail)
  generalize hw1 : (w.alloc _).alloc _ = w1
  have h1 : Mem.Blk w1 w.heap.size (fL ps) 26 := hw1 ▸ (Mem.Blk.new w _ _).alloc _
  have h2 : Mem.Blk w1 (w.heap.size + 1) (crL (k : Int) rs) 36 := hw1 ▸ (Mem.Blk.new1 w _ _ _)
  have hb : Below w.heap.size w w1 := hw1 ▸ below_a2 w _ _
  clear hw1
  have H1 := Lib.hid h1
  have H2 := Lib.hid h2
  have s2 := h2.lt
  clear h1 h2
  go_wp2_with (go_at_call 64; refine (fruits_calls (w.heap.size + 1) k hk w1 (H2.out.cell 0) s2).mono ?_; rintro e w2 ⟨rfl, hb2⟩)
  have hB2 := below_call hb hb2
  have H1' := Lib.hid (H1.out.below hb2 H1.out.lt)
  have H2' := Lib.hid (HoldsF.of_crL (H2.out.below hb2 H2.out.lt))
  have s1 := H1'.out.lt
  have s3 : w.heap.size + 1 < w2.heap.size := by have := hb2.size; omega
  have zz := hB2.size
  clear hb2 hb H1 H2 s2
  go_loopw [5, 10] (fun s i wr => ∃ (j : Nat) (v : Nat), j ≤ k ∧ i = .int .i64 j ∧ s = .float .f32 v ∧ Fl.canon v = Fl.canon (worthN ps rs j) ∧ Below w2.heap.size w2 wr) (fun _ i _ => k - (intOf i).toNat)
  case atStart => exact ⟨0, 0, Nat.zero_le _, rfl, rfl, rfl, Below.refl _ _⟩
  case round =>
    obtain ⟨j, v, hj, rfl, rfl, hcv, hB⟩ := hrel
    have HC := Lib.hid hcv
    clear hcv
    have zr := hB.size
    by_cases hlt : j < k
    · have c1 : wr.cell? ⟨w.heap.size + 1, 1 + j, none⟩ = _ := (H2'.out.below hB s3) j (by rw [HR.out]; omega)
      have hst : Hid (worthN ps rs (j + 1) = Fl.add (worthN ps rs j) (priceAt ps (rs.getD j 0))) := rfl
      have HVx := Lib.hid (HV.out j hlt)
      have HDr := Lib.hid (H1'.out.below hB s1)
      obtain ⟨x, hx⟩ : ∃ x, x = rs.getD j 0 := ⟨_, rfl⟩
      rw [← hx] at c1 hst HVx
      clear hx
      have lr := HDr.out.lt
      go_wp2_with (with_reducible refine Mem.wpList_loadA rfl 26 _ rfl w.heap.size 0 rfl (fL ps) _ Try.underlying26 rfl (by rw [fL_length, HP.out]; kernel_rfl) (fun j v h => by rw [Nat.zero_add, HDr.out.cell]; exact h) ?_)
      refine (pricesAt_calls ps x HP.out HVx.out _).mono ?_
      rintro e w3 ⟨u, rfl, hu, hb3⟩
      have HU := Lib.hid hu
      have hB3 := below_call hB hb3
      clear hu c1
      go_wp2_with fail
      go_roundw
      case rel => exact ⟨j + 1, _, by omega, by go_num, rfl, by rw [hst.out]; exact raddC HC.out HU.out, below_n hB3 _⟩
      case measure => simp [intOf]; omega
    · obtain rfl : j = k := by omega
      go_wp2_with fail
      go_ret
      exact ⟨v, rfl, HC.out, below_call hB2 hB⟩
end Go.Proofs.Ytfbflbiohbhmmaa
