/-
  Bad fruits, counted: what both programs answer.
-/
import Derived.Test.YtclbgkajhpknlaaPall
import Derived.Lib.BitFns
import Derived.Laws.BitsAllLaws
namespace Go.Proofs.Ytclbgkajhpknlaa
open Go.RowKit
set_option linter.unusedVariables false

/-- How many of a number's first bits are set. -/
def popN (b : Nat) : Nat → Nat
  | 0 => 0
  | k + 1 => popN b k + b / 2 ^ k % 2

theorem pop8_popN : ∀ m : Fin 256, Lib.pop8 (m.val : Int) = (popN m.val 8 : Int) := by decide +kernel
theorem popN8_le : ∀ m : Fin 256, popN m.val 8 ≤ 8 := by decide +kernel
theorem bit_mod (n j : Nat) (hj : j < 8) : n / 2 ^ j % 2 = (n % 256) / 2 ^ j % 2 := by
  obtain rfl | rfl | rfl | rfl | rfl | rfl | rfl | rfl : j = 0 ∨ j = 1 ∨ j = 2 ∨ j = 3 ∨ j = 4 ∨ j = 5 ∨ j = 6 ∨ j = 7 := by omega
  all_goals (simp only [Nat.reducePow]; omega)
theorem popN_mod (n : Nat) : ∀ j, j ≤ 8 → popN n j = popN (n % 256) j
  | 0, _ => rfl
  | j + 1, h => by
    show popN n j + n / 2 ^ j % 2 = popN (n % 256) j + (n % 256) / 2 ^ j % 2
    rw [popN_mod n j (by omega), bit_mod n j (by omega)]
theorem popN_add (n : Nat) : ∀ j, popN n (8 + j) = popN (n % 256) 8 + popN (n / 256) j
  | 0 => by rw [Nat.add_zero]; exact popN_mod n 8 (by omega)
  | j + 1 => by
    have e : n / 2 ^ (8 + j) = n / 256 / 2 ^ j := by rw [Nat.pow_add, Nat.div_div_eq_div_mul]
    show popN n (8 + j) + n / 2 ^ (8 + j) % 2 = popN (n % 256) 8 + (popN (n / 256) j + n / 256 / 2 ^ j % 2)
    rw [popN_add n j, e, Nat.add_assoc]
theorem popN_16 (n : Nat) : popN n 16 = popN (n % 256) 8 + popN (n / 256) 8 := popN_add n 8
theorem popN_stop {b k : Nat} (h : b / 2 ^ k = 0) : ∀ j, popN b (k + j) = popN b k
  | 0 => rfl
  | j + 1 => by
    have hp : 0 < 2 ^ k := Nat.pow_pos (by omega)
    have hlt : b < 2 ^ k := by
      rcases Nat.div_eq_zero_iff.1 h with h | h
      · omega
      · exact h
    have hle : 2 ^ k ≤ 2 ^ (k + j) := Nat.pow_le_pow_right (by omega) (by omega)
    show popN b (k + j) + b / 2 ^ (k + j) % 2 = popN b k
    rw [popN_stop h j, Nat.div_eq_of_lt (by omega)]; rfl

section
variable {P : Program} {ops : Array Oper} {C : World → Prop} {S : FuncId → Array Value → Value → Prop}
/-- A byte of the table of counts. -/
theorem Rg.walk_pop8 {Q : Act → Prop} {a : Act} {o : Oper} {rest : List Oper} (hg : o.guard = none) (t : TypeId) (x : Operand) (ho : o.op = .index t (.const (.string Lib.pop8tab)) x) (k : IntKind) (i : Int) (hx : a.eval x = .int k i) (h0 : 0 ≤ i) (h1 : i ≤ 255)
    (ht : P.underlying t = some .string) (h : Rg.walk P ops C S Q rest (a.put o.dst (.int .u8 (Lib.pop8 i)))) : Rg.walk P ops C S Q (o :: rest) a :=
  Rg.walk_plain hg fun K hK w hw => by
    have e : (execOp a.eval o).run P w = .ok (.value (.int .u8 (Lib.pop8 i))) w := by
      unfold execOp
      have hc : a.eval (.const (.string Lib.pop8tab)) = .string Lib.pop8tab := rfl
      simp only [ho, hc, hx, Sem.run_bind, Lib.run_index_pop8tab w t k i ht h0 h1, Result.andThen_ok, Sem.run_pure]
    unfold Oper.wp
    rw [e]
    exact ⟨trivial, hw, hK _ h⟩
end

set_option maxHeartbeats 1000000 in
theorem ones16_calls (n : Nat) (hn : n < 65536) (w : World) :
    Calls Try.prog 78 #[.int .u16 n] w (Ret (.int .i64 (popN n 16)) w) := by
  have h1 : n / 256 < 256 := by omega
  have h2 : n % 256 < 256 := by omega
  have hand : bits .and .u16 (n : Int) 255 = ((n % 256 : Nat) : Int) := by
    have := u16_and_nat n 255 hn (by omega)
    rw [show ((255 : Nat) : Int) = 255 from rfl] at this
    rw [this, show (255 : Nat) = 2 ^ 8 - 1 from rfl, Nat.and_two_pow_sub_one_eq_mod]
  have hdiv : (n : Int) / 256 = ((n / 256 : Nat) : Int) := by omega
  have p1 : Lib.pop8 ((n / 256 : Nat) : Int) = (popN (n / 256) 8 : Int) := pop8_popN ⟨n / 256, h1⟩
  have p2 : Lib.pop8 ((n % 256 : Nat) : Int) = (popN (n % 256) 8 : Int) := pop8_popN ⟨n % 256, h2⟩
  have l1 : popN (n / 256) 8 ≤ 8 := popN8_le ⟨n / 256, h1⟩
  have l2 : popN (n % 256) 8 ≤ 8 := popN8_le ⟨n % 256, h2⟩
  have HE := Lib.hid (popN_16 n)
  generalize n / 256 = hi at *
  generalize n % 256 = lo at *
  have w1 : IntKind.u8.wrap ((popN hi 8 : Int) + (popN lo 8 : Int)) = (popN hi 8 : Int) + (popN lo 8 : Int) := by rw [IntKind.wrap_u8]; omega
  have w2 : IntKind.i64.wrap ((popN hi 8 : Int) + (popN lo 8 : Int)) = (popN hi 8 : Int) + (popN lo 8 : Int) := by rw [IntKind.wrap_i64]; omega
  go_enter Try.func78, Try.ntmps78
  go_wp2_with fail
  (refine Rg.region_tail 8 (fun w' => Below (w).heap.size w w') (fun _ _ _ => False) (by kernel_rfl) (by kernel_rfl) (by exact (Below.refl (w).heap.size w).drew) ?_; simp only [List.take_succ_cons, List.take_zero, List.drop_succ_cons, List.drop_zero])
  (repeat (first | ((with_reducible refine Rg.walk_plain rfl (fun Kz hKz wz hwz => ?_)); (have hclz : ∀ bb oo, bb < (w).heap.size → wz.cell? ⟨bb, oo, none⟩ = (w).cell? ⟨bb, oo, none⟩ := fun bb oo h => hwz.cell (p := ⟨bb, oo, none⟩) h); go_simp; refine hKz _ ?_; clear hKz hwz hclz Kz wz) | ((with_reducible refine Rg.walk_on ?_ (fun Kz hKz wz hwz => ?_)); (next => (go_simp; done)); (have hclz : ∀ bb oo, bb < (w).heap.size → wz.cell? ⟨bb, oo, none⟩ = (w).cell? ⟨bb, oo, none⟩ := fun bb oo h => hwz.cell (p := ⟨bb, oo, none⟩) h); go_simp; refine hKz _ ?_; clear hKz hwz hclz Kz wz) | ((with_reducible refine Rg.walk_step (fun Kz hKz => ?_)); go_simp; refine hKz _ ?_; clear hKz Kz)))
  (with_reducible refine Rg.walk_pop8 rfl 9 (.tmp 4) (by kernel_rfl) .u16 hi rfl (by omega) (by omega) (by kernel_rfl) ?_)
  (repeat (first | ((with_reducible refine Rg.walk_plain rfl (fun Kz hKz wz hwz => ?_)); (have hclz : ∀ bb oo, bb < (w).heap.size → wz.cell? ⟨bb, oo, none⟩ = (w).cell? ⟨bb, oo, none⟩ := fun bb oo h => hwz.cell (p := ⟨bb, oo, none⟩) h); go_simp; refine hKz _ ?_; clear hKz hwz hclz Kz wz) | ((with_reducible refine Rg.walk_on ?_ (fun Kz hKz wz hwz => ?_)); (next => (go_simp; done)); (have hclz : ∀ bb oo, bb < (w).heap.size → wz.cell? ⟨bb, oo, none⟩ = (w).cell? ⟨bb, oo, none⟩ := fun bb oo h => hwz.cell (p := ⟨bb, oo, none⟩) h); go_simp; refine hKz _ ?_; clear hKz hwz hclz Kz wz) | ((with_reducible refine Rg.walk_step (fun Kz hKz => ?_)); go_simp; refine hKz _ ?_; clear hKz Kz)))
  (with_reducible refine Rg.walk_pop8 rfl 9 (.tmp 7) (by kernel_rfl) .u16 lo rfl (by omega) (by omega) (by kernel_rfl) ?_)
  rw [p2]
  (repeat (first | ((with_reducible refine Rg.walk_plain rfl (fun Kz hKz wz hwz => ?_)); (have hclz : ∀ bb oo, bb < (w).heap.size → wz.cell? ⟨bb, oo, none⟩ = (w).cell? ⟨bb, oo, none⟩ := fun bb oo h => hwz.cell (p := ⟨bb, oo, none⟩) h); go_simp; refine hKz _ ?_; clear hKz hwz hclz Kz wz) | ((with_reducible refine Rg.walk_on ?_ (fun Kz hKz wz hwz => ?_)); (next => (go_simp; done)); (have hclz : ∀ bb oo, bb < (w).heap.size → wz.cell? ⟨bb, oo, none⟩ = (w).cell? ⟨bb, oo, none⟩ := fun bb oo h => hwz.cell (p := ⟨bb, oo, none⟩) h); go_simp; refine hKz _ ?_; clear hKz hwz hclz Kz wz) | ((with_reducible refine Rg.walk_step (fun Kz hKz => ?_)); go_simp; refine hKz _ ?_; clear hKz Kz)))
  refine Rg.walk_nil ?_
  intro w3 hw2
  go_wp2_with fail
  go_ret
  refine ⟨?_, hw2⟩
  rw [HE.out]
  simp
  omega

set_option maxHeartbeats 1000000 in
theorem l07Bad_calls (g o : Nat) (n i : Nat) (hn : n < 65536) (hi : i < 16) (w : World) (h : w.cell? ⟨g, o + 17, none⟩ = some (.int .u16 n)) :
    Calls Try.prog 65 #[.pointer (some ⟨g, o, none⟩), .int .i64 i] w fun e w' => e = .returned (.bool (n / 2 ^ i % 2 == 1)) ∧ w' = w := by
  have hle : n / 2 ^ i ≤ n := Nat.div_le_self _ _
  have hq : (n : Int) / 2 ^ i = ((n / 2 ^ i : Nat) : Int) := by simp
  generalize n / 2 ^ i = q at *
  have hmin : min i 16 = i := Nat.min_eq_left (by omega)
  have HD : Hid (∀ b : Bool, b = ((q : Int) % 2 == 1) → b = (q % 2 == 1)) := fun b hb => by
    rw [hb, Bool.eq_iff_iff, beq_iff_eq, beq_iff_eq]; omega
  go_enter Try.func65, Try.ntmps65
  go_wp2_with fail
  go_ret
  exact ⟨congrArg (fun b => Ending.returned (.bool b)) (HD.out _ rfl), rfl⟩

set_option maxHeartbeats 1000000 in
theorem l07Count_calls (g o : Nat) (c : Int) (rs : List Nat) (b s t : Int) (m : Nat) (h : StOk c rs b s t m) (hv : vStore c rs b s t m = true) (w : World) (H : HoldsSt w g o c rs b s t m) :
    Calls Try.prog 51 #[.pointer (some ⟨g, o, none⟩)] w (Ret (.int .i64 (popN b.toNat 16)) w) := by
  obtain ⟨h1, h2, hz, h3, h4, h5, h6⟩ := vStore_bounds hv
  obtain ⟨-, -, hb1, hb2, -⟩ := h.bounds
  obtain ⟨k, rfl⟩ : ∃ k : Nat, c = k := ⟨c.toNat, by omega⟩
  obtain ⟨n, rfl⟩ : ∃ n : Nat, b = n := ⟨b.toNat, by omega⟩
  have hk : k ≤ 16 := by omega
  have hn : n < 65536 := by omega
  have hz' : n / 2 ^ k = 0 := by
    have : ((n / 2 ^ k : Nat) : Int) = 0 := by simpa using hz
    omega
  have HE := Lib.hid (show popN n 16 = popN n k from by
    have := popN_stop hz' (16 - k)
    rwa [show k + (16 - k) = 16 by omega] at this)
  have hpop : ∀ j, popN n j ≤ j := by
    intro j
    induction j with
    | zero => exact Nat.le_refl _
    | succ j ih => show popN n j + n / 2 ^ j % 2 ≤ j + 1; omega
  have HP := Lib.hid hpop
  obtain ⟨lg, c9, hf, c0, c1, c2, c3⟩ := H
  clear h hv hf c1 c2 c3 hz hz' hpop
  go_enter Try.func51, Try.ntmps51
  go_upto_region 3 with (fail)
  go_loopw [4, 3] (fun i j wr => ∃ q : Nat, q ≤ k ∧ i = .int .i64 q ∧ j = .int .i64 (popN n q) ∧ wr = w) (fun i _ _ => k - (intOf i).toNat)
  case atStart => exact ⟨0, Nat.zero_le _, rfl, rfl, rfl⟩
  case round =>
    obtain ⟨q, hq, rfl, rfl, rfl⟩ := hrel
    have hle := HP.out q
    by_cases hlt : q < k
    · have hstep : popN n (q + 1) = popN n q + n / 2 ^ q % 2 := rfl
      have HS := Lib.hid hstep
      clear hstep
      go_wp2_with fail
      refine (l07Bad_calls g o n q hn (by omega) _ c0).mono ?_
      rintro e w2 ⟨rfl, rfl⟩
      cases hb : (n / 2 ^ q % 2 == 1)
      · have hb' : n / 2 ^ q % 2 = 0 := by rw [beq_eq_false_iff_ne] at hb; omega
        have HB := Lib.hid hb'
        clear hb hb'
        go_wp2_with fail
        go_roundw
        case rel => exact ⟨q + 1, by omega, by go_num, by rw [HS.out, HB.out, Nat.add_zero], by first | trivial | rfl⟩
        case measure => simp [intOf]; omega
      · have hb' : n / 2 ^ q % 2 = 1 := by rw [beq_iff_eq] at hb; exact hb
        have HB := Lib.hid hb'
        clear hb hb'
        go_wp2_with fail
        go_roundw
        case rel => exact ⟨q + 1, by omega, by go_num, by rw [HS.out, HB.out]; go_num, by first | trivial | rfl⟩
        case measure => simp [intOf]; omega
    · obtain rfl : q = k := by omega
      go_wp2_with fail
      go_ret
      exact ⟨by rw [show ((n : Int)).toNat = n from Int.toNat_natCast n, HE.out]; rfl, Below.refl _ _⟩
set_option maxHeartbeats 1000000 in
theorem implBad_calls (c : Int) (rs : List Nat) (b s t : Int) (m : Nat) (h : StOk c rs b s t m) (hv : vStore c rs b s t m = true) (w : World) :
    Calls Try.prog 52 #[.agg (stL c rs b s t m).toArray] w (Ret (.int .i64 (popN b.toNat 16)) w) := by
  obtain ⟨-, -, hb1, hb2, -⟩ := h.bounds
  obtain ⟨n, rfl⟩ : ∃ n : Nat, b = n := ⟨b.toNat, by omega⟩
  have HR := Lib.hid h.len
  clear h hv
  go_enter Try.func52, Try.ntmps52
  go_upto_region 1 with (fail)
  generalize hw1 : w.alloc _ = w1
  have k1 : Mem.Blk w1 w.heap.size (stL c rs n s t m) 40 := hw1 ▸ Mem.Blk.new w _ _
  have hb : Below w.heap.size w w1 := hw1 ▸ below_a1 w _
  clear hw1
  obtain ⟨lg, c9, hf, c0, c1, c2, c3⟩ := HoldsSt.of_blk k1 HR.out
  clear hf c1 c2 c3 c9 k1
  go_wp2_with fail
  refine (ones16_calls n (by omega) _).mono ?_
  rintro e w2 ⟨rfl, hb2⟩
  go_wp2_with fail
  go_ret
  exact ⟨rfl, below_call hb hb2⟩

set_option maxHeartbeats 1000000 in
theorem specCountBad_calls (c : Int) (rs : List Nat) (b s t : Int) (m : Nat) (h : StOk c rs b s t m) (w : World) :
    Calls Try.prog 23 #[.agg (stL c rs b s t m).toArray] w (Ret (.tuple #[.int .i64 (sel (vStore c rs b s t m) ((popN b.toNat 16 : Int)) 0), .int .i64 (sel (vStore c rs b s t m) 0 1)]) w) := by
  have HO := Lib.hid h
  have HR := Lib.hid h.len
  clear h
  go_enter Try.func23, Try.ntmps23
  go_upto_region 1 with (fail)
  generalize hw1 : w.alloc _ = w1
  have h1 : Mem.Blk w1 w.heap.size (stL c rs b s t m) 40 := hw1 ▸ Mem.Blk.new w _ _
  have hb : Below w.heap.size w w1 := hw1 ▸ below_a1 w _
  clear hw1
  have HS := Lib.hid (HoldsSt.of_blk h1 HO.out.len)
  clear h1
  go_wp2_with fail
  refine (l07Ok_calls w.heap.size 0 c rs b s t m HO.out w1 HS.out).mono ?_
  rintro e w2 ⟨rfl, hb2⟩
  have hB := below_call hb hb2
  cases hv : vStore c rs b s t m
  · have HV := Lib.hid hv
    clear hv
    go_wp2_with fail
    go_ret2
    exact ⟨by rw [HV.out]; rfl, hB⟩
  · have HV := Lib.hid hv
    clear hv
    go_wp2_with fail
    refine (l07Count_calls w.heap.size 0 c rs b s t m HO.out HV.out w2 (HS.out.below hb2)).mono ?_
    rintro e w3 ⟨rfl, hb3⟩
    go_wp2_with fail
    go_ret2
    exact ⟨by rw [HV.out]; rfl, below_call hB hb3⟩

set_option maxHeartbeats 1000000 in
theorem implCountBad_calls (c : Int) (rs : List Nat) (b s t : Int) (m : Nat) (h : StOk c rs b s t m) (w : World) :
    Calls Try.prog 24 #[.agg (stL c rs b s t m).toArray] w (Ret (.tuple #[.int .i64 (sel (vStore c rs b s t m) ((popN b.toNat 16 : Int)) 0), .int .i64 (sel (vStore c rs b s t m) 0 1)]) w) := by
  have HO := Lib.hid h
  have HR := Lib.hid h.len
  clear h
  go_enter Try.func24, Try.ntmps24
  go_upto_region 1 with (fail)
  generalize hw1 : w.alloc _ = w1
  have h1 : Mem.Blk w1 w.heap.size (stL c rs b s t m) 40 := hw1 ▸ Mem.Blk.new w _ _
  have hb : Below w.heap.size w w1 := hw1 ▸ below_a1 w _
  clear hw1
  have s1 := h1.lt
  have K1 := Lib.hid (show ∀ W, Below w1.heap.size w1 W → ∀ j v, (stL c rs b s t m)[j]? = some v → W.cell? ⟨w.heap.size, 0 + j, none⟩ = some v from fun W hW j v h => ((h1.below hW s1).cell (0 + j)).trans (by rw [Nat.zero_add]; exact h))
  clear h1
  go_wp2_with (with_reducible refine Mem.wpList_loadA rfl 40 _ rfl w.heap.size 0 rfl (stL c rs b s t m) _ Try.underlying40 rfl (by rw [stL_length, HR.out]; kernel_rfl) (K1.out _ (Below.refl _ _)) ?_)
  refine (implValidStore_calls c rs b s t m HO.out _).mono ?_
  rintro e w2 ⟨rfl, hb2⟩
  have hB := below_call hb hb2
  cases hv : vStore c rs b s t m
  · have HV := Lib.hid hv
    clear hv
    go_wp2_with fail
    go_ret2
    exact ⟨by rw [HV.out]; rfl, hB⟩
  · have HV := Lib.hid hv
    clear hv
    go_wp2_with (with_reducible refine Mem.wpList_loadA rfl 40 _ rfl w.heap.size 0 rfl (stL c rs b s t m) _ Try.underlying40 rfl (by rw [stL_length, HR.out]; kernel_rfl) (K1.out _ hb2) ?_)
    refine (implBad_calls c rs b s t m HO.out HV.out w2).mono ?_
    rintro e w3 ⟨rfl, hb3⟩
    go_wp2_with fail
    go_ret2
    exact ⟨by rw [HV.out]; rfl, below_call hB hb3⟩

set_option maxHeartbeats 1000000 in
theorem fnExactCountBad_walk (c : Int) (rs : List Nat) (b s t : Int) (m : Nat) (w : World) (h : StOk c rs b s t m) :
    Calls Try.prog 7 #[.agg (stL c rs b s t m).toArray] w (RetBool true w) := by
  have HO := Lib.hid h
  have HR := Lib.hid h.len
  clear h
  go_enter Try.func7, Try.ntmps7
  go_upto_region 1 with (fail)
  generalize hw1 : w.alloc _ = w1
  have h1 : Mem.Blk w1 w.heap.size (stL c rs b s t m) 36 := hw1 ▸ Mem.Blk.new w _ _
  have hb : Below w.heap.size w w1 := hw1 ▸ below_a1 w _
  clear hw1
  have s1 := h1.lt
  have K1 := Lib.hid (show ∀ W, Below w1.heap.size w1 W → ∀ j v, (stL c rs b s t m)[j]? = some v → W.cell? ⟨w.heap.size, 0 + j, none⟩ = some v from fun W hW j v h => ((h1.below hW s1).cell (0 + j)).trans (by rw [Nat.zero_add]; exact h))
  clear h1
  go_wp2_with (with_reducible refine Mem.wpList_loadA rfl 36 _ rfl w.heap.size 0 rfl (stL c rs b s t m) _ Try.underlying36 rfl (by rw [stL_length, HR.out]; kernel_rfl) (K1.out _ (Below.refl _ _)) ?_)
  refine (toStore_calls c rs b s t m HR.out _).mono ?_
  rintro e w2 ⟨rfl, hx2⟩
  have B2 := hx2
  go_wp2_with fail
  refine (specCountBad_calls c rs b s t m HO.out _).mono ?_
  rintro e w3 ⟨rfl, hx3⟩
  have B3 := below_call B2 hx3
  go_wp2_with (with_reducible refine Mem.wpList_loadA rfl 36 _ rfl w.heap.size 0 rfl (stL c rs b s t m) _ Try.underlying36 rfl (by rw [stL_length, HR.out]; kernel_rfl) (K1.out _ B3) ?_)
  refine (toStore_calls c rs b s t m HR.out _).mono ?_
  rintro e w4 ⟨rfl, hx4⟩
  have B4 := below_call B3 hx4
  go_wp2_with fail
  refine (implCountBad_calls c rs b s t m HO.out _).mono ?_
  rintro e w5 ⟨rfl, hx5⟩
  have B5 := below_call B4 hx5
  go_wp2_with fail
  all_goals go_ret
  all_goals exact ⟨rfl, below_call hb B5⟩
end Go.Proofs.Ytclbgkajhpknlaa
