/-
  Prices: what both programs answer of them.
-/
import Derived.Test.YtfbflbiohbhmmaaFlp
import Derived.Test.YtfbflbiohbhmmaaLie
import Derived.Test.YtfbflbiohbhmmaaPidx
import Derived.Test.YtfbflbiohbhmmaaPart2
import Derived.Test.YtfbflbiohbhmmaaPcrate
import Derived.Test.YtfbflbiohbhmmaaRegT
namespace Go.Proofs.Ytfbflbiohbhmmaa
open Go.RowKit

def vPrice (a : Nat) : Bool := Fl.ge a 0 && Fl.le a 1148846080
set_option maxHeartbeats 400000 in
theorem l05Price_calls (a : Nat) (w : World) :
    Calls Try.prog 77 #[.float .f32 a] w fun e w' => e = .returned (.bool (vPrice a)) ∧ w' = w := by
  go_enter Try.func77, Try.ntmps77
  unfold vPrice
  go_wp2
  all_goals go_ret
  all_goals (refine ⟨?_, rfl⟩; simp_all)
set_option maxHeartbeats 400000 in
theorem isPrice_calls (a : Nat) (w : World) :
    Calls Try.prog 75 #[.float .f32 a] w fun e w' => e = .returned (.bool (vPrice a)) ∧ w' = w := by
  go_enter Try.func75, Try.ntmps75
  unfold vPrice
  go_wp2
  all_goals go_ret
  all_goals (refine ⟨?_, rfl⟩; simp_all)

def vPrices (rs : List Nat) : Bool := rs.all vPrice
theorem prices_upto (rs : List Nat) (h : ∀ j, j < rs.length → vPrice (rs.getD j 0) = true) : vPrices rs = true := by
  unfold vPrices
  rw [List.all_eq_true]
  intro x hx
  obtain ⟨i, hi, rfl⟩ := List.getElem_of_mem hx
  have := h i hi
  simpa [hi] using this
theorem prices_not (rs : List Nat) (k : Nat) (hk : k < rs.length) (h : vPrice (rs.getD k 0) = false) : vPrices rs = false := by
  cases hv : vPrices rs with
  | false => rfl
  | true =>
    exfalso
    have := List.all_eq_true.1 hv rs[k] (List.getElem_mem hk)
    have e : rs.getD k 0 = rs[k] := by simp [hk]
    rw [e, this] at h
    cases h

set_option maxHeartbeats 1000000 in
theorem l05Prices_calls (g : Nat) (rs : List Nat) (hr : rs.length = 8) (w : World) (hd : HoldsF w g 0 rs) (hg : g < w.heap.size) :
    Calls Try.prog 42 #[.pointer (some ⟨g, 0, none⟩)] w fun e w' => e = .returned (.bool (vPrices rs)) ∧ w' = w := by
  have HD := Lib.hid hd
  have HR := Lib.hid hr
  clear hd hr
  go_enter Try.func42, Try.ntmps42
  go_upto_region 2 with (fail)
  go_loopw [3] (fun i wr => ∃ k : Nat, k ≤ 8 ∧ i = .int .i64 k ∧ (∀ j, j < k → vPrice (rs.getD j 0) = true) ∧ wr = w) (fun i _ => 8 - (intOf i).toNat)
  case atStart => exact ⟨0, Nat.zero_le _, rfl, fun j hj => absurd hj (Nat.not_lt_zero _), by first | trivial | rfl⟩
  case round =>
    obtain ⟨k, hk, rfl, hall, rfl⟩ := hrel
    have HA := Lib.hid hall
    clear hall
    by_cases hlt : k < 8
    · have c0 := HD.out k (by rw [HR.out]; exact hlt)
      rw [Nat.zero_add] at c0
      have HV : Hid (vPrice (rs.getD k 0) = vPrice (rs.getD k 0)) := rfl
      obtain ⟨x, hx⟩ : ∃ x, x = rs.getD k 0 := ⟨_, rfl⟩
      rw [← hx] at c0
      have HX := Lib.hid hx
      clear hx HV
      go_wp2_with fail
      refine (l05Price_calls x _).mono ?_
      rintro e w3 ⟨rfl, hw3⟩
      subst hw3
      cases hv : vPrice x
      · have HV := Lib.hid (prices_not rs k (by rw [HR.out]; exact hlt) (HX.out ▸ hv))
        clear hv
        go_wp2_with fail
        go_ret
        exact ⟨by rw [HV.out]; rfl, rfl⟩
      · have HV := Lib.hid (show vPrice (rs.getD k 0) = true from HX.out ▸ hv)
        clear hv
        go_wp2_with fail
        go_roundw
        case rel => exact ⟨k + 1, by omega, by go_num, fun j hj => by rcases Nat.lt_succ_iff_lt_or_eq.1 hj with h | h; exact HA.out j h; subst h; exact HV.out, by first | trivial | rfl⟩
        case measure => simp [intOf]; omega
    · obtain rfl : k = 8 := by omega
      have HV := Lib.hid (prices_upto rs (fun j hj => HA.out j (by rw [HR.out] at hj; exact hj)))
      clear HA
      go_wp2_with fail
      go_ret
      exact ⟨by rw [HV.out]; rfl, rfl⟩

theorem validPrices1_tests (w : World) : TestsF Try.prog 74 #[] (fun a => !vPrice a) w := by
  refine ⟨fun args W => by kernel_rfl, fun x W _ => ?_⟩
  go_enter Try.func74, Try.ntmps74
  go_wp2_with (go_at_call 75; refine (isPrice_calls _ _).mono ?_; rintro e w' ⟨rfl, rfl⟩)
  go_ret
  exact ⟨rfl, Below.refl _ _⟩

set_option maxHeartbeats 1000000 in
theorem implValidPrices_calls (rs : List Nat) (hr : rs.length = 8) (w : World) :
    Calls Try.prog 38 #[.agg (fL rs).toArray] w (RetBool (vPrices rs) w) := by
  have HR := Lib.hid hr
  have EA : Hid (rs.any (fun a => !vPrice a) = !(vPrices rs)) := Lib.hid (by unfold vPrices; rw [List.all_eq_not_any_not, Bool.not_not])
  clear hr
  go_enter Try.func38, Try.ntmps38
  go_upto_region 1 with (fail)
  generalize hw1 : w.alloc _ = w1
  have hB1 : Below w.heap.size w w1 := hw1 ▸ below_a1 w _
  have h1 : Mem.Blk w1 w.heap.size (fL rs) 26 := hw1 ▸ Mem.Blk.new w _ _
  have H1 := Lib.hid h1
  clear hw1 h1
  go_wp2_with fail
  have hc := containsFuncF_calls _ _ _ w.heap.size 0 8 rs w1 (HoldsF.of_blk H1.out (fun _ _ => rfl)) H1.out.lt (by rw [HR.out]; decide) (validPrices1_tests w1)
  rw [HR.out] at hc
  refine hc.mono ?_
  rw [EA.out]
  rintro e w2 ⟨rfl, hb2⟩
  go_wp2_with fail
  go_ret
  exact ⟨by simp, below_call hB1 hb2⟩

set_option maxHeartbeats 1000000 in
theorem toPrices_calls (rs : List Nat) (hr : rs.length = 8) (w : World) :
    Calls Try.prog 11 #[.agg (fL rs).toArray] w (Ret (.agg (fL rs).toArray) w) := by
  go_enter Try.func11, Try.ntmps11
  go_wp2_with fail
  have b1 : Mem.Blk ((w.alloc (.cells (fL rs).toArray 23)).alloc (.cells (fL (zeros 8)).toArray 26)) w.heap.size (fL rs) 23 := (Mem.Blk.new w _ _).alloc _
  have b2 : Mem.Blk ((w.alloc (.cells (fL rs).toArray 23)).alloc (.cells (fL (zeros 8)).toArray 26)) (w.heap.size + 1) (fL (zeros 8)) 26 := by
    have := Mem.Blk.new (w.alloc (.cells (fL rs).toArray 23)) (fL (zeros 8)) 26
    simpa using this
  have b3 : Mem.Blk (((w.alloc (.cells (fL rs).toArray 23)).alloc (.cells (fL (zeros 8)).toArray 26)).alloc (.cells (fL (zeros 8)).toArray 26)) (w.heap.size + 1 + 1) (fL (zeros 8)) 26 := by
    have := Mem.Blk.new ((w.alloc (.cells (fL rs).toArray 23)).alloc (.cells (fL (zeros 8)).toArray 26)) (fL (zeros 8)) 26
    simpa using this
  go_loopw [4] (fun i wr => ∃ k : Nat, k ≤ 8 ∧ i = .int .i64 k ∧ Mem.Blk wr w.heap.size (fL rs) 23 ∧ Mem.Blk wr (w.heap.size + 1) (fL (zeros 8)) 26 ∧ Mem.Blk wr (w.heap.size + 1 + 1) (fL (rs.take k ++ zeros (8 - k))) 26 ∧ Below w.heap.size w wr) (fun i _ => 8 - (intOf i).toNat)
  case atStart => exact ⟨0, by omega, rfl, b1.alloc _, b2.alloc _, b3, below_a3 _ _ _ _⟩
  case round =>
    clear b1 b2 b3
    obtain ⟨k, hk, rfl, h1, h2, h3, hb⟩ := hrel
    by_cases hlt : k < 8
    · have c1 : wr.cell? ⟨w.heap.size, k, none⟩ = some (.float .f32 (rs.getD k 0)) := (h1.cell k).trans (fL_get rs k (by omega))
      have HR := Lib.hid hr
      clear hr
      go_wp2_with (with_reducible refine Mem.wpList_store1 rfl 22 _ _ rfl (w.heap.size + 1 + 1) k rfl _ _ rfl _ h3 (by kernel_rfl) (by have := HR.out; simp [fL, zeros]; omega) rfl ?_; intro w1 hw1)
      have hs := set_step rs 8 k HR.out hlt
      have hw2 : Mem.Wrote wr w1 (w.heap.size + 1 + 1) (fL (rs.take (k + 1) ++ zeros (8 - (k + 1)))) 26 := by
        rw [← hs]; exact hw1
      clear hw1 hs c1
      go_roundw
      case rel => exact ⟨k + 1, by omega, by go_num, hw2.keep (by omega) h1, hw2.keep (by omega) h2, hw2.blk, hb.trans (hw2.below (by omega))⟩
      case measure => simp [intOf]; omega
    · obtain rfl : k = 8 := by omega
      have ht : rs.take 8 ++ zeros (8 - 8) = rs := by rw [List.take_of_length_le (by omega)]; simp [zeros]
      rw [ht] at h3
      have h3c : ∀ j v, (fL rs)[j]? = some v → wr.cell? ⟨w.heap.size + 1 + 1, 0 + j, none⟩ = some v := fun j v h => by rw [Nat.zero_add, h3.cell]; exact h
      have HC := Lib.hid h3c
      have HR := Lib.hid hr
      clear hr ht h3c
      go_wp2_with (first | (with_reducible refine Mem.wpList_loadA rfl 26 _ rfl (w.heap.size + 1 + 1) 0 rfl (fL rs) _ Try.underlying26 rfl (by rw [fL_length, HR.out]; kernel_rfl) HC.out ?_) | (with_reducible refine Mem.wpList_storeA rfl 26 _ _ rfl (w.heap.size + 1) 0 rfl (fL rs) _ rfl _ h2 (by rw [fL_length, HR.out]; kernel_rfl) (by rw [fL_length, fL_length, HR.out]; simp [zeros]) (fL_one rs) ?_; intro w1 hw1))
      have hw2 : Mem.Blk w1 (w.heap.size + 1) (fL rs) 26 := by
        have e : List.take 0 (fL (zeros 8)) ++ fL rs ++ List.drop (0 + (fL rs).length) (fL (zeros 8)) = fL rs := by
          rw [List.drop_of_length_le (by rw [fL_length, fL_length, HR.out]; simp [zeros])]; simp
        rw [← e]; exact hw1.blk
      exact bodyPost_ret (v := .agg (fL rs).toArray) (Mem.results_cellA Try.results11 _ (w.heap.size + 1) (fL rs) 26 _ rfl hw2 Try.underlying26 rfl (by rw [fL_length, HR.out]; kernel_rfl)) rfl
        ⟨rfl, hb.trans (hw1.below (by omega))⟩
end Go.Proofs.Ytfbflbiohbhmmaa
