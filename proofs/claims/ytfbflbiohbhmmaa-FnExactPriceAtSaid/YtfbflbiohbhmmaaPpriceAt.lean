/-
  The walk of the law on PriceAt.
-/
import Derived.Test.YtfbflbiohbhmmaaPat
import Derived.Test.YtfbflbiohbhmmaaPsame
namespace Go.Proofs.Ytfbflbiohbhmmaa
open Go.RowKit

def priceCode (rs : List Nat) (x : Nat) : Int := if vPrices rs then if vPart x then 0 else 2 else 1
def priceOf (rs : List Nat) (x : Nat) : Nat := if vPrices rs && vPart x then priceAt rs x else 0

set_option maxHeartbeats 1000000 in
theorem specPriceAt_calls (rs : List Nat) (x : Nat) (hr : rs.length = 8) (w : World) :
    Calls Try.prog 10 #[.agg (fL rs).toArray, .float .f32 x] w (RetFC (priceOf rs x) (priceCode rs x) w) := by
  have HR := Lib.hid hr
  clear hr
  cases h1 : vPrices rs <;> cases h2 : vPart x <;> simp only [priceOf, priceCode, h1, h2, Bool.and_self, Bool.and_false, Bool.and_true, Bool.false_eq_true, reduceIte]
  all_goals
    have H1 := Lib.hid h1
    have H2 := Lib.hid h2
    clear h1 h2
    go_enter Try.func10, Try.ntmps10
    go_upto_region 1 with (fail)
    generalize hw1 : w.alloc _ = w1
    have hB1 : Below w.heap.size w w1 := hw1 ▸ below_a1 w _
    have h1 : Mem.Blk w1 w.heap.size (fL rs) 26 := hw1 ▸ Mem.Blk.new w _ _
    have H3 := Lib.hid h1
    clear hw1 h1
    go_wp2_with fail
    refine (l05Prices_calls _ rs HR.out _ (HoldsF.of_blk H3.out (fun _ _ => rfl)) H3.out.lt).mono ?_
    rintro e w2 ⟨rfl, rfl⟩
    rw [H1.out]
    go_wp2_with fail
  · go_ret2
    exact ⟨_, rfl, rfl, hB1⟩
  · go_ret2
    exact ⟨_, rfl, rfl, hB1⟩
  · refine (l01Part_calls _ _).mono ?_
    rintro e w3 ⟨rfl, rfl⟩
    rw [H2.out]
    go_wp2_with fail
    go_ret2
    exact ⟨_, rfl, rfl, hB1⟩
  · refine (l01Part_calls _ _).mono ?_
    rintro e w3 ⟨rfl, rfl⟩
    rw [H2.out]
    go_wp2_with fail
    refine (l05At_calls _ rs _ HR.out H2.out _ (HoldsF.of_blk H3.out (fun _ _ => rfl)) H3.out.lt).mono ?_
    rintro e w4 ⟨v, rfl, hv, hb4⟩
    have HX := Lib.hid hv
    clear hv
    go_wp2_with fail
    go_ret2
    exact ⟨v, rfl, HX.out, below_call hB1 hb4⟩

set_option maxHeartbeats 1000000 in
theorem implPriceAt_calls (rs : List Nat) (x : Nat) (hr : rs.length = 8) (w : World) :
    Calls Try.prog 12 #[.agg (fL rs).toArray, .float .f32 x] w (RetFC (priceOf rs x) (priceCode rs x) w) := by
  have HR := Lib.hid hr
  clear hr
  cases h1 : vPrices rs <;> cases h2 : vPart x <;> simp only [priceOf, priceCode, h1, h2, Bool.and_self, Bool.and_false, Bool.and_true, Bool.false_eq_true, reduceIte]
  all_goals
    have H1 := Lib.hid h1
    have H2 := Lib.hid h2
    clear h1 h2
    go_enter Try.func12, Try.ntmps12
    go_upto_region 1 with (fail)
    generalize hw1 : w.alloc _ = w1
    have hB1 : Below w.heap.size w w1 := hw1 ▸ below_a1 w _
    have h1 : Mem.Blk w1 w.heap.size (fL rs) 26 := hw1 ▸ Mem.Blk.new w _ _
    have H3 := Lib.hid h1
    have lt1 := h1.lt
    clear hw1 h1
    go_wp2_with (with_reducible refine Mem.wpList_loadA rfl 26 _ rfl w.heap.size 0 rfl (fL rs) _ Try.underlying26 rfl (by rw [fL_length, HR.out]; kernel_rfl) (fun j v h => by rw [Nat.zero_add, H3.out.cell]; exact h) ?_)
    refine (implValidPrices_calls rs HR.out _).mono ?_
    rintro e w2 ⟨rfl, hb2⟩
    have H4 := Lib.hid (H3.out.below hb2 H3.out.lt)
    have lt2 := H4.out.lt
    have hB2 := below_call hB1 hb2
    rw [H1.out]
    clear hB1 hb2 lt1 H3
    go_wp2_with fail
  · go_ret2
    exact ⟨_, rfl, rfl, hB2⟩
  · go_ret2
    exact ⟨_, rfl, rfl, hB2⟩
  · refine (IsPart_calls _ _).mono ?_
    rintro e w3 ⟨rfl, rfl⟩
    rw [H2.out]
    go_wp2_with fail
    go_ret2
    exact ⟨_, rfl, rfl, hB2⟩
  · refine (IsPart_calls _ _).mono ?_
    rintro e w3 ⟨rfl, rfl⟩
    rw [H2.out]
    go_wp2_with (with_reducible refine Mem.wpList_loadA rfl 26 _ rfl w.heap.size 0 rfl (fL rs) _ Try.underlying26 rfl (by rw [fL_length, HR.out]; kernel_rfl) (fun j v h => by rw [Nat.zero_add, H4.out.cell]; exact h) ?_)
    refine (pricesAt_calls rs _ HR.out H2.out _).mono ?_
    rintro e w4 ⟨v, rfl, hv, hb4⟩
    have HX := Lib.hid hv
    clear hv
    go_wp2_with fail
    go_ret2
    exact ⟨v, rfl, HX.out, below_call hB2 hb4⟩

set_option maxHeartbeats 1000000 in
theorem fnExactPriceAt_walk (rs : List Nat) (x : Nat) (w : World) (hr : rs.length = 8) :
    Calls Try.prog 3 #[.agg (fL rs).toArray, .float .f32 x] w (RetBool true w) := by
  have HR := Lib.hid hr
  clear hr
  go_enter Try.func3, Try.ntmps3
  go_upto_region 1 with (fail)
  generalize hw1 : w.alloc _ = w1
  have hB1 : Below w.heap.size w w1 := hw1 ▸ below_a1 w _
  have h1 : Mem.Blk w1 w.heap.size (fL rs) 23 := hw1 ▸ Mem.Blk.new w _ _
  have H1 := Lib.hid h1
  have lt1 := h1.lt
  clear hw1 h1
  go_wp2_with (with_reducible refine Mem.wpList_loadA rfl 23 _ rfl w.heap.size 0 rfl (fL rs) _ Try.underlying23 rfl (by rw [fL_length, HR.out]; kernel_rfl) (fun j v h => by rw [Nat.zero_add, H1.out.cell]; exact h) ?_)
  refine (toPrices_calls rs HR.out _).mono ?_
  rintro e w2 ⟨rfl, hb2⟩
  have hB2 := below_call hB1 hb2
  have H2 := Lib.hid (H1.out.below hb2 H1.out.lt)
  have lt2 := H2.out.lt
  clear hB1 hb2 H1 lt1
  go_wp2_with fail
  refine (specPriceAt_calls rs _ HR.out _).mono ?_
  rintro e w3 ⟨v, rfl, hv, hb3⟩
  have HV := Lib.hid hv
  have hB3 := below_call hB2 hb3
  have H3 := Lib.hid (H2.out.below hb3 H2.out.lt)
  have lt3 := H3.out.lt
  clear hB2 hb3 H2 lt2 hv
  go_wp2_with (with_reducible refine Mem.wpList_loadA rfl 23 _ rfl w.heap.size 0 rfl (fL rs) _ Try.underlying23 rfl (by rw [fL_length, HR.out]; kernel_rfl) (fun j v h => by rw [Nat.zero_add, H3.out.cell]; exact h) ?_)
  refine (toPrices_calls rs HR.out _).mono ?_
  rintro e w4 ⟨rfl, hb4⟩
  have hB4 := below_call hB3 hb4
  clear hB3 hb4 H3 lt3
  go_wp2_with fail
  refine (implPriceAt_calls rs _ HR.out _).mono ?_
  rintro e w5 ⟨u, rfl, hu, hb5⟩
  have HU := Lib.hid hu
  have hB5 := below_call hB4 hb5
  clear hB4 hb5 hu
  go_wp2_with fail
  refine (sameFloat_calls _ _ _ (Fl.same_conv (HU.out.trans HV.out.symm) _ _)).mono ?_
  rintro e w6 ⟨rfl, rfl⟩
  go_wp2_with fail
  all_goals go_ret
  all_goals exact ⟨rfl, below_n hB5 _⟩
end Go.Proofs.Ytfbflbiohbhmmaa
