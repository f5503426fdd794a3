/-
  A new store: what both programs answer.
-/
import Derived.Test.YtclbgkajhpknlaaMemB
import Derived.Test.YtclbgkajhpknlaaPvalidSt
import Derived.Test.YtclbgkajhpknlaaPeqSt
import Derived.Test.YtclbgkajhpknlaaSel
namespace Go.Proofs.Ytclbgkajhpknlaa
open Go.RowKit

theorem built_none : Try.prog.built 40 [] = some (stL 0 (zeros 16) 0 0 0 0).toArray := by kernel_rfl
theorem built_crate (c : Int) (rs : List Nat) (hr : rs.length = 16) : Try.prog.built 40 [(0, .agg (crL c rs).toArray)] = some (stL c rs 0 0 0 0).toArray := by
  obtain ⟨a0, a1, a2, a3, a4, a5, a6, a7, a8, a9, b0, b1, b2, b3, b4, b5, rfl⟩ := list16 hr
  kernel_rfl

/-- What NewStore answers. -/
def newV (c : Int) (rs : List Nat) : Value := .tuple #[.agg (sel (vCrate c rs) (stL c rs 0 0 0 0) (stL 0 (zeros 16) 0 0 0 0)).toArray, .int .i64 (sel (vCrate c rs) 0 1)]

set_option maxHeartbeats 1000000 in
theorem specNewStore_calls (c : Int) (rs : List Nat) (hr : rs.length = 16) (hlo : -128 ≤ c) (hhi : c ≤ 127) (w : World) :
    Calls Try.prog 25 #[.agg (crL c rs).toArray] w (Ret (newV c rs) w) := by
  have HR := Lib.hid hr
  clear hr
  go_enter Try.func25, Try.ntmps25
  go_upto_region 1 with (fail)
  generalize hw1 : (w.alloc _).alloc _ = w1
  have h1 : Mem.Blk w1 w.heap.size (crL c rs) 38 := hw1 ▸ (Mem.Blk.new w _ _).alloc _
  have h2 : Mem.Blk w1 (w.heap.size + 1) (stL 0 (zeros 16) 0 0 0 0) 40 := hw1 ▸ (Mem.Blk.new1 w _ _ _)
  have hb : Below w.heap.size w w1 := hw1 ▸ below_a2 w _ _
  clear hw1
  have s1 := h1.lt
  have s2 := h2.lt
  have H1 := Lib.hid h1
  have H2 := Lib.hid h2
  have c0 : w1.cell? ⟨w.heap.size, 0, none⟩ = some (.int .i8 c) := h1.cell 0
  have hf := Lib.hid (HoldsF.of_crL h1)
  have K1 := Lib.hid (show ∀ W, Below w1.heap.size w1 W → ∀ j v, (crL c rs)[j]? = some v → W.cell? ⟨w.heap.size, 0 + j, none⟩ = some v from fun W hW j v h => ((H1.out.below hW s1).cell (0 + j)).trans (by rw [Nat.zero_add]; exact h))
  clear h1 h2
  have C0 := Lib.hid c0
  clear c0
  go_wp2_with fail
  refine (l01Crate_calls w.heap.size 0 c rs HR.out hlo hhi w1 C0.out hf.out).mono ?_
  rintro e w2 ⟨rfl, rfl⟩
  have hb2 := Below.refl w2.heap.size w2
  have hB := below_call hb hb2
  have g2 := H2.out.below hb2 s2
  cases hv : vCrate c rs
  · have HV := Lib.hid hv
    clear hv
    have e9 := Lib.hid (stL_all 0 (zeros 16) 0 0 0 0 0 (zeros 16) 0 0 0 0 (by simp [zeros]) (by simp [zeros]))
    go_wp2_with (first
      | ((with_reducible refine Mem.wpList_build rfl 40 [] rfl (stL 0 (zeros 16) 0 0 0 0) ?_ ?_); (next => exact built_none))
      | (with_reducible refine Mem.wpList_storeA rfl 40 _ _ rfl (w.heap.size + 1) 0 rfl (stL 0 (zeros 16) 0 0 0 0) _ rfl _ g2 (by kernel_rfl) (by simp [stL_length]) (stL_one _ _ _ _ _ _) ?_; rw [e9.out]; intro w5 hw5))
    exact bodyPost_ret (v := .tuple #[.agg (stL 0 (zeros 16) 0 0 0 0).toArray, .int .i64 1]) (Mem.results_cellA_tmp Try.results25 _ (w.heap.size + 1) (stL 0 (zeros 16) 0 0 0 0) 40 _ _ rfl rfl hw5.blk Try.underlying40 rfl (by kernel_rfl)) rfl
      ⟨by unfold newV; rw [HV.out]; rfl, hB.trans (hw5.below (by omega))⟩
  · have HV := Lib.hid hv
    clear hv
    have e9 := Lib.hid (stL_all 0 (zeros 16) 0 0 0 0 c rs 0 0 0 0 (by simp [zeros]) HR.out)
    go_wp2_with (first
      | (with_reducible refine Mem.wpList_loadA rfl 38 _ rfl w.heap.size 0 rfl (crL c rs) _ Try.underlying38 rfl (by rw [crL_length, HR.out]; kernel_rfl) (K1.out _ hb2) ?_)
      | ((with_reducible refine Mem.wpList_build1 rfl 40 0 _ rfl _ rfl (stL c rs 0 0 0 0) ?_ ?_); (next => exact built_crate c rs HR.out))
      | (with_reducible refine Mem.wpList_storeA rfl 40 _ _ rfl (w.heap.size + 1) 0 rfl (stL c rs 0 0 0 0) _ rfl _ g2 (by rw [stL_length, HR.out]; kernel_rfl) (by rw [stL_length, stL_length, HR.out]; simp [zeros]) (stL_one _ _ _ _ _ _) ?_; rw [e9.out]; intro w5 hw5))
    exact bodyPost_ret (v := .tuple #[.agg (stL c rs 0 0 0 0).toArray, .int .i64 0]) (Mem.results_cellA_tmp Try.results25 _ (w.heap.size + 1) (stL c rs 0 0 0 0) 40 _ _ rfl rfl hw5.blk Try.underlying40 rfl (by rw [stL_length, HR.out]; kernel_rfl)) rfl
      ⟨by unfold newV; rw [HV.out]; rfl, hB.trans (hw5.below (by omega))⟩

set_option maxHeartbeats 1000000 in
theorem implNewStore_calls (c : Int) (rs : List Nat) (hr : rs.length = 16) (hlo : -128 ≤ c) (hhi : c ≤ 127) (w : World) :
    Calls Try.prog 27 #[.agg (crL c rs).toArray] w (Ret (newV c rs) w) := by
  have HR := Lib.hid hr
  clear hr
  go_enter Try.func27, Try.ntmps27
  go_upto_region 1 with (fail)
  generalize hw1 : (w.alloc _).alloc _ = w1
  have h1 : Mem.Blk w1 w.heap.size (crL c rs) 38 := hw1 ▸ (Mem.Blk.new w _ _).alloc _
  have h2 : Mem.Blk w1 (w.heap.size + 1) (stL 0 (zeros 16) 0 0 0 0) 40 := hw1 ▸ (Mem.Blk.new1 w _ _ _)
  have hb : Below w.heap.size w w1 := hw1 ▸ below_a2 w _ _
  clear hw1
  have s1 := h1.lt
  have s2 := h2.lt
  have H1 := Lib.hid h1
  have H2 := Lib.hid h2
  have c0 : w1.cell? ⟨w.heap.size, 0, none⟩ = some (.int .i8 c) := h1.cell 0
  have hf := Lib.hid (HoldsF.of_crL h1)
  have K1 := Lib.hid (show ∀ W, Below w1.heap.size w1 W → ∀ j v, (crL c rs)[j]? = some v → W.cell? ⟨w.heap.size, 0 + j, none⟩ = some v from fun W hW j v h => ((H1.out.below hW s1).cell (0 + j)).trans (by rw [Nat.zero_add]; exact h))
  clear h1 h2
  go_wp2_with (with_reducible refine Mem.wpList_loadA rfl 38 _ rfl w.heap.size 0 rfl (crL c rs) _ Try.underlying38 rfl (by rw [crL_length, HR.out]; kernel_rfl) (K1.out _ (Below.refl _ _)) ?_)
  refine (implValidCrate_calls c rs HR.out hlo hhi w1).mono ?_
  rintro e w2 ⟨rfl, hb2⟩
  clear c0
  have hB := below_call hb hb2
  have g2 := H2.out.below hb2 s2
  cases hv : vCrate c rs
  · have HV := Lib.hid hv
    clear hv
    have e9 := Lib.hid (stL_all 0 (zeros 16) 0 0 0 0 0 (zeros 16) 0 0 0 0 (by simp [zeros]) (by simp [zeros]))
    go_wp2_with (first
      | ((with_reducible refine Mem.wpList_build rfl 40 [] rfl (stL 0 (zeros 16) 0 0 0 0) ?_ ?_); (next => exact built_none))
      | (with_reducible refine Mem.wpList_storeA rfl 40 _ _ rfl (w.heap.size + 1) 0 rfl (stL 0 (zeros 16) 0 0 0 0) _ rfl _ g2 (by kernel_rfl) (by simp [stL_length]) (stL_one _ _ _ _ _ _) ?_; rw [e9.out]; intro w5 hw5))
    exact bodyPost_ret (v := .tuple #[.agg (stL 0 (zeros 16) 0 0 0 0).toArray, .int .i64 1]) (Mem.results_cellA_tmp Try.results27 _ (w.heap.size + 1) (stL 0 (zeros 16) 0 0 0 0) 40 _ _ rfl rfl hw5.blk Try.underlying40 rfl (by kernel_rfl)) rfl
      ⟨by unfold newV; rw [HV.out]; rfl, hB.trans (hw5.below (by omega))⟩
  · have HV := Lib.hid hv
    clear hv
    have e9 := Lib.hid (stL_all 0 (zeros 16) 0 0 0 0 c rs 0 0 0 0 (by simp [zeros]) HR.out)
    go_wp2_with (first
      | (with_reducible refine Mem.wpList_loadA rfl 38 _ rfl w.heap.size 0 rfl (crL c rs) _ Try.underlying38 rfl (by rw [crL_length, HR.out]; kernel_rfl) (K1.out _ hb2) ?_)
      | ((with_reducible refine Mem.wpList_build1 rfl 40 0 _ rfl _ rfl (stL c rs 0 0 0 0) ?_ ?_); (next => exact built_crate c rs HR.out))
      | (with_reducible refine Mem.wpList_storeA rfl 40 _ _ rfl (w.heap.size + 1) 0 rfl (stL c rs 0 0 0 0) _ rfl _ g2 (by rw [stL_length, HR.out]; kernel_rfl) (by rw [stL_length, stL_length, HR.out]; simp [zeros]) (stL_one _ _ _ _ _ _) ?_; rw [e9.out]; intro w5 hw5))
    exact bodyPost_ret (v := .tuple #[.agg (stL c rs 0 0 0 0).toArray, .int .i64 0]) (Mem.results_cellA_tmp Try.results27 _ (w.heap.size + 1) (stL c rs 0 0 0 0) 40 _ _ rfl rfl hw5.blk Try.underlying40 rfl (by rw [stL_length, HR.out]; kernel_rfl)) rfl
      ⟨by unfold newV; rw [HV.out]; rfl, hB.trans (hw5.below (by omega))⟩

set_option maxHeartbeats 1000000 in
theorem fnExactNewStore_walk (c : Int) (rs : List Nat) (w : World) (hr : rs.length = 16) (hi : IntKind.i8.has c) (_hf : ∀ i, i < 16 → FloatKind.f32.has (rs.getD i 0)) :
    Calls Try.prog 8 #[.agg (crL c rs).toArray] w (RetBool true w) := by
  have hlo : -128 ≤ c := hi.1
  have hhi : c ≤ 127 := hi.2
  have HR := Lib.hid hr
  obtain ⟨qs, c', code, hq, hV⟩ : ∃ (qs : List Nat) (c' code : Int), qs.length = 16 ∧ newV c rs = .tuple #[.agg (stL c' qs 0 0 0 0).toArray, .int .i64 code] := by
    unfold newV
    cases vCrate c rs
    · exact ⟨zeros 16, 0, 1, by simp [zeros], rfl⟩
    · exact ⟨rs, c, 0, hr, rfl⟩
  have HV := Lib.hid hV
  have HQ := Lib.hid hq
  clear hr hi hV hq
  go_enter Try.func8, Try.ntmps8
  go_upto_region 1 with (fail)
  generalize hw1 : w.alloc _ = w1
  have h1 : Mem.Blk w1 w.heap.size (crL c rs) 32 := hw1 ▸ Mem.Blk.new w _ _
  have hb : Below w.heap.size w w1 := hw1 ▸ below_a1 w _
  clear hw1
  have s1 := h1.lt
  have K1 := Lib.hid (show ∀ W, Below w1.heap.size w1 W → ∀ j v, (crL c rs)[j]? = some v → W.cell? ⟨w.heap.size, 0 + j, none⟩ = some v from fun W hW j v h => ((h1.below hW s1).cell (0 + j)).trans (by rw [Nat.zero_add]; exact h))
  clear h1
  go_wp2_with (with_reducible refine Mem.wpList_loadA rfl 32 _ rfl w.heap.size 0 rfl (crL c rs) _ Try.underlying32 rfl (by rw [crL_length, HR.out]; kernel_rfl) (K1.out _ (Below.refl _ _)) ?_)
  refine (toCrate_calls c rs HR.out _).mono ?_
  rintro e w2 ⟨rfl, B2⟩
  go_wp2_with fail
  refine (specNewStore_calls c rs HR.out hlo hhi _).mono ?_
  rintro e w3 ⟨rfl, hx3⟩
  have B3 := below_call B2 hx3
  rw [HV.out]
  go_upto_region 2 with ((with_reducible refine Mem.wpList_storeA rfl 40 _ _ rfl w3.heap.size 0 rfl (stL c' qs 0 0 0 0) (stL 0 (zeros 16) 0 0 0 0) rfl 40 ?_ (by rw [stL_length, HQ.out]; kernel_rfl) (by rw [stL_length, stL_length, HQ.out]; simp [zeros]) (stL_one _ _ _ _ _ _) ?_); (next => exact Mem.Blk.new w3 _ _); rw [stL_all _ _ _ _ _ _ _ _ _ _ _ _ (by simp [zeros]) HQ.out]; intro w4 hw4)
  have k4 := hw4.blk
  have lt3 : w3.heap.size < w4.heap.size := k4.lt
  have B4 : Below w1.heap.size w1 w4 := B3.trans (((below_a1 w3 _).mono B3.size).trans (hw4.below B3.size))
  clear hw4
  go_wp2_with (with_reducible refine Mem.wpList_loadA rfl 32 _ rfl w.heap.size 0 rfl (crL c rs) _ Try.underlying32 rfl (by rw [crL_length, HR.out]; kernel_rfl) (K1.out _ B4) ?_)
  refine (toCrate_calls c rs HR.out _).mono ?_
  rintro e w5 ⟨rfl, hx5⟩
  have B5 := below_call B4 hx5
  go_wp2_with fail
  refine (implNewStore_calls c rs HR.out hlo hhi _).mono ?_
  rintro e w6 ⟨rfl, hx6⟩
  have B6 := below_call B5 hx6
  have k6 := (k4.below hx5 lt3).below hx6 (by have := hx5.size; omega)
  have lt6 : w3.heap.size < w6.heap.size := k6.lt
  rw [HV.out]
  go_upto_region 3 with ((with_reducible refine Mem.wpList_storeA rfl 40 _ _ rfl w6.heap.size 0 rfl (stL c' qs 0 0 0 0) (stL 0 (zeros 16) 0 0 0 0) rfl 40 ?_ (by rw [stL_length, HQ.out]; kernel_rfl) (by rw [stL_length, stL_length, HQ.out]; simp [zeros]) (stL_one _ _ _ _ _ _) ?_); (next => exact Mem.Blk.new w6 _ _); rw [stL_all _ _ _ _ _ _ _ _ _ _ _ _ (by simp [zeros]) HQ.out]; intro w7 hw7)
  have k7 := hw7.blk
  have k3 : Mem.Blk w7 w3.heap.size (stL c' qs 0 0 0 0) 40 := hw7.keep (by omega) (k6.alloc _)
  have B7 : Below w1.heap.size w1 w7 := B6.trans (((below_a1 w6 _).mono B6.size).trans (hw7.below B6.size))
  clear hw7
  go_wp2_with (first
    | (with_reducible refine Mem.wpList_loadA rfl 40 _ rfl w6.heap.size 0 rfl (stL c' qs 0 0 0 0) _ Try.underlying40 rfl (by rw [stL_length, HQ.out]; kernel_rfl) (fun j v h => by rw [Nat.zero_add, k7.cell]; exact h) ?_)
    | (with_reducible refine Mem.wpList_loadA rfl 40 _ rfl w3.heap.size 0 rfl (stL c' qs 0 0 0 0) _ Try.underlying40 rfl (by rw [stL_length, HQ.out]; kernel_rfl) (fun j v h => by rw [Nat.zero_add, k3.cell]; exact h) ?_))
  refine (eqStore_calls c' qs qs 0 0 0 0 0 HQ.out (sameFs_refl qs) rfl _).mono ?_
  rintro e w8 ⟨rfl, hx8⟩
  go_wp2_with fail
  all_goals go_ret
  all_goals exact ⟨rfl, below_call hb (below_call B7 hx8)⟩
end Go.Proofs.Ytclbgkajhpknlaa
