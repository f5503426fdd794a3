/-
  The dot with the greatest rest: what both programs answer.
-/
import Derived.Test.YtcihbcmdmgmonaaPsq
import Derived.Test.YtcihbcmdmgmonaaFlz2
namespace Go.Proofs.Ytcihbcmdmgmonaa
open Go.RowKit

theorem Fl.size_canon {a b : Nat} (h : Fl.canon a = Fl.canon b) : Fl.canon (Fl.sizeN a) = Fl.canon (Fl.sizeN b) := by
  have hn : Fl.isNaN a = Fl.isNaN b := by rw [← Fl.isNaN_canon a, h, Fl.isNaN_canon]
  have key : ∀ c, Fl.isNaN c = true → Fl.sizeN c = c := fun c hc => by
    unfold Fl.sizeN
    rw [if_neg (fun hl => by rw [Fl.lt_notNaN hl] at hc; cases hc)]
  cases ha : Fl.isNaN a with
  | true => rw [key a ha, key b (hn ▸ ha), h]
  | false =>
    rw [Fl.canon_of_not ha, Fl.canon_of_not (hn ▸ ha)] at h
    rw [h]

/-- The place of the greatest size among the first k. -/
def wAt (es : List Nat) : Nat → Nat
  | 0 => 0
  | k + 1 => if Fl.gt (Fl.sizeN (es.getD k 0)) (Fl.sizeN (es.getD (wAt es k) 0)) then k else wAt es k
theorem wAt_lt (es : List Nat) : ∀ k, 0 < k → wAt es k < k
  | 0, h => absurd h (by omega)
  | k + 1, _ => by
    show (if _ then k else wAt es k) < k + 1
    split
    · omega
    · rcases Nat.eq_zero_or_pos k with rfl | h
      · show wAt es 0 < 1; exact Nat.one_pos
      · have := wAt_lt es k h; omega
theorem wAt_le (es : List Nat) (k : Nat) : wAt es k ≤ k := by
  rcases Nat.eq_zero_or_pos k with rfl | h
  · exact Nat.le_refl _
  · exact Nat.le_of_lt (wAt_lt es k h)
theorem wAt_one (es : List Nat) : wAt es 1 = 0 := by show (if _ then 0 else wAt es 0) = 0; split <;> rfl

/-- A place and a number. -/
def RetIF (i : Int) (x : Nat) (W : World) (e : Ending) (W' : World) : Prop := ∃ v, e = .returned (.tuple #[.int .i64 i, .float .f32 v]) ∧ Fl.canon v = Fl.canon x ∧ Below W.heap.size W W'

theorem rest_below (s t : Nat) (ds : List (Nat × Nat)) (xs : List Nat) (hx : IsFs xs (restL s t ds)) (i : Nat) (hi : i < ds.length) : Fl.lt (xs.getD i 0) 0 = true → 2147483648 < xs.getD i 0 ∧ xs.getD i 0 ≤ 2147483648 + 2139095040 := by
  have h := hx.2 i (by rw [restL_length]; exact hi)
  have e : (restL s t ds).getD i 0 = Fl.sub (ds.getD i (0, 0)).2 (lineAt s t (ds.getD i (0, 0)).1) := by simp [restL, hi]
  rw [e] at h
  exact Fl.sub_below h

set_option maxHeartbeats 2000000 in
theorem l06Worst_calls (s t : Nat) (b o cap : Nat) (ds : List (Nat × Nat)) (w : World) (hd : HoldsD w b o ds) (hb : b < w.heap.size) (hl : ds.length ≤ 1048576) (hp : 0 < ds.length) :
    Calls Try.prog 79 #[.agg #[.float .f32 s, .float .f32 t], .slice (some ⟨b, o, none⟩) ds.length cap] w (RetIF (wAt (restL s t ds) ds.length) (Fl.sizeN ((restL s t ds).getD (wAt (restL s t ds) ds.length) 0)) w) := by
  have HD := Lib.hid hd
  clear hd
  go_enter Try.func79, Try.ntmps79
  go_wp2_with fail
  refine (l06Rests_calls s t b o cap ds _ (HD.out.below (below_a1 _ _) hb) (by simp; omega) hl).mono ?_
  rintro e w2 ⟨v, xs, rfl, hx, hown, hb2⟩
  obtain ⟨ad, cp, rfl, hlen, hcell⟩ := own_form hown
  have hB := below_call (below_a1 w _) hb2
  have hes := restL_length s t ds
  rw [hes] at hlen hcell
  rw [hes]
  rcases hcell with h0 | ⟨g, rfl, hg, hF⟩
  · omega
  have HBel := Lib.hid (rest_below s t ds xs hx)
  obtain ⟨es, hes'⟩ : ∃ es, es = restL s t ds := ⟨_, rfl⟩
  rw [← hes'] at hx hes ⊢
  have HES := Lib.hid hes'
  have HX := Lib.hid hx
  have HE := Lib.hid hes
  have HF := Lib.hid hF
  clear hx hes hown hb2 hF hes'
  go_upto_region 4 with (fail)
  go_loopw [8, 7] (fun i v wr => ∃ k : Nat, 1 ≤ k ∧ k ≤ ds.length ∧ i = .int .i64 k ∧ v = .int .i64 (wAt es k) ∧ Below w2.heap.size w2 wr) (fun i _ _ => ds.length - (intOf i).toNat)
  case atStart => exact ⟨1, Nat.le_refl _, hp, rfl, by rw [wAt_one]; rfl, Below.refl _ _⟩
  case round =>
    obtain ⟨k, hk1, hk, rfl, rfl, hB2⟩ := hrel
    have hw := wAt_lt es k hk1
    have hsz := hB2.size
    have lg : g < wr.heap.size := by omega
    by_cases hlt : k < ds.length
    · have hstep : wAt es (k + 1) = if Fl.gt (Fl.sizeN (es.getD k 0)) (Fl.sizeN (es.getD (wAt es k) 0)) then k else wAt es k := rfl
      have c0 := HF.out.below hB2 hg k (by rw [hlen]; exact hlt)
      have d0 := HF.out.below hB2 hg (wAt es k) (by rw [hlen]; omega)
      rw [Nat.zero_add] at c0 d0
      have hcx := HX.out.2 k (by rw [HE.out]; exact hlt)
      have hdx := HX.out.2 (wAt es k) (by rw [HE.out]; omega)
      have bx := HBel.out k hlt
      have by' := HBel.out (wAt es k) (by omega)
      have hgt : Fl.gt (Fl.sizeN (xs.getD k 0)) (Fl.sizeN (xs.getD (wAt es k) 0)) = Fl.gt (Fl.sizeN (es.getD k 0)) (Fl.sizeN (es.getD (wAt es k) 0)) := by
        rw [← Fl.gt_canon, Fl.size_canon hcx, Fl.size_canon hdx, Fl.gt_canon]
      rw [← hgt] at hstep
      clear hcx hdx hgt
      have hqn : wAt es k < ds.length := by omega
      have HST := Lib.hid hstep
      clear hstep
      obtain ⟨q, hq⟩ : ∃ q, q = wAt es k := ⟨_, rfl⟩
      rw [← hq] at hqn d0 by' HST ⊢
      obtain ⟨x, hx⟩ : ∃ x, x = xs.getD k 0 := ⟨_, rfl⟩
      obtain ⟨y, hy⟩ : ∃ y, y = xs.getD q 0 := ⟨_, rfl⟩
      rw [← hx] at c0 bx HST
      rw [← hy] at d0 by' HST
      clear hw hx hy hq
      have BX := Lib.hid bx
      have BY := Lib.hid by'
      clear bx by'
      go_wp2_with fail
      (refine Rg.region_tail 10 (fun w' => Below (wr).heap.size wr w') (fun _ args v => ∃ z, args = #[.float .f32 z] ∧ v = .float .f32 (Fl.sizeN z)) (by kernel_rfl) (by kernel_rfl) (by exact (Below.refl (wr).heap.size wr).drew) ?_; simp only [List.take_succ_cons, List.take_zero, List.drop_succ_cons, List.drop_zero])
      (repeat (first | ((with_reducible refine Rg.walk_plain rfl (fun Kz hKz wz hwz => ?_)); (have hclz : ∀ bb oo, bb < (wr).heap.size → wz.cell? ⟨bb, oo, none⟩ = (wr).cell? ⟨bb, oo, none⟩ := fun bb oo h => hwz.cell (p := ⟨bb, oo, none⟩) h); go_simp; refine hKz _ ?_; clear hKz hwz hclz Kz wz) | ((with_reducible refine Rg.walk_on ?_ (fun Kz hKz wz hwz => ?_)); (next => (go_simp; done)); (have hclz : ∀ bb oo, bb < (wr).heap.size → wz.cell? ⟨bb, oo, none⟩ = (wr).cell? ⟨bb, oo, none⟩ := fun bb oo h => hwz.cell (p := ⟨bb, oo, none⟩) h); go_simp; refine hKz _ ?_; clear hKz hwz hclz Kz wz) | ((with_reducible refine Rg.walk_step (fun Kz hKz => ?_)); go_simp; refine hKz _ ?_; clear hKz Kz)))
      refine Rg.walk_calls rfl 99 #[.float .f32 x] (fun W hW => ⟨by go_simp, (l01Size_calls x BX.out W).mono fun e w2 ⟨he, hb2⟩ => ⟨_, he, ⟨_, rfl, rfl⟩, by rw [hb2]; exact hW⟩⟩) (fun u hu => ?_)
      obtain ⟨z, hz, rfl⟩ := hu
      simp at hz
      obtain rfl := hz
      (repeat (first | ((with_reducible refine Rg.walk_plain rfl (fun Kz hKz wz hwz => ?_)); (have hclz : ∀ bb oo, bb < (wr).heap.size → wz.cell? ⟨bb, oo, none⟩ = (wr).cell? ⟨bb, oo, none⟩ := fun bb oo h => hwz.cell (p := ⟨bb, oo, none⟩) h); go_simp; refine hKz _ ?_; clear hKz hwz hclz Kz wz) | ((with_reducible refine Rg.walk_on ?_ (fun Kz hKz wz hwz => ?_)); (next => (go_simp; done)); (have hclz : ∀ bb oo, bb < (wr).heap.size → wz.cell? ⟨bb, oo, none⟩ = (wr).cell? ⟨bb, oo, none⟩ := fun bb oo h => hwz.cell (p := ⟨bb, oo, none⟩) h); go_simp; refine hKz _ ?_; clear hKz hwz hclz Kz wz) | ((with_reducible refine Rg.walk_step (fun Kz hKz => ?_)); go_simp; refine hKz _ ?_; clear hKz Kz)))
      refine Rg.walk_calls rfl 99 #[.float .f32 y] (fun W hW => ⟨by go_simp, (l01Size_calls y BY.out W).mono fun e w2 ⟨he, hb2⟩ => ⟨_, he, ⟨_, rfl, rfl⟩, by rw [hb2]; exact hW⟩⟩) (fun u hu => ?_)
      obtain ⟨z, hz, rfl⟩ := hu
      simp at hz
      obtain rfl := hz
      (repeat (first | ((with_reducible refine Rg.walk_plain rfl (fun Kz hKz wz hwz => ?_)); (have hclz : ∀ bb oo, bb < (wr).heap.size → wz.cell? ⟨bb, oo, none⟩ = (wr).cell? ⟨bb, oo, none⟩ := fun bb oo h => hwz.cell (p := ⟨bb, oo, none⟩) h); go_simp; refine hKz _ ?_; clear hKz hwz hclz Kz wz) | ((with_reducible refine Rg.walk_on ?_ (fun Kz hKz wz hwz => ?_)); (next => (go_simp; done)); (have hclz : ∀ bb oo, bb < (wr).heap.size → wz.cell? ⟨bb, oo, none⟩ = (wr).cell? ⟨bb, oo, none⟩ := fun bb oo h => hwz.cell (p := ⟨bb, oo, none⟩) h); go_simp; refine hKz _ ?_; clear hKz hwz hclz Kz wz) | ((with_reducible refine Rg.walk_step (fun Kz hKz => ?_)); go_simp; refine hKz _ ?_; clear hKz Kz)))
      refine Rg.walk_nil ?_
      intro w3 hw3
      have hB3 := below_call hB2 hw3
      clear c0 d0 hw3
      cases hgz : Fl.gt (Fl.sizeN x) (Fl.sizeN y)
      · have HW := Lib.hid (show wAt es (k + 1) = q by rw [HST.out, hgz, if_neg Bool.false_ne_true])
        go_wp2_with fail
        go_roundw
        case rel => exact ⟨k + 1, by omega, by omega, by go_num, by rw [HW.out], hB3⟩
        case measure => simp [intOf]; omega
      · have HW := Lib.hid (show wAt es (k + 1) = k by rw [HST.out, hgz, if_pos rfl])
        go_wp2_with fail
        go_roundw
        case rel => exact ⟨k + 1, by omega, by omega, by go_num, by rw [HW.out], hB3⟩
        case measure => simp [intOf]; omega
    · obtain rfl : k = ds.length := by omega
      have d0 := HF.out.below hB2 hg (wAt es ds.length) (by rw [hlen]; omega)
      rw [Nat.zero_add] at d0
      have hdx := HX.out.2 (wAt es ds.length) (by rw [HE.out]; omega)
      have by' := HBel.out (wAt es ds.length) (by omega)
      have HDX := Lib.hid (Fl.size_canon hdx)
      obtain ⟨q, hq⟩ : ∃ q, q = wAt es ds.length := ⟨_, rfl⟩
      have HQ := Lib.hid hq
      rw [← hq] at d0 by' HDX hw ⊢
      obtain ⟨y, hy⟩ : ∃ y, y = xs.getD q 0 := ⟨_, rfl⟩
      rw [← hy] at d0 by' HDX
      have BY := Lib.hid by'
      clear by' hdx hq hy
      go_wp2_with fail
      refine (l01Size_calls y BY.out _).mono ?_
      rintro e w3 ⟨rfl, rfl⟩
      go_wp2_with fail
      go_ret2
      exact ⟨_, by rw [← HES.out, ← HQ.out]; rfl, by rw [← HES.out, ← HQ.out]; exact HDX.out, below_call hB hB2⟩
set_option maxHeartbeats 2000000 in
theorem worst_calls (s t : Nat) (b o cap : Nat) (ds : List (Nat × Nat)) (w : World) (hd : HoldsD w b o ds) (hb : b < w.heap.size) (hl : ds.length ≤ 1048576) (hp : 0 < ds.length) :
    Calls Try.prog 80 #[.agg #[.float .f32 s, .float .f32 t], .slice (some ⟨b, o, none⟩) ds.length cap] w (RetIF (wAt (restL s t ds) ds.length) (Fl.sizeN ((restL s t ds).getD (wAt (restL s t ds) ds.length) 0)) w) := by
  have HD := Lib.hid hd
  clear hd
  go_enter Try.func80, Try.ntmps80
  go_wp2_with fail
  refine (rests_calls s t b o cap ds _ (HD.out.below (below_a1 _ _) hb) (by simp; omega) hl).mono ?_
  rintro e w2 ⟨v, xs, rfl, hx, hown, hb2⟩
  obtain ⟨ad, cp, rfl, hlen, hcell⟩ := own_form hown
  have hB := below_call (below_a1 w _) hb2
  have hes := restL_length s t ds
  rw [hes] at hlen hcell
  rw [hes]
  rcases hcell with h0 | ⟨g, rfl, hg, hF⟩
  · omega
  have HBel := Lib.hid (rest_below s t ds xs hx)
  obtain ⟨es, hes'⟩ : ∃ es, es = restL s t ds := ⟨_, rfl⟩
  rw [← hes'] at hx hes ⊢
  have HES := Lib.hid hes'
  have HX := Lib.hid hx
  have HE := Lib.hid hes
  have HF := Lib.hid hF
  clear hx hes hown hb2 hF hes'
  go_upto_region 3 with (fail)
  go_loopw [15, 6] (fun i v wr => ∃ k : Nat, k ≤ ds.length ∧ i = .int .i64 k ∧ v = .int .i64 (wAt es k) ∧ Below w2.heap.size w2 wr) (fun i _ _ => ds.length - (intOf i).toNat)
  case atStart => exact ⟨0, Nat.zero_le _, rfl, rfl, Below.refl _ _⟩
  case round =>
    obtain ⟨k, hk, rfl, rfl, hB2⟩ := hrel
    have hw := wAt_le es k
    have hsz := hB2.size
    have lg : g < wr.heap.size := by omega
    by_cases hlt : k < ds.length
    · have hstep : wAt es (k + 1) = if Fl.gt (Fl.sizeN (es.getD k 0)) (Fl.sizeN (es.getD (wAt es k) 0)) then k else wAt es k := rfl
      have c0 := HF.out.below hB2 hg k (by rw [hlen]; exact hlt)
      have d0 := HF.out.below hB2 hg (wAt es k) (by rw [hlen]; omega)
      rw [Nat.zero_add] at c0 d0
      have hcx := HX.out.2 k (by rw [HE.out]; exact hlt)
      have hdx := HX.out.2 (wAt es k) (by rw [HE.out]; omega)
      have bx := HBel.out k hlt
      have by' := HBel.out (wAt es k) (by omega)
      have hgt : Fl.gt (Fl.sizeN (xs.getD k 0)) (Fl.sizeN (xs.getD (wAt es k) 0)) = Fl.gt (Fl.sizeN (es.getD k 0)) (Fl.sizeN (es.getD (wAt es k) 0)) := by
        rw [← Fl.gt_canon, Fl.size_canon hcx, Fl.size_canon hdx, Fl.gt_canon]
      rw [← hgt] at hstep
      clear hcx hdx hgt
      have hqn : wAt es k < ds.length := by omega
      have HST := Lib.hid hstep
      clear hstep
      obtain ⟨q, hq⟩ : ∃ q, q = wAt es k := ⟨_, rfl⟩
      rw [← hq] at hqn d0 by' HST ⊢
      obtain ⟨x, hx⟩ : ∃ x, x = xs.getD k 0 := ⟨_, rfl⟩
      obtain ⟨y, hy⟩ : ∃ y, y = xs.getD q 0 := ⟨_, rfl⟩
      rw [← hx] at c0 bx HST
      rw [← hy] at d0 by' HST
      clear hw hx hy hq
      have BX := Lib.hid bx
      have BY := Lib.hid by'
      clear bx by'
      go_wp2_with fail
      (refine Rg.region_tail 7 (fun w' => Below (wr).heap.size wr w') (fun _ args v => ∃ z u, args = #[.float .f32 z] ∧ v = .float .f32 u ∧ Fl.canon u = Fl.canon (Fl.sizeN z)) (by kernel_rfl) (by kernel_rfl) (by exact (Below.refl (wr).heap.size wr).drew) ?_; simp only [List.take_succ_cons, List.take_zero, List.drop_succ_cons, List.drop_zero])
      (repeat (first | ((with_reducible refine Rg.walk_plain rfl (fun Kz hKz wz hwz => ?_)); (have hclz : ∀ bb oo, bb < (wr).heap.size → wz.cell? ⟨bb, oo, none⟩ = (wr).cell? ⟨bb, oo, none⟩ := fun bb oo h => hwz.cell (p := ⟨bb, oo, none⟩) h); go_simp; refine hKz _ ?_; clear hKz hwz hclz Kz wz) | ((with_reducible refine Rg.walk_on ?_ (fun Kz hKz wz hwz => ?_)); (next => (go_simp; done)); (have hclz : ∀ bb oo, bb < (wr).heap.size → wz.cell? ⟨bb, oo, none⟩ = (wr).cell? ⟨bb, oo, none⟩ := fun bb oo h => hwz.cell (p := ⟨bb, oo, none⟩) h); go_simp; refine hKz _ ?_; clear hKz hwz hclz Kz wz) | ((with_reducible refine Rg.walk_step (fun Kz hKz => ?_)); go_simp; refine hKz _ ?_; clear hKz Kz)))
      refine Rg.walk_calls rfl 104 #[.float .f32 x] (fun W hW => ⟨by go_simp, (size_calls x BX.out W).mono fun e w2 ⟨v, he, hc, hb2⟩ => ⟨_, he, ⟨_, v, rfl, rfl, hc⟩, below_call hW hb2⟩⟩) (fun u hu => ?_)
      obtain ⟨z, a1, hz, rfl, ha1⟩ := hu
      simp at hz
      obtain rfl := hz
      have Ha1 := Lib.hid ha1
      clear ha1
      (repeat (first | ((with_reducible refine Rg.walk_plain rfl (fun Kz hKz wz hwz => ?_)); (have hclz : ∀ bb oo, bb < (wr).heap.size → wz.cell? ⟨bb, oo, none⟩ = (wr).cell? ⟨bb, oo, none⟩ := fun bb oo h => hwz.cell (p := ⟨bb, oo, none⟩) h); go_simp; refine hKz _ ?_; clear hKz hwz hclz Kz wz) | ((with_reducible refine Rg.walk_on ?_ (fun Kz hKz wz hwz => ?_)); (next => (go_simp; done)); (have hclz : ∀ bb oo, bb < (wr).heap.size → wz.cell? ⟨bb, oo, none⟩ = (wr).cell? ⟨bb, oo, none⟩ := fun bb oo h => hwz.cell (p := ⟨bb, oo, none⟩) h); go_simp; refine hKz _ ?_; clear hKz hwz hclz Kz wz) | ((with_reducible refine Rg.walk_step (fun Kz hKz => ?_)); go_simp; refine hKz _ ?_; clear hKz Kz)))
      refine Rg.walk_calls rfl 104 #[.float .f32 y] (fun W hW => ⟨by go_simp, (size_calls y BY.out W).mono fun e w2 ⟨v, he, hc, hb2⟩ => ⟨_, he, ⟨_, v, rfl, rfl, hc⟩, below_call hW hb2⟩⟩) (fun u hu => ?_)
      obtain ⟨z, a2, hz, rfl, ha2⟩ := hu
      simp at hz
      obtain rfl := hz
      have Ha2 := Lib.hid ha2
      clear ha2
      (repeat (first | ((with_reducible refine Rg.walk_plain rfl (fun Kz hKz wz hwz => ?_)); (have hclz : ∀ bb oo, bb < (wr).heap.size → wz.cell? ⟨bb, oo, none⟩ = (wr).cell? ⟨bb, oo, none⟩ := fun bb oo h => hwz.cell (p := ⟨bb, oo, none⟩) h); go_simp; refine hKz _ ?_; clear hKz hwz hclz Kz wz) | ((with_reducible refine Rg.walk_on ?_ (fun Kz hKz wz hwz => ?_)); (next => (go_simp; done)); (have hclz : ∀ bb oo, bb < (wr).heap.size → wz.cell? ⟨bb, oo, none⟩ = (wr).cell? ⟨bb, oo, none⟩ := fun bb oo h => hwz.cell (p := ⟨bb, oo, none⟩) h); go_simp; refine hKz _ ?_; clear hKz hwz hclz Kz wz) | ((with_reducible refine Rg.walk_step (fun Kz hKz => ?_)); go_simp; refine hKz _ ?_; clear hKz Kz)))
      refine Rg.walk_nil ?_
      intro w3 hw3
      have hB3 := below_call hB2 hw3
      clear c0 d0 hw3
      have hgg : Fl.gt a1 a2 = Fl.gt (Fl.sizeN x) (Fl.sizeN y) := by rw [← Fl.gt_canon, Ha1.out, Ha2.out, Fl.gt_canon]
      cases hgz : Fl.gt (Fl.sizeN x) (Fl.sizeN y)
      · rw [hgz] at hgg
        have HW := Lib.hid (show wAt es (k + 1) = q by rw [HST.out, hgz, if_neg Bool.false_ne_true])
        go_wp2_with fail
        go_roundw
        case rel => exact ⟨k + 1, by omega, by go_num, by rw [HW.out], hB3⟩
        case measure => simp [intOf]; omega
      · rw [hgz] at hgg
        have HW := Lib.hid (show wAt es (k + 1) = k by rw [HST.out, hgz, if_pos rfl])
        go_wp2_with fail
        go_roundw
        case rel => exact ⟨k + 1, by omega, by go_num, by rw [HW.out], hB3⟩
        case measure => simp [intOf]; omega
    · obtain rfl : k = ds.length := by omega
      have hw := wAt_lt es ds.length hp
      have d0 := HF.out.below hB2 hg (wAt es ds.length) (by rw [hlen]; omega)
      rw [Nat.zero_add] at d0
      have hdx := HX.out.2 (wAt es ds.length) (by rw [HE.out]; omega)
      have by' := HBel.out (wAt es ds.length) (by omega)
      have HDX := Lib.hid (Fl.size_canon hdx)
      obtain ⟨q, hq⟩ : ∃ q, q = wAt es ds.length := ⟨_, rfl⟩
      have HQ := Lib.hid hq
      rw [← hq] at d0 by' HDX hw ⊢
      obtain ⟨y, hy⟩ : ∃ y, y = xs.getD q 0 := ⟨_, rfl⟩
      rw [← hy] at d0 by' HDX
      have BY := Lib.hid by'
      clear by' hdx hq hy
      go_wp2_with fail
      refine (size_calls y BY.out _).mono ?_
      rintro e w3 ⟨z, rfl, hz, hb3⟩
      have HZ := Lib.hid hz
      clear hz
      go_wp2_with fail
      go_ret2
      exact ⟨_, by rw [← HES.out, ← HQ.out]; rfl, by rw [← HES.out, ← HQ.out]; exact HZ.out.trans HDX.out, below_call hB (below_call hB2 hb3)⟩
end Go.Proofs.Ytcihbcmdmgmonaa
