/-
  The rests of dots: what both programs answer.
-/
import Derived.Test.YtcihbcmdmgmonaaRegT
import Derived.Test.YtcihbcmdmgmonaaReg2
import Derived.Test.YtcihbcmdmgmonaaPdotOk
import Derived.Test.YtcihbcmdmgmonaaPval
import Derived.OwnWalk
import Derived.Deep.Cut
import Derived.Deep.AppendLies
import Derived.Maps.AppendAt
namespace Go.Proofs.Ytcihbcmdmgmonaa
open Go.RowKit

/-- The words are those of these numbers, but for what a NaN bears. -/
def IsFs (xs es : List Nat) : Prop := xs.length = es.length ∧ ∀ i, i < es.length → Fl.canon (xs.getD i 0) = Fl.canon (es.getD i 0)
theorem IsFs.push {xs es : List Nat} {x e : Nat} (h : IsFs xs es) (hx : Fl.canon x = Fl.canon e) : IsFs (xs ++ [x]) (es ++ [e]) := by
  refine ⟨by simp [h.1], fun i hi => ?_⟩
  simp only [List.length_append, List.length_singleton] at hi
  by_cases hlt : i < es.length
  · have hlt' : i < xs.length := by have := h.1; omega
    have := h.2 i hlt
    simpa [List.getD_eq_getElem?_getD, List.getElem?_append_left hlt, List.getElem?_append_left hlt'] using this
  · obtain rfl : i = es.length := by omega
    have e1 : (xs ++ [x]).getD es.length 0 = x := by rw [← h.1]; simp
    have e2 : (es ++ [e]).getD es.length 0 = e := by simp
    rw [e1, e2]; exact hx

theorem infoF : (Try.prog.info? 22).map (fun i => (i.zero, i.size, i.bytes)) = some (some (.float .f32 0), 1, 4) := by kernel_rfl
theorem own_below {w w' : World} {base : Nat} {e : TypeId} {size : Nat} {v : Value} {n : Nat} {xs : List Value} (h : w.ownsRow base e size v n xs) (hb : Below w.heap.size w w') : w'.ownsRow base e size v n xs := by
  obtain ⟨h1, h2⟩ := h
  refine ⟨h1, ?_⟩
  rcases h2 with h2 | ⟨g, cap, cur, hv, hbg, hg, rest⟩
  · exact .inl h2
  · exact .inr ⟨g, cap, cur, hv, hbg, (hb.block g (Array.getElem?_eq_some_iff.1 hg).1).trans hg, rest⟩
theorem own_ge {w : World} {base : Nat} {e : TypeId} {size : Nat} {v : Value} {n : Nat} {xs : List Value} (h : w.ownsRow base e size v n xs) : ∀ k, v.ownBlock = some k → base ≤ k := by
  intro k hk
  rcases h.2 with ⟨rfl, _⟩ | ⟨g, cap, cur, rfl, hbg, _⟩
  · cases hk
  · simp [Value.ownBlock] at hk; omega
theorem own_mono {w : World} {base base' : Nat} {e : TypeId} {size : Nat} {v : Value} {n : Nat} {xs : List Value} (h : w.ownsRow base e size v n xs) (hb : base' ≤ base) : w.ownsRow base' e size v n xs := by
  refine ⟨h.1, ?_⟩
  rcases h.2 with h2 | ⟨g, cap, cur, hv, hbg, rest⟩
  · exact .inl h2
  · exact .inr ⟨g, cap, cur, hv, by omega, rest⟩

/-- The rests of dots, as numbers. -/
def restL (s t : Nat) (ds : List (Nat × Nat)) : List Nat := ds.map fun d => Fl.sub d.2 (lineAt s t d.1)

theorem restL_push (s t : Nat) (ds : List (Nat × Nat)) (k : Nat) (hk : k < ds.length) : restL s t (ds.take (k + 1)) = restL s t (ds.take k) ++ [Fl.sub (ds.getD k (0, 0)).2 (lineAt s t (ds.getD k (0, 0)).1)] := by
  have e : ds.getD k (0, 0) = ds[k] := by simp [hk]
  rw [e, List.take_succ_eq_append_getElem hk]
  simp only [restL, List.map_append, List.map_cons, List.map_nil]
theorem restL_length (s t : Nat) (ds : List (Nat × Nat)) : (restL s t ds).length = ds.length := by simp [restL]

/-- A slice of numbers is handed back that lies in new memory. -/
def RetFs (es : List Nat) (W : World) (e : Ending) (W' : World) : Prop :=
  ∃ v xs, e = .returned v ∧ IsFs xs es ∧ W'.ownsRow W.heap.size 22 1 v es.length (fL xs) ∧ Below W.heap.size W W'

set_option maxHeartbeats 2000000 in
theorem l06Rests_calls (s t : Nat) (b o cap : Nat) (ds : List (Nat × Nat)) (w : World) (hd : HoldsD w b o ds) (hb : b < w.heap.size) (hl : ds.length ≤ 1048576) :
    Calls Try.prog 76 #[.agg #[.float .f32 s, .float .f32 t], .slice (some ⟨b, o, none⟩) ds.length cap] w (RetFs (restL s t ds) w) := by
  obtain ⟨i0, hi, hz0, hz1, hz2⟩ := info_parts infoF
  go_enter Try.func76, Try.ntmps76
  go_upto_region 3 with (fail)
  generalize hw1 : (w.alloc _).alloc _ = w1
  have hB1 : Below w.heap.size w w1 := hw1 ▸ below_a2 w _ _
  have f0 : w1.cell? ⟨w.heap.size, 0, none⟩ = some (.float .f32 s) := by rw [← hw1]; simp [go_sem]
  have f1 : w1.cell? ⟨w.heap.size, 1, none⟩ = some (.float .f32 t) := by rw [← hw1]; simp [go_sem]
  have hsz1 : w1.heap.size = w.heap.size + 2 := by rw [← hw1]; simp
  have hown : w1.ownsRow (w.heap.size + 1) 22 1 (.slice (some ⟨w.heap.size + 1, 0, none⟩) 0 0) 0 (fL []) := by
    refine ⟨rfl, .inr ⟨w.heap.size + 1, 0, #[], rfl, Nat.le_refl _, ?_, Nat.le_refl _, Nat.zero_le _, rfl, rfl⟩⟩
    rw [← hw1]
    exact Mem.Blk.new1 w _ [] _
  clear hw1
  have HD := Lib.hid hd
  clear hd
  go_loopw [6, 5] (fun i v wr => ∃ (k : Nat) (xs : List Nat), k ≤ ds.length ∧ i = .int .i64 k ∧ IsFs xs (restL s t (ds.take k)) ∧ wr.ownsRow (w.heap.size + 1) 22 1 v k (fL xs) ∧ Below (w.heap.size + 1) w1 wr) (fun i _ _ => ds.length - (intOf i).toNat)
  case atStart => exact ⟨0, [], Nat.zero_le _, rfl, ⟨rfl, fun i hi => by simp [restL] at hi⟩, hown, Below.refl _ _⟩
  case round =>
    obtain ⟨k, xs, hk, rfl, hx, ho, hB⟩ := hrel
    have HO := Lib.hid ho
    clear ho hown
    by_cases hlt : k < ds.length
    · have hsz := hB.size
      obtain ⟨c0, c1⟩ := (HD.out.below hB1 hb).below hB (show b < w.heap.size + 1 by omega) k hlt
      obtain ⟨p, hp⟩ : ∃ p, p = ds.getD k (0, 0) := ⟨_, rfl⟩
      rw [← hp] at c0 c1
      obtain ⟨p0, p1⟩ := p
      have HP := Lib.hid hp
      clear hp
      simp only at c0 c1
      have g0 := (hB.cell (p := ⟨w.heap.size, 0, none⟩) (by show w.heap.size < _; omega)).trans f0
      have g1 := (hB.cell (p := ⟨w.heap.size, 1, none⟩) (by show w.heap.size < _; omega)).trans f1
      have lb : b < wr.heap.size := by omega
      have lb' : w.heap.size < wr.heap.size := by omega
      clear f0 f1
      go_wp2_with fail
      refine Rg.region_tail1 14 u5 (fun w' => Below wr.heap.size wr w') (fun _ _ v => ∃ u, v = .float .f32 u ∧ Fl.canon u = Fl.canon (lineAt s t p0)) (by kernel_rfl) (by kernel_rfl) (fun _ _ _ h => h) (.inl ⟨rfl, fun _ => rfl⟩) (by exact (Below.refl wr.heap.size wr).drew) ?_
      simp only [List.take_succ_cons, List.take_zero, List.drop_succ_cons, List.drop_zero]
      (repeat (first | ((with_reducible refine Rg.walk_plain rfl (fun Kz hKz wz hwz => ?_)); (have hclz : ∀ bb oo, bb < (wr).heap.size → wz.cell? ⟨bb, oo, none⟩ = (wr).cell? ⟨bb, oo, none⟩ := fun bb oo h => hwz.cell (p := ⟨bb, oo, none⟩) h); go_simp; refine hKz _ ?_; clear hKz hwz hclz Kz wz) | ((with_reducible refine Rg.walk_on ?_ (fun Kz hKz wz hwz => ?_)); (next => (go_simp; done)); (have hclz : ∀ bb oo, bb < (wr).heap.size → wz.cell? ⟨bb, oo, none⟩ = (wr).cell? ⟨bb, oo, none⟩ := fun bb oo h => hwz.cell (p := ⟨bb, oo, none⟩) h); go_simp; refine hKz _ ?_; clear hKz hwz hclz Kz wz) | ((with_reducible refine Rg.walk_step (fun Kz hKz => ?_)); go_simp; refine hKz _ ?_; clear hKz Kz)))
      refine Rg.walk_calls rfl 81 #[.agg #[.float .f32 s, .float .f32 t], .float .f32 p0] (fun W hW => ⟨by go_simp, (l06Value_calls s t p0 W).mono fun e w2 ⟨v, he, hc, hb2⟩ => ⟨_, he, ⟨v, rfl, hc⟩, below_call hW hb2⟩⟩) (fun u hu => ?_)
      obtain ⟨u, rfl, hu⟩ := hu
      have HU := Lib.hid hu
      clear hu
      refine Rg.walk_plain rfl (fun K hK w1 hw1 => ?_)
      go_simp
      refine ⟨below_n hw1 _, hK _ ?_⟩
      obtain ⟨x, hx2⟩ : ∃ x, x = Fl.rSub w1 p1 u := ⟨_, rfl⟩
      rw [← hx2]
      have HX : Hid (Fl.canon x = Fl.canon (Fl.sub p1 (lineAt s t p0))) := by
        refine Lib.hid ?_
        rw [hx2, Fl.canon_rSub, Fl.canon_subv, ← Fl.sub_canon p1 u, HU.out, Fl.sub_canon]
      clear hx2 hK hw1 K w1
      refine Rg.walk_nil ?_
      intro w2 hw2
      have ho2 := own_below HO.out hw2
      have hge := own_ge ho2
      have z2 := hw2.size
      clear c0 c1 g0 g1
      go_wp2_with (at_builtin; refine wpList_append_own _ rfl _ _ 43 rfl (w.heap.size + 1) 22 i0 (.float .f32 0) 1 4 Try.underlying43 hi hz0 hz1 hz2 rfl (by decide) _ _ _ rfl (ho2.alloc _) ⟨w2.heap.size, 0, none⟩ 1 1 [.float .f32 x] rfl rfl (cell_one_new _ _ _) (fun v hv => by simp at hv; subst hv; rfl) (by unfold maxLen; omega) (by omega) (by simp; omega) ?_; intro v' w4 hown' hgrow hnil)
      have hB4 : Below (w.heap.size + 1) w1 w4 := ((hB.trans (hw2.mono (by omega))).alloc (by omega) _).grown hgrow (by simp; omega) hge
      have ho4 : w4.ownsRow (w.heap.size + 1) 22 1 v' (k + 1) (fL (xs ++ [x])) := by rw [fL_append]; exact hown'
      have hx4 : IsFs (xs ++ [x]) (restL s t (ds.take (k + 1))) := by rw [restL_push s t ds k hlt, ← HP.out]; exact hx.push HX.out
      have HO4 := Lib.hid ho4
      clear hown' hgrow hnil ho2 hge ho4
      go_roundw
      case rel => exact ⟨k + 1, xs ++ [x], by omega, by go_num, hx4, HO4.out, hB4⟩
      case measure => simp [intOf]; omega
    · obtain rfl : k = ds.length := by omega
      rw [List.take_of_length_le (Nat.le_refl _)] at hx
      go_wp2_with fail
      go_ret
      exact ⟨_, xs, rfl, hx, by rw [restL_length]; exact own_mono HO.out (by omega), hB1.trans (hB.mono (by omega))⟩
set_option maxHeartbeats 2000000 in
theorem rests_calls (s t : Nat) (b o cap : Nat) (ds : List (Nat × Nat)) (w : World) (hd : HoldsD w b o ds) (hb : b < w.heap.size) (hl : ds.length ≤ 1048576) :
    Calls Try.prog 77 #[.agg #[.float .f32 s, .float .f32 t], .slice (some ⟨b, o, none⟩) ds.length cap] w (RetFs (restL s t ds) w) := by
  obtain ⟨i0, hi, hz0, hz1, hz2⟩ := info_parts infoF
  go_enter Try.func77, Try.ntmps77
  go_upto_region 3 with (fail)
  generalize hw1 : (w.alloc _).alloc _ = w1
  have hB1 : Below w.heap.size w w1 := hw1 ▸ below_a2 w _ _
  have f0 : w1.cell? ⟨w.heap.size, 0, none⟩ = some (.float .f32 s) := by rw [← hw1]; simp [go_sem]
  have f1 : w1.cell? ⟨w.heap.size, 1, none⟩ = some (.float .f32 t) := by rw [← hw1]; simp [go_sem]
  have hsz1 : w1.heap.size = w.heap.size + 2 := by rw [← hw1]; simp
  have hown : w1.ownsRow (w.heap.size + 1) 22 1 (.slice (some ⟨w.heap.size + 1, 0, none⟩) 0 0) 0 (fL []) := by
    refine ⟨rfl, .inr ⟨w.heap.size + 1, 0, #[], rfl, Nat.le_refl _, ?_, Nat.le_refl _, Nat.zero_le _, rfl, rfl⟩⟩
    rw [← hw1]
    exact Mem.Blk.new1 w _ [] _
  clear hw1
  have HD := Lib.hid hd
  clear hd
  go_loopw [11, 5] (fun i v wr => ∃ (k : Nat) (xs : List Nat), k ≤ ds.length ∧ i = .int .i64 k ∧ IsFs xs (restL s t (ds.take k)) ∧ wr.ownsRow (w.heap.size + 1) 22 1 v k (fL xs) ∧ Below (w.heap.size + 1) w1 wr) (fun i _ _ => ds.length - (intOf i).toNat)
  case atStart => exact ⟨0, [], Nat.zero_le _, rfl, ⟨rfl, fun i hi => by simp [restL] at hi⟩, hown, Below.refl _ _⟩
  case round =>
    obtain ⟨k, xs, hk, rfl, hx, ho, hB⟩ := hrel
    have HO := Lib.hid ho
    clear ho hown
    by_cases hlt : k < ds.length
    · have hsz := hB.size
      obtain ⟨c0, c1⟩ := (HD.out.below hB1 hb).below hB (show b < w.heap.size + 1 by omega) k hlt
      obtain ⟨p, hp⟩ : ∃ p, p = ds.getD k (0, 0) := ⟨_, rfl⟩
      rw [← hp] at c0 c1
      obtain ⟨p0, p1⟩ := p
      have HP := Lib.hid hp
      clear hp
      simp only at c0 c1
      have g0 := (hB.cell (p := ⟨w.heap.size, 0, none⟩) (by show w.heap.size < _; omega)).trans f0
      have g1 := (hB.cell (p := ⟨w.heap.size, 1, none⟩) (by show w.heap.size < _; omega)).trans f1
      have lb : b < wr.heap.size := by omega
      have lb' : w.heap.size < wr.heap.size := by omega
      clear f0 f1
      go_upto_region 5 with (fail)
      generalize hwq : wr.alloc _ = wq
      have hBq : Below wr.heap.size wr wq := hwq ▸ below_a1 wr _
      have q0 : wq.cell? ⟨wr.heap.size, 0, none⟩ = some (.float .f32 p0) := by rw [← hwq]; simp [go_sem]
      have q1 : wq.cell? ⟨wr.heap.size, 1, none⟩ = some (.float .f32 p1) := by rw [← hwq]; simp [go_sem]
      have r0 := (hBq.cell (p := ⟨w.heap.size, 0, none⟩) lb').trans g0
      have r1 := (hBq.cell (p := ⟨w.heap.size, 1, none⟩) lb').trans g1
      have zq : wq.heap.size = wr.heap.size + 1 := by rw [← hwq]; simp
      have HOq := Lib.hid (own_below HO.out hBq)
      clear hwq c0 c1 g0 g1
      have lq : wr.heap.size < wq.heap.size := by omega
      have lq' : w.heap.size < wq.heap.size := by omega
      clear zq
      go_wp2_with fail
      refine Rg.region_tail1 8 u5 (fun w' => Below wq.heap.size wq w') (fun _ _ v => ∃ u, v = .float .f32 u ∧ Fl.canon u = Fl.canon (lineAt s t p0)) (by kernel_rfl) (by kernel_rfl) (fun _ _ _ h => h) (.inl ⟨rfl, fun _ => rfl⟩) (by exact (Below.refl wq.heap.size wq).drew) ?_
      simp only [List.take_succ_cons, List.take_zero, List.drop_succ_cons, List.drop_zero]
      (repeat (first | ((with_reducible refine Rg.walk_plain rfl (fun Kz hKz wz hwz => ?_)); (have hclz : ∀ bb oo, bb < (wq).heap.size → wz.cell? ⟨bb, oo, none⟩ = (wq).cell? ⟨bb, oo, none⟩ := fun bb oo h => hwz.cell (p := ⟨bb, oo, none⟩) h); go_simp; refine hKz _ ?_; clear hKz hwz hclz Kz wz) | ((with_reducible refine Rg.walk_on ?_ (fun Kz hKz wz hwz => ?_)); (next => (go_simp; done)); (have hclz : ∀ bb oo, bb < (wq).heap.size → wz.cell? ⟨bb, oo, none⟩ = (wq).cell? ⟨bb, oo, none⟩ := fun bb oo h => hwz.cell (p := ⟨bb, oo, none⟩) h); go_simp; refine hKz _ ?_; clear hKz hwz hclz Kz wz) | ((with_reducible refine Rg.walk_step (fun Kz hKz => ?_)); go_simp; refine hKz _ ?_; clear hKz Kz)))
      refine Rg.walk_calls rfl 82 #[.agg #[.float .f32 s, .float .f32 t], .float .f32 p0] (fun W hW => ⟨by go_simp, (at_calls s t p0 W).mono fun e w2 ⟨v, he, hc, hb2⟩ => ⟨_, he, ⟨v, rfl, hc⟩, below_call hW hb2⟩⟩) (fun u hu => ?_)
      obtain ⟨u, rfl, hu⟩ := hu
      have HU := Lib.hid hu
      clear hu
      refine Rg.walk_plain rfl (fun K hK w1 hw1 => ?_)
      go_simp
      refine ⟨below_n hw1 _, hK _ ?_⟩
      obtain ⟨x, hx2⟩ : ∃ x, x = Fl.rSub w1 p1 u := ⟨_, rfl⟩
      rw [← hx2]
      have HX : Hid (Fl.canon x = Fl.canon (Fl.sub p1 (lineAt s t p0))) := by
        refine Lib.hid ?_
        rw [hx2, Fl.canon_rSub, Fl.canon_subv, ← Fl.sub_canon p1 u, HU.out, Fl.sub_canon]
      clear hx2 hK hw1 K w1
      refine Rg.walk_nil ?_
      intro w2 hw2
      have ho2 := own_below HOq.out hw2
      have hge := own_ge ho2
      have z2 := hw2.size
      clear q0 q1 r0 r1
      go_wp2_with (at_builtin; refine wpList_append_own _ rfl _ _ 43 rfl (w.heap.size + 1) 22 i0 (.float .f32 0) 1 4 Try.underlying43 hi hz0 hz1 hz2 rfl (by decide) _ _ _ rfl (ho2.alloc _) ⟨w2.heap.size, 0, none⟩ 1 1 [.float .f32 x] rfl rfl (cell_one_new _ _ _) (fun v hv => by simp at hv; subst hv; rfl) (by unfold maxLen; omega) (by omega) (by simp; omega) ?_; intro v' w4 hown' hgrow hnil)
      have hB4 : Below (w.heap.size + 1) w1 w4 := (((hB.trans (hBq.mono (by omega))).trans (hw2.mono (by omega))).alloc (by omega) _).grown hgrow (by simp; omega) hge
      have ho4 : w4.ownsRow (w.heap.size + 1) 22 1 v' (k + 1) (fL (xs ++ [x])) := by rw [fL_append]; exact hown'
      have hx4 : IsFs (xs ++ [x]) (restL s t (ds.take (k + 1))) := by rw [restL_push s t ds k hlt, ← HP.out]; exact hx.push HX.out
      have HO4 := Lib.hid ho4
      clear hown' hgrow hnil ho2 hge ho4
      go_roundw
      case rel => exact ⟨k + 1, xs ++ [x], by omega, by go_num, hx4, HO4.out, hB4⟩
      case measure => simp [intOf]; omega
    · obtain rfl : k = ds.length := by omega
      rw [List.take_of_length_le (Nat.le_refl _)] at hx
      go_wp2_with fail
      go_ret
      exact ⟨_, xs, rfl, hx, by rw [restL_length]; exact own_mono HO.out (by omega), hB1.trans (hB.mono (by omega))⟩
end Go.Proofs.Ytcihbcmdmgmonaa
