/-
  The sums over dots: slices of the dots' numbers, and their sums in whatever way.
-/
import Derived.Test.YtcihbcmdmgmonaaOg2
import Derived.Test.YtcihbcmdmgmonaaSel
namespace Go.Proofs.Ytcihbcmdmgmonaa
open Go.RowKit

def xsL (ds : List (Nat × Nat)) : List Nat := ds.map (·.1)
def ysL (ds : List (Nat × Nat)) : List Nat := ds.map (·.2)
def xxL (ds : List (Nat × Nat)) : List Nat := ds.map fun d => Fl.mul d.1 d.1
def xyL (ds : List (Nat × Nat)) : List Nat := ds.map fun d => Fl.mul d.1 d.2
theorem mapL_push {β : Type} (f : Nat × Nat → β) (ds : List (Nat × Nat)) (k : Nat) (hk : k < ds.length) : (ds.take (k + 1)).map f = (ds.take k).map f ++ [f (ds.getD k (0, 0))] := by
  have e : ds.getD k (0, 0) = ds[k] := by simp [hk]
  rw [e, List.take_succ_eq_append_getElem hk, List.map_append, List.map_cons, List.map_nil]
theorem mapL_len {β : Type} (f : Nat × Nat → β) (ds : List (Nat × Nat)) (k : Nat) (hk : k ≤ ds.length) : ((ds.take k).map f).length = k := by rw [List.length_map, List.length_take]; omega

/-- A slice of the call's own, by its home. -/
def RowAt (w : World) (base g : Nat) (v : Value) (es : List Nat) : Prop := ∃ ws, w.ownsRow base 22 1 v es.length (fL ws) ∧ IsFs ws es ∧ v.ownBlock = some g
theorem RowAt.lt {w : World} {base g : Nat} {v : Value} {es : List Nat} (h : RowAt w base g v es) : g < w.heap.size := by
  obtain ⟨ws, h1, _, h3⟩ := h; exact Og.own_lt h1 h3
theorem RowAt.ge {w : World} {base g : Nat} {v : Value} {es : List Nat} (h : RowAt w base g v es) : base ≤ g := by
  obtain ⟨ws, h1, _, h3⟩ := h; exact own_ge h1 g h3
theorem RowAt.keep {w w' : World} {base g : Nat} {v : Value} {es : List Nat} (h : RowAt w base g v es) (hk : w'.heap[g]? = w.heap[g]?) : RowAt w' base g v es := by
  obtain ⟨ws, h1, h2, h3⟩ := h
  exact ⟨ws, Og.own_same h1 (fun k hk' => by rw [h3] at hk'; cases hk'; exact hk), h2, h3⟩
theorem RowAt.below {w w' : World} {base g : Nat} {v : Value} {es : List Nat} (h : RowAt w base g v es) (hb : Below w.heap.size w w') : RowAt w' base g v es := h.keep (hb.block g h.lt)
theorem RowAt.nil {w : World} {base g : Nat} (hb : base ≤ g) (h : Mem.Blk w g [] 22) : RowAt w base g (.slice (some ⟨g, 0, none⟩) 0 0) [] :=
  ⟨[], ⟨rfl, .inr ⟨g, 0, #[], rfl, hb, h, Nat.le_refl _, Nat.zero_le _, rfl, rfl⟩⟩, ⟨rfl, fun _ hi => absurd hi (Nat.not_lt_zero _)⟩, rfl⟩
/-- A row that is known behind a region. -/
theorem RowAt.of_row {N base : Nat} {hm : Nat → Nat} {t : Nat} {es : List Nat} {u : Value} {w : World} (h : Og.Row N base hm t es u w) : ∃ g, RowAt w base g u es ∧ (g = hm t ∨ N ≤ g) := by
  obtain ⟨ws, g, h1, h2, h3, h4, _⟩ := h
  exact ⟨g, ⟨ws, h1, h2, h3⟩, h4⟩
theorem RowAt.home {w w' : World} {base base' g g' : Nat} {v : Value} {es es' : List Nat} (h : RowAt w base g v es) (h' : RowAt w' base' g' v es') : g = g' := by
  obtain ⟨_, _, _, h3⟩ := h
  obtain ⟨_, _, _, h3'⟩ := h'
  rw [h3] at h3'; cases h3'; rfl
theorem RowAt.own {w : World} {base g : Nat} {v : Value} {es : List Nat} (h : RowAt w base g v es) : v.ownBlock = some g := by obtain ⟨_, _, _, h3⟩ := h; exact h3
theorem RowAt.sl {w : World} {base g : Nat} {v : Value} {es : List Nat} (h : RowAt w base g v es) : ∃ ad cap xs, v = .slice ad es.length cap ∧ IsFs xs es ∧ (SlF w ad xs ∧ es.length ≤ cap) := by
  obtain ⟨ws, h1, h2, _⟩ := h
  have hc : ∀ ad cap, v = .slice ad es.length cap → es.length ≤ cap := by
    intro ad cap hv
    rcases h1.2 with ⟨h3, h4⟩ | ⟨_, c, _, h3, _, _, h5, _⟩
    · omega
    · rw [hv] at h3
      simp at h3
      omega
  obtain ⟨ad, cap, rfl, hl, hf⟩ := own_form h1
  refine ⟨ad, cap, ws, rfl, h2, ?_, hc _ _ rfl⟩
  rcases hf with hf | ⟨g', rfl, hg, hF⟩
  · exact .inl (List.eq_nil_of_length_eq_zero (by omega))
  · exact .inr ⟨g', 0, rfl, hg, hF⟩

/-- A function value that makes one number of a slice of numbers. -/
def SumsF (P : Program) (g : Nat) (σ : List Nat → Nat) : Prop :=
  (∀ (args : Array Value) (W : World), (callFunc g args).run P W = .ok (.enter g args) W) ∧
  ∀ (ad : Option Addr) (cap : Nat) (xs es : List Nat) (W : World), SlF W ad xs → IsFs xs es → es.length ≤ 1048576 → es.length ≤ cap → Calls P g #[.slice ad es.length cap] W (RetF (σ es) W)

/-- Four numbers in a struct. -/
def RetS4 (x y xx xy : Nat) (W : World) (e : Ending) (W' : World) : Prop :=
  ∃ a b c d, e = .returned (.agg #[.float .f32 a, .float .f32 b, .float .f32 c, .float .f32 d]) ∧ Fl.canon a = Fl.canon x ∧ Fl.canon b = Fl.canon y ∧ Fl.canon c = Fl.canon xx ∧ Fl.canon d = Fl.canon xy ∧ Below W.heap.size W W'

theorem below_a5 (w : World) (o1 o2 o3 o4 o5 : Obj) : Below w.heap.size w (((((w.alloc o1).alloc o2).alloc o3).alloc o4).alloc o5) := (below_a4 w o1 o2 o3 o4).alloc (by simp; omega) o5

set_option maxHeartbeats 4000000 in
theorem sumsBy_calls (g0 : Nat) (σ : List Nat → Nat) (b o cap : Nat) (ds : List (Nat × Nat)) (w : World) (hd : HoldsD w b o ds) (hb : b < w.heap.size) (hl : ds.length ≤ 1048576) (hs : SumsF Try.prog g0 σ) :
    Calls Try.prog 107 #[.slice (some ⟨b, o, none⟩) ds.length cap, .func (.func g0) #[] #[]] w (RetS4 (σ (xsL ds)) (σ (ysL ds)) (σ (xxL ds)) (σ (xyL ds)) w) := by
  go_enter Try.func107, Try.ntmps107
  have HS := Lib.hid hs
  have HD := Lib.hid hd
  clear hs hd
  go_upto_region 3 with (fail)
  generalize hw1 : ((((w.alloc _).alloc _).alloc _).alloc _).alloc _ = w1
  have hB1 : Below w.heap.size w w1 := hw1 ▸ below_a5 w _ _ _ _ _
  have hr0 : Mem.Blk w1 w.heap.size [.float .f32 0, .float .f32 0, .float .f32 0, .float .f32 0] 118 := hw1 ▸ ((((Mem.Blk.new w _ _).alloc _).alloc _).alloc _).alloc _
  have hr5 : Mem.Blk w1 (w.heap.size + 1) [] 22 := hw1 ▸ (((Mem.Blk.new1 w _ [] _).alloc _).alloc _).alloc _
  have hr6 : Mem.Blk w1 (w.heap.size + 2) [] 22 := hw1 ▸ ((Mem.Blk.new2 w _ _ [] _).alloc _).alloc _
  have hr7 : Mem.Blk w1 (w.heap.size + 3) [] 22 := hw1 ▸ (Mem.Blk.new3 w _ _ _ [] _).alloc _
  have hr8 : Mem.Blk w1 (w.heap.size + 4) [] 22 := by
    rw [← hw1]
    have := Mem.Blk.new ((((w.alloc (.cells #[.float .f32 0, .float .f32 0, .float .f32 0, .float .f32 0] 118)).alloc (.cells #[] 22)).alloc (.cells #[] 22)).alloc (.cells #[] 22)) [] 22
    simpa using this
  have hz1 : w1.heap.size = w.heap.size + 5 := by rw [← hw1]; simp
  clear hw1
  have HR0 := Lib.hid hr0
  have H5 : Hid (RowAt w1 (w.heap.size + 1) (w.heap.size + 1) (.slice (some ⟨w.heap.size + 1, 0, none⟩) 0 0) []) := Lib.hid (.nil (by omega) hr5)
  have H6 : Hid (RowAt w1 (w.heap.size + 1) (w.heap.size + 2) (.slice (some ⟨w.heap.size + 2, 0, none⟩) 0 0) []) := Lib.hid (.nil (by omega) hr6)
  have H7 : Hid (RowAt w1 (w.heap.size + 1) (w.heap.size + 3) (.slice (some ⟨w.heap.size + 3, 0, none⟩) 0 0) []) := Lib.hid (.nil (by omega) hr7)
  have H8 : Hid (RowAt w1 (w.heap.size + 1) (w.heap.size + 4) (.slice (some ⟨w.heap.size + 4, 0, none⟩) 0 0) []) := Lib.hid (.nil (by omega) hr8)
  clear hr0 hr5 hr6 hr7 hr8
  go_loopw [17, 5, 6, 7, 8] (fun i v5 v6 v7 v8 wr => ∃ k g5 g6 g7 g8 : Nat, k ≤ ds.length ∧ i = .int .i64 k ∧ RowAt wr (w.heap.size + 1) g5 v5 (xsL (ds.take k)) ∧ RowAt wr (w.heap.size + 1) g6 v6 (ysL (ds.take k)) ∧ RowAt wr (w.heap.size + 1) g7 v7 (xxL (ds.take k)) ∧ RowAt wr (w.heap.size + 1) g8 v8 (xyL (ds.take k)) ∧ (g5 ≠ g6 ∧ g5 ≠ g7 ∧ g5 ≠ g8 ∧ g6 ≠ g7 ∧ g6 ≠ g8 ∧ g7 ≠ g8) ∧ Below (w.heap.size + 1) w1 wr) (fun i _ _ _ _ _ => ds.length - (intOf i).toNat)
  case atStart => exact ⟨0, _, _, _, _, Nat.zero_le _, rfl, H5.out, H6.out, H7.out, H8.out, by omega, Below.refl _ _⟩
  case round =>
    obtain ⟨k, g5, g6, g7, g8, hk, rfl, h5, h6, h7, h8, hne, hB⟩ := hrel
    clear H5 H6 H7 H8
    have H5 := Lib.hid h5
    have H6 := Lib.hid h6
    have H7 := Lib.hid h7
    have H8 := Lib.hid h8
    have HNE := Lib.hid hne
    clear h5 h6 h7 h8 hne
    have hsz := hB.size
    by_cases hlt : k < ds.length
    · obtain ⟨c0, c1⟩ := (HD.out.below hB1 hb).below hB (show b < w.heap.size + 1 by omega) k hlt
      have e5 := Lib.hid (mapL_push (·.1) ds k hlt)
      have e6 := Lib.hid (mapL_push (·.2) ds k hlt)
      have e7 := Lib.hid (mapL_push (fun d => Fl.mul d.1 d.1) ds k hlt)
      have e8 := Lib.hid (mapL_push (fun d => Fl.mul d.1 d.2) ds k hlt)
      obtain ⟨p, hp⟩ : ∃ p, p = ds.getD k (0, 0) := ⟨_, rfl⟩
      rw [← hp] at c0 c1 e5 e6 e7 e8
      obtain ⟨p0, p1⟩ := p
      clear hp
      simp only at c0 c1 e5 e6 e7 e8
      have lb : b < wr.heap.size := by omega
      have l5 : (xsL (ds.take k)).length ≤ 1048576 := by have := mapL_len (·.1) ds k hk; unfold xsL; omega
      have l6 : (ysL (ds.take k)).length ≤ 1048576 := by have := mapL_len (·.2) ds k hk; unfold ysL; omega
      have l7 : (xxL (ds.take k)).length ≤ 1048576 := by have := mapL_len (fun d => Fl.mul d.1 d.1) ds k hk; unfold xxL; omega
      have l8 : (xyL (ds.take k)).length ≤ 1048576 := by have := mapL_len (fun d => Fl.mul d.1 d.2) ds k hk; unfold xyL; omega
      have L5 := Lib.hid l5
      have L6 := Lib.hid l6
      have L7 := Lib.hid l7
      have L8 := Lib.hid l8
      clear l5 l6 l7 l8
      go_upto_region 5 with (fail)
      generalize hwq : wr.alloc _ = wq
      have hBq : Below wr.heap.size wr wq := hwq ▸ below_a1 wr _
      have hbq : Mem.Blk wq wr.heap.size [.float .f32 p0, .float .f32 p1] 77 := hwq ▸ Mem.Blk.new wr [.float .f32 p0, .float .f32 p1] 77
      have zq : wq.heap.size = wr.heap.size + 1 := by rw [← hwq]; simp
      have HBQ := Lib.hid hbq
      clear hwq c0 c1 hbq
      have q5 := Lib.hid (H5.out.below hBq)
      have q6 := Lib.hid (H6.out.below hBq)
      have q7 := Lib.hid (H7.out.below hBq)
      have q8 := Lib.hid (H8.out.below hBq)
      have hl5 := H5.out.lt
      have hl6 := H6.out.lt
      have hl7 := H7.out.lt
      have hl8 := H8.out.lt
      have HC0 : Hid (wq.cell? ⟨wr.heap.size, 0, none⟩ = some (.float .f32 p0)) := Lib.hid (HBQ.out.cell 0)
      have HC1 : Hid (wq.cell? ⟨wr.heap.size, 1, none⟩ = some (.float .f32 p1)) := Lib.hid (HBQ.out.cell 1)
      have hBB : Below (w.heap.size + 1) w1 wq := hB.trans (hBq.mono (by omega))
      clear H5 H6 H7 H8
      refine Og.og_region (w.heap.size + 1) g5 g6 [.is u5, .is (.pointer (some ⟨wr.heap.size, 0, none⟩)), .fl p0, .cell p0, .row 0 (xsL (ds.take k) ++ [p0]), .is u6, .is (.pointer (some ⟨wr.heap.size, 1, none⟩)), .fl p1, .cell p1, .row 1 (ysL (ds.take k) ++ [p1]), .row 0 (xsL (ds.take k) ++ [p0]), .row 1 (ysL (ds.take k) ++ [p1])] [none, none, none, none, some (0, u5, xsL (ds.take k)), none, none, none, none, some (1, u6, ysL (ds.take k)), none, none] [.no, .no, .no, .no, .no, .no, .no, .no, .no, .apart 4, .eqv 4, .eqv 9] (by kernel_rfl) (by kernel_rfl) (by intro x hx; simp at hx; rcases hx with rfl | rfl; exact q5.out; exact q6.out) ?_ ?_
      case refine_1 =>
        simp only [Rg.parts]
        refine ⟨?_, ?_, ?_, ?_, ?_, ?_, ?_, ?_, ?_, ?_, ?_, ?_, trivial⟩
        · exact Og.part_move rfl rfl 5 rfl _ rfl (fun vs hv => (Og.ev_op (by kernel_rfl) 10 5 (by kernel_rfl) (of_decide_eq_true (by kernel_rfl))).trans (hv 10 (by kernel_rfl)))
        · exact Og.part_field rfl rfl 10 wr.heap.size 0 (by kernel_rfl) rfl rfl (fun A W h => by simp [Act.eval] at h; go_simp)
        · exact Og.part_load (j := 1) rfl rfl 22 wr.heap.size 0 _ (by kernel_rfl) (by kernel_rfl) (of_decide_eq_true (by kernel_rfl)) (by kernel_rfl) rfl rfl ⟨by omega, by show wr.heap.size ≠ g5; omega, by show wr.heap.size ≠ g6; omega⟩ HC0.out (fun A W h h2 => by simp [Act.eval] at h; go_simp)
        · exact Og.part_build (j := 2) rfl rfl 23 _ (by kernel_rfl) (by kernel_rfl) (of_decide_eq_true (by kernel_rfl)) (by kernel_rfl) rfl rfl (fun A W x h => by simp [Act.eval] at h; go_simp)
        · exact Og.part_app (j1 := 0) (j2 := 3) rfl 21 24 rfl 0 _ _ _ _ rfl (.inl rfl) (by kernel_rfl) (by kernel_rfl) (by kernel_rfl) (of_decide_eq_true (by kernel_rfl)) (of_decide_eq_true (by kernel_rfl)) (by kernel_rfl) (by kernel_rfl) rfl rfl rfl rfl (by kernel_rfl) (by kernel_rfl) (by kernel_rfl) (by kernel_rfl) (by decide) HNE.out.1 (by omega) (by omega) (by omega) L5.out
        · exact Og.part_move rfl rfl 6 rfl _ rfl (fun vs hv => (Og.ev_op (by kernel_rfl) 11 6 (by kernel_rfl) (of_decide_eq_true (by kernel_rfl))).trans (hv 11 (by kernel_rfl)))
        · exact Og.part_field rfl rfl 10 wr.heap.size 1 (by kernel_rfl) rfl rfl (fun A W h => by simp [Act.eval] at h; go_simp)
        · exact Og.part_load (j := 6) rfl rfl 27 wr.heap.size 1 _ (by kernel_rfl) (by kernel_rfl) (of_decide_eq_true (by kernel_rfl)) (by kernel_rfl) rfl rfl ⟨by omega, by show wr.heap.size ≠ g5; omega, by show wr.heap.size ≠ g6; omega⟩ HC1.out (fun A W h h2 => by simp [Act.eval] at h; go_simp)
        · exact Og.part_build (j := 7) rfl rfl 28 _ (by kernel_rfl) (by kernel_rfl) (of_decide_eq_true (by kernel_rfl)) (by kernel_rfl) rfl rfl (fun A W x h => by simp [Act.eval] at h; go_simp)
        · exact Og.part_app (j1 := 5) (j2 := 8) rfl 26 29 rfl 1 _ _ _ _ rfl (.inr ⟨4, 0, _, rfl, by kernel_rfl, rfl, by decide, by decide⟩) (by kernel_rfl) (by kernel_rfl) (by kernel_rfl) (of_decide_eq_true (by kernel_rfl)) (of_decide_eq_true (by kernel_rfl)) (by kernel_rfl) (by kernel_rfl) rfl rfl rfl rfl (by kernel_rfl) (by kernel_rfl) (by kernel_rfl) (by kernel_rfl) (by decide) HNE.out.1 (by omega) (by omega) (by omega) L6.out
        · exact Og.part_assign (j := 4) rfl rfl 25 rfl (by kernel_rfl) (by kernel_rfl) (of_decide_eq_true (by kernel_rfl)) (by kernel_rfl) _ rfl rfl
        · exact Og.part_assign (j := 9) rfl rfl 30 rfl (by kernel_rfl) (by kernel_rfl) (of_decide_eq_true (by kernel_rfl)) (by kernel_rfl) _ rfl rfl
      case refine_2 =>
        intro vs w5 hG hp
        obtain ⟨h5, r5, o5⟩ := RowAt.of_row (Og.P_at (pr := .row 0 (xsL (ds.take k) ++ [p0])) rfl (hp 10 (of_decide_eq_true (by kernel_rfl))).1)
        obtain ⟨h6, r6, o6⟩ := RowAt.of_row (Og.P_at (pr := .row 1 (ysL (ds.take k) ++ [p1])) rfl (hp 11 (of_decide_eq_true (by kernel_rfl))).1)
        have e10 : vs 10 = vs 4 := (hp 10 (of_decide_eq_true (by kernel_rfl))).2
        have e11 : vs 11 = vs 9 := (hp 11 (of_decide_eq_true (by kernel_rfl))).2
        have n56 : h5 ≠ h6 := (hp 9 (of_decide_eq_true (by kernel_rfl))).2 h5 h6 (by rw [← e10]; exact r5.own) (by rw [← e11]; exact r6.own)
        clear hp e10 e11
        obtain ⟨n1, n2, n3, n4, n5, n6⟩ := HNE.out
        have r7 := q7.out.keep (hG.other g7 (by omega) (by show g7 ≠ g5; omega) (by show g7 ≠ g6; omega))
        have r8 := q8.out.keep (hG.other g8 (by omega) (by show g8 ≠ g5; omega) (by show g8 ≠ g6; omega))
        have hge5 := q5.out.ge
        have hge6 := q6.out.ge
        have hkeep := hG.other wr.heap.size (by omega) (by show wr.heap.size ≠ g5; omega) (by show wr.heap.size ≠ g6; omega)
        have HC0' : Hid (w5.cell? ⟨wr.heap.size, 0, none⟩ = some (.float .f32 p0)) := Lib.hid ((World.cell?_of_block (w := wq) (a := ⟨wr.heap.size, 0, none⟩) hkeep).trans HC0.out)
        have HC1' : Hid (w5.cell? ⟨wr.heap.size, 1, none⟩ = some (.float .f32 p1)) := Lib.hid ((World.cell?_of_block (w := wq) (a := ⟨wr.heap.size, 1, none⟩) hkeep).trans HC1.out)
        have hB5 : Below (w.heap.size + 1) w1 w5 := hBB.trans ⟨hG.os, hG.tape, hG.output, hG.size, fun k hk => hG.other k (by omega) (by show k ≠ g5; omega) (by show k ≠ g6; omega)⟩
        have zw5 := hG.size
        have O5 : Hid (h5 = g5 ∨ wq.heap.size ≤ h5) := Lib.hid o5
        have O6 : Hid (h6 = g6 ∨ wq.heap.size ≤ h6) := Lib.hid o6
        have lr5 := r5.lt
        have lr6 := r6.lt
        simp only [Rg.putAll, Act.put, List.setIfInBounds_toArray, List.set_cons_succ, List.set_cons_zero]
        generalize vs 0 = t0 at *
        generalize vs 1 = t1 at *
        generalize vs 2 = t2 at *
        generalize vs 3 = t3 at *
        generalize vs 4 = t4 at *
        generalize vs 5 = t5 at *
        generalize vs 6 = t6 at *
        generalize vs 7 = t7 at *
        generalize vs 8 = t8 at *
        generalize vs 9 = t9 at *
        generalize vs 10 = v5 at *
        generalize vs 11 = v6 at *
        have R5 := Lib.hid r5
        have R6 := Lib.hid r6
        have R7 := Lib.hid r7
        have R8 := Lib.hid r8
        clear r5 r6 r7 r8 o5 o6 hkeep hG q5 q6 q7 q8 HC0 HC1 hBB
        go_wp2_with fail
        refine Og.og_region (w.heap.size + 1) g7 g8 [.is u7, .is (.pointer (some ⟨wr.heap.size, 0, none⟩)), .fl p0, .is (.pointer (some ⟨wr.heap.size, 0, none⟩)), .fl p0, .fl (Fl.mul p0 p0), .cell (Fl.mul p0 p0), .row 0 (xxL (ds.take k) ++ [Fl.mul p0 p0]), .is u8, .is (.pointer (some ⟨wr.heap.size, 0, none⟩)), .fl p0, .is (.pointer (some ⟨wr.heap.size, 1, none⟩)), .fl p1, .fl (Fl.mul p0 p1), .cell (Fl.mul p0 p1), .row 1 (xyL (ds.take k) ++ [Fl.mul p0 p1]), .row 0 (xxL (ds.take k) ++ [Fl.mul p0 p0]), .row 1 (xyL (ds.take k) ++ [Fl.mul p0 p1])] [none, none, none, none, none, none, none, some (0, u7, xxL (ds.take k)), none, none, none, none, none, none, none, some (1, u8, xyL (ds.take k)), none, none] [.no, .no, .no, .no, .no, .no, .no, .no, .no, .no, .no, .no, .no, .no, .no, .apart 7, .eqv 7, .eqv 15] (by kernel_rfl) (by kernel_rfl) (by intro x hx; simp at hx; rcases hx with rfl | rfl; exact R7.out; exact R8.out) ?_ ?_
        case refine_1 =>
          simp only [Rg.parts]
          refine ⟨?_, ?_, ?_, ?_, ?_, ?_, ?_, ?_, ?_, ?_, ?_, ?_, ?_, ?_, ?_, ?_, ?_, ?_, trivial⟩
          · exact Og.part_move rfl rfl 7 rfl _ rfl (fun vs hv => (Og.ev_op (by kernel_rfl) 16 7 (by kernel_rfl) (of_decide_eq_true (by kernel_rfl))).trans (hv 16 (by kernel_rfl)))
          · exact Og.part_field rfl rfl 10 wr.heap.size 0 (by kernel_rfl) rfl rfl (fun A W h => by simp [Act.eval] at h; go_simp)
          · exact Og.part_load (j := 1) rfl rfl 32 wr.heap.size 0 _ (by kernel_rfl) (by kernel_rfl) (of_decide_eq_true (by kernel_rfl)) (by kernel_rfl) rfl rfl ⟨by omega, by show wr.heap.size ≠ g7; omega, by show wr.heap.size ≠ g8; omega⟩ HC0'.out (fun A W h h2 => by simp [Act.eval] at h; go_simp)
          · exact Og.part_field rfl rfl 10 wr.heap.size 0 (by kernel_rfl) rfl rfl (fun A W h => by simp [Act.eval] at h; go_simp)
          · exact Og.part_load (j := 3) rfl rfl 34 wr.heap.size 0 _ (by kernel_rfl) (by kernel_rfl) (of_decide_eq_true (by kernel_rfl)) (by kernel_rfl) rfl rfl ⟨by omega, by show wr.heap.size ≠ g7; omega, by show wr.heap.size ≠ g8; omega⟩ HC0'.out (fun A W h h2 => by simp [Act.eval] at h; go_simp)
          · exact Og.part_mul (j1 := 2) (j2 := 4) rfl rfl 33 35 _ _ (by kernel_rfl) (by kernel_rfl) (by kernel_rfl) (of_decide_eq_true (by kernel_rfl)) (of_decide_eq_true (by kernel_rfl)) (by kernel_rfl) (by kernel_rfl) rfl rfl rfl (fun A W x y h h2 => by simp [Act.eval] at h h2; go_simp)
          · exact Og.part_build (j := 5) rfl rfl 36 _ (by kernel_rfl) (by kernel_rfl) (of_decide_eq_true (by kernel_rfl)) (by kernel_rfl) rfl rfl (fun A W x h => by simp [Act.eval] at h; go_simp)
          · exact Og.part_app (j1 := 0) (j2 := 6) rfl 31 37 rfl 0 _ _ _ _ rfl (.inl rfl) (by kernel_rfl) (by kernel_rfl) (by kernel_rfl) (of_decide_eq_true (by kernel_rfl)) (of_decide_eq_true (by kernel_rfl)) (by kernel_rfl) (by kernel_rfl) rfl rfl rfl rfl (by kernel_rfl) (by kernel_rfl) (by kernel_rfl) (by kernel_rfl) (by decide) n6 R7.out.lt R8.out.lt (by omega) L7.out
          · exact Og.part_move rfl rfl 8 rfl _ rfl (fun vs hv => (Og.ev_op (by kernel_rfl) 17 8 (by kernel_rfl) (of_decide_eq_true (by kernel_rfl))).trans (hv 17 (by kernel_rfl)))
          · exact Og.part_field rfl rfl 10 wr.heap.size 0 (by kernel_rfl) rfl rfl (fun A W h => by simp [Act.eval] at h; go_simp)
          · exact Og.part_load (j := 9) rfl rfl 40 wr.heap.size 0 _ (by kernel_rfl) (by kernel_rfl) (of_decide_eq_true (by kernel_rfl)) (by kernel_rfl) rfl rfl ⟨by omega, by show wr.heap.size ≠ g7; omega, by show wr.heap.size ≠ g8; omega⟩ HC0'.out (fun A W h h2 => by simp [Act.eval] at h; go_simp)
          · exact Og.part_field rfl rfl 10 wr.heap.size 1 (by kernel_rfl) rfl rfl (fun A W h => by simp [Act.eval] at h; go_simp)
          · exact Og.part_load (j := 11) rfl rfl 42 wr.heap.size 1 _ (by kernel_rfl) (by kernel_rfl) (of_decide_eq_true (by kernel_rfl)) (by kernel_rfl) rfl rfl ⟨by omega, by show wr.heap.size ≠ g7; omega, by show wr.heap.size ≠ g8; omega⟩ HC1'.out (fun A W h h2 => by simp [Act.eval] at h; go_simp)
          · exact Og.part_mul (j1 := 10) (j2 := 12) rfl rfl 41 43 _ _ (by kernel_rfl) (by kernel_rfl) (by kernel_rfl) (of_decide_eq_true (by kernel_rfl)) (of_decide_eq_true (by kernel_rfl)) (by kernel_rfl) (by kernel_rfl) rfl rfl rfl (fun A W x y h h2 => by simp [Act.eval] at h h2; go_simp)
          · exact Og.part_build (j := 13) rfl rfl 44 _ (by kernel_rfl) (by kernel_rfl) (of_decide_eq_true (by kernel_rfl)) (by kernel_rfl) rfl rfl (fun A W x h => by simp [Act.eval] at h; go_simp)
          · exact Og.part_app (j1 := 8) (j2 := 14) rfl 39 45 rfl 1 _ _ _ _ rfl (.inr ⟨7, 0, _, rfl, by kernel_rfl, rfl, by decide, by decide⟩) (by kernel_rfl) (by kernel_rfl) (by kernel_rfl) (of_decide_eq_true (by kernel_rfl)) (of_decide_eq_true (by kernel_rfl)) (by kernel_rfl) (by kernel_rfl) rfl rfl rfl rfl (by kernel_rfl) (by kernel_rfl) (by kernel_rfl) (by kernel_rfl) (by decide) n6 R7.out.lt R8.out.lt (by omega) L8.out
          · exact Og.part_assign (j := 7) rfl rfl 38 rfl (by kernel_rfl) (by kernel_rfl) (of_decide_eq_true (by kernel_rfl)) (by kernel_rfl) _ rfl rfl
          · exact Og.part_assign (j := 15) rfl rfl 46 rfl (by kernel_rfl) (by kernel_rfl) (of_decide_eq_true (by kernel_rfl)) (by kernel_rfl) _ rfl rfl
        case refine_2 =>
          intro vs w6 hG hp
          obtain ⟨h7, r7, o7⟩ := RowAt.of_row (Og.P_at (pr := .row 0 (xxL (ds.take k) ++ [Fl.mul p0 p0])) rfl (hp 16 (of_decide_eq_true (by kernel_rfl))).1)
          obtain ⟨h8, r8, o8⟩ := RowAt.of_row (Og.P_at (pr := .row 1 (xyL (ds.take k) ++ [Fl.mul p0 p1])) rfl (hp 17 (of_decide_eq_true (by kernel_rfl))).1)
          have e16 : vs 16 = vs 7 := (hp 16 (of_decide_eq_true (by kernel_rfl))).2
          have e17 : vs 17 = vs 15 := (hp 17 (of_decide_eq_true (by kernel_rfl))).2
          have n78 : h7 ≠ h8 := (hp 15 (of_decide_eq_true (by kernel_rfl))).2 h7 h8 (by rw [← e16]; exact r7.own) (by rw [← e17]; exact r8.own)
          clear hp e16 e17
          have o5 := O5.out
          have o6 := O6.out
          have n57 : h5 ≠ g7 := by omega
          have n58 : h5 ≠ g8 := by omega
          have n67 : h6 ≠ g7 := by omega
          have n68 : h6 ≠ g8 := by omega
          have r5 := R5.out.keep (hG.other h5 lr5 (by show h5 ≠ g7; exact n57) (by show h5 ≠ g8; exact n58))
          have r6 := R6.out.keep (hG.other h6 lr6 (by show h6 ≠ g7; exact n67) (by show h6 ≠ g8; exact n68))
          have hge7 := R7.out.ge
          have hge8 := R8.out.ge
          have hB6 : Below (w.heap.size + 1) w1 w6 := hB5.trans ⟨hG.os, hG.tape, hG.output, hG.size, fun k hk => hG.other k (by omega) (by show k ≠ g7; omega) (by show k ≠ g8; omega)⟩
          have o7' : h7 = g7 ∨ w5.heap.size ≤ h7 := o7
          have o8' : h8 = g8 ∨ w5.heap.size ≤ h8 := o8
          have hnn : h5 ≠ h6 ∧ h5 ≠ h7 ∧ h5 ≠ h8 ∧ h6 ≠ h7 ∧ h6 ≠ h8 ∧ h7 ≠ h8 := ⟨n56, by omega, by omega, by omega, by omega, n78⟩
          simp only [Rg.putAll, Act.put, List.setIfInBounds_toArray, List.set_cons_succ, List.set_cons_zero]
          generalize vs 16 = v7 at *
          generalize vs 17 = v8 at *
          generalize vs 0 = s0
          generalize vs 1 = s1
          generalize vs 2 = s2
          generalize vs 3 = s3
          generalize vs 4 = s4
          generalize vs 5 = s5
          generalize vs 6 = s6
          generalize vs 7 = s7
          generalize vs 8 = s8
          generalize vs 9 = s9
          generalize vs 10 = s10
          generalize vs 11 = s11
          generalize vs 12 = s12
          generalize vs 13 = s13
          generalize vs 14 = s14
          generalize vs 15 = s15
          have F5 : Hid (RowAt w6 (w.heap.size + 1) h5 v5 (xsL (ds.take (k + 1)))) := Lib.hid (by unfold xsL; rw [e5.out]; exact r5)
          have F6 : Hid (RowAt w6 (w.heap.size + 1) h6 v6 (ysL (ds.take (k + 1)))) := Lib.hid (by unfold ysL; rw [e6.out]; exact r6)
          have F7 : Hid (RowAt w6 (w.heap.size + 1) h7 v7 (xxL (ds.take (k + 1)))) := Lib.hid (by unfold xxL; rw [e7.out]; exact r7)
          have F8 : Hid (RowAt w6 (w.heap.size + 1) h8 v8 (xyL (ds.take (k + 1)))) := Lib.hid (by unfold xyL; rw [e8.out]; exact r8)
          have NN := Lib.hid hnn
          have BB := Lib.hid hB6
          clear r5 r6 r7 r8 o5 o6 o7 o8 o7' o8' hnn hB6 hG n57 n58 n67 n68 n78 n56 n1 n2 n3 n4 n5 n6 hge5 hge6 hge7 hge8 R5 R6 R7 R8 O5 O6 e5 e6 e7 e8 HC0' HC1'
          go_wp2_with fail
          go_roundw
          case rel => exact ⟨k + 1, h5, h6, h7, h8, by omega, by go_num, F5.out, F6.out, F7.out, F8.out, NN.out, BB.out⟩
          case measure => simp [intOf]; omega
    · obtain rfl : k = ds.length := by omega
      have h5 := H5.out
      have h6 := H6.out
      have h7 := H7.out
      have h8 := H8.out
      rw [List.take_of_length_le (Nat.le_refl _)] at h5 h6 h7 h8
      obtain ⟨a5, c5, x5, rfl, f5, s5⟩ := h5.sl
      obtain ⟨a6, c6, x6, rfl, f6, s6⟩ := h6.sl
      obtain ⟨a7, c7, x7, rfl, f7, s7⟩ := h7.sl
      obtain ⟨a8, c8, x8, rfl, f8, s8⟩ := h8.sl
      have FS := Lib.hid (And.intro f5 (And.intro f6 (And.intro f7 f8)))
      have SS := Lib.hid (And.intro s5 (And.intro s6 (And.intro s7 s8)))
      have l5 : (xsL ds).length ≤ 1048576 := by unfold xsL; rw [List.length_map]; exact hl
      have l6 : (ysL ds).length ≤ 1048576 := by unfold ysL; rw [List.length_map]; exact hl
      have l7 : (xxL ds).length ≤ 1048576 := by unfold xxL; rw [List.length_map]; exact hl
      have l8 : (xyL ds).length ≤ 1048576 := by unfold xyL; rw [List.length_map]; exact hl
      have LL := Lib.hid (And.intro l5 (And.intro l6 (And.intro l7 l8)))
      clear H5 H6 H7 H8 h5 h6 h7 h8 f5 f6 f7 f8 s5 s6 s7 s8 l5 l6 l7 l8 HNE
      have hcf := HS.out.1
      have HR := Lib.hid (HR0.out.below hB (by omega))
      have hBw := hB1.trans (hB.mono (by omega))
      go_wp2_with fail
      refine (HS.out.2 _ _ _ _ _ SS.out.1.1 FS.out.1 LL.out.1 SS.out.1.2).mono ?_
      rintro e w2 ⟨z5, rfl, hz5, hb2⟩
      have HZ5 := Lib.hid hz5
      clear hz5
      go_wp2_with fail
      refine (HS.out.2 _ _ _ _ _ (SS.out.2.1.1.below hb2) FS.out.2.1 LL.out.2.1 SS.out.2.1.2).mono ?_
      rintro e w3 ⟨z6, rfl, hz6, hb3⟩
      have HZ6 := Lib.hid hz6
      have hP3 := below_call hb2 hb3
      clear hz6
      go_wp2_with fail
      refine (HS.out.2 _ _ _ _ _ (SS.out.2.2.1.1.below hP3) FS.out.2.2.1 LL.out.2.2.1 SS.out.2.2.1.2).mono ?_
      rintro e w4 ⟨z7, rfl, hz7, hb4⟩
      have HZ7 := Lib.hid hz7
      have hP4 := below_call hP3 hb4
      clear hz7
      go_wp2_with fail
      refine (HS.out.2 _ _ _ _ _ (SS.out.2.2.2.1.below hP4) FS.out.2.2.2 LL.out.2.2.2 SS.out.2.2.2.2).mono ?_
      rintro e w5 ⟨z8, rfl, hz8, hb5⟩
      have HZ8 := Lib.hid hz8
      have hP5 := below_call hP4 hb5
      have HRF := Lib.hid (HR.out.below hP5 HR.out.lt)
      have hBF := below_call hBw hP5
      clear hz8 hcf
      go_wp2_with (with_reducible refine Mem.wpList_storeA rfl 118 _ _ rfl w.heap.size 0 rfl [.float .f32 z5, .float .f32 z6, .float .f32 z7, .float .f32 z8] _ rfl _ HRF.out (by kernel_rfl) (by simp) (by simp [Value.oneCell']) ?_; intro w6 hw6)
      exact bodyPost_ret (v := .agg #[.float .f32 z5, .float .f32 z6, .float .f32 z7, .float .f32 z8]) (Mem.results_cellA Try.results107 _ w.heap.size [.float .f32 z5, .float .f32 z6, .float .f32 z7, .float .f32 z8] 118 _ rfl (by simpa using hw6.blk) Try.underlying118 rfl (by kernel_rfl)) rfl
        ⟨z5, z6, z7, z8, rfl, HZ5.out, HZ6.out, HZ7.out, HZ8.out, hBF.trans (hw6.below (Nat.le_refl _))⟩
end Go.Proofs.Ytcihbcmdmgmonaa
