/-
  Crates that are the same: what both programs answer.
-/
import Derived.Test.YtclbgkajhpknlaaPsn
import Derived.Test.YtclbgkajhpknlaaRegT
import Derived.Test.YtclbgkajhpknlaaPstore
namespace Go.Proofs.Ytclbgkajhpknlaa
open Go.RowKit

def sameFs (ds es : List Nat) : Bool := decide (ds.length = es.length) && (List.range ds.length).all fun i => sameN (ds.getD i 0) (es.getD i 0)
theorem sameFs_no {ds es : List Nat} (h : ds.length ≠ es.length) : sameFs ds es = false := by unfold sameFs; rw [decide_eq_false h]; rfl
theorem sameFs_at {ds es : List Nat} {k : Nat} (hk : k < ds.length) (h : sameN (ds.getD k 0) (es.getD k 0) = false) : sameFs ds es = false := by
  unfold sameFs
  rw [show ((List.range ds.length).all fun i => sameN (ds.getD i 0) (es.getD i 0)) = false from by
    rw [List.all_eq_false]; exact ⟨k, List.mem_range.2 hk, by simpa using h⟩, Bool.and_false]
theorem sameFs_yes {ds es : List Nat} (hl : ds.length = es.length) (h : ∀ j, j < ds.length → sameN (ds.getD j 0) (es.getD j 0) = true) : sameFs ds es = true := by
  unfold sameFs
  rw [decide_eq_true hl, Bool.true_and, List.all_eq_true]
  exact fun j hj => h j (List.mem_range.1 hj)

def sameCr (c : Int) (rs : List Nat) (c' : Int) (rs' : List Nat) : Bool := (c == c') && sameFs rs rs'

theorem HoldsF.of_crL {w : World} {g : Nat} {c : Int} {rs : List Nat} {t : TypeId} (h : Mem.Blk w g (crL c rs) t) : HoldsF w g 1 rs :=
  fun i hi => (h.cell (1 + i)).trans (crL_succ c rs i hi)

set_option maxHeartbeats 400000 in
theorem equalFuncF_calls (b o cap b' o' cap' : Nat) (ds es : List Nat) (w : World) (hd : HoldsF w b o ds) (hb : b < w.heap.size) (he : HoldsF w b' o' es) (hb' : b' < w.heap.size) (hl : ds.length ≤ maxLen) :
    Calls Try.prog 85 #[.slice (some ⟨b, o, none⟩) ds.length cap, .slice (some ⟨b', o', none⟩) es.length cap', .func (.func 45) #[] #[]] w (RetBool (sameFs ds es) w) := by
  unfold maxLen at hl
  have hcf : ∀ (args : Array Value) (W : World), (callFunc 45 args).run Try.prog W = .ok (.enter 45 args) W := fun args W => by kernel_rfl
  by_cases hlen : ds.length = es.length
  · rw [← hlen]
    have HL := Lib.hid hlen
    clear hlen
    go_enter Try.func85, Try.ntmps85
    go_wp2_with fail
    go_loopw [17] (fun i wr => ∃ k : Nat, k ≤ ds.length ∧ i = .int .i64 k ∧ (∀ j, j < k → sameN (ds.getD j 0) (es.getD j 0) = true) ∧ Below w.heap.size w wr) (fun i _ => ds.length - (intOf i).toNat)
    case atStart => exact ⟨0, Nat.zero_le _, rfl, fun j hj => by omega, Below.refl _ _⟩
    case round =>
      obtain ⟨k, hk, rfl, hno, hB⟩ := hrel
      have HN := Lib.hid hno
      clear hno
      by_cases hlt : k < ds.length
      · have hsz := hB.size
        have c0 := hd.below hB hb k hlt
        have d0 := he.below hB hb' k (HL.out ▸ hlt)
        have HD := Lib.hid hd
        have HE := Lib.hid he
        clear hd he
        obtain ⟨p, hp⟩ : ∃ p, p = ds.getD k 0 := ⟨_, rfl⟩
        obtain ⟨q, hq⟩ : ∃ q, q = es.getD k 0 := ⟨_, rfl⟩
        rw [← hp] at c0
        rw [← hq] at d0
        have HPp := Lib.hid hp
        have HQ := Lib.hid hq
        clear hp hq
        have lb : b < wr.heap.size := by omega
        have lb' : b' < wr.heap.size := by omega
        go_wp2_with fail
        refine (SameNumber_calls p q _).mono ?_
        clear hcf c0 d0
        rintro e w1 ⟨rfl, rfl⟩
        cases hpx : sameN p q with
        | false =>
          have hres : sameFs ds es = false := sameFs_at hlt (by rw [← HPp.out, ← HQ.out]; exact hpx)
          have HR := Lib.hid hres
          clear hres hpx
          go_wp2
          go_ret
          exact ⟨by rw [HR.out]; rfl, hB⟩
        | true =>
          have HX := Lib.hid hpx
          clear hpx
          go_wp2
          go_roundw
          case rel => exact ⟨k + 1, by omega, by go_num, fun j hj => by rcases Nat.lt_succ_iff_lt_or_eq.1 hj with h | h; exact HN.out j h; subst h; rw [← HPp.out, ← HQ.out]; exact HX.out, hB⟩
          case measure => simp [intOf]; omega
      · have hres : sameFs ds es = true := sameFs_yes HL.out (fun j hj => HN.out j (by omega))
        have HR := Lib.hid hres
        clear hres
        go_wp2
        go_ret
        exact ⟨by rw [HR.out]; rfl, hB⟩
  · have hres := sameFs_no hlen
    have HR := Lib.hid hres
    clear hres
    have hb2 : ((ds.length : Int) != (es.length : Int)) = true := by rw [bne_iff_ne]; omega
    clear hd he
    go_enter Try.func85, Try.ntmps85
    go_wp2
    go_ret
    exact ⟨by rw [HR.out]; rfl, Below.refl _ _⟩

set_option maxHeartbeats 400000 in
theorem allSame_calls (b o cap b' o' cap' : Nat) (ds es : List Nat) (n n' : Nat) (hn : ds.length = n) (hn' : es.length = n') (w : World) (hd : HoldsF w b o ds) (hb : b < w.heap.size) (he : HoldsF w b' o' es) (hb' : b' < w.heap.size) (hl : ds.length ≤ maxLen) :
    Calls Try.prog 74 #[.slice (some ⟨b, o, none⟩) n cap, .slice (some ⟨b', o', none⟩) n' cap'] w (RetBool (sameFs ds es) w) := by
  subst hn hn'
  have HC := Lib.hid (equalFuncF_calls b o cap b' o' cap' ds es w hd hb he hb' hl)
  clear hd he hl
  go_enter Try.func74, Try.ntmps74
  go_wp2_with fail
  refine HC.out.mono ?_
  rintro e w1 ⟨rfl, hb1⟩
  go_wp2_with fail
  go_ret
  exact ⟨rfl, hb1⟩

set_option maxHeartbeats 1000000 in
theorem implSameCrate_calls (c : Int) (rs : List Nat) (c' : Int) (rs' : List Nat) (hr : rs.length = 16) (hr' : rs'.length = 16) (w : World) :
    Calls Try.prog 44 #[.agg (crL c rs).toArray, .agg (crL c' rs').toArray] w (RetBool (sameCr c rs c' rs') w) := by
  have HR := Lib.hid hr
  have HR' := Lib.hid hr'
  clear hr hr'
  go_enter Try.func44, Try.ntmps44
  go_upto_region 1 with (fail)
  generalize hw1 : (w.alloc _).alloc _ = w1
  have h1 : Mem.Blk w1 w.heap.size (crL c rs) 38 := hw1 ▸ (Mem.Blk.new w _ _).alloc _
  have h2 : Mem.Blk w1 (w.heap.size + 1) (crL c' rs') 38 := hw1 ▸ (Mem.Blk.new1 w _ _ _)
  have hb : Below w.heap.size w w1 := hw1 ▸ below_a2 w _ _
  clear hw1
  have s1 := h1.lt
  have s2 := h2.lt
  have c0 : w1.cell? ⟨w.heap.size, 0, none⟩ = some (.int .i8 c) := h1.cell 0
  have d0 : w1.cell? ⟨w.heap.size + 1, 0, none⟩ = some (.int .i8 c') := h2.cell 0
  cases hc : (c == c')
  · have HC := Lib.hid (show sameCr c rs c' rs' = false by simp [sameCr, hc])
    go_wp2_with fail
    (refine Rg.region_tail 12 (fun w' => Below (w1).heap.size w1 w') (fun _ _ _ => False) (by kernel_rfl) (by kernel_rfl) (by exact (Below.refl (w1).heap.size w1).drew) ?_; simp only [List.take_succ_cons, List.take_zero, List.drop_succ_cons, List.drop_zero])
    (repeat (first | ((with_reducible refine Rg.walk_plain rfl (fun Kz hKz wz hwz => ?_)); (have hclz : ∀ bb oo, bb < (w1).heap.size → wz.cell? ⟨bb, oo, none⟩ = (w1).cell? ⟨bb, oo, none⟩ := fun bb oo h => hwz.cell (p := ⟨bb, oo, none⟩) h); go_simp; refine hKz _ ?_; clear hKz hwz hclz Kz wz) | ((with_reducible refine Rg.walk_on ?_ (fun Kz hKz wz hwz => ?_)); (next => (go_simp; done)); (have hclz : ∀ bb oo, bb < (w1).heap.size → wz.cell? ⟨bb, oo, none⟩ = (w1).cell? ⟨bb, oo, none⟩ := fun bb oo h => hwz.cell (p := ⟨bb, oo, none⟩) h); go_simp; refine hKz _ ?_; clear hKz hwz hclz Kz wz) | ((with_reducible refine Rg.walk_step (fun Kz hKz => ?_)); go_simp; refine hKz _ ?_; clear hKz Kz)))
    refine Rg.walk_nil ?_
    intro w2 hw2
    have hB2 := below_call hb hw2
    clear c0 d0 hw2
    go_wp2
    go_ret
    exact ⟨by rw [HC.out]; rfl, hB2⟩
  · have HC := Lib.hid (show sameCr c rs c' rs' = sameFs rs rs' by simp [sameCr, hc])
    have H1 := Lib.hid h1
    have H2 := Lib.hid h2
    clear h1 h2
    go_wp2_with fail
    (refine Rg.region_tail 12 (fun w' => Below (w1).heap.size w1 w') (fun _ _ v => v = .bool (sameFs rs rs')) (by kernel_rfl) (by kernel_rfl) (by exact (Below.refl (w1).heap.size w1).drew) ?_; simp only [List.take_succ_cons, List.take_zero, List.drop_succ_cons, List.drop_zero])
    (repeat (first | ((with_reducible refine Rg.walk_plain rfl (fun Kz hKz wz hwz => ?_)); (have hclz : ∀ bb oo, bb < (w1).heap.size → wz.cell? ⟨bb, oo, none⟩ = (w1).cell? ⟨bb, oo, none⟩ := fun bb oo h => hwz.cell (p := ⟨bb, oo, none⟩) h); go_simp; refine hKz _ ?_; clear hKz hwz hclz Kz wz) | ((with_reducible refine Rg.walk_on ?_ (fun Kz hKz wz hwz => ?_)); (next => (go_simp; done)); (have hclz : ∀ bb oo, bb < (w1).heap.size → wz.cell? ⟨bb, oo, none⟩ = (w1).cell? ⟨bb, oo, none⟩ := fun bb oo h => hwz.cell (p := ⟨bb, oo, none⟩) h); go_simp; refine hKz _ ?_; clear hKz hwz hclz Kz wz) | ((with_reducible refine Rg.walk_step (fun Kz hKz => ?_)); go_simp; refine hKz _ ?_; clear hKz Kz)))
    refine Rg.walk_on_call (by go_simp) 74 #[.slice (some ⟨w.heap.size, 1, none⟩) 16 16, .slice (some ⟨w.heap.size + 1, 1, none⟩) 16 16] (fun w2 hw2 => ⟨by go_simp, (allSame_calls _ _ _ _ _ _ rs rs' _ _ HR.out HR'.out w2 (HoldsF.of_crL (H1.out.below hw2 s1)) (by have := hw2.size; omega) (HoldsF.of_crL (H2.out.below hw2 s2)) (by have := hw2.size; omega) (by rw [HR.out]; simp [maxLen])).mono fun e w3 ⟨he, hb3⟩ => ⟨_, he, rfl, below_call hw2 hb3⟩⟩) (fun u hu => ?_)
    subst hu
    (repeat (first | ((with_reducible refine Rg.walk_plain rfl (fun Kz hKz wz hwz => ?_)); (have hclz : ∀ bb oo, bb < (w1).heap.size → wz.cell? ⟨bb, oo, none⟩ = (w1).cell? ⟨bb, oo, none⟩ := fun bb oo h => hwz.cell (p := ⟨bb, oo, none⟩) h); go_simp; refine hKz _ ?_; clear hKz hwz hclz Kz wz) | ((with_reducible refine Rg.walk_on ?_ (fun Kz hKz wz hwz => ?_)); (next => (go_simp; done)); (have hclz : ∀ bb oo, bb < (w1).heap.size → wz.cell? ⟨bb, oo, none⟩ = (w1).cell? ⟨bb, oo, none⟩ := fun bb oo h => hwz.cell (p := ⟨bb, oo, none⟩) h); go_simp; refine hKz _ ?_; clear hKz hwz hclz Kz wz) | ((with_reducible refine Rg.walk_step (fun Kz hKz => ?_)); go_simp; refine hKz _ ?_; clear hKz Kz)))
    refine Rg.walk_nil ?_
    intro w2 hw2
    have hB2 := below_call hb hw2
    clear c0 d0 hw2
    go_wp2
    go_ret
    exact ⟨by rw [HC.out]; rfl, hB2⟩
end Go.Proofs.Ytclbgkajhpknlaa
