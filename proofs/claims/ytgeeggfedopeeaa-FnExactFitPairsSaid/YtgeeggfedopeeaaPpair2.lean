/-
  Sums by pairs, in the reference.
-/
import Derived.Test.YtgeeggfedopeeaaPpair
namespace Go.Proofs.Ytgeeggfedopeeaa
open Go.RowKit

/-- Four numbers that are these sums by pairs. -/
def PairsOf (ds : List (Nat × Nat)) (x y z t : Nat) : Prop :=
  Fl.canon x = Fl.canon (pairL (xsL ds)) ∧ Fl.canon y = Fl.canon (pairL (ysL ds)) ∧ Fl.canon z = Fl.canon (pairL (xxL ds)) ∧ Fl.canon t = Fl.canon (pairL (xyL ds))
theorem add_same {x y u v : Nat} (h : Fl.canon x = Fl.canon u) (h' : Fl.canon y = Fl.canon v) : Fl.canon (Fl.add x y) = Fl.canon (Fl.add u v) := by rw [← Fl.add_canon x, h, h', Fl.add_canon]
theorem pairs_map (f : Nat × Nat → Nat) (ds : List (Nat × Nat)) (h : 2 ≤ ds.length) : pairL (ds.map f) = Fl.add (pairL ((ds.take (ds.length / 2)).map f)) (pairL ((ds.drop (ds.length / 2)).map f)) := by
  rw [pairL_two _ (by rw [List.length_map]; exact h), List.length_map, List.map_take, List.map_drop]
theorem PairsOf.both {ds : List (Nat × Nat)} {x y z t x' y' z' t' u v p q : Nat} (h : 2 ≤ ds.length) (h1 : PairsOf (ds.take (ds.length / 2)) x y z t) (h2 : PairsOf (ds.drop (ds.length / 2)) x' y' z' t')
    (hu : Fl.canon u = Fl.canon (Fl.add x x')) (hv : Fl.canon v = Fl.canon (Fl.add y y')) (hp : Fl.canon p = Fl.canon (Fl.add z z')) (hq : Fl.canon q = Fl.canon (Fl.add t t')) : PairsOf ds u v p q := by
  refine ⟨?_, ?_, ?_, ?_⟩
  · unfold xsL; rw [pairs_map _ ds h]; exact hu.trans (add_same h1.1 h2.1)
  · unfold ysL; rw [pairs_map _ ds h]; exact hv.trans (add_same h1.2.1 h2.2.1)
  · unfold xxL; rw [pairs_map _ ds h]; exact hp.trans (add_same h1.2.2.1 h2.2.2.1)
  · unfold xyL; rw [pairs_map _ ds h]; exact hq.trans (add_same h1.2.2.2 h2.2.2.2)

def RetPairs (ds : List (Nat × Nat)) (W : World) (e : Ending) (W' : World) : Prop := ∃ x y z t, e = .returned (.agg (s4 x y z t).toArray) ∧ PairsOf ds x y z t ∧ Below W.heap.size W W'

set_option maxHeartbeats 2000000 in
theorem l06PairsR_calls : ∀ (f b o cap : Nat) (ds : List (Nat × Nat)) (w : World), ds.length ≤ f → ds.length ≤ cap → HoldsD w b o ds → b < w.heap.size → ds.length ≤ 1048576 →
    Calls Try.prog 57 #[.slice (some ⟨b, o, none⟩) ds.length cap] w (RetPairs ds w) := by
  intro f
  induction f with
  | zero =>
    intro b o cap ds w hf _ _ _ _
    obtain rfl : ds = [] := List.eq_nil_of_length_eq_zero (by omega)
    clear hf
    go_enter Try.func57, Try.ntmps57
    go_upto_region 1 with (fail)
    generalize hw1 : w.alloc _ = w1
    have hB1 : Below w.heap.size w w1 := hw1 ▸ below_a1 w _
    have hr : Mem.Blk w1 w.heap.size (s4 0 0 0 0) 64 := hw1 ▸ Mem.Blk.new w _ _
    have HR := Lib.hid hr
    clear hw1 hr
    go_wp2_with (with_reducible refine Mem.wpList_storeA rfl 64 _ _ rfl w.heap.size 0 rfl (s4 0 0 0 0) _ rfl _ HR.out (by kernel_rfl) (by simp [s4]) (by simp [Value.oneCell', s4]) ?_; intro w6 hw6)
    exact bodyPost_ret (v := .agg (s4 0 0 0 0).toArray) (Mem.results_cellA Try.results57 _ w.heap.size (s4 0 0 0 0) 64 _ rfl (by simpa [s4] using hw6.blk) Try.underlying64 rfl (by kernel_rfl)) rfl
      ⟨0, 0, 0, 0, rfl, ⟨rfl, rfl, rfl, rfl⟩, hB1.trans (hw6.below (Nat.le_refl _))⟩
  | succ f ih =>
    intro b o cap ds w hf hcap hD hb hl
    have HD := Lib.hid hD
    have HI := Lib.hid ih
    clear hD ih
    by_cases h0 : ds.length = 0
    · obtain rfl : ds = [] := List.eq_nil_of_length_eq_zero h0
      clear hf h0
      go_enter Try.func57, Try.ntmps57
      go_upto_region 1 with (fail)
      generalize hw1 : w.alloc _ = w1
      have hB1 : Below w.heap.size w w1 := hw1 ▸ below_a1 w _
      have hr : Mem.Blk w1 w.heap.size (s4 0 0 0 0) 64 := hw1 ▸ Mem.Blk.new w _ _
      have HR := Lib.hid hr
      clear hw1 hr
      go_wp2_with (with_reducible refine Mem.wpList_storeA rfl 64 _ _ rfl w.heap.size 0 rfl (s4 0 0 0 0) _ rfl _ HR.out (by kernel_rfl) (by simp [s4]) (by simp [Value.oneCell', s4]) ?_; intro w6 hw6)
      exact bodyPost_ret (v := .agg (s4 0 0 0 0).toArray) (Mem.results_cellA Try.results57 _ w.heap.size (s4 0 0 0 0) 64 _ rfl (by simpa [s4] using hw6.blk) Try.underlying64 rfl (by kernel_rfl)) rfl
        ⟨0, 0, 0, 0, rfl, ⟨rfl, rfl, rfl, rfl⟩, hB1.trans (hw6.below (Nat.le_refl _))⟩
    · by_cases h1 : ds.length = 1
      · obtain ⟨⟨p0, p1⟩, rfl⟩ : ∃ e, ds = [e] := List.length_eq_one_iff.1 h1
        obtain ⟨c0, c1⟩ := HD.out 0 (by simp)
        rw [Nat.zero_mul, Nat.add_zero] at c0 c1
        have c0 : w.cell? ⟨b, o, none⟩ = some (.float .f32 p0) := c0
        have c1 : w.cell? ⟨b, o + 1, none⟩ = some (.float .f32 p1) := c1
        clear hf h0 h1
        go_enter Try.func57, Try.ntmps57
        go_upto_region 1 with (fail)
        generalize hw1 : w.alloc _ = w1
        have hB1 : Below w.heap.size w w1 := hw1 ▸ below_a1 w _
        have hr : Mem.Blk w1 w.heap.size (s4 0 0 0 0) 64 := hw1 ▸ Mem.Blk.new w _ _
        have HR := Lib.hid hr
        have d0 := (hB1.cell (p := ⟨b, o, none⟩) hb).trans c0
        have d1 := (hB1.cell (p := ⟨b, o + 1, none⟩) hb).trans c1
        have lb : b < w1.heap.size := by have := hB1.size; omega
        clear hw1 hr c0 c1
        go_wp2_with fail
        refine (l06One_calls p0 p1 _).mono ?_
        rintro e w2 ⟨x, y, z, t, rfl, hx, hy, hz, ht, hb2⟩
        have HX := Lib.hid (And.intro hx (And.intro hy (And.intro hz ht)))
        have hB2 := below_call hB1 hb2
        have HR2 := Lib.hid (HR.out.below hb2 HR.out.lt)
        clear hx hy hz ht d0 d1
        go_wp2_with (with_reducible refine Mem.wpList_storeA rfl 64 _ _ rfl w.heap.size 0 rfl (s4 x y z t) _ rfl _ HR2.out (by kernel_rfl) (by simp [s4]) (by simp [Value.oneCell', s4]) ?_; intro w6 hw6)
        exact bodyPost_ret (v := .agg (s4 x y z t).toArray) (Mem.results_cellA Try.results57 _ w.heap.size (s4 x y z t) 64 _ rfl (by simpa [s4] using hw6.blk) Try.underlying64 rfl (by kernel_rfl)) rfl
          ⟨x, y, z, t, rfl, ⟨HX.out.1, HX.out.2.1, HX.out.2.2.1, HX.out.2.2.2⟩, hB2.trans (hw6.below (Nat.le_refl _))⟩
      · obtain ⟨n, hn⟩ : ∃ n, n = ds.length := ⟨_, rfl⟩
        have HB : Hid (∀ x y z t x' y' z' t' u v p q, PairsOf (ds.take (n / 2)) x y z t → PairsOf (ds.drop (n / 2)) x' y' z' t' → Fl.canon u = Fl.canon (Fl.add x x') → Fl.canon v = Fl.canon (Fl.add y y') → Fl.canon p = Fl.canon (Fl.add z z') → Fl.canon q = Fl.canon (Fl.add t t') → PairsOf ds u v p q) :=
          Lib.hid fun x y z t x' y' z' t' u v p q h1 h2 h3 h4 h5 h6 => PairsOf.both (by omega) (hn ▸ h1) (hn ▸ h2) h3 h4 h5 h6
        have ht : (ds.take (n / 2)).length = n / 2 := by rw [List.length_take]; omega
        have hd : (ds.drop (n / 2)).length = n - n / 2 := by rw [List.length_drop]; omega
        rw [← hn] at hf hcap hl h0 h1 ⊢
        have HN := Lib.hid hn
        clear hn
        have q0 : ((n : Int) == 0) = false := by rw [beq_eq_false_iff_ne]; omega
        have q1 : ((n : Int) == 1) = false := by rw [beq_eq_false_iff_ne]; omega
        have CT : Hid (∀ cp W, Below w.heap.size w W → n / 2 ≤ cp → Calls Try.prog 57 #[.slice (some ⟨b, o, none⟩) (n / 2 : Nat) cp] W (RetPairs (ds.take (n / 2)) W)) := Lib.hid fun cp W hW h2 => by
          have := HI.out b o cp (ds.take (n / 2)) W (by omega) (by omega) (by
            have := (HD.out.part 0 (n / 2)).below hW hb
            simpa using this) (by have := hW.size; omega) (by omega)
          rwa [ht] at this
        have CD : Hid (∀ cp W, Below w.heap.size w W → n - n / 2 ≤ cp → Calls Try.prog 57 #[.slice (some ⟨b, o + n / 2 * 2, none⟩) (n - n / 2 : Nat) cp] W (RetPairs (ds.drop (n / 2)) W)) := Lib.hid fun cp W hW h2 => by
          have := HI.out b (o + n / 2 * 2) cp (ds.drop (n / 2)) W (by omega) (by omega) (by
            have h4 := (HD.out.part (n / 2) ds.length).below hW hb
            rwa [List.take_of_length_le (by rw [List.length_drop]; exact Nat.sub_le _ _)] at h4) (by have := hW.size; omega) (by omega)
          rwa [hd] at this
        clear ht hd
        go_enter Try.func57, Try.ntmps57
        go_upto_region 1 with (fail)
        generalize hw1 : w.alloc _ = w1
        have hB1 : Below w.heap.size w w1 := hw1 ▸ below_a1 w _
        have hr : Mem.Blk w1 w.heap.size (s4 0 0 0 0) 64 := hw1 ▸ Mem.Blk.new w _ _
        have HR := Lib.hid hr
        have lb : b < w1.heap.size := by have := hB1.size; omega
        clear hw1 hr
        go_wp2_with fail
        have hw3 : IntKind.i64.wrap ((n : Int) / 2) = ((n / 2 : Nat) : Int) := by rw [IntKind.wrap_i64]; omega
        have hm1 : n / 2 < n ∧ 1 ≤ n / 2 ∧ n / 2 ≤ n - n / 2 := by omega
        generalize n / 2 = m at *
        have hcm : ¬ cap = m := by omega
        have hmn : m ≤ n := by omega
        have hmc : m ≤ cap := by omega
        (refine Rg.region_tail 11 (fun w' => Below (w1).heap.size w1 w') (fun _ args v => ∃ x y z t, v = .agg (s4 x y z t).toArray ∧ (args = #[.slice (some ⟨b, o, none⟩) m cap] → PairsOf (ds.take m) x y z t) ∧ (args = #[.slice (some ⟨b, o + m * 2, none⟩) (n - m) (cap - m)] → PairsOf (ds.drop m) x y z t) ∧ (∀ p q r s p' q' r' s', args = #[.agg (s4 p q r s).toArray, .agg (s4 p' q' r' s').toArray] → Fl.canon x = Fl.canon (Fl.add p p') ∧ Fl.canon y = Fl.canon (Fl.add q q') ∧ Fl.canon z = Fl.canon (Fl.add r r') ∧ Fl.canon t = Fl.canon (Fl.add s s'))) (by kernel_rfl) (by kernel_rfl) (by exact (Below.refl (w1).heap.size w1).drew) ?_; simp only [List.take_succ_cons, List.take_zero, List.drop_succ_cons, List.drop_zero])
        (repeat (first | ((with_reducible refine Rg.walk_plain rfl (fun Kz hKz wz hwz => ?_)); (have hclz : ∀ bb oo, bb < (w1).heap.size → wz.cell? ⟨bb, oo, none⟩ = (w1).cell? ⟨bb, oo, none⟩ := fun bb oo h => hwz.cell (p := ⟨bb, oo, none⟩) h); go_simp; refine hKz _ ?_; clear hKz hwz hclz Kz wz) | ((with_reducible refine Rg.walk_on ?_ (fun Kz hKz wz hwz => ?_)); (next => (go_simp; done)); (have hclz : ∀ bb oo, bb < (w1).heap.size → wz.cell? ⟨bb, oo, none⟩ = (w1).cell? ⟨bb, oo, none⟩ := fun bb oo h => hwz.cell (p := ⟨bb, oo, none⟩) h); go_simp; refine hKz _ ?_; clear hKz hwz hclz Kz wz) | ((with_reducible refine Rg.walk_step (fun Kz hKz => ?_)); go_simp; refine hKz _ ?_; clear hKz Kz)))
        refine Rg.walk_calls rfl 57 #[.slice (some ⟨b, o, none⟩) m cap] (fun W hW => ⟨by go_simp, (CT.out cap W (hB1.trans (hW.mono hB1.size)) (by omega)).mono fun e w2 ⟨x, y, z, t, he, hv, hb2⟩ => ⟨_, he, ⟨x, y, z, t, rfl, fun _ => hv, (by intro h; simp at h <;> omega), (by intro p q r s p' q' r' s' h; simp at h)⟩, below_call hW hb2⟩⟩) (fun u hu => ?_)
        obtain ⟨x, y, z, t, rfl, hx, _, _⟩ := hu
        have HX := Lib.hid (hx rfl)
        clear hx
        (repeat (first | ((with_reducible refine Rg.walk_plain rfl (fun Kz hKz wz hwz => ?_)); (have hclz : ∀ bb oo, bb < (w1).heap.size → wz.cell? ⟨bb, oo, none⟩ = (w1).cell? ⟨bb, oo, none⟩ := fun bb oo h => hwz.cell (p := ⟨bb, oo, none⟩) h); go_simp; refine hKz _ ?_; clear hKz hwz hclz Kz wz) | ((with_reducible refine Rg.walk_on ?_ (fun Kz hKz wz hwz => ?_)); (next => (go_simp; done)); (have hclz : ∀ bb oo, bb < (w1).heap.size → wz.cell? ⟨bb, oo, none⟩ = (w1).cell? ⟨bb, oo, none⟩ := fun bb oo h => hwz.cell (p := ⟨bb, oo, none⟩) h); go_simp; refine hKz _ ?_; clear hKz hwz hclz Kz wz) | ((with_reducible refine Rg.walk_step (fun Kz hKz => ?_)); go_simp; refine hKz _ ?_; clear hKz Kz)))
        refine Rg.walk_calls rfl 57 #[.slice (some ⟨b, o + m * 2, none⟩) (n - m) (cap - m)] (fun W hW => ⟨by go_simp, (CD.out (cap - m) W (hB1.trans (hW.mono hB1.size)) (by omega)).mono fun e w2 ⟨x, y, z, t, he, hv, hb2⟩ => ⟨_, he, ⟨x, y, z, t, rfl, (by intro h; simp at h <;> omega), fun _ => hv, (by intro p q r s p' q' r' s' h; simp at h)⟩, below_call hW hb2⟩⟩) (fun u hu => ?_)
        obtain ⟨x', y', z', t', rfl, _, hy, _⟩ := hu
        have HY := Lib.hid (hy rfl)
        clear hy
        refine Rg.walk_calls rfl 76 #[.agg (s4 x y z t).toArray, .agg (s4 x' y' z' t').toArray] (fun W hW => ⟨by go_simp, (l06Both_calls x y z t x' y' z' t' W).mono fun e w2 ⟨u, v, p, q, he, h1, h2, h3, h4, hb2⟩ => ⟨_, he, ⟨u, v, p, q, rfl, (by intro h; simp at h), (by intro h; simp at h), (by
          intro a1 a2 a3 a4 b1 b2 b3 b4 h
          simp [s4] at h
          obtain ⟨⟨rfl, rfl, rfl, rfl⟩, rfl, rfl, rfl, rfl⟩ := h
          exact ⟨h1, h2, h3, h4⟩)⟩, below_call hW hb2⟩⟩) (fun u hu => ?_)
        obtain ⟨u, v, p, q, rfl, _, _, hz⟩ := hu
        obtain ⟨z1, z2, z3, z4⟩ := hz x y z t x' y' z' t' rfl
        have HZ := Lib.hid (HB.out _ _ _ _ _ _ _ _ _ _ _ _ HX.out HY.out z1 z2 z3 z4)
        clear hz z1 z2 z3 z4
        refine Rg.walk_nil ?_
        intro w2 hw2
        have HR2 := Lib.hid (HR.out.below hw2 HR.out.lt)
        go_wp2_with (with_reducible refine Mem.wpList_storeA rfl 64 _ _ rfl w.heap.size 0 rfl (s4 u v p q) _ rfl _ HR2.out (by kernel_rfl) (by simp [s4]) (by simp [Value.oneCell', s4]) ?_; intro w6 hw6)
        exact bodyPost_ret (v := .agg (s4 u v p q).toArray) (Mem.results_cellA Try.results57 _ w.heap.size (s4 u v p q) 64 _ rfl (by simpa [s4] using hw6.blk) Try.underlying64 rfl (by kernel_rfl)) rfl
          ⟨u, v, p, q, rfl, HZ.out, (hB1.trans (hw2.mono hB1.size)).trans (hw6.below (Nat.le_refl _))⟩

theorem l06Pairs_calls (b o cap : Nat) (ds : List (Nat × Nat)) (w : World) (hd : HoldsD w b o ds) (hb : b < w.heap.size) (hl : ds.length ≤ 1048576) (hc : ds.length ≤ cap) :
    Calls Try.prog 57 #[.slice (some ⟨b, o, none⟩) ds.length cap] w (RetS4 (pairL (xsL ds)) (pairL (ysL ds)) (pairL (xxL ds)) (pairL (xyL ds)) w) :=
  (l06PairsR_calls ds.length b o cap ds w (Nat.le_refl _) hc hd hb hl).mono fun _ _ ⟨x, y, z, t, he, hp, hb⟩ => ⟨x, y, z, t, he, hp.1, hp.2.1, hp.2.2.1, hp.2.2.2, hb⟩
end Go.Proofs.Ytgeeggfedopeeaa
