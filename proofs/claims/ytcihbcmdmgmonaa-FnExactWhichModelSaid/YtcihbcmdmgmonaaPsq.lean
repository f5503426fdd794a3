/-
  Sums of the squares of rests: what both programs answer.
-/
import Derived.Test.YtcihbcmdmgmonaaPrests
namespace Go.Proofs.Ytcihbcmdmgmonaa
open Go.RowKit

theorem own_form {w : World} {base : Nat} {e : TypeId} {v : Value} {n : Nat} {xs : List Nat} (h : w.ownsRow base e 1 v n (fL xs)) :
    ∃ ad cap, v = .slice ad n cap ∧ xs.length = n ∧ (n = 0 ∨ ∃ g, ad = some ⟨g, 0, none⟩ ∧ g < w.heap.size ∧ HoldsF w g 0 xs) := by
  obtain ⟨hl, h2⟩ := h
  have hl' : xs.length = n := by rw [fL_length] at hl; omega
  rcases h2 with ⟨rfl, rfl⟩ | ⟨g, cap, cur, rfl, _, hg, _, _, _, ht⟩
  · exact ⟨none, 0, rfl, hl', .inl rfl⟩
  · refine ⟨some ⟨g, 0, none⟩, cap, rfl, hl', .inr ⟨g, rfl, (Array.getElem?_eq_some_iff.1 hg).1, fun i hi => ?_⟩⟩
    have h3 := fL_get xs i hi
    rw [← ht, List.getElem?_take_of_lt (by omega)] at h3
    rw [cell_of_row w g (0 + i) _ _ _ hg, Nat.zero_add]
    simpa using h3

def sqL (es : List Nat) : Nat := es.foldl (fun a r => Fl.add a (Fl.mul r r)) 0
theorem sqL_push (es : List Nat) (k : Nat) (hk : k < es.length) : sqL (es.take (k + 1)) = Fl.add (sqL (es.take k)) (Fl.mul (es.getD k 0) (es.getD k 0)) := by
  have e : es.getD k 0 = es[k] := by simp [hk]
  rw [e, List.take_succ_eq_append_getElem hk]
  simp only [sqL, List.foldl_append, List.foldl_cons, List.foldl_nil]
theorem sq_step {v a x r : Nat} {W W' : World} (h : Fl.canon v = Fl.canon a) (hx : Fl.canon x = Fl.canon r) : Fl.canon (Fl.rAdd W v (Fl.rMul W' x x)) = Fl.canon (Fl.add a (Fl.mul r r)) := by
  rw [Fl.canon_rAdd, Fl.canon_addv]
  refine (Fl.add_of h rfl).trans ?_
  rw [Fl.canon_rMul, Fl.mul_of hx hx, ← Fl.mul_canon r r, ← Fl.add_canon a (Fl.mul _ _), Fl.canon_mulv]

set_option maxHeartbeats 2000000 in
theorem l06Squares_calls (s t : Nat) (b o cap : Nat) (ds : List (Nat × Nat)) (w : World) (hd : HoldsD w b o ds) (hb : b < w.heap.size) (hl : ds.length ≤ 1048576) :
    Calls Try.prog 65 #[.agg #[.float .f32 s, .float .f32 t], .slice (some ⟨b, o, none⟩) ds.length cap] w (RetF (sqL (restL s t ds)) w) := by
  have HD := Lib.hid hd
  clear hd
  go_enter Try.func65, Try.ntmps65
  go_wp2_with fail
  refine (l06Rests_calls s t b o cap ds _ (HD.out.below (below_a1 _ _) hb) (by simp; omega) hl).mono ?_
  rintro e w2 ⟨v, xs, rfl, hx, hown, hb2⟩
  obtain ⟨ad, cp, rfl, hlen, hcell⟩ := own_form hown
  have hB := below_call (below_a1 w _) hb2
  have hes := restL_length s t ds
  rw [hes] at hlen hcell
  rw [hes]
  have HX := Lib.hid hx
  have HC := Lib.hid hcell
  have HE := Lib.hid hes
  clear hx hcell hes hown hb2
  go_upto_region 4 with (fail)
  go_loopw [7, 6] (fun i v wr => ∃ (k q : Nat), k ≤ ds.length ∧ i = .int .i64 k ∧ v = .float .f32 q ∧ Fl.canon q = Fl.canon (sqL ((restL s t ds).take k)) ∧ Below w2.heap.size w2 wr) (fun i _ _ => ds.length - (intOf i).toNat)
  case atStart => exact ⟨0, 0, Nat.zero_le _, rfl, rfl, rfl, Below.refl _ _⟩
  case round =>
    obtain ⟨k, q, hk, rfl, rfl, hq, hB2⟩ := hrel
    have HQ := Lib.hid hq
    clear hq
    by_cases hlt : k < ds.length
    · rcases HC.out with h0 | ⟨g, rfl, hg, hF⟩
      · omega
      have hsz := hB2.size
      have c0 := hF.below hB2 hg k (by rw [hlen]; exact hlt)
      rw [Nat.zero_add] at c0
      have hcx := HX.out.2 k (by rw [HE.out]; exact hlt)
      obtain ⟨x, hx⟩ : ∃ x, x = xs.getD k 0 := ⟨_, rfl⟩
      rw [← hx] at c0 hcx
      have HCX := Lib.hid hcx
      clear hx hcx hF
      have lg : g < wr.heap.size := by omega
      go_wp2_with fail
      (refine Rg.region_tail 11 (fun w' => Below (wr).heap.size wr w') (fun _ _ _ => False) (by kernel_rfl) (by kernel_rfl) (by exact (Below.refl (wr).heap.size wr).drew) ?_; simp only [List.take_succ_cons, List.take_zero, List.drop_succ_cons, List.drop_zero])
      (repeat (first | ((with_reducible refine Rg.walk_plain rfl (fun Kz hKz wz hwz => ?_)); (have hclz : ∀ bb oo, bb < (wr).heap.size → wz.cell? ⟨bb, oo, none⟩ = (wr).cell? ⟨bb, oo, none⟩ := fun bb oo h => hwz.cell (p := ⟨bb, oo, none⟩) h); go_simp; refine hKz _ ?_; clear hKz hwz hclz Kz wz) | ((with_reducible refine Rg.walk_on ?_ (fun Kz hKz wz hwz => ?_)); (next => (go_simp; done)); (have hclz : ∀ bb oo, bb < (wr).heap.size → wz.cell? ⟨bb, oo, none⟩ = (wr).cell? ⟨bb, oo, none⟩ := fun bb oo h => hwz.cell (p := ⟨bb, oo, none⟩) h); go_simp; refine hKz _ ?_; clear hKz hwz hclz Kz wz) | ((with_reducible refine Rg.walk_step (fun Kz hKz => ?_)); go_simp; refine hKz _ ?_; clear hKz Kz)))
      refine Rg.walk_plain rfl (fun K hK w1 hw1 => ?_)
      go_simp
      refine ⟨below_n hw1 _, hK _ ?_⟩
      obtain ⟨y, hy⟩ : ∃ y, y = Fl.rMul w1 x x := ⟨_, rfl⟩
      rw [← hy]
      have HY : Hid (∃ W, y = Fl.rMul W x x) := Lib.hid ⟨w1, hy⟩
      clear hy hK hw1 K w1
      refine Rg.walk_plain rfl (fun K hK w1 hw1 => ?_)
      go_simp
      refine ⟨below_n hw1 _, hK _ ?_⟩
      obtain ⟨z, hz⟩ : ∃ z, z = Fl.rAdd w1 q y := ⟨_, rfl⟩
      rw [← hz]
      have HZ : Hid (Fl.canon z = Fl.canon (sqL ((restL s t ds).take (k + 1)))) := by
        obtain ⟨W, rfl⟩ := HY.out
        refine Lib.hid ?_
        rw [sqL_push _ k (by rw [HE.out]; exact hlt), hz]
        exact sq_step HQ.out HCX.out
      clear hz hK hw1 K w1
      refine Rg.walk_nil ?_
      intro w3 hw3
      have hB3 := below_call hB2 hw3
      clear c0 hw3
      go_wp2_with fail
      go_roundw
      case rel => exact ⟨k + 1, z, by omega, by go_num, by first | trivial | rfl, HZ.out, hB3⟩
      case measure => simp [intOf]; omega
    · obtain rfl : k = ds.length := by omega
      have hq := HQ.out
      rw [List.take_of_length_le (by rw [HE.out]; exact Nat.le_refl _)] at hq
      have HQ2 := Lib.hid hq
      clear hq
      go_wp2_with fail
      go_ret
      exact ⟨q, rfl, HQ2.out, below_call hB hB2⟩

set_option maxHeartbeats 2000000 in
theorem squares_calls (s t : Nat) (b o cap : Nat) (ds : List (Nat × Nat)) (w : World) (hd : HoldsD w b o ds) (hb : b < w.heap.size) (hl : ds.length ≤ 1048576) :
    Calls Try.prog 68 #[.agg #[.float .f32 s, .float .f32 t], .slice (some ⟨b, o, none⟩) ds.length cap] w (RetF (sqL (restL s t ds)) w) := by
  have HD := Lib.hid hd
  clear hd
  go_enter Try.func68, Try.ntmps68
  go_wp2_with fail
  refine (rests_calls s t b o cap ds _ (HD.out.below (below_a1 _ _) hb) (by simp; omega) hl).mono ?_
  rintro e w2 ⟨v, xs, rfl, hx, hown, hb2⟩
  obtain ⟨ad, cp, rfl, hlen, hcell⟩ := own_form hown
  have hB := below_call (below_a1 w _) hb2
  have hes := restL_length s t ds
  rw [hes] at hlen hcell
  rw [hes]
  have HX := Lib.hid hx
  have HC := Lib.hid hcell
  have HE := Lib.hid hes
  clear hx hcell hes hown hb2
  go_upto_region 3 with (fail)
  go_loopw [12, 5] (fun i v wr => ∃ (k q : Nat), k ≤ ds.length ∧ i = .int .i64 k ∧ v = .float .f32 q ∧ Fl.canon q = Fl.canon (sqL ((restL s t ds).take k)) ∧ Below w2.heap.size w2 wr) (fun i _ _ => ds.length - (intOf i).toNat)
  case atStart => exact ⟨0, 0, Nat.zero_le _, rfl, rfl, rfl, Below.refl _ _⟩
  case round =>
    obtain ⟨k, q, hk, rfl, rfl, hq, hB2⟩ := hrel
    have HQ := Lib.hid hq
    clear hq
    by_cases hlt : k < ds.length
    · rcases HC.out with h0 | ⟨g, rfl, hg, hF⟩
      · omega
      have hsz := hB2.size
      have c0 := hF.below hB2 hg k (by rw [hlen]; exact hlt)
      rw [Nat.zero_add] at c0
      have hcx := HX.out.2 k (by rw [HE.out]; exact hlt)
      obtain ⟨x, hx⟩ : ∃ x, x = xs.getD k 0 := ⟨_, rfl⟩
      rw [← hx] at c0 hcx
      have HCX := Lib.hid hcx
      clear hx hcx hF
      have lg : g < wr.heap.size := by omega
      have HS : Hid (∀ W W', Fl.canon (Fl.rAdd W q (Fl.rMul W' x x)) = Fl.canon (sqL ((restL s t ds).take (k + 1)))) := by
        refine Lib.hid fun W W' => ?_
        rw [sqL_push _ k (by rw [HE.out]; exact hlt)]
        exact sq_step HQ.out HCX.out
      go_wp2_with fail
      go_roundw
      case rel => exact ⟨k + 1, _, by omega, by go_num, rfl, HS.out _ _, below_n hB2 _⟩
      case measure => simp [intOf]; omega
    · obtain rfl : k = ds.length := by omega
      have hq := HQ.out
      rw [List.take_of_length_le (by rw [HE.out]; exact Nat.le_refl _)] at hq
      have HQ2 := Lib.hid hq
      clear hq
      go_wp2_with fail
      go_ret
      exact ⟨q, rfl, HQ2.out, below_call hB hB2⟩
end Go.Proofs.Ytcihbcmdmgmonaa
