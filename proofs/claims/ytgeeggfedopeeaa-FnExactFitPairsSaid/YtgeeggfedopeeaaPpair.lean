/-
  Sums by pairs: what both programs answer.
-/
import Derived.Test.YtgeeggfedopeeaaPleft
import Derived.Test.YtgeeggfedopeeaaSlc
namespace Go.Proofs.Ytgeeggfedopeeaa
open Go.RowKit

/-- The sum by pairs, told in steps. -/
def pairF : Nat → List Nat → Nat
  | 0, _ => 0
  | f + 1, es => if es.length = 0 then 0 else if es.length = 1 then es.getD 0 0 else Fl.add (pairF f (es.take (es.length / 2))) (pairF f (es.drop (es.length / 2)))
def pairL (es : List Nat) : Nat := pairF es.length es
theorem pairF_more : ∀ (f g : Nat) (es : List Nat), es.length ≤ f → es.length ≤ g → pairF f es = pairF g es
  | 0, 0, _, _, _ => rfl
  | 0, g + 1, es, h, _ => by
    have h0 : es.length = 0 := by omega
    simp [pairF, h0]
  | f + 1, 0, es, _, h => by
    have h0 : es.length = 0 := by omega
    simp [pairF, h0]
  | f + 1, g + 1, es, h, h' => by
    unfold pairF
    by_cases h0 : es.length = 0
    · rw [if_pos h0, if_pos h0]
    · by_cases h1 : es.length = 1
      · rw [if_neg h0, if_neg h0, if_pos h1, if_pos h1]
      · rw [if_neg h0, if_neg h0, if_neg h1, if_neg h1, pairF_more f g _ (by rw [List.length_take]; omega) (by rw [List.length_take]; omega), pairF_more f g _ (by rw [List.length_drop]; omega) (by rw [List.length_drop]; omega)]
theorem pairL_zero : pairL [] = 0 := rfl
theorem pairL_one (x : Nat) : pairL [x] = x := rfl
theorem pairL_two (es : List Nat) (h : 2 ≤ es.length) : pairL es = Fl.add (pairL (es.take (es.length / 2))) (pairL (es.drop (es.length / 2))) := by
  obtain ⟨n, hn⟩ : ∃ n, es.length = n + 1 := ⟨es.length - 1, by omega⟩
  have e : pairF (n + 1) es = Fl.add (pairF n (es.take (es.length / 2))) (pairF n (es.drop (es.length / 2))) := by
    simp only [pairF]
    rw [if_neg (by omega), if_neg (by omega)]
  have e2 : pairL es = pairF (n + 1) es := by unfold pairL; rw [hn]
  rw [e2, e, pairF_more n (es.take (es.length / 2)).length _ (by rw [List.length_take]; omega) (Nat.le_refl _), pairF_more n (es.drop (es.length / 2)).length _ (by rw [List.length_drop]; omega) (Nat.le_refl _)]
  rfl

theorem HoldsF.part {w : World} {b o : Nat} {xs : List Nat} (h : HoldsF w b o xs) (k m : Nat) : HoldsF w b (o + k) ((xs.drop k).take m) := by
  intro i hi
  simp only [List.length_take, List.length_drop] at hi
  have := h (k + i) (by omega)
  rw [show o + k + i = o + (k + i) by omega, this]
  congr 2
  rw [List.getD_eq_getElem?_getD, List.getD_eq_getElem?_getD, List.getElem?_take_of_lt (by omega), List.getElem?_drop]
theorem HoldsD.part {w : World} {b o : Nat} {xs : List (Nat × Nat)} (h : HoldsD w b o xs) (k m : Nat) : HoldsD w b (o + k * 2) ((xs.drop k).take m) := by
  intro i hi
  simp only [List.length_take, List.length_drop] at hi
  obtain ⟨h0, h1⟩ := h (k + i) (by omega)
  have e : ((xs.drop k).take m).getD i (0, 0) = xs.getD (k + i) (0, 0) := by
    rw [List.getD_eq_getElem?_getD, List.getD_eq_getElem?_getD, List.getElem?_take_of_lt (by omega), List.getElem?_drop]
  rw [e]
  rw [show o + k * 2 + i * 2 = o + (k + i) * 2 by omega]
  exact ⟨h0, h1⟩
theorem IsFs.take {xs es : List Nat} (h : IsFs xs es) (k : Nat) : IsFs (xs.take k) (es.take k) := by
  refine ⟨by rw [List.length_take, List.length_take, h.1], fun i hi => ?_⟩
  rw [List.length_take] at hi
  have := h.2 i (by omega)
  rwa [List.getD_eq_getElem?_getD, List.getD_eq_getElem?_getD, List.getElem?_take_of_lt (by omega), List.getElem?_take_of_lt (by omega), ← List.getD_eq_getElem?_getD, ← List.getD_eq_getElem?_getD]
theorem IsFs.drop {xs es : List Nat} (h : IsFs xs es) (k : Nat) : IsFs (xs.drop k) (es.drop k) := by
  refine ⟨by rw [List.length_drop, List.length_drop, h.1], fun i hi => ?_⟩
  rw [List.length_drop] at hi
  have := h.2 (k + i) (by omega)
  rwa [List.getD_eq_getElem?_getD, List.getD_eq_getElem?_getD, List.getElem?_drop, List.getElem?_drop, ← List.getD_eq_getElem?_getD, ← List.getD_eq_getElem?_getD]

set_option maxHeartbeats 2000000 in
theorem pairSum_calls : ∀ (f : Nat) (ad : Option Addr) (cap : Nat) (xs es : List Nat) (w : World), es.length ≤ f → es.length ≤ cap → SlF w ad xs → IsFs xs es → es.length ≤ 1048576 →
    Calls Try.prog 58 #[.slice ad es.length cap] w (RetF (pairL es) w) := by
  intro f
  induction f with
  | zero =>
    intro ad cap xs es w hf hcap hsl hfs hl
    obtain rfl : es = [] := List.eq_nil_of_length_eq_zero (by omega)
    clear hsl hfs hf
    go_enter Try.func58, Try.ntmps58
    go_wp2
    go_ret
    exact ⟨0, rfl, rfl, Below.refl _ _⟩
  | succ f ih =>
    intro ad cap xs es w hf hcap hsl hfs hl
    by_cases h0 : es.length = 0
    · obtain rfl : es = [] := List.eq_nil_of_length_eq_zero h0
      clear hsl hfs hf ih h0
      go_enter Try.func58, Try.ntmps58
      go_wp2
      go_ret
      exact ⟨0, rfl, rfl, Below.refl _ _⟩
    · rcases hsl with h | ⟨b, o, rfl, hb, hF⟩
      · exact absurd (by rw [← hfs.1, h]; rfl) h0
      have HF := Lib.hid hF
      have HX := Lib.hid hfs
      have HI := Lib.hid ih
      clear hF hfs ih
      by_cases h1 : es.length = 1
      · have c0 := HF.out 0 (by rw [HX.out.1]; omega)
        rw [Nat.add_zero] at c0
        have hcx := HX.out.2 0 (by omega)
        obtain ⟨x, hx⟩ : ∃ x, x = xs.getD 0 0 := ⟨_, rfl⟩
        rw [← hx] at c0 hcx
        obtain ⟨e, rfl⟩ : ∃ e, es = [e] := List.length_eq_one_iff.1 h1
        have HCX := Lib.hid hcx
        clear hx hcx h0 h1 hf
        go_enter Try.func58, Try.ntmps58
        go_wp2
        go_ret
        exact ⟨x, rfl, by rw [pairL_one]; exact HCX.out, Below.refl _ _⟩
      · obtain ⟨n, hn⟩ : ∃ n, n = es.length := ⟨_, rfl⟩
        have HP : Hid (pairL es = Fl.add (pairL (es.take (n / 2))) (pairL (es.drop (n / 2)))) := Lib.hid (by rw [hn]; exact pairL_two es (by omega))
        have ht : (es.take (n / 2)).length = n / 2 := by rw [List.length_take]; omega
        have hd : (es.drop (n / 2)).length = n - n / 2 := by rw [List.length_drop]; omega
        rw [← hn] at hf hcap hl h0 h1 ⊢
        have HN := Lib.hid hn
        clear hn
        have q0 : ((n : Int) == 0) = false := by rw [beq_eq_false_iff_ne]; omega
        have q1 : ((n : Int) == 1) = false := by rw [beq_eq_false_iff_ne]; omega
        have CT : Hid (∀ cp W, Below w.heap.size w W → n / 2 ≤ cp → Calls Try.prog 58 #[.slice (some ⟨b, o, none⟩) (n / 2 : Nat) cp] W (RetF (pairL (es.take (n / 2))) W)) := Lib.hid fun cp W hW h2 => by
          have := HI.out (some ⟨b, o, none⟩) cp (xs.take (n / 2)) (es.take (n / 2)) W (by omega) (by omega) (.inr ⟨b, o, rfl, by have := hW.size; omega, by
            have := (HF.out.part 0 (n / 2)).below hW hb
            simpa using this⟩) (HX.out.take _) (by omega)
          rwa [ht] at this
        have CD : Hid (∀ cp W, Below w.heap.size w W → n - n / 2 ≤ cp → Calls Try.prog 58 #[.slice (some ⟨b, o + n / 2, none⟩) (n - n / 2 : Nat) cp] W (RetF (pairL (es.drop (n / 2))) W)) := Lib.hid fun cp W hW h2 => by
          have := HI.out (some ⟨b, o + n / 2, none⟩) cp (xs.drop (n / 2)) (es.drop (n / 2)) W (by omega) (by omega) (.inr ⟨b, o + n / 2, rfl, by have := hW.size; omega, by
            have h4 := (HF.out.part (n / 2) xs.length).below hW hb
            rwa [List.take_of_length_le (by rw [List.length_drop]; exact Nat.sub_le _ _)] at h4⟩) (HX.out.drop _) (by omega)
          rwa [hd] at this
        clear ht hd
        go_enter Try.func58, Try.ntmps58
        go_wp2_with fail
        have q2 : (n : Int) / 2 = ((n / 2 : Nat) : Int) := by omega
        rw [q2]
        have hm1 : n / 2 < n ∧ 1 ≤ n / 2 ∧ n / 2 ≤ n - n / 2 := by omega
        clear q2
        generalize n / 2 = m at *
        have hcm : ¬ cap = m := by omega
        have hmn : m ≤ n := by omega
        (refine Rg.region_tail 9 (fun w' => Below (w).heap.size w w') (fun _ args v => ∃ x, v = .float .f32 x ∧ (args = #[.slice (some ⟨b, o, none⟩) m cap] → Fl.canon x = Fl.canon (pairL (es.take m))) ∧ (args = #[.slice (some ⟨b, o + m, none⟩) (n - m) (cap - m)] → Fl.canon x = Fl.canon (pairL (es.drop m)))) (by kernel_rfl) (by kernel_rfl) (by exact (Below.refl (w).heap.size w).drew) ?_; simp only [List.take_succ_cons, List.take_zero, List.drop_succ_cons, List.drop_zero])
        (repeat (first | ((with_reducible refine Rg.walk_plain rfl (fun Kz hKz wz hwz => ?_)); (have hclz : ∀ bb oo, bb < (w).heap.size → wz.cell? ⟨bb, oo, none⟩ = (w).cell? ⟨bb, oo, none⟩ := fun bb oo h => hwz.cell (p := ⟨bb, oo, none⟩) h); go_simp; refine hKz _ ?_; clear hKz hwz hclz Kz wz) | ((with_reducible refine Rg.walk_on ?_ (fun Kz hKz wz hwz => ?_)); (next => (go_simp; done)); (have hclz : ∀ bb oo, bb < (w).heap.size → wz.cell? ⟨bb, oo, none⟩ = (w).cell? ⟨bb, oo, none⟩ := fun bb oo h => hwz.cell (p := ⟨bb, oo, none⟩) h); go_simp; refine hKz _ ?_; clear hKz hwz hclz Kz wz) | ((with_reducible refine Rg.walk_step (fun Kz hKz => ?_)); go_simp; refine hKz _ ?_; clear hKz Kz)))
        refine Rg.walk_val rfl (.slice (some ⟨b, o, none⟩) m cap) (fun W _ => Mem.run_opSlH 74 _ _ rfl b o m n cap 1 .i64 22 rfl rfl Try.underlying74 (by kernel_rfl) (by omega)) ?_
        refine Rg.walk_calls rfl 58 #[.slice (some ⟨b, o, none⟩) m cap] (fun W hW => ⟨by go_simp, (CT.out cap W hW (by omega)).mono fun e w2 ⟨v, he, hv, hb2⟩ => ⟨_, he, ⟨v, rfl, fun _ => hv, (by intro h; simp at h <;> omega)⟩, below_call hW hb2⟩⟩) (fun u hu => ?_)
        obtain ⟨x, rfl, hx, _⟩ := hu
        have HXX := Lib.hid (hx rfl)
        clear hx
        (repeat (first | ((with_reducible refine Rg.walk_plain rfl (fun Kz hKz wz hwz => ?_)); (have hclz : ∀ bb oo, bb < (w).heap.size → wz.cell? ⟨bb, oo, none⟩ = (w).cell? ⟨bb, oo, none⟩ := fun bb oo h => hwz.cell (p := ⟨bb, oo, none⟩) h); go_simp; refine hKz _ ?_; clear hKz hwz hclz Kz wz) | ((with_reducible refine Rg.walk_on ?_ (fun Kz hKz wz hwz => ?_)); (next => (go_simp; done)); (have hclz : ∀ bb oo, bb < (w).heap.size → wz.cell? ⟨bb, oo, none⟩ = (w).cell? ⟨bb, oo, none⟩ := fun bb oo h => hwz.cell (p := ⟨bb, oo, none⟩) h); go_simp; refine hKz _ ?_; clear hKz hwz hclz Kz wz) | ((with_reducible refine Rg.walk_step (fun Kz hKz => ?_)); go_simp; refine hKz _ ?_; clear hKz Kz)))
        refine Rg.walk_calls rfl 58 #[.slice (some ⟨b, o + m, none⟩) (n - m) (cap - m)] (fun W hW => ⟨by go_simp, (CD.out (cap - m) W hW (by omega)).mono fun e w2 ⟨v, he, hv, hb2⟩ => ⟨_, he, ⟨v, rfl, (by intro h; simp at h <;> omega), fun _ => hv⟩, below_call hW hb2⟩⟩) (fun u hu => ?_)
        obtain ⟨y, rfl, _, hy⟩ := hu
        have HYY := Lib.hid (hy rfl)
        clear hy
        refine Rg.walk_plain rfl (fun K hK w1 hw1 => ?_)
        go_simp
        refine ⟨below_n hw1 _, hK _ ?_⟩
        obtain ⟨z, hz⟩ : ∃ z, z = Fl.rAdd w1 x y := ⟨_, rfl⟩
        rw [← hz]
        have HZ : Hid (Fl.canon z = Fl.canon (pairL es)) := by
          refine Lib.hid ?_
          rw [HP.out, hz]
          exact radd_of' HXX.out HYY.out
        clear hz hK hw1 K w1
        refine Rg.walk_nil ?_
        intro w2 hw2
        go_wp2_with fail
        go_ret
        exact ⟨z, rfl, HZ.out, hw2⟩
theorem pairSum_sums : SumsF Try.prog 58 pairL :=
  ⟨fun args W => by kernel_rfl, fun ad cap xs es W h1 h2 h3 h4 => pairSum_calls es.length ad cap xs es W (Nat.le_refl _) h4 h1 h2 h3⟩
end Go.Proofs.Ytgeeggfedopeeaa
