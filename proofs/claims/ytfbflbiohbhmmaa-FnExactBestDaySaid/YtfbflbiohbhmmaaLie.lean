/-
  Slices that lie in one block of their own, and worlds that differ in one block alone.
-/
import Derived.Test.YtfbflbiohbhmmaaRows
import Derived.Test.YtfbflbiohbhmmaaBase
import Derived.OwnWalk
namespace Go.Proofs.Ytfbflbiohbhmmaa
open Go.RowKit

/-- All but one block is as it was. -/
structure But (g : Nat) (w w' : World) : Prop where
  os : w'.os = w.os
  tape : w'.tape = w.tape
  output : w'.output = w.output
  size : w.heap.size ≤ w'.heap.size
  other : ∀ k, k < w.heap.size → k ≠ g → w'.heap[k]? = w.heap[k]?
theorem But.refl (g : Nat) (w : World) : But g w w := ⟨rfl, rfl, rfl, Nat.le_refl _, fun _ _ _ => rfl⟩
theorem But.trans {g : Nat} {a b c : World} (h : But g a b) (k : But g b c) : But g a c :=
  ⟨k.os.trans h.os, k.tape.trans h.tape, k.output.trans h.output, Nat.le_trans h.size k.size, fun i hi hg => (k.other i (Nat.lt_of_lt_of_le hi h.size) hg).trans (h.other i hi hg)⟩
theorem But.wrote {g : Nat} {w w' : World} {l : List Value} {t : TypeId} (h : Mem.Wrote w w' g l t) : But g w w' :=
  ⟨h.os, h.tape, h.output, by rw [h.size]; exact Nat.le_refl _, fun k _ hk => h.other k hk⟩
theorem But.of_below {g B : Nat} {w w' : World} (h : Below B w w') (hB : w.heap.size ≤ B) : But g w w' :=
  ⟨h.os, h.tape, h.output, h.size, fun k hk _ => h.block k (Nat.lt_of_lt_of_le hk hB)⟩
theorem But.below {g B : Nat} {w w' : World} (h : But g w w') (hg : B ≤ g) (hB : B ≤ w.heap.size) : Below B w w' :=
  ⟨h.os, h.tape, h.output, h.size, fun k hk => h.other k (by omega) (by omega)⟩
theorem But.blk {g k : Nat} {w w' : World} {l : List Value} {t : TypeId} (h : But g w w') (hb : Mem.Blk w k l t) (hk : k ≠ g) : Mem.Blk w' k l t := (h.other k hb.lt hk).trans hb
theorem But.cell {g : Nat} {w w' : World} (h : But g w w') {p : Addr} (hp : p.block < w.heap.size) (hg : p.block ≠ g) : w'.cell? p = w.cell? p := World.cell?_of_block (w := w) (h.other p.block hp hg)

theorem own_row {w : World} {base : Nat} {e : TypeId} {size n : Nat} {v : Value} {xs : List Value} (h : w.ownsRow base e size v n xs) :
    ∃ ad g cap, v = .slice ad n cap ∧ xs.length = n * size ∧ (n = 0 ∨ (ad = some ⟨g, 0, none⟩ ∧ base ≤ g ∧ ∃ cur, Mem.Blk w g cur e ∧ cur.take (n * size) = xs)) := by
  obtain ⟨hl, h2⟩ := h
  rcases h2 with ⟨rfl, rfl⟩ | ⟨g, cap, cur, rfl, hbg, hg, _, _, _, ht⟩
  · exact ⟨none, 0, 0, rfl, by omega, .inl rfl⟩
  · refine ⟨some ⟨g, 0, none⟩, g, cap, rfl, by omega, .inr ⟨rfl, hbg, cur.toList, by simpa [Mem.Blk] using hg, ht⟩⟩

/-- A slice of numbers in a block of its own, from the block's start on. -/
def LyF (w : World) (base : Nat) (ad : Option Addr) (g : Nat) (xs : List Nat) : Prop :=
  xs = [] ∨ (ad = some ⟨g, 0, none⟩ ∧ base ≤ g ∧ ∃ cur t, Mem.Blk w g cur t ∧ cur.take xs.length = fL xs)
theorem LyF.lt {w : World} {base g : Nat} {ad : Option Addr} {xs : List Nat} (h : LyF w base ad g xs) (hx : xs ≠ []) : g < w.heap.size := by
  rcases h with h | ⟨_, _, _, _, h, _⟩
  · exact absurd h hx
  · exact h.lt
theorem LyF.ge {w : World} {base g : Nat} {ad : Option Addr} {xs : List Nat} (h : LyF w base ad g xs) (hx : xs ≠ []) : base ≤ g := by
  rcases h with h | ⟨_, h, _⟩
  · exact absurd h hx
  · exact h
theorem LyF.sl {w : World} {base g : Nat} {ad : Option Addr} {xs : List Nat} (h : LyF w base ad g xs) : SlF w ad xs := by
  rcases h with h | ⟨rfl, _, cur, t, hb, ht⟩
  · exact .inl h
  · refine .inr ⟨g, 0, rfl, hb.lt, HoldsF.of_blk hb fun i hi => ?_⟩
    rw [← ht, List.getElem?_take_of_lt hi]
theorem LyF.below {w w' : World} {base g B : Nat} {ad : Option Addr} {xs : List Nat} (h : LyF w base ad g xs) (hb : Below B w w') (hB : xs ≠ [] → g < B) : LyF w' base ad g xs := by
  by_cases hx : xs = []
  · exact .inl hx
  · rcases h with h | ⟨h1, h2, cur, t, h3, h4⟩
    · exact absurd h hx
    · exact .inr ⟨h1, h2, cur, t, h3.below hb (hB hx), h4⟩
theorem LyF.but {w w' : World} {base g g' : Nat} {ad : Option Addr} {xs : List Nat} (h : LyF w base ad g xs) (hb : But g' w w') (hg : xs ≠ [] → g ≠ g') : LyF w' base ad g xs := by
  by_cases hx : xs = []
  · exact .inl hx
  · rcases h with h | ⟨h1, h2, cur, t, h3, h4⟩
    · exact absurd h hx
    · exact .inr ⟨h1, h2, cur, t, hb.blk h3 (hg hx), h4⟩
theorem LyF.of_own {w : World} {base : Nat} {e : TypeId} {v : Value} {n : Nat} {xs : List Nat} (h : w.ownsRow base e 1 v n (fL xs)) :
    ∃ ad g cap, v = .slice ad n cap ∧ xs.length = n ∧ LyF w base ad g xs := by
  obtain ⟨ad, g, cap, rfl, hl, h2⟩ := own_row h
  rw [fL_length, Nat.mul_one] at hl
  refine ⟨ad, g, cap, rfl, hl, ?_⟩
  rcases h2 with h2 | ⟨h1, h2, cur, h3, h4⟩
  · exact .inl (List.eq_nil_of_length_eq_zero (by omega))
  · exact .inr ⟨h1, h2, cur, e, h3, by rw [hl]; rwa [Nat.mul_one] at h4⟩

/-- A slice of pairs in a block of its own. -/
def LyD (w : World) (base : Nat) (ad : Option Addr) (g : Nat) (xs : List (Nat × Nat)) : Prop :=
  xs = [] ∨ (ad = some ⟨g, 0, none⟩ ∧ base ≤ g ∧ ∃ cur t, Mem.Blk w g cur t ∧ cur.take (xs.length * 2) = dL xs)
theorem LyD.lt {w : World} {base g : Nat} {ad : Option Addr} {xs : List (Nat × Nat)} (h : LyD w base ad g xs) (hx : xs ≠ []) : g < w.heap.size := by
  rcases h with h | ⟨_, _, _, _, h, _⟩
  · exact absurd h hx
  · exact h.lt
theorem LyD.ge {w : World} {base g : Nat} {ad : Option Addr} {xs : List (Nat × Nat)} (h : LyD w base ad g xs) (hx : xs ≠ []) : base ≤ g := by
  rcases h with h | ⟨_, h, _⟩
  · exact absurd h hx
  · exact h
theorem LyD.sl {w : World} {base g : Nat} {ad : Option Addr} {xs : List (Nat × Nat)} (h : LyD w base ad g xs) : SlD w ad xs := by
  rcases h with h | ⟨rfl, _, cur, t, hb, ht⟩
  · exact .inl h
  · refine .inr ⟨g, 0, rfl, hb.lt, HoldsD.of_blk hb fun i hi => ?_⟩
    rw [← ht, List.getElem?_take_of_lt hi]
theorem LyD.below {w w' : World} {base g B : Nat} {ad : Option Addr} {xs : List (Nat × Nat)} (h : LyD w base ad g xs) (hb : Below B w w') (hB : xs ≠ [] → g < B) : LyD w' base ad g xs := by
  by_cases hx : xs = []
  · exact .inl hx
  · rcases h with h | ⟨h1, h2, cur, t, h3, h4⟩
    · exact absurd h hx
    · exact .inr ⟨h1, h2, cur, t, h3.below hb (hB hx), h4⟩
theorem LyD.but {w w' : World} {base g g' : Nat} {ad : Option Addr} {xs : List (Nat × Nat)} (h : LyD w base ad g xs) (hb : But g' w w') (hg : xs ≠ [] → g ≠ g') : LyD w' base ad g xs := by
  by_cases hx : xs = []
  · exact .inl hx
  · rcases h with h | ⟨h1, h2, cur, t, h3, h4⟩
    · exact absurd h hx
    · exact .inr ⟨h1, h2, cur, t, hb.blk h3 (hg hx), h4⟩
theorem LyD.of_own {w : World} {base : Nat} {e : TypeId} {v : Value} {n : Nat} {xs : List (Nat × Nat)} (h : w.ownsRow base e 2 v n (dL xs)) :
    ∃ ad g cap, v = .slice ad n cap ∧ xs.length = n ∧ LyD w base ad g xs := by
  obtain ⟨ad, g, cap, rfl, hl, h2⟩ := own_row h
  rw [dL_length] at hl
  have hl' : xs.length = n := by omega
  refine ⟨ad, g, cap, rfl, hl', ?_⟩
  rcases h2 with h2 | ⟨h1, h2, cur, h3, h4⟩
  · exact .inl (List.eq_nil_of_length_eq_zero (by omega))
  · exact .inr ⟨h1, h2, cur, e, h3, by rw [hl']; exact h4⟩
theorem LyD.of_blk {w : World} {base g : Nat} {xs : List (Nat × Nat)} {t : TypeId} (h : Mem.Blk w g (dL xs) t) (hb : base ≤ g) : LyD w base (some ⟨g, 0, none⟩) g xs :=
  .inr ⟨rfl, hb, dL xs, t, h, List.take_of_length_le (by rw [dL_length]; exact Nat.le_refl _)⟩

/-- The whole numbers from k on, as numbers of single precision. -/
def ofI (k : Int) : Nat := FloatKind.f32.nearest k
theorem ofI_num (k : Int) : Fl.isNaN (ofI k) = false := by
  have h : Fl.canon (ofI k) = ofI k := Fl.write_canon (.number (decide (k < 0)) k.natAbs 0) rfl
  cases hn : Fl.isNaN (ofI k) with
  | false => rfl
  | true =>
    exfalso
    rw [Fl.canon_of_nan hn] at h
    have h2 : ofI k ≤ 2147483648 + 2139095040 := by
      have key : ∀ (s : Bool) (r : Nat), r ≤ 2139095040 → Ieee.single.word s r ≤ 2147483648 + 2139095040 := by
        intro s r hr
        unfold Ieee.Format.word
        rw [show Ieee.single.signWeight = 2147483648 by decide]
        split <;> omega
      show Ieee.single.nearest _ _ _ ≤ _
      unfold Ieee.Format.nearest
      split
      · exact key _ 0 (by omega)
      · exact key _ _ (by rw [show Ieee.single.infRung = 2139095040 by decide]; exact Nat.min_le_right _ _)
    have h3 : ofI k % 2147483648 ≤ 2139095040 ∨ ofI k = 0 := by
      have key : ∀ (s : Bool) (r : Nat), r ≤ 2139095040 → Ieee.single.word s r % 2147483648 ≤ 2139095040 := by
        intro s r hr
        unfold Ieee.Format.word
        rw [show Ieee.single.signWeight = 2147483648 by decide]
        split <;> omega
      left
      show Ieee.single.nearest _ _ _ % _ ≤ _
      unfold Ieee.Format.nearest
      split
      · exact key _ 0 (by omega)
      · exact key _ _ (by rw [show Ieee.single.infRung = 2139095040 by decide]; exact Nat.min_le_right _ _)
    have hq : Fl.qnan = 2143289344 := rfl
    rw [hq] at h
    rcases h3 with h3 | h3 <;> omega
theorem ofI_eq (k : Int) : Fl.eq (ofI k) (ofI k) = true := by rw [Fl.eq_self, ofI_num]; rfl
theorem run_toF32 {P : Program} {W : World} (s d : TypeId) (k : IntKind) (n : Int) (hd : P.underlying d = some (.float .f32)) (hs : (P.underlying s).isSome = true) : (convert s d (.int k n)).run P W = .ok (.float .f32 (ofI n)) W := by
  cases h : P.underlying s with
  | none => rw [h] at hs; cases hs
  | some ds => simp [convert, underlying, h, hd, Conv.intToFloat, ofI]

def mkL (k : Int) (n : Nat) : List Nat := (List.range n).map fun (i : Nat) => ofI (k + i)
theorem mkL_length (k : Int) (n : Nat) : (mkL k n).length = n := by simp [mkL]
theorem mkL_get (k : Int) (n i : Nat) (h : i < n) : (mkL k n).getD i 0 = ofI (k + i) := by simp [mkL, h]
theorem mkL_succ (k : Int) (n : Nat) : mkL k (n + 1) = mkL k n ++ [ofI (k + n)] := by simp [mkL, List.range_succ]
theorem mkL_push (k : Int) (j : Nat) (cur : List Value) (h : j < cur.length) : (fL (mkL k j) ++ cur.drop j).set j (.float .f32 (ofI (k + j))) = fL (mkL k (j + 1)) ++ cur.drop (j + 1) := by
  have hl : (fL (mkL k j)).length = j := by rw [fL_length, mkL_length]
  rw [mkL_succ, fL_append, List.set_append, hl, if_neg (Nat.lt_irrefl _), Nat.sub_self, List.append_assoc]
  congr 1
  rw [List.drop_eq_getElem_cons h]
  rfl
def mkD (k : Int) (n : Nat) : List (Nat × Nat) := (List.range n).map fun (i : Nat) => (ofI (k + 2 * i), ofI (k + 2 * i + 1))
theorem mkD_length (k : Int) (n : Nat) : (mkD k n).length = n := by simp [mkD]
theorem mkD_get (k : Int) (n i : Nat) (h : i < n) : (mkD k n).getD i (0, 0) = (ofI (k + 2 * i), ofI (k + 2 * i + 1)) := by simp [mkD, h]
theorem mkD_succ (k : Int) (n : Nat) : mkD k (n + 1) = mkD k n ++ [(ofI (k + 2 * n), ofI (k + 2 * n + 1))] := by simp [mkD, List.range_succ]
theorem mkD_push (k : Int) (j : Nat) (cur : List Value) (h : j * 2 + 1 < cur.length) : ((dL (mkD k j) ++ cur.drop (j * 2)).set (j * 2) (.float .f32 (ofI (k + 2 * j)))).set (j * 2 + 1) (.float .f32 (ofI (k + 2 * j + 1))) = dL (mkD k (j + 1)) ++ cur.drop ((j + 1) * 2) := by
  have hl : (dL (mkD k j)).length = j * 2 := by rw [dL_length, mkD_length]
  rw [mkD_succ, dL_append, List.set_append, hl, if_neg (Nat.lt_irrefl _), Nat.sub_self, List.set_append, hl, if_neg (by omega), List.append_assoc]
  congr 1
  rw [show j * 2 + 1 - j * 2 = 1 by omega, List.drop_eq_getElem_cons (show j * 2 < cur.length by omega), List.drop_eq_getElem_cons (show j * 2 + 1 < cur.length from h)]
  show _ = [Value.float .f32 _, .float .f32 _] ++ _
  rw [show (j + 1) * 2 = j * 2 + 1 + 1 by omega]
  rfl
end Go.Proofs.Ytfbflbiohbhmmaa
