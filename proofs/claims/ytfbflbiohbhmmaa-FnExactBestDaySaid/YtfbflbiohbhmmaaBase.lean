/-
  Rows of numbers, dots and integers in memory; function values that answer a test; what a call hands back.
-/
import Derived.Test.YtfbflbiohbhmmaaFlw
import Derived.Test.YtfbflbiohbhmmaaMem
import Derived.Lib.Hide
namespace Go.Proofs.Ytfbflbiohbhmmaa
open Go.RowKit

/-- What a call hands back, all that was there being left alone. -/
def Ret (v : Value) (W : World) (e : Ending) (W' : World) : Prop := e = .returned v ∧ Below W.heap.size W W'
def RetInt (n : Int) (W : World) (e : Ending) (W' : World) : Prop := e = .returned (.int .i64 n) ∧ Below W.heap.size W W'
def RetBool (b : Bool) (W : World) (e : Ending) (W' : World) : Prop := e = .returned (.bool b) ∧ Below W.heap.size W W'
/-- A number, up to the choice of a NaN. -/
def RetF (x : Nat) (W : World) (e : Ending) (W' : World) : Prop := ∃ v, e = .returned (.float .f32 v) ∧ Fl.canon v = Fl.canon x ∧ Below W.heap.size W W'

/-- A number and a code. -/
def RetFC (x : Nat) (c : Int) (W : World) (e : Ending) (W' : World) : Prop := ∃ v, e = .returned (.tuple #[.float .f32 v, .int .i64 c]) ∧ Fl.canon v = Fl.canon x ∧ Below W.heap.size W W'

/-- A block's worth of numbers from an address on. -/
def HoldsF (w : World) (b o : Nat) (xs : List Nat) : Prop := ∀ i, i < xs.length → w.cell? ⟨b, o + i, none⟩ = some (.float .f32 (xs.getD i 0))
def HoldsI (w : World) (b o : Nat) (xs : List Int) : Prop := ∀ i, i < xs.length → w.cell? ⟨b, o + i, none⟩ = some (.int .i64 (xs.getD i 0))
/-- Pairs of numbers from an address on (dots, lines). -/
def HoldsD (w : World) (b o : Nat) (ds : List (Nat × Nat)) : Prop :=
  ∀ i, i < ds.length → w.cell? ⟨b, o + i * 2, none⟩ = some (.float .f32 (ds.getD i (0, 0)).1) ∧ w.cell? ⟨b, o + i * 2 + 1, none⟩ = some (.float .f32 (ds.getD i (0, 0)).2)
/-- Cells that may be written. -/
def FreeC (w : World) (b o n : Nat) : Prop := ∀ i, i < n → w.frozen? ⟨b, o + i, none⟩ = false

theorem HoldsF.below {w w' : World} {b o : Nat} {xs : List Nat} (h : HoldsF w b o xs) {B : Nat} (hb : Below B w w') (hB : b < B) : HoldsF w' b o xs :=
  fun i hi => (hb.cell (p := ⟨b, o + i, none⟩) hB).trans (h i hi)
theorem HoldsI.below {w w' : World} {b o : Nat} {xs : List Int} (h : HoldsI w b o xs) {B : Nat} (hb : Below B w w') (hB : b < B) : HoldsI w' b o xs :=
  fun i hi => (hb.cell (p := ⟨b, o + i, none⟩) hB).trans (h i hi)
theorem HoldsD.below {w w' : World} {b o : Nat} {xs : List (Nat × Nat)} (h : HoldsD w b o xs) {B : Nat} (hb : Below B w w') (hB : b < B) : HoldsD w' b o xs :=
  fun i hi => ⟨(hb.cell (p := ⟨b, o + i * 2, none⟩) hB).trans (h i hi).1, (hb.cell (p := ⟨b, o + i * 2 + 1, none⟩) hB).trans (h i hi).2⟩
theorem FreeC.below {w w' : World} {b o n : Nat} (h : FreeC w b o n) {B : Nat} (hb : Below B w w') (hB : b < B) : FreeC w' b o n :=
  fun i hi => (hb.frozen (p := ⟨b, o + i, none⟩) hB).trans (h i hi)
theorem HoldsF.congr {w w' : World} {b o : Nat} {xs : List Nat} (h : HoldsF w b o xs) (hc : ∀ k, w'.cell? ⟨b, k, none⟩ = w.cell? ⟨b, k, none⟩) : HoldsF w' b o xs := fun i hi => (hc _).trans (h i hi)
theorem HoldsD.congr {w w' : World} {b o : Nat} {xs : List (Nat × Nat)} (h : HoldsD w b o xs) (hc : ∀ k, w'.cell? ⟨b, k, none⟩ = w.cell? ⟨b, k, none⟩) : HoldsD w' b o xs :=
  fun i hi => ⟨(hc _).trans (h i hi).1, (hc _).trans (h i hi).2⟩

/-- The cells of pairs. -/
def dL (ds : List (Nat × Nat)) : List Value := ds.flatMap fun d => [.float .f32 d.1, .float .f32 d.2]
def fL (rs : List Nat) : List Value := rs.map (Value.float .f32)
def iL (rs : List Int) : List Value := rs.map (Value.int .i64)
theorem fL_length (rs : List Nat) : (fL rs).length = rs.length := by simp [fL]
theorem iL_length (rs : List Int) : (iL rs).length = rs.length := by simp [iL]
theorem dL_length (ds : List (Nat × Nat)) : (dL ds).length = ds.length * 2 := by
  induction ds with
  | nil => rfl
  | cons d ds ih => simp only [dL, List.flatMap_cons, List.length_append, List.length_cons, List.length_nil] at ih ⊢; omega
theorem fL_get (rs : List Nat) (i : Nat) (h : i < rs.length) : (fL rs)[i]? = some (.float .f32 (rs.getD i 0)) := by simp [fL, h]
theorem iL_get (rs : List Int) (i : Nat) (h : i < rs.length) : (iL rs)[i]? = some (.int .i64 (rs.getD i 0)) := by simp [iL, h]
theorem dL_cons (d : Nat × Nat) (ds : List (Nat × Nat)) : dL (d :: ds) = .float .f32 d.1 :: .float .f32 d.2 :: dL ds := rfl
theorem dL_append (a b : List (Nat × Nat)) : dL (a ++ b) = dL a ++ dL b := by simp [dL]
theorem fL_append (a b : List Nat) : fL (a ++ b) = fL a ++ fL b := by simp [fL]
theorem dL_get (ds : List (Nat × Nat)) : ∀ i, i < ds.length → (dL ds)[i * 2]? = some (.float .f32 (ds.getD i (0, 0)).1) ∧ (dL ds)[i * 2 + 1]? = some (.float .f32 (ds.getD i (0, 0)).2) := by
  induction ds with
  | nil => intro i h; cases h
  | cons d ds ih =>
    intro i h
    cases i with
    | zero => exact ⟨rfl, rfl⟩
    | succ i =>
      have := ih i (by simpa using h)
      rw [dL_cons]
      rw [show (i + 1) * 2 = i * 2 + 1 + 1 by omega, show i * 2 + 1 + 1 + 1 = (i * 2 + 1) + 1 + 1 by omega]
      simpa using this
theorem fL_one (rs : List Nat) : ∀ v ∈ fL rs, v.oneCell' = true := by
  intro v hv
  obtain ⟨x, _, rfl⟩ := List.mem_map.1 hv
  rfl
theorem iL_one (rs : List Int) : ∀ v ∈ iL rs, v.oneCell' = true := by
  intro v hv
  obtain ⟨x, _, rfl⟩ := List.mem_map.1 hv
  rfl
theorem dL_one (ds : List (Nat × Nat)) : ∀ v ∈ dL ds, v.oneCell' = true := by
  intro v hv
  obtain ⟨x, _, h⟩ := List.mem_flatMap.1 hv
  simp at h
  rcases h with rfl | rfl <;> rfl

theorem HoldsF.of_blk {w : World} {g : Nat} {rs : List Nat} {t : TypeId} {l : List Value} (h : Mem.Blk w g l t) (hl : ∀ i, i < rs.length → l[i]? = (fL rs)[i]?) : HoldsF w g 0 rs :=
  fun i hi => by rw [Nat.zero_add, h.cell, hl i hi]; exact fL_get rs i hi
theorem HoldsD.of_blk {w : World} {g : Nat} {ds : List (Nat × Nat)} {t : TypeId} {l : List Value} (h : Mem.Blk w g l t) (hl : ∀ i, i < ds.length * 2 → l[i]? = (dL ds)[i]?) : HoldsD w g 0 ds :=
  fun i hi => by
    rw [Nat.zero_add, h.cell, hl _ (by omega), h.cell, hl _ (by omega)]
    exact dL_get ds i hi

/-- A slice of pairs that lies in memory (an empty one may lie nowhere). -/
def SlD (w : World) (ad : Option Addr) (ds : List (Nat × Nat)) : Prop := ds = [] ∨ ∃ b o, ad = some ⟨b, o, none⟩ ∧ b < w.heap.size ∧ HoldsD w b o ds
def SlF (w : World) (ad : Option Addr) (xs : List Nat) : Prop := xs = [] ∨ ∃ b o, ad = some ⟨b, o, none⟩ ∧ b < w.heap.size ∧ HoldsF w b o xs
def SlI (w : World) (ad : Option Addr) (xs : List Int) : Prop := xs = [] ∨ ∃ b o, ad = some ⟨b, o, none⟩ ∧ b < w.heap.size ∧ HoldsI w b o xs
theorem SlD.below {w w' : World} {ad : Option Addr} {ds : List (Nat × Nat)} (h : SlD w ad ds) (hb : Below w.heap.size w w') : SlD w' ad ds := by
  rcases h with h | ⟨b, o, h1, h2, h3⟩
  · exact .inl h
  · exact .inr ⟨b, o, h1, Nat.lt_of_lt_of_le h2 hb.size, h3.below hb h2⟩
theorem SlF.below {w w' : World} {ad : Option Addr} {ds : List Nat} (h : SlF w ad ds) (hb : Below w.heap.size w w') : SlF w' ad ds := by
  rcases h with h | ⟨b, o, h1, h2, h3⟩
  · exact .inl h
  · exact .inr ⟨b, o, h1, Nat.lt_of_lt_of_le h2 hb.size, h3.below hb h2⟩
theorem SlI.below {w w' : World} {ad : Option Addr} {ds : List Int} (h : SlI w ad ds) (hb : Below w.heap.size w w') : SlI w' ad ds := by
  rcases h with h | ⟨b, o, h1, h2, h3⟩
  · exact .inl h
  · exact .inr ⟨b, o, h1, Nat.lt_of_lt_of_le h2 hb.size, h3.below hb h2⟩

/-- New pairs in a block of the call's own. -/
def RetD (t : TypeId) (ds : List (Nat × Nat)) (W : World) (e : Ending) (W' : World) : Prop :=
  ∃ g, e = .returned (.slice (some ⟨g, 0, none⟩) ds.length ds.length) ∧ W.heap.size ≤ g ∧ Mem.Blk W' g (dL ds) t ∧ Below W.heap.size W W'

/-- Pairs that are the same, number by number. -/
def SameP (ds es : List (Nat × Nat)) : Prop := ds.length = es.length ∧ ∀ i, i < ds.length → Fl.canon (ds.getD i (0, 0)).1 = Fl.canon (es.getD i (0, 0)).1 ∧ Fl.canon (ds.getD i (0, 0)).2 = Fl.canon (es.getD i (0, 0)).2

/-- A function value that answers a test of one number, leaving alone all that was there. -/
def TestsF (P : Program) (g : Nat) (cap : Array Value) (p : Nat → Bool) (w : World) : Prop :=
  (∀ (args : Array Value) (W : World), (callFunc g args).run P W = .ok (.enter g args) W) ∧
  ∀ (x : Nat) (W : World), Below w.heap.size w W → Calls P g (#[.float .f32 x] ++ cap) W (RetBool (p x) W)
/-- .. of one pair of numbers. -/
def TestsD (P : Program) (g : Nat) (cap : Array Value) (p : Nat × Nat → Bool) (w : World) : Prop :=
  (∀ (args : Array Value) (W : World), (callFunc g args).run P W = .ok (.enter g args) W) ∧
  ∀ (x y : Nat) (W : World), Below w.heap.size w W → Calls P g (#[.agg #[.float .f32 x, .float .f32 y]] ++ cap) W (RetBool (p (x, y)) W)

/-- The first place where a test says yes, or -1. -/
def idxBy {α : Type} (p : α → Bool) : List α → Int
  | [] => -1
  | x :: xs => if p x then 0 else if idxBy p xs < 0 then -1 else idxBy p xs + 1

theorem idxBy_hit {α : Type} (d : α) (p : α → Bool) (xs : List α) : ∀ k, k < xs.length → (∀ j, j < k → p (xs.getD j d) = false) → p (xs.getD k d) = true → idxBy p xs = k := by
  induction xs with
  | nil => intro k h; cases h
  | cons x xs ih =>
    intro k hk hj hp
    cases k with
    | zero => have : p x = true := by simpa using hp
              simp [idxBy, this]
    | succ k =>
      have h0 : p x = false := by simpa using hj 0 (by omega)
      have := ih k (by simpa using hk) (fun j hjk => by simpa using hj (j + 1) (by omega)) (by simpa using hp)
      simp [idxBy, h0, this]; omega

theorem idxBy_none {α : Type} (d : α) (p : α → Bool) (xs : List α) (h : ∀ j, j < xs.length → p (xs.getD j d) = false) : idxBy p xs = -1 := by
  induction xs with
  | nil => rfl
  | cons x xs ih =>
    have h0 : p x = false := by simpa using h 0 (by simp)
    have := ih (fun j hj => by simpa using h (j + 1) (by simpa using hj))
    simp [idxBy, h0, this]

theorem idxBy_ge {α : Type} (p : α → Bool) (xs : List α) : decide (idxBy p xs ≥ 0) = xs.any p := by
  have key : 0 ≤ idxBy p xs ↔ xs.any p = true := by
    induction xs with
    | nil => simp [idxBy]
    | cons x xs ih =>
      by_cases hpx : p x = true
      · simp [idxBy, hpx]
      · have hpx : p x = false := by simpa using hpx
        have e : idxBy p (x :: xs) = if idxBy p xs < 0 then -1 else idxBy p xs + 1 := by simp [idxBy, hpx]
        rw [e, List.any_cons, hpx, Bool.false_or, ← ih]
        split <;> omega
  cases h : xs.any p with
  | true => exact decide_eq_true (key.2 h)
  | false => exact decide_eq_false (fun h' => by rw [key.1 h'] at h; cases h)

/-- Small laws on 'Below' at a new block. -/
theorem below_a1 (w : World) (o1 : Obj) : Below w.heap.size w (w.alloc o1) := (Below.refl _ _).alloc (Nat.le_refl _) o1
theorem below_a2 (w : World) (o1 o2 : Obj) : Below w.heap.size w ((w.alloc o1).alloc o2) := (below_a1 w o1).alloc (by simp) o2
theorem below_a3 (w : World) (o1 o2 o3 : Obj) : Below w.heap.size w (((w.alloc o1).alloc o2).alloc o3) := (below_a2 w o1 o2).alloc (by simp; omega) o3
theorem below_a4 (w : World) (o1 o2 o3 o4 : Obj) : Below w.heap.size w ((((w.alloc o1).alloc o2).alloc o3).alloc o4) := (below_a3 w o1 o2 o3).alloc (by simp; omega) o4
theorem below_n {B : Nat} {a w : World} (h : Below B a w) (n : Nat) : Below B a (w.drewN n) := h.trans ⟨rfl, rfl, rfl, Nat.le_refl _, fun _ _ => rfl⟩
/-- Behind a call: what lay there before the caller's own blocks. -/
theorem below_call {W w1 w2 : World} (h : Below W.heap.size W w1) (h2 : Below w1.heap.size w1 w2) : Below W.heap.size W w2 := h.trans (h2.mono h.size)
theorem below_to {B : Nat} {W w1 w2 : World} (h : Below B W w1) (h2 : Below w1.heap.size w1 w2) (hB : B ≤ w1.heap.size) : Below B W w2 := h.trans (h2.mono hB)
end Go.Proofs.Ytfbflbiohbhmmaa
