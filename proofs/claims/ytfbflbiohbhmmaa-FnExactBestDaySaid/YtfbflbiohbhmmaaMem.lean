/-
  Blocks of a call's own: structs and arrays loaded and stored as a whole, a cell stored, with what becomes of the block said of lists of cells.
-/
import Derived.WalkKit
import Derived.WalkSpells
import Derived.Deep.Draws
namespace Go.Proofs.Ytfbflbiohbhmmaa
open Go.RowKit

namespace Mem
/-- A block that holds these cells, none of them frozen. -/
def Blk (w : World) (g : Nat) (l : List Value) (t : TypeId) : Prop := w.heap[g]? = some (.cells l.toArray t (0, 0))

theorem Blk.lt {w : World} {g : Nat} {l : List Value} {t : TypeId} (h : Blk w g l t) : g < w.heap.size := (Array.getElem?_eq_some_iff.1 h).1
theorem Blk.cell {w : World} {g : Nat} {l : List Value} {t : TypeId} (h : Blk w g l t) (i : Nat) : w.cell? ⟨g, i, none⟩ = l[i]? := by
  rw [cell_of_row w g i _ t (0, 0) h]; simp
theorem Blk.free {w : World} {g : Nat} {l : List Value} {t : TypeId} (h : Blk w g l t) (i : Nat) : w.frozen? ⟨g, i, none⟩ = false := frozen_of_row w g i _ t h
theorem Blk.below {w w' : World} {B g : Nat} {l : List Value} {t : TypeId} (h : Blk w g l t) (hb : Below B w w') (hg : g < B) : Blk w' g l t := (hb.block g hg).trans h
theorem Blk.drewN {w : World} {g : Nat} {l : List Value} {t : TypeId} (h : Blk w g l t) (n : Nat) : Blk (w.drewN n) g l t := h
theorem Blk.alloc {w : World} {g : Nat} {l : List Value} {t : TypeId} (h : Blk w g l t) (o : Obj) : Blk (w.alloc o) g l t := by
  exact (Below.heap_alloc w o g h.lt).trans h
theorem Blk.new (w : World) (l : List Value) (t : TypeId) : Blk (w.alloc (.cells l.toArray t)) w.heap.size l t := heap_alloc_new w _

theorem Blk.new1 (w : World) (o : Obj) (l : List Value) (t : TypeId) : Blk ((w.alloc o).alloc (.cells l.toArray t)) (w.heap.size + 1) l t := by
  have := Blk.new (w.alloc o) l t
  simpa using this
theorem Blk.new2 (w : World) (o o' : Obj) (l : List Value) (t : TypeId) : Blk (((w.alloc o).alloc o').alloc (.cells l.toArray t)) (w.heap.size + 1 + 1) l t := by
  have := Blk.new ((w.alloc o).alloc o') l t
  simpa using this
theorem Blk.new3 (w : World) (o o' o'' : Obj) (l : List Value) (t : TypeId) : Blk ((((w.alloc o).alloc o').alloc o'').alloc (.cells l.toArray t)) (w.heap.size + 1 + 1 + 1) l t := by
  have := Blk.new (((w.alloc o).alloc o').alloc o'') l t
  simpa using this

/-- One block has been written, nothing else has turned. -/
structure Wrote (w w' : World) (g : Nat) (l : List Value) (t : TypeId) : Prop where
  os : w'.os = w.os
  tape : w'.tape = w.tape
  output : w'.output = w.output
  size : w'.heap.size = w.heap.size
  blk : Blk w' g l t
  other : ∀ k, k ≠ g → w'.heap[k]? = w.heap[k]?

theorem Wrote.below {w w' : World} {g B : Nat} {l : List Value} {t : TypeId} (h : Wrote w w' g l t) (hB : B ≤ g) : Below B w w' :=
  ⟨h.os, h.tape, h.output, by rw [h.size]; exact Nat.le_refl _, fun k hk => h.other k (by omega)⟩
theorem Wrote.keep {w w' : World} {g k : Nat} {l l' : List Value} {t t' : TypeId} (h : Wrote w w' g l t) (hk : k ≠ g) (hb : Blk w k l' t') : Blk w' k l' t' := (h.other k hk).trans hb
theorem Wrote.cell {w w' : World} {g : Nat} {l : List Value} {t : TypeId} (h : Wrote w w' g l t) {a : Addr} (ha : a.block ≠ g) : w'.cell? a = w.cell? a := World.cell?_of_block (w := w) (h.other a.block ha)

theorem wrote_setRow {w : World} {g : Nat} {l l' : List Value} {t : TypeId} (h : Blk w g l t) : Wrote w (w.setRow g l'.toArray) g l' t :=
  ⟨rfl, rfl, rfl, by simp [World.setRow], setRow_heap w g _ _ t _ h, fun k hk => setRow_other w g k _ hk⟩

theorem blk_of_owns {w : World} {base g n size : Nat} {e : TypeId} {xs : List Value} (h : w.ownsRow base e size (.slice (some ⟨g, 0, none⟩) n n) n xs) : Blk w g xs e ∧ base ≤ g ∧ xs.length = n * size := by
  obtain ⟨hl, h⟩ := h
  rcases h with ⟨h, _⟩ | ⟨g', cap, cur, hv, hb, hg, hn, _, hs, ht⟩
  · cases h
  · simp only [Value.slice.injEq, Option.some.injEq, Addr.mk.injEq, and_true, true_and] at hv
    obtain ⟨rfl, rfl⟩ := hv
    refine ⟨?_, hb, hl⟩
    unfold Blk
    rw [List.take_of_length_le (by simp; omega)] at ht
    rw [hg, ← ht]

section
variable {P : Program} {ops : Array Oper} {rest : List Oper} {o : Oper} {a : Act} {w : World} {Q : Exit → Act → World → Prop}

theorem run_loadA (ty : TypeId) (g off : Nat) (cs : List Value) (d : TypeDesc) (hu : P.underlying ty = some d) (hd : (match d with | .struct _ | .array _ _ => true | _ => false) = true)
    (hi : (P.info? ty).map (·.size) = some cs.length) (hc : ∀ j v, cs[j]? = some v → w.cell? ⟨g, off + j, none⟩ = some v) :
    (loadVar ty ⟨g, off, none⟩).run P w = .ok (.agg cs.toArray) w := by
  have hl : (loadCells ⟨g, off, none⟩ cs.length).run P w = .ok cs.toArray w :=
    run_loadCells_list (P := P) w ⟨g, off, none⟩ cs (fun j v hv => by
      have hadd : (⟨g, off, none⟩ : Addr).add j = ⟨g, off + j, none⟩ := by unfold Addr.add; split <;> simp_all
      rw [hadd]; exact hc j v hv)
  cases hq : P.info? ty with
  | none => simp [hq] at hi
  | some i =>
    have hs : i.size = cs.length := by simpa [hq] using hi
    have hagg : (isAgg ty).run P w = .ok true w := by
      unfold isAgg
      rw [Sem.run_bind, run_underlying hu w]
      cases d <;> simp_all
    simp [loadVar, Sem.run_bind, hagg, sizeOf, typeInfo, hq, hs, hl]

/-- A struct or an array is loaded as a whole. -/
theorem wpList_loadA (hgd : o.guard = none) (ty : TypeId) (x : Operand) (ho : o.op = .load ty x) (g off : Nat) (hx : a.eval x = .pointer (some ⟨g, off, none⟩)) (cs : List Value) (d : TypeDesc)
    (hu : P.underlying ty = some d) (hd : (match d with | .struct _ | .array _ _ => true | _ => false) = true) (hi : (P.info? ty).map (·.size) = some cs.length)
    (hc : ∀ j v, cs[j]? = some v → w.cell? ⟨g, off + j, none⟩ = some v)
    (h : wpList P ops Q rest (a.put o.dst (.agg cs.toArray)) w) : wpList P ops Q (o :: rest) a w :=
  wpList_plain hgd fun _ hK => by
    unfold Oper.wp execOp
    simp only [ho, hx, Instr.loadAt, Instr.sureAddr, Sem.run_bind, Sem.run_pure, Result.andThen_ok, run_loadA ty g off cs d hu hd hi hc]
    exact hK _ _ h

theorem run_storeA (ty : TypeId) (g off : Nat) (cs cur : List Value) (t : TypeId) (hg : Blk w g cur t) (hi : (P.info? ty).map (·.size) = some cs.length) (hfit : off + cs.length ≤ cur.length)
    (h1 : ∀ v ∈ cs, v.oneCell' = true) : (storeVar ty ⟨g, off, none⟩ (.agg cs.toArray)).run P w = .ok () (w.setRow g (cur.take off ++ cs ++ cur.drop (off + cs.length)).toArray) := by
  have hst := run_storeCells_at P g off t cs 0 cur.toArray w hg (by simpa using hfit) h1
  cases hq : P.info? ty with
  | none => simp [hq] at hi
  | some i =>
    have hs : i.size = cs.length := by simpa [hq] using hi
    simp only [Nat.add_zero] at hst
    simp [storeVar, sizeOf, typeInfo, hq, Value.cells, hs, hst]

/-- A struct or an array is stored as a whole into a block of the call's own. -/
theorem wpList_storeA (hgd : o.guard = none) (ty : TypeId) (x y : Operand) (ho : o.op = .store ty x y) (g off : Nat) (hx : a.eval x = .pointer (some ⟨g, off, none⟩)) (cs cur : List Value)
    (hy : a.eval y = .agg cs.toArray) (t : TypeId) (hg : Blk w g cur t) (hi : (P.info? ty).map (·.size) = some cs.length) (hfit : off + cs.length ≤ cur.length) (h1 : ∀ v ∈ cs, v.oneCell' = true)
    (h : ∀ w', Wrote w w' g (cur.take off ++ cs ++ cur.drop (off + cs.length)) t → wpList P ops Q rest (a.put o.dst undef) w') : wpList P ops Q (o :: rest) a w :=
  wpList_plain hgd fun _ hK => by
    unfold Oper.wp execOp
    simp only [ho, hx, hy, Instr.storeAt, Instr.sureAddr, Sem.run_bind, Sem.run_pure, Result.andThen_ok, run_storeA ty g off cs cur t hg hi hfit h1]
    exact hK _ _ (h _ (wrote_setRow hg))

theorem run_store1 (ty : TypeId) (g off : Nat) (v : Value) (cur : List Value) (t : TypeId) (hg : Blk w g cur t) (hi : (P.info? ty).map (·.size) = some 1) (hfit : off < cur.length)
    (h1 : v.oneCell' = true) : (storeVar ty ⟨g, off, none⟩ v).run P w = .ok () (w.setRow g (cur.set off v).toArray) := by
  have hv : v.cells = #[v] := by cases v <;> first | rfl | cases h1
  have hst := run_storeCells_at P g off t [v] 0 cur.toArray w hg (by simp; omega) (by simpa using h1)
  cases hq : P.info? ty with
  | none => simp [hq] at hi
  | some i =>
    have hs : i.size = 1 := by simpa [hq] using hi
    simp only [Nat.add_zero, List.length_singleton] at hst
    have e : cur.take off ++ [v] ++ cur.drop (off + 1) = cur.set off v := by
      rw [List.set_eq_take_append_cons_drop, if_pos hfit]; simp
    simp only [e] at hst
    simp [storeVar, sizeOf, typeInfo, hq, hv, hs, hst]

/-- A cell is stored into a block of the call's own. -/
theorem wpList_store1 (hgd : o.guard = none) (ty : TypeId) (x y : Operand) (ho : o.op = .store ty x y) (g off : Nat) (hx : a.eval x = .pointer (some ⟨g, off, none⟩)) (v : Value) (cur : List Value)
    (hy : a.eval y = v) (t : TypeId) (hg : Blk w g cur t) (hi : (P.info? ty).map (·.size) = some 1) (hfit : off < cur.length) (h1 : v.oneCell' = true)
    (h : ∀ w', Wrote w w' g (cur.set off v) t → wpList P ops Q rest (a.put o.dst undef) w') : wpList P ops Q (o :: rest) a w :=
  wpList_plain hgd fun _ hK => by
    unfold Oper.wp execOp
    simp only [ho, hx, hy, Instr.storeAt, Instr.sureAddr, Sem.run_bind, Sem.run_pure, Result.andThen_ok, run_store1 ty g off v cur t hg hi hfit h1]
    exact hK _ _ (h _ (wrote_setRow hg))

/-- A struct result that lies in a block. -/
theorem results_cellA {fn : Func} {p : Tmp} {ty : TypeId} (h : fn.results = #[.cell p ty]) (tmps : Array Value) (g : Nat) (cs : List Value) (t : TypeId) (d : TypeDesc)
    (hp : tmps.getD p undef = .pointer (some ⟨g, 0, none⟩)) (hg : Blk w g cs t)
    (hu : P.underlying ty = some d) (hd : (match d with | .struct _ | .array _ _ => true | _ => false) = true) (hi : (P.info? ty).map (·.size) = some cs.length) :
    (results fn tmps).run P w = .ok (.agg cs.toArray) w :=
  results_cell_row h tmps w g t cs.toArray (0, 0) d hp hg hu hd (by simpa using hi)
end
end Mem
end Go.Proofs.Ytfbflbiohbhmmaa
