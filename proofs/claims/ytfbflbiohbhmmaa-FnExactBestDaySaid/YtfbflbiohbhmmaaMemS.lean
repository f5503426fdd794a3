/-
  More of memory: an operation that yields a value, guarded or not; a struct loaded under a guard; an array sliced.
-/
import Derived.Test.YtfbflbiohbhmmaaMem
namespace Go.Proofs.Ytfbflbiohbhmmaa
open Go.RowKit

namespace Mem
section
variable {P : Program} {ops : Array Oper} {rest : List Oper} {o : Oper} {a : Act} {w : World} {Q : Exit → Act → World → Prop}

theorem wpList_val (hw : Region.wanted o (yielded ops a.tmps) = true) (v : Value) (e : (execOp a.eval o).run P w = .ok (.value v) w)
    (h : wpList P ops Q rest (a.put o.dst v) w) : wpList P ops Q (o :: rest) a w :=
  wpList_step fun K hK => by
    rw [if_pos hw]
    unfold Oper.wp
    rw [e]
    exact hK _ _ h

theorem run_opLoadA (ty : TypeId) (x : Operand) (ho : o.op = .load ty x) (g off : Nat) (hx : a.eval x = .pointer (some ⟨g, off, none⟩)) (cs : List Value) (d : TypeDesc)
    (hu : P.underlying ty = some d) (hd : (match d with | .struct _ | .array _ _ => true | _ => false) = true) (hi : (P.info? ty).map (·.size) = some cs.length)
    (hc : ∀ j v, cs[j]? = some v → w.cell? ⟨g, off + j, none⟩ = some v) : (execOp a.eval o).run P w = .ok (.value (.agg cs.toArray)) w := by
  unfold execOp
  simp only [ho, hx, Instr.loadAt, Instr.sureAddr, Sem.run_bind, Sem.run_pure, Result.andThen_ok, Mem.run_loadA ty g off cs d hu hd hi hc]

/-- A struct or an array is loaded as a whole, under a guard or not. -/
theorem wpList_loadG (hw : Region.wanted o (yielded ops a.tmps) = true) (ty : TypeId) (x : Operand) (ho : o.op = .load ty x) (g off : Nat) (hx : a.eval x = .pointer (some ⟨g, off, none⟩)) (cs : List Value) (d : TypeDesc)
    (hu : P.underlying ty = some d) (hd : (match d with | .struct _ | .array _ _ => true | _ => false) = true) (hi : (P.info? ty).map (·.size) = some cs.length)
    (hc : ∀ j v, cs[j]? = some v → w.cell? ⟨g, off + j, none⟩ = some v)
    (h : wpList P ops Q rest (a.put o.dst (.agg cs.toArray)) w) : wpList P ops Q (o :: rest) a w :=
  wpList_val hw _ (run_opLoadA ty x ho g off hx cs d hu hd hi hc) h

theorem arr_of {ty e : TypeId} {N : Nat} (hu : P.underlying ty = some (.array N e)) : P.arrayLen ty = N ∧ P.elem ty = e := by
  simp [Program.arrayLen, Program.elem, hu]

theorem addr_add (g off n : Nat) : (⟨g, off, none⟩ : Addr).add n = ⟨g, off + n, none⟩ := by unfold Addr.add; split <;> simp_all

theorem run_size1 {e : TypeId} (hi : (P.info? e).map (·.size) = some 1) : (sizeOf e).run P w = .ok 1 w := by
  cases hq : P.info? e with
  | none => simp [hq] at hi
  | some i => simp [hq] at hi; simp [sizeOf, typeInfo, hq, hi, Sem.run_bind]

theorem run_opSliceH (ty : TypeId) (x y : Operand) (ho : o.op = .slice ty x none (some y) none) (g off k N : Nat) (kh : IntKind) (e : TypeId) (hx : a.eval x = .pointer (some ⟨g, off, none⟩)) (hy : a.eval y = .int kh k)
    (hu : P.underlying ty = some (.array N e)) (hi : (P.info? e).map (·.size) = some 1) (hk : k ≤ N) : (execOp a.eval o).run P w = .ok (.value (.slice (some ⟨g, off, none⟩) k N)) w := by
  obtain ⟨h1, h2⟩ := arr_of hu
  have ht : P.underlying ty = some (.array (P.arrayLen ty) (P.elem ty)) := by rw [h1, h2]; exact hu
  unfold execOp
  simp only [ho, Option.map_none, Option.map_some, hx, hy, Sem.run_bind, run_sliceAt_array_h w ty ⟨g, off, none⟩ ht kh k (by omega) (by rw [h1]; omega), h1, h2, run_size1 hi, Result.andThen_ok, slicedAt, addr_add]
  simp

theorem run_opSliceL (ty : TypeId) (x y : Operand) (ho : o.op = .slice ty x (some y) none none) (g off k N : Nat) (kh : IntKind) (e : TypeId) (hx : a.eval x = .pointer (some ⟨g, off, none⟩)) (hy : a.eval y = .int kh k)
    (hu : P.underlying ty = some (.array N e)) (hi : (P.info? e).map (·.size) = some 1) (hk : k ≤ N) : (execOp a.eval o).run P w = .ok (.value (.slice (some ⟨g, if N = k then off else off + k, none⟩) (N - k) (N - k))) w := by
  obtain ⟨h1, h2⟩ := arr_of hu
  have ht : P.underlying ty = some (.array (P.arrayLen ty) (P.elem ty)) := by rw [h1, h2]; exact hu
  unfold execOp
  simp only [ho, Option.map_none, Option.map_some, hx, hy, Sem.run_bind, run_sliceAt_array_l w ty ⟨g, off, none⟩ ht kh k (by omega) (by rw [h1]; omega), h1, h2, run_size1 hi, Result.andThen_ok, slicedAt, addr_add]
  simp
  by_cases h : N = k <;> simp [h]

/-- The first numbers of an array. -/
theorem wpList_sliceH (hw : Region.wanted o (yielded ops a.tmps) = true) (ty : TypeId) (x y : Operand) (ho : o.op = .slice ty x none (some y) none) (g off k N : Nat) (kh : IntKind) (e : TypeId) (hx : a.eval x = .pointer (some ⟨g, off, none⟩)) (hy : a.eval y = .int kh k)
    (hu : P.underlying ty = some (.array N e)) (hi : (P.info? e).map (·.size) = some 1) (hk : k ≤ N) (h : wpList P ops Q rest (a.put o.dst (.slice (some ⟨g, off, none⟩) k N)) w) : wpList P ops Q (o :: rest) a w :=
  wpList_val hw _ (run_opSliceH ty x y ho g off k N kh e hx hy hu hi hk) h
/-- Those behind them. -/
theorem wpList_sliceL (hw : Region.wanted o (yielded ops a.tmps) = true) (ty : TypeId) (x y : Operand) (ho : o.op = .slice ty x (some y) none none) (g off k N : Nat) (kh : IntKind) (e : TypeId) (hx : a.eval x = .pointer (some ⟨g, off, none⟩)) (hy : a.eval y = .int kh k)
    (hu : P.underlying ty = some (.array N e)) (hi : (P.info? e).map (·.size) = some 1) (hk : k ≤ N) (h : wpList P ops Q rest (a.put o.dst (.slice (some ⟨g, if N = k then off else off + k, none⟩) (N - k) (N - k))) w) : wpList P ops Q (o :: rest) a w :=
  wpList_val hw _ (run_opSliceL ty x y ho g off k N kh e hx hy hu hi hk) h
theorem wpList_sliceL' (off' nn : Nat) (hw : Region.wanted o (yielded ops a.tmps) = true) (ty : TypeId) (x y : Operand) (ho : o.op = .slice ty x (some y) none none) (g off k N : Nat) (kh : IntKind) (e : TypeId) (hx : a.eval x = .pointer (some ⟨g, off, none⟩)) (hy : a.eval y = .int kh k)
    (hu : P.underlying ty = some (.array N e)) (hi : (P.info? e).map (·.size) = some 1) (hk : k ≤ N) (he : off' = if N = k then off else off + k) (hn : nn = N - k) (h : wpList P ops Q rest (a.put o.dst (.slice (some ⟨g, off', none⟩) nn nn)) w) : wpList P ops Q (o :: rest) a w := by
  subst he hn
  exact wpList_sliceL hw ty x y ho g off k N kh e hx hy hu hi hk h
end
end Mem
end Go.Proofs.Ytfbflbiohbhmmaa
