/-
  More of memory: a struct built out of its parts; results of which the first is a struct.
-/
import Derived.Test.YtcihbcmdmgmonaaMemS
import Derived.Laws.ResultCell
namespace Go.Proofs.Ytcihbcmdmgmonaa
open Go.RowKit

namespace Mem
section
variable {P : Program} {ops : Array Oper} {rest : List Oper} {o : Oper} {a : Act} {w : World} {Q : Exit → Act → World → Prop}

theorem wpList_build (hw : Region.wanted o (yielded ops a.tmps) = true) (t : TypeId) (parts : List (Nat × Operand)) (ho : o.op = .build t parts.toArray) (cs : List Value)
    (hc : P.built t (parts.map fun p => (p.1, a.eval p.2)) = some cs.toArray)
    (h : wpList P ops Q rest (a.put o.dst (.agg cs.toArray)) w) : wpList P ops Q (o :: rest) a w :=
  wpList_step fun K hK => by
    have e : (parts.toArray.map fun (i, x) => (i, a.eval x)).toList = parts.map fun p => (p.1, a.eval p.2) := by simp
    rw [if_pos hw]
    exact wp_build t parts.toArray ho (by rw [e, hc]; rfl) (by rw [e, hc]; exact hK _ _ h)

theorem wpList_build1 (hw : Region.wanted o (yielded ops a.tmps) = true) (t : TypeId) (i : Nat) (x : Operand) (ho : o.op = .build t #[(i, x)]) (v : Value) (hx : a.eval x = v) (cs : List Value)
    (hc : P.built t [(i, v)] = some cs.toArray)
    (h : wpList P ops Q rest (a.put o.dst (.agg cs.toArray)) w) : wpList P ops Q (o :: rest) a w :=
  wpList_build hw t [(i, x)] ho cs (by rw [← hx] at hc; exact hc) h

theorem results_cellA_tmp {fn : Func} {p u : Tmp} {ty : TypeId} (h : fn.results = #[.cell p ty, .tmp u]) (tmps : Array Value) (g : Nat) (cs : List Value) (t : TypeId) (d : TypeDesc) (v : Value)
    (hp : tmps.getD p undef = .pointer (some ⟨g, 0, none⟩)) (hv : tmps.getD u undef = v) (hg : Blk w g cs t)
    (hu : P.underlying ty = some d) (hd : (match d with | .struct _ | .array _ _ => true | _ => false) = true) (hi : (P.info? ty).map (·.size) = some cs.length) :
    (results fn tmps).run P w = .ok (.tuple #[.agg cs.toArray, v]) w := by
  rw [results_cell_tmp h, hp, hv]
  have e : (loadVar ty ⟨g, 0, none⟩).run P w = .ok (.agg cs.toArray) w := run_loadA ty g 0 cs d hu hd hi (fun j v hj => by rw [Nat.zero_add, hg.cell]; exact hj)
  simp only [asAddr, Sem.run_pure, Result.andThen_ok, e]
end
end Mem

theorem list16 {l : List Nat} (h : l.length = 16) : ∃ a0 a1 a2 a3 a4 a5 a6 a7 a8 a9 b0 b1 b2 b3 b4 b5, l = [a0, a1, a2, a3, a4, a5, a6, a7, a8, a9, b0, b1, b2, b3, b4, b5] := by
  match l, h with
  | [a0, a1, a2, a3, a4, a5, a6, a7, a8, a9, b0, b1, b2, b3, b4, b5], _ => exact ⟨a0, a1, a2, a3, a4, a5, a6, a7, a8, a9, b0, b1, b2, b3, b4, b5, rfl⟩
end Go.Proofs.Ytcihbcmdmgmonaa
