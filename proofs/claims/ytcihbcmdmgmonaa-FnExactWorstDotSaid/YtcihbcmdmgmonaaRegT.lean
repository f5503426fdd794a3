/-
  Short names for the steps of a region whose order is drawn.
-/
import Derived.Test.YtcihbcmdmgmonaaMem
import Derived.Test.YtcihbcmdmgmonaaBase
import Derived.Test.YtcihbcmdmgmonaaReg
namespace Go.Proofs.Ytcihbcmdmgmonaa
open Go.RowKit

namespace Rg
section
variable {P : Program} {ops : Array Oper} {C : World → Prop} {S : FuncId → Array Value → Value → Prop}
theorem run_opLoadA {o : Oper} {a : Act} {w : World} (ty : TypeId) (x : Operand) (ho : o.op = .load ty x) (g off : Nat) (hx : a.eval x = .pointer (some ⟨g, off, none⟩)) (cs : List Value) (d : TypeDesc)
    (hu : P.underlying ty = some d) (hd : (match d with | .struct _ | .array _ _ => true | _ => false) = true) (hi : (P.info? ty).map (·.size) = some cs.length)
    (hc : ∀ j v, cs[j]? = some v → w.cell? ⟨g, off + j, none⟩ = some v) : (execOp a.eval o).run P w = .ok (.value (.agg cs.toArray)) w := by
  unfold execOp
  simp only [ho, hx, Instr.loadAt, Instr.sureAddr, Sem.run_bind, Sem.run_pure, Result.andThen_ok, Mem.run_loadA ty g off cs d hu hd hi hc]

/-- A struct or an array is loaded as a whole, in a region whose order is drawn. -/
theorem walk_loadA {Q : Act → Prop} {a : Act} {o : Oper} {rest : List Oper} (hgd : o.guard = none) (ty : TypeId) (x : Operand) (ho : o.op = .load ty x) (g off : Nat) (hx : a.eval x = .pointer (some ⟨g, off, none⟩)) (cs : List Value) (d : TypeDesc)
    (hu : P.underlying ty = some d) (hd : (match d with | .struct _ | .array _ _ => true | _ => false) = true) (hi : (P.info? ty).map (·.size) = some cs.length)
    (hc : ∀ w, C w → ∀ j v, cs[j]? = some v → w.cell? ⟨g, off + j, none⟩ = some v) (h : walk P ops C S Q rest (a.put o.dst (.agg cs.toArray))) : walk P ops C S Q (o :: rest) a :=
  walk_plain hgd fun K hK w hw => by
    have e := run_opLoadA ty x ho g off hx cs d hu hd hi (hc w hw)
    unfold Oper.wp
    rw [e]
    exact ⟨trivial, hw, hK _ h⟩
end
end Rg

/-- Enters the region: n operations ahead of the tail, the world that it begins in, what its calls yield. -/
macro "rg_open " n:num wr:ident s:term : tactic => `(tactic| (
  refine Rg.region_tail $n (fun w' => Below ($wr).heap.size $wr w') $s (by kernel_rfl) (by kernel_rfl) (by exact (Below.refl ($wr).heap.size $wr).drew) ?_
  simp only [List.take_succ_cons, List.take_zero, List.drop_succ_cons, List.drop_zero]))

macro "rg_plain " wr:ident : tactic => `(tactic| (
  (with_reducible refine Rg.walk_plain rfl (fun K hK w1 hw1 => ?_))
  have hcl : ∀ bb oo, bb < ($wr).heap.size → w1.cell? ⟨bb, oo, none⟩ = ($wr).cell? ⟨bb, oo, none⟩ := fun bb oo h => hw1.cell (p := ⟨bb, oo, none⟩) h
  go_simp
  refine hK _ ?_
  clear hK hw1 hcl K w1))

macro "rg_on " wr:ident : tactic => `(tactic| (
  (with_reducible refine Rg.walk_on ?_ (fun K hK w1 hw1 => ?_))
  next => (go_simp; done)
  have hcl : ∀ bb oo, bb < ($wr).heap.size → w1.cell? ⟨bb, oo, none⟩ = ($wr).cell? ⟨bb, oo, none⟩ := fun bb oo h => hw1.cell (p := ⟨bb, oo, none⟩) h
  go_simp
  refine hK _ ?_
  clear hK hw1 hcl K w1))

macro "rg_skip" : tactic => `(tactic| (
  (with_reducible refine Rg.walk_step (fun K hK => ?_))
  go_simp
  refine hK _ ?_
  clear hK K))

macro "rg_go " wr:ident : tactic => `(tactic| repeat (first | rg_plain $wr | rg_on $wr | rg_skip))
end Go.Proofs.Ytcihbcmdmgmonaa
