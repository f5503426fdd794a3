/-
  Short names for the steps of a region whose order is drawn.
-/
import Derived.Test.YtfbflbiohbhmmaaMem
import Derived.Test.YtfbflbiohbhmmaaBase
import Derived.Test.YtfbflbiohbhmmaaReg
namespace Go.Proofs.Ytfbflbiohbhmmaa
open Go.RowKit

namespace Rg
section
variable {P : Program} {ops : Array Oper} {C : World → Prop} {S : FuncId → Array Value → Value → Prop}
theorem run_opLoadA {o : Oper} {a : Act} {w : World} (ty : TypeId) (x : Operand) (ho : o.op = .load ty x) (g off : Nat) (hx : a.eval x = .pointer (some ⟨g, off, none⟩)) (cs : List Value) (d : TypeDesc)
    (hu : P.underlying ty = some d) (hd : (match d with | .struct _ | .array _ _ => true | _ => false) = true) (hi : (P.info? ty).map (·.size) = some cs.length)
    (hc : ∀ j v, cs[j]? = some v → w.cell? ⟨g, off + j, none⟩ = some v) : (execOp a.eval o).run P w = .ok (.value (.agg cs.toArray)) w := by
  unfold execOp
  simp only [ho, hx, Instr.loadAt, Instr.sureAddr, Sem.run_bind, Sem.run_pure, Result.andThen_ok, Mem.run_loadA ty g off cs d hu hd hi hc]

/-- A struct or an array is loaded as a whole, in a region whose order is drawn. -/
theorem walk_loadA {Q : Act → Prop} {a : Act} {o : Oper} {rest : List Oper} (hgd : o.guard = none) (ty : TypeId) (x : Operand) (ho : o.op = .load ty x) (g off : Nat) (hx : a.eval x = .pointer (some ⟨g, off, none⟩)) (cs : List Value) (d : TypeDesc)
    (hu : P.underlying ty = some d) (hd : (match d with | .struct _ | .array _ _ => true | _ => false) = true) (hi : (P.info? ty).map (·.size) = some cs.length)
    (hc : ∀ w, C w → ∀ j v, cs[j]? = some v → w.cell? ⟨g, off + j, none⟩ = some v) (h : walk P ops C S Q rest (a.put o.dst (.agg cs.toArray))) : walk P ops C S Q (o :: rest) a :=
  walk_plain hgd fun K hK w hw => by
    have e := run_opLoadA ty x ho g off hx cs d hu hd hi (hc w hw)
    unfold Oper.wp
    rw [e]
    exact ⟨trivial, hw, hK _ h⟩
end
end Rg

end Go.Proofs.Ytfbflbiohbhmmaa
