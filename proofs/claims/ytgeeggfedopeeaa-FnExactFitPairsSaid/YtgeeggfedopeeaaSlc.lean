/-
  A slice is sliced, in a region whose order is open.
-/
import Derived.Test.YtgeeggfedopeeaaRegT
import Derived.Test.YtgeeggfedopeeaaMemS
namespace Go.Proofs.Ytgeeggfedopeeaa
open Go.RowKit

namespace Mem
section
variable {P : Program} {o : Oper} {a : Act} {w : World}
theorem run_sizeN {e : TypeId} {s : Nat} (hi : (P.info? e).map (·.size) = some s) : (sizeOf e).run P w = .ok s w := by
  cases hq : P.info? e with
  | none => simp [hq] at hi
  | some i => simp [hq] at hi; simp [sizeOf, typeInfo, hq, hi, Sem.run_bind]
theorem elem_of {ty e : TypeId} (hu : P.underlying ty = some (.slice e)) : P.elem ty = e := by simp [Program.elem, hu]
/-- x[:k] -/
theorem run_opSlH (ty : TypeId) (x y : Operand) (ho : o.op = .slice ty x none (some y) none) (g off k n cap s : Nat) (kh : IntKind) (e : TypeId) (hx : a.eval x = .slice (some ⟨g, off, none⟩) n cap) (hy : a.eval y = .int kh k)
    (hu : P.underlying ty = some (.slice e)) (hi : (P.info? e).map (·.size) = some s) (hk : k ≤ cap) : (execOp a.eval o).run P w = .ok (.value (.slice (some ⟨g, off, none⟩) k cap)) w := by
  have he := elem_of hu
  have ht : P.underlying ty = some (.slice (P.elem ty)) := by rw [he]; exact hu
  unfold execOp
  simp only [ho, Option.map_none, Option.map_some, hx, hy, Sem.run_bind, run_sliceAt_slice w ty _ _ _ _ ht, run_slice_h w ty (some ⟨g, off, none⟩) n cap ht kh k (by omega) (by omega), he, run_sizeN hi, Result.andThen_ok, sliced]
  simp [addr_add]
/-- x[k:] -/
theorem run_opSlL (ty : TypeId) (x y : Operand) (ho : o.op = .slice ty x (some y) none none) (g off k n cap s : Nat) (kh : IntKind) (e : TypeId) (hx : a.eval x = .slice (some ⟨g, off, none⟩) n cap) (hy : a.eval y = .int kh k)
    (hu : P.underlying ty = some (.slice e)) (hi : (P.info? e).map (·.size) = some s) (hk : k ≤ n) (hc : k < cap) : (execOp a.eval o).run P w = .ok (.value (.slice (some ⟨g, off + k * s, none⟩) (n - k) (cap - k))) w := by
  have he := elem_of hu
  have ht : P.underlying ty = some (.slice (P.elem ty)) := by rw [he]; exact hu
  unfold execOp
  simp only [ho, Option.map_none, Option.map_some, hx, hy, Sem.run_bind, run_sliceAt_slice w ty _ _ _ _ ht, run_slice_l w ty (some ⟨g, off, none⟩) n cap ht kh k (by omega) (by omega), he, run_sizeN hi, Result.andThen_ok, sliced]
  have hne : ¬ cap = k := by omega
  simp [addr_add, hne]
end
end Mem

namespace Rg
/-- An operation that yields this value. -/
theorem walk_val {P : Program} {ops : Array Oper} {C : World → Prop} {S : FuncId → Array Value → Value → Prop} {Q : Act → Prop} {a : Act} {o : Oper} {rest : List Oper} (hgd : o.guard = none) (v : Value) (h : ∀ w, C w → (execOp a.eval o).run P w = .ok (.value v) w)
    (hk : walk P ops C S Q rest (a.put o.dst v)) : walk P ops C S Q (o :: rest) a :=
  walk_plain hgd fun K hK w hw => by
    unfold Oper.wp
    rw [h w hw]
    exact ⟨trivial, hw, hK _ hk⟩
end Rg
end Go.Proofs.Ytgeeggfedopeeaa
