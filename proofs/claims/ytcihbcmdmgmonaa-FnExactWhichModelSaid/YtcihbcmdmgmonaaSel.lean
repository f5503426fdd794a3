/-
  One of two, by a truth value: a name that no walk parts on.
-/
import Derived.Test.YtcihbcmdmgmonaaBase
namespace Go.Proofs.Ytcihbcmdmgmonaa
def sel {α : Type} (v : Bool) (x y : α) : α := if v then x else y
theorem sel_t {α : Type} (x y : α) : sel true x y = x := rfl
theorem sel_f {α : Type} (x y : α) : sel false x y = y := rfl
end Go.Proofs.Ytcihbcmdmgmonaa
