/-
  The numbers of a crate in memory.
-/
import Derived.Test.YtfbflbiohbhmmaaPsn
import Derived.Test.YtfbflbiohbhmmaaRegT
import Derived.Test.YtfbflbiohbhmmaaPcrate
namespace Go.Proofs.Ytfbflbiohbhmmaa
open Go.RowKit
theorem HoldsF.of_crL {w : World} {g : Nat} {c : Int} {rs : List Nat} {t : TypeId} (h : Mem.Blk w g (crL c rs) t) : HoldsF w g 1 rs :=
  fun i hi => (h.cell (1 + i)).trans (crL_succ c rs i hi)
end Go.Proofs.Ytfbflbiohbhmmaa
