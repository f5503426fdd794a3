/-
  A result of five values.
-/
import Derived.Test.YtgeeggfedopeeaaBase
import Derived.OwnWalk
namespace Go.Proofs.Ytgeeggfedopeeaa
open Go.RowKit
theorem results_tmp5 {fn : Func} {a b c d e : Tmp} (h : fn.results = #[.tmp a, .tmp b, .tmp c, .tmp d, .tmp e]) (tmps : Array Value) (P : Program) (w : World) :
    (results fn tmps).run P w = .ok (.tuple #[tmps.getD a undef, tmps.getD b undef, tmps.getD c undef, tmps.getD d undef, tmps.getD e undef]) w := by
  simp [results, h]
end Go.Proofs.Ytgeeggfedopeeaa
