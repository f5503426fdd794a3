/-
  No cell of these rows narrows 'for every input' (looked for: loops, veiled, ifaces, maps, wideKeys, modest, calm, conditions, laid).
  DERIVED. THE GIVEN ROWS OF THIS SEAT. 10 by the template 'for every input the law returns true; each argument reads behind the call as it read before'; 0 by the template 'total and deterministic' (their statements: YtcihbcmdmgmonaaTotals.lean).
  GIVEN WITH THE SEED: the statements are not yours to turn. If you find one false, say at which input.
  Laid BY PROGRAM, IN A SANDBOX (cutbox-rows.mjs): the forced cells as the released guide's own fill.sh prints them over the translation 3534df427a2d408a… (all of the seat's roots in one cut). By AI agents, Wed Nov 11 2026. No macro, syntax, notation, axiom, sorry.
-/
import Derived.Test.YtcihbcmdmgmonaaChecked
import GoSem.Claim
import GoSem.ClaimJoined
import GoSem.ClaimMapViews
import Derived.JoinedTies
import Derived.KernelRfl
namespace Go.Proofs.Ytcihbcmdmgmonaa
/- THE CELL 'sum', in the pinned program and in every row, IS THE sha256 OF THE DUMP (.gsa) THAT YtcihbcmdmgmonaaProg.lean LOADS. Nothing in Lean hashes anything: it is a label: what it is worth is what the hold of that sum in a sandbox is worth. -/
noncomputable def Try.pinned : Pinned := { name := "ytcihbcmdmgmonaa", sum := "3534df427a2d408a281fa06b86f5cb7b1626b12799d4568e691fb44d3577f233", checked := Try.checked }
namespace Rows
def none {H : Type} : Left H := { results := [], args := [] }

/-- 'laws.FnExactSquareSum': WHATEVER THE INPUT: true; the input reads as it did. -/
def fnExactSquareSumSpec : ChangeSpec := { name := "fnExactSquareSum", fn := fun _ => fun
  | [d1, d2] => { results := [.lit (.bool true)], args := [d1, d2] }
  | _ => none }
def fnExactSquareSumRow : OpenClaim := { program := "ytcihbcmdmgmonaa", sum := "3534df427a2d408a281fa06b86f5cb7b1626b12799d4568e691fb44d3577f233", func := "loop.example/g01390/laws.FnExactSquareSum", spec := "fnExactSquareSum", unfollowed := true, recurses := true, apart := false }
def FnExactSquareSumSaid : Prop := fnExactSquareSumRow.holds Try.pinned (OpenSpec.ofChange fnExactSquareSumSpec)

/-- ITS FALSE NEIGHBOUR: 'it returns false'. Refute it at one input. -/
def fnExactSquareSumWrong : ChangeSpec := { name := "fnExactSquareSum", fn := fun _ => fun
  | [d1, d2] => { results := [.lit (.bool false)], args := [d1, d2] }
  | _ => none }
def FnExactSquareSumWrongFalsely : Prop := fnExactSquareSumRow.holds Try.pinned (OpenSpec.ofChange fnExactSquareSumWrong)

/-- 'laws.FnExactShiftDots': WHATEVER THE INPUT: true; the input reads as it did. -/
def fnExactShiftDotsSpec : ChangeSpec := { name := "fnExactShiftDots", fn := fun _ => fun
  | [d1, d2, d3] => { results := [.lit (.bool true)], args := [d1, d2, d3] }
  | _ => none }
def fnExactShiftDotsRow : OpenClaim := { program := "ytcihbcmdmgmonaa", sum := "3534df427a2d408a281fa06b86f5cb7b1626b12799d4568e691fb44d3577f233", func := "loop.example/g01390/laws.FnExactShiftDots", spec := "fnExactShiftDots", unfollowed := true, recurses := true, apart := false }
def FnExactShiftDotsSaid : Prop := fnExactShiftDotsRow.holds Try.pinned (OpenSpec.ofChange fnExactShiftDotsSpec)

/-- ITS FALSE NEIGHBOUR: 'it returns false'. Refute it at one input. -/
def fnExactShiftDotsWrong : ChangeSpec := { name := "fnExactShiftDots", fn := fun _ => fun
  | [d1, d2, d3] => { results := [.lit (.bool false)], args := [d1, d2, d3] }
  | _ => none }
def FnExactShiftDotsWrongFalsely : Prop := fnExactShiftDotsRow.holds Try.pinned (OpenSpec.ofChange fnExactShiftDotsWrong)

/-- 'laws.FnExactSmoothDots': WHATEVER THE INPUT: true; the input reads as it did. -/
def fnExactSmoothDotsSpec : ChangeSpec := { name := "fnExactSmoothDots", fn := fun _ => fun
  | [d1, d2] => { results := [.lit (.bool true)], args := [d1, d2] }
  | _ => none }
def fnExactSmoothDotsRow : OpenClaim := { program := "ytcihbcmdmgmonaa", sum := "3534df427a2d408a281fa06b86f5cb7b1626b12799d4568e691fb44d3577f233", func := "loop.example/g01390/laws.FnExactSmoothDots", spec := "fnExactSmoothDots", unfollowed := true, recurses := true, apart := false }
def FnExactSmoothDotsSaid : Prop := fnExactSmoothDotsRow.holds Try.pinned (OpenSpec.ofChange fnExactSmoothDotsSpec)

/-- ITS FALSE NEIGHBOUR: 'it returns false'. Refute it at one input. -/
def fnExactSmoothDotsWrong : ChangeSpec := { name := "fnExactSmoothDots", fn := fun _ => fun
  | [d1, d2] => { results := [.lit (.bool false)], args := [d1, d2] }
  | _ => none }
def FnExactSmoothDotsWrongFalsely : Prop := fnExactSmoothDotsRow.holds Try.pinned (OpenSpec.ofChange fnExactSmoothDotsWrong)

/-- 'laws.FnExactRestsOf': WHATEVER THE INPUT: true; the input reads as it did. -/
def fnExactRestsOfSpec : ChangeSpec := { name := "fnExactRestsOf", fn := fun _ => fun
  | [d1, d2] => { results := [.lit (.bool true)], args := [d1, d2] }
  | _ => none }
def fnExactRestsOfRow : OpenClaim := { program := "ytcihbcmdmgmonaa", sum := "3534df427a2d408a281fa06b86f5cb7b1626b12799d4568e691fb44d3577f233", func := "loop.example/g01390/laws.FnExactRestsOf", spec := "fnExactRestsOf", unfollowed := true, recurses := true, apart := false }
def FnExactRestsOfSaid : Prop := fnExactRestsOfRow.holds Try.pinned (OpenSpec.ofChange fnExactRestsOfSpec)

/-- ITS FALSE NEIGHBOUR: 'it returns false'. Refute it at one input. -/
def fnExactRestsOfWrong : ChangeSpec := { name := "fnExactRestsOf", fn := fun _ => fun
  | [d1, d2] => { results := [.lit (.bool false)], args := [d1, d2] }
  | _ => none }
def FnExactRestsOfWrongFalsely : Prop := fnExactRestsOfRow.holds Try.pinned (OpenSpec.ofChange fnExactRestsOfWrong)

/-- 'laws.FnExactWorstDot': WHATEVER THE INPUT: true; the input reads as it did. -/
def fnExactWorstDotSpec : ChangeSpec := { name := "fnExactWorstDot", fn := fun _ => fun
  | [d1, d2] => { results := [.lit (.bool true)], args := [d1, d2] }
  | _ => none }
def fnExactWorstDotRow : OpenClaim := { program := "ytcihbcmdmgmonaa", sum := "3534df427a2d408a281fa06b86f5cb7b1626b12799d4568e691fb44d3577f233", func := "loop.example/g01390/laws.FnExactWorstDot", spec := "fnExactWorstDot", unfollowed := true, recurses := true, apart := false }
def FnExactWorstDotSaid : Prop := fnExactWorstDotRow.holds Try.pinned (OpenSpec.ofChange fnExactWorstDotSpec)

/-- ITS FALSE NEIGHBOUR: 'it returns false'. Refute it at one input. -/
def fnExactWorstDotWrong : ChangeSpec := { name := "fnExactWorstDot", fn := fun _ => fun
  | [d1, d2] => { results := [.lit (.bool false)], args := [d1, d2] }
  | _ => none }
def FnExactWorstDotWrongFalsely : Prop := fnExactWorstDotRow.holds Try.pinned (OpenSpec.ofChange fnExactWorstDotWrong)

/-- 'laws.FnExactBandAt': WHATEVER THE INPUT: true; the input reads as it did. -/
def fnExactBandAtSpec : ChangeSpec := { name := "fnExactBandAt", fn := fun _ => fun
  | [d1, d2, d3] => { results := [.lit (.bool true)], args := [d1, d2, d3] }
  | _ => none }
def fnExactBandAtRow : OpenClaim := { program := "ytcihbcmdmgmonaa", sum := "3534df427a2d408a281fa06b86f5cb7b1626b12799d4568e691fb44d3577f233", func := "loop.example/g01390/laws.FnExactBandAt", spec := "fnExactBandAt", unfollowed := true, recurses := true, apart := false }
def FnExactBandAtSaid : Prop := fnExactBandAtRow.holds Try.pinned (OpenSpec.ofChange fnExactBandAtSpec)

/-- ITS FALSE NEIGHBOUR: 'it returns false'. Refute it at one input. -/
def fnExactBandAtWrong : ChangeSpec := { name := "fnExactBandAt", fn := fun _ => fun
  | [d1, d2, d3] => { results := [.lit (.bool false)], args := [d1, d2, d3] }
  | _ => none }
def FnExactBandAtWrongFalsely : Prop := fnExactBandAtRow.holds Try.pinned (OpenSpec.ofChange fnExactBandAtWrong)

/-- 'laws.FnExactBestLine': WHATEVER THE INPUT: true; the input reads as it did. -/
def fnExactBestLineSpec : ChangeSpec := { name := "fnExactBestLine", fn := fun _ => fun
  | [d1, d2] => { results := [.lit (.bool true)], args := [d1, d2] }
  | _ => none }
def fnExactBestLineRow : OpenClaim := { program := "ytcihbcmdmgmonaa", sum := "3534df427a2d408a281fa06b86f5cb7b1626b12799d4568e691fb44d3577f233", func := "loop.example/g01390/laws.FnExactBestLine", spec := "fnExactBestLine", unfollowed := true, recurses := true, apart := false }
def FnExactBestLineSaid : Prop := fnExactBestLineRow.holds Try.pinned (OpenSpec.ofChange fnExactBestLineSpec)

/-- ITS FALSE NEIGHBOUR: 'it returns false'. Refute it at one input. -/
def fnExactBestLineWrong : ChangeSpec := { name := "fnExactBestLine", fn := fun _ => fun
  | [d1, d2] => { results := [.lit (.bool false)], args := [d1, d2] }
  | _ => none }
def FnExactBestLineWrongFalsely : Prop := fnExactBestLineRow.holds Try.pinned (OpenSpec.ofChange fnExactBestLineWrong)

/-- 'laws.FnExactWhichModel': WHATEVER THE INPUT: true; the input reads as it did. -/
def fnExactWhichModelSpec : ChangeSpec := { name := "fnExactWhichModel", fn := fun _ => fun
  | [d] => { results := [.lit (.bool true)], args := [d] }
  | _ => none }
def fnExactWhichModelRow : OpenClaim := { program := "ytcihbcmdmgmonaa", sum := "3534df427a2d408a281fa06b86f5cb7b1626b12799d4568e691fb44d3577f233", func := "loop.example/g01390/laws.FnExactWhichModel", spec := "fnExactWhichModel", unfollowed := true, recurses := true, apart := false }
def FnExactWhichModelSaid : Prop := fnExactWhichModelRow.holds Try.pinned (OpenSpec.ofChange fnExactWhichModelSpec)

/-- ITS FALSE NEIGHBOUR: 'it returns false'. Refute it at one input. -/
def fnExactWhichModelWrong : ChangeSpec := { name := "fnExactWhichModel", fn := fun _ => fun
  | [d] => { results := [.lit (.bool false)], args := [d] }
  | _ => none }
def FnExactWhichModelWrongFalsely : Prop := fnExactWhichModelRow.holds Try.pinned (OpenSpec.ofChange fnExactWhichModelWrong)

/-- 'laws.FnExactDropWorst': WHATEVER THE INPUT: true; the input reads as it did. -/
def fnExactDropWorstSpec : ChangeSpec := { name := "fnExactDropWorst", fn := fun _ => fun
  | [d1, d2] => { results := [.lit (.bool true)], args := [d1, d2] }
  | _ => none }
def fnExactDropWorstRow : OpenClaim := { program := "ytcihbcmdmgmonaa", sum := "3534df427a2d408a281fa06b86f5cb7b1626b12799d4568e691fb44d3577f233", func := "loop.example/g01390/laws.FnExactDropWorst", spec := "fnExactDropWorst", unfollowed := true, recurses := true, apart := false }
def FnExactDropWorstSaid : Prop := fnExactDropWorstRow.holds Try.pinned (OpenSpec.ofChange fnExactDropWorstSpec)

/-- ITS FALSE NEIGHBOUR: 'it returns false'. Refute it at one input. -/
def fnExactDropWorstWrong : ChangeSpec := { name := "fnExactDropWorst", fn := fun _ => fun
  | [d1, d2] => { results := [.lit (.bool false)], args := [d1, d2] }
  | _ => none }
def FnExactDropWorstWrongFalsely : Prop := fnExactDropWorstRow.holds Try.pinned (OpenSpec.ofChange fnExactDropWorstWrong)

/-- 'laws.FnModels': WHATEVER THE INPUT: true; the input reads as it did. -/
def fnModelsSpec : ChangeSpec := { name := "fnModels", fn := fun _ => fun
  | [d1, d2] => { results := [.lit (.bool true)], args := [d1, d2] }
  | _ => none }
def fnModelsRow : OpenClaim := { program := "ytcihbcmdmgmonaa", sum := "3534df427a2d408a281fa06b86f5cb7b1626b12799d4568e691fb44d3577f233", func := "loop.example/g01390/laws.FnModels", spec := "fnModels", inPlace := ["math.Float32bits"], unfollowed := true, recurses := true, apart := false }
def FnModelsSaid : Prop := fnModelsRow.holds Try.pinned (OpenSpec.ofChange fnModelsSpec)

/-- ITS FALSE NEIGHBOUR: 'it returns false'. Refute it at one input. -/
def fnModelsWrong : ChangeSpec := { name := "fnModels", fn := fun _ => fun
  | [d1, d2] => { results := [.lit (.bool false)], args := [d1, d2] }
  | _ => none }
def FnModelsWrongFalsely : Prop := fnModelsRow.holds Try.pinned (OpenSpec.ofChange fnModelsWrong)

/- THE SECOND FORM. 'bulk': how many values and letters a reading holds, each counted each time it is reached (what is shared counts as often as it is met; a slice's spare places count too). A statement '..UptoSaid' is the law's where the arguments, and the package variables that the reading takes, are together of bulk at most 1048576: NARROWER than '..Said'. Prove '..Said' where nothing that the law and all that it calls make is longer than what came in: it says more and counts as full. Else prove '..UptoSaid'. A law counts once. -/
mutual
def uptoBulk {H : Type} : DataW H → Nat
  | .lit (.string bytes) => bytes.length + 1
  | .lit _ => 1
  | .nil => 1
  | .ptr d => uptoBulk d + 1
  | .slice elems spare => uptoBulkAll elems + uptoBulkAll spare + 1
  | .agg parts => uptoBulkAll parts + 1
  | .iface _ d => uptoBulk d + 1
  | .map entries => uptoBulkEntries entries + 1
  | .held _ => 1
def uptoBulkAll {H : Type} : List (DataW H) → Nat
  | [] => 0
  | d :: r => uptoBulk d + uptoBulkAll r
def uptoBulkEntries {H : Type} : List (Lit × DataW H) → Nat
  | [] => 0
  | x :: r => uptoBulkEntry x + uptoBulkEntries r
def uptoBulkEntry {H : Type} : Lit × DataW H → Nat
  | (.string bytes, d) => bytes.length + uptoBulk d + 1
  | (_, d) => uptoBulk d + 1
 end
def uptoSmall : (H : Type) → List (DataW H) → Bool := fun _ ds => decide (uptoBulkAll ds ≤ 1048576)
def OpenSpec.upto (s : _root_.Go.ChangeSpec) : _root_.Go.OpenSpec := { _root_.Go.OpenSpec.ofChange s with cond := some uptoSmall }

/-- 'laws.FnExactSquareSum', WHERE WHAT IT READS IS OF BULK AT MOST 1048576: true; the input reads as it did. -/
def fnExactSquareSumUptoRow : OpenClaim := { program := "ytcihbcmdmgmonaa", sum := "3534df427a2d408a281fa06b86f5cb7b1626b12799d4568e691fb44d3577f233", func := "loop.example/g01390/laws.FnExactSquareSum", spec := "fnExactSquareSum", unfollowed := true, recurses := true, apart := false, narrowed := true }
def FnExactSquareSumUptoSaid : Prop := fnExactSquareSumUptoRow.holds Try.pinned (OpenSpec.upto fnExactSquareSumSpec)

/-- 'laws.FnExactShiftDots', WHERE WHAT IT READS IS OF BULK AT MOST 1048576: true; the input reads as it did. -/
def fnExactShiftDotsUptoRow : OpenClaim := { program := "ytcihbcmdmgmonaa", sum := "3534df427a2d408a281fa06b86f5cb7b1626b12799d4568e691fb44d3577f233", func := "loop.example/g01390/laws.FnExactShiftDots", spec := "fnExactShiftDots", unfollowed := true, recurses := true, apart := false, narrowed := true }
def FnExactShiftDotsUptoSaid : Prop := fnExactShiftDotsUptoRow.holds Try.pinned (OpenSpec.upto fnExactShiftDotsSpec)

/-- 'laws.FnExactSmoothDots', WHERE WHAT IT READS IS OF BULK AT MOST 1048576: true; the input reads as it did. -/
def fnExactSmoothDotsUptoRow : OpenClaim := { program := "ytcihbcmdmgmonaa", sum := "3534df427a2d408a281fa06b86f5cb7b1626b12799d4568e691fb44d3577f233", func := "loop.example/g01390/laws.FnExactSmoothDots", spec := "fnExactSmoothDots", unfollowed := true, recurses := true, apart := false, narrowed := true }
def FnExactSmoothDotsUptoSaid : Prop := fnExactSmoothDotsUptoRow.holds Try.pinned (OpenSpec.upto fnExactSmoothDotsSpec)

/-- 'laws.FnExactRestsOf', WHERE WHAT IT READS IS OF BULK AT MOST 1048576: true; the input reads as it did. -/
def fnExactRestsOfUptoRow : OpenClaim := { program := "ytcihbcmdmgmonaa", sum := "3534df427a2d408a281fa06b86f5cb7b1626b12799d4568e691fb44d3577f233", func := "loop.example/g01390/laws.FnExactRestsOf", spec := "fnExactRestsOf", unfollowed := true, recurses := true, apart := false, narrowed := true }
def FnExactRestsOfUptoSaid : Prop := fnExactRestsOfUptoRow.holds Try.pinned (OpenSpec.upto fnExactRestsOfSpec)

/-- 'laws.FnExactWorstDot', WHERE WHAT IT READS IS OF BULK AT MOST 1048576: true; the input reads as it did. -/
def fnExactWorstDotUptoRow : OpenClaim := { program := "ytcihbcmdmgmonaa", sum := "3534df427a2d408a281fa06b86f5cb7b1626b12799d4568e691fb44d3577f233", func := "loop.example/g01390/laws.FnExactWorstDot", spec := "fnExactWorstDot", unfollowed := true, recurses := true, apart := false, narrowed := true }
def FnExactWorstDotUptoSaid : Prop := fnExactWorstDotUptoRow.holds Try.pinned (OpenSpec.upto fnExactWorstDotSpec)

/-- 'laws.FnExactBandAt', WHERE WHAT IT READS IS OF BULK AT MOST 1048576: true; the input reads as it did. -/
def fnExactBandAtUptoRow : OpenClaim := { program := "ytcihbcmdmgmonaa", sum := "3534df427a2d408a281fa06b86f5cb7b1626b12799d4568e691fb44d3577f233", func := "loop.example/g01390/laws.FnExactBandAt", spec := "fnExactBandAt", unfollowed := true, recurses := true, apart := false, narrowed := true }
def FnExactBandAtUptoSaid : Prop := fnExactBandAtUptoRow.holds Try.pinned (OpenSpec.upto fnExactBandAtSpec)

/-- 'laws.FnExactBestLine', WHERE WHAT IT READS IS OF BULK AT MOST 1048576: true; the input reads as it did. -/
def fnExactBestLineUptoRow : OpenClaim := { program := "ytcihbcmdmgmonaa", sum := "3534df427a2d408a281fa06b86f5cb7b1626b12799d4568e691fb44d3577f233", func := "loop.example/g01390/laws.FnExactBestLine", spec := "fnExactBestLine", unfollowed := true, recurses := true, apart := false, narrowed := true }
def FnExactBestLineUptoSaid : Prop := fnExactBestLineUptoRow.holds Try.pinned (OpenSpec.upto fnExactBestLineSpec)

/-- 'laws.FnExactWhichModel', WHERE WHAT IT READS IS OF BULK AT MOST 1048576: true; the input reads as it did. -/
def fnExactWhichModelUptoRow : OpenClaim := { program := "ytcihbcmdmgmonaa", sum := "3534df427a2d408a281fa06b86f5cb7b1626b12799d4568e691fb44d3577f233", func := "loop.example/g01390/laws.FnExactWhichModel", spec := "fnExactWhichModel", unfollowed := true, recurses := true, apart := false, narrowed := true }
def FnExactWhichModelUptoSaid : Prop := fnExactWhichModelUptoRow.holds Try.pinned (OpenSpec.upto fnExactWhichModelSpec)

/-- 'laws.FnExactDropWorst', WHERE WHAT IT READS IS OF BULK AT MOST 1048576: true; the input reads as it did. -/
def fnExactDropWorstUptoRow : OpenClaim := { program := "ytcihbcmdmgmonaa", sum := "3534df427a2d408a281fa06b86f5cb7b1626b12799d4568e691fb44d3577f233", func := "loop.example/g01390/laws.FnExactDropWorst", spec := "fnExactDropWorst", unfollowed := true, recurses := true, apart := false, narrowed := true }
def FnExactDropWorstUptoSaid : Prop := fnExactDropWorstUptoRow.holds Try.pinned (OpenSpec.upto fnExactDropWorstSpec)

/-- 'laws.FnModels', WHERE WHAT IT READS IS OF BULK AT MOST 1048576: true; the input reads as it did. -/
def fnModelsUptoRow : OpenClaim := { program := "ytcihbcmdmgmonaa", sum := "3534df427a2d408a281fa06b86f5cb7b1626b12799d4568e691fb44d3577f233", func := "loop.example/g01390/laws.FnModels", spec := "fnModels", inPlace := ["math.Float32bits"], unfollowed := true, recurses := true, apart := false, narrowed := true }
def FnModelsUptoSaid : Prop := fnModelsUptoRow.holds Try.pinned (OpenSpec.upto fnModelsSpec)

end Rows
end Go.Proofs.Ytcihbcmdmgmonaa
