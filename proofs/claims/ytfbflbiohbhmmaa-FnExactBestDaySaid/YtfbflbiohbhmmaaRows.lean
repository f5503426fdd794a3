/-
  No cell of these rows narrows 'for every input' (looked for: loops, veiled, ifaces, maps, wideKeys, modest, calm, conditions, laid).
  DERIVED. THE GIVEN ROWS OF THIS SEAT. 7 by the template 'for every input the law returns true; each argument reads behind the call as it read before'; 0 by the template 'total and deterministic' (their statements: YtfbflbiohbhmmaaTotals.lean).
  GIVEN WITH THE SEED: the statements are not yours to turn. If you find one false, say at which input.
  Laid BY PROGRAM, IN A SANDBOX (cutbox-rows.mjs): the forced cells as the released guide's own fill.sh prints them over the translation bbc7e0ef9ff1600c… (all of the seat's roots in one cut). By AI agents, Wed Nov 11 2026. No macro, syntax, notation, axiom, sorry.
-/
import Derived.Test.YtfbflbiohbhmmaaChecked
import GoSem.Claim
import GoSem.ClaimJoined
import GoSem.ClaimMapViews
import Derived.JoinedTies
import Derived.KernelRfl
namespace Go.Proofs.Ytfbflbiohbhmmaa
/- THE CELL 'sum', in the pinned program and in every row, IS THE sha256 OF THE DUMP (.gsa) THAT YtfbflbiohbhmmaaProg.lean LOADS. Nothing in Lean hashes anything: it is a label: what it is worth is what the hold of that sum in a sandbox is worth. -/
noncomputable def Try.pinned : Pinned := { name := "ytfbflbiohbhmmaa", sum := "bbc7e0ef9ff1600cfe307bdee2455cb2f28c017e42028f39f6affac86e72047f", checked := Try.checked }
namespace Rows
def none {H : Type} : Left H := { results := [], args := [] }

/-- 'laws.FnExactPriceAt': WHATEVER THE INPUT: true; the input reads as it did. -/
def fnExactPriceAtSpec : ChangeSpec := { name := "fnExactPriceAt", fn := fun _ => fun
  | [d1, d2] => { results := [.lit (.bool true)], args := [d1, d2] }
  | _ => none }
def fnExactPriceAtRow : OpenClaim := { program := "ytfbflbiohbhmmaa", sum := "bbc7e0ef9ff1600cfe307bdee2455cb2f28c017e42028f39f6affac86e72047f", func := "loop.example/g01390/laws.FnExactPriceAt", spec := "fnExactPriceAt", inPlace := ["math.archFloor", "math.Float64bits", "math.Float64frombits", "math.archTrunc"], unfollowed := true, recurses := true, apart := false }
def FnExactPriceAtSaid : Prop := fnExactPriceAtRow.holds Try.pinned (OpenSpec.ofChange fnExactPriceAtSpec)

/-- ITS FALSE NEIGHBOUR: 'it returns false'. Refute it at one input. -/
def fnExactPriceAtWrong : ChangeSpec := { name := "fnExactPriceAt", fn := fun _ => fun
  | [d1, d2] => { results := [.lit (.bool false)], args := [d1, d2] }
  | _ => none }
def FnExactPriceAtWrongFalsely : Prop := fnExactPriceAtRow.holds Try.pinned (OpenSpec.ofChange fnExactPriceAtWrong)

/-- 'laws.FnExactWorthOf': WHATEVER THE INPUT: true; the input reads as it did. -/
def fnExactWorthOfSpec : ChangeSpec := { name := "fnExactWorthOf", fn := fun _ => fun
  | [d1, d2] => { results := [.lit (.bool true)], args := [d1, d2] }
  | _ => none }
def fnExactWorthOfRow : OpenClaim := { program := "ytfbflbiohbhmmaa", sum := "bbc7e0ef9ff1600cfe307bdee2455cb2f28c017e42028f39f6affac86e72047f", func := "loop.example/g01390/laws.FnExactWorthOf", spec := "fnExactWorthOf", inPlace := ["math.Float32bits", "math.archFloor", "math.Float64bits", "math.Float64frombits", "math.archTrunc"], unfollowed := true, recurses := true, apart := false }
def FnExactWorthOfSaid : Prop := fnExactWorthOfRow.holds Try.pinned (OpenSpec.ofChange fnExactWorthOfSpec)

/-- ITS FALSE NEIGHBOUR: 'it returns false'. Refute it at one input. -/
def fnExactWorthOfWrong : ChangeSpec := { name := "fnExactWorthOf", fn := fun _ => fun
  | [d1, d2] => { results := [.lit (.bool false)], args := [d1, d2] }
  | _ => none }
def FnExactWorthOfWrongFalsely : Prop := fnExactWorthOfRow.holds Try.pinned (OpenSpec.ofChange fnExactWorthOfWrong)

/-- 'laws.FnExactWorthBehind': WHATEVER THE INPUT: true; the input reads as it did. -/
def fnExactWorthBehindSpec : ChangeSpec := { name := "fnExactWorthBehind", fn := fun _ => fun
  | [d1, d2, d3, d4] => { results := [.lit (.bool true)], args := [d1, d2, d3, d4] }
  | _ => none }
def fnExactWorthBehindRow : OpenClaim := { program := "ytfbflbiohbhmmaa", sum := "bbc7e0ef9ff1600cfe307bdee2455cb2f28c017e42028f39f6affac86e72047f", func := "loop.example/g01390/laws.FnExactWorthBehind", spec := "fnExactWorthBehind", inPlace := ["math.Float32bits", "math.archFloor", "math.Float64bits", "math.Float64frombits", "math.archTrunc"], unfollowed := true, recurses := true, apart := false }
def FnExactWorthBehindSaid : Prop := fnExactWorthBehindRow.holds Try.pinned (OpenSpec.ofChange fnExactWorthBehindSpec)

/-- ITS FALSE NEIGHBOUR: 'it returns false'. Refute it at one input. -/
def fnExactWorthBehindWrong : ChangeSpec := { name := "fnExactWorthBehind", fn := fun _ => fun
  | [d1, d2, d3, d4] => { results := [.lit (.bool false)], args := [d1, d2, d3, d4] }
  | _ => none }
def FnExactWorthBehindWrongFalsely : Prop := fnExactWorthBehindRow.holds Try.pinned (OpenSpec.ofChange fnExactWorthBehindWrong)

/-- 'laws.FnExactBestDay': WHATEVER THE INPUT: true; the input reads as it did. -/
def fnExactBestDaySpec : ChangeSpec := { name := "fnExactBestDay", fn := fun _ => fun
  | [d1, d2, d3, d4] => { results := [.lit (.bool true)], args := [d1, d2, d3, d4] }
  | _ => none }
def fnExactBestDayRow : OpenClaim := { program := "ytfbflbiohbhmmaa", sum := "bbc7e0ef9ff1600cfe307bdee2455cb2f28c017e42028f39f6affac86e72047f", func := "loop.example/g01390/laws.FnExactBestDay", spec := "fnExactBestDay", inPlace := ["math.Float32bits", "math.archFloor", "math.Float64bits", "math.Float64frombits", "math.archTrunc"], unfollowed := true, recurses := true, apart := false }
def FnExactBestDaySaid : Prop := fnExactBestDayRow.holds Try.pinned (OpenSpec.ofChange fnExactBestDaySpec)

/-- ITS FALSE NEIGHBOUR: 'it returns false'. Refute it at one input. -/
def fnExactBestDayWrong : ChangeSpec := { name := "fnExactBestDay", fn := fun _ => fun
  | [d1, d2, d3, d4] => { results := [.lit (.bool false)], args := [d1, d2, d3, d4] }
  | _ => none }
def FnExactBestDayWrongFalsely : Prop := fnExactBestDayRow.holds Try.pinned (OpenSpec.ofChange fnExactBestDayWrong)

/-- 'laws.FnExactPlanWorth': WHATEVER THE INPUT: true; the input reads as it did. -/
def fnExactPlanWorthSpec : ChangeSpec := { name := "fnExactPlanWorth", fn := fun _ => fun
  | [d1, d2, d3, d4] => { results := [.lit (.bool true)], args := [d1, d2, d3, d4] }
  | _ => none }
def fnExactPlanWorthRow : OpenClaim := { program := "ytfbflbiohbhmmaa", sum := "bbc7e0ef9ff1600cfe307bdee2455cb2f28c017e42028f39f6affac86e72047f", func := "loop.example/g01390/laws.FnExactPlanWorth", spec := "fnExactPlanWorth", inPlace := ["math.Float32bits", "math.archFloor", "math.Float64bits", "math.Float64frombits", "math.archTrunc"], unfollowed := true, recurses := true, apart := false }
def FnExactPlanWorthSaid : Prop := fnExactPlanWorthRow.holds Try.pinned (OpenSpec.ofChange fnExactPlanWorthSpec)

/-- ITS FALSE NEIGHBOUR: 'it returns false'. Refute it at one input. -/
def fnExactPlanWorthWrong : ChangeSpec := { name := "fnExactPlanWorth", fn := fun _ => fun
  | [d1, d2, d3, d4] => { results := [.lit (.bool false)], args := [d1, d2, d3, d4] }
  | _ => none }
def FnExactPlanWorthWrongFalsely : Prop := fnExactPlanWorthRow.holds Try.pinned (OpenSpec.ofChange fnExactPlanWorthWrong)

/-- 'laws.FnExactSellPlan': WHATEVER THE INPUT: true; the input reads as it did. -/
def fnExactSellPlanSpec : ChangeSpec := { name := "fnExactSellPlan", fn := fun _ => fun
  | [d1, d2, d3, d4] => { results := [.lit (.bool true)], args := [d1, d2, d3, d4] }
  | _ => none }
def fnExactSellPlanRow : OpenClaim := { program := "ytfbflbiohbhmmaa", sum := "bbc7e0ef9ff1600cfe307bdee2455cb2f28c017e42028f39f6affac86e72047f", func := "loop.example/g01390/laws.FnExactSellPlan", spec := "fnExactSellPlan", inPlace := ["math.Float32bits", "math.archFloor", "math.Float64bits", "math.Float64frombits", "math.archTrunc"], unfollowed := true, recurses := true, apart := false }
def FnExactSellPlanSaid : Prop := fnExactSellPlanRow.holds Try.pinned (OpenSpec.ofChange fnExactSellPlanSpec)

/-- ITS FALSE NEIGHBOUR: 'it returns false'. Refute it at one input. -/
def fnExactSellPlanWrong : ChangeSpec := { name := "fnExactSellPlan", fn := fun _ => fun
  | [d1, d2, d3, d4] => { results := [.lit (.bool false)], args := [d1, d2, d3, d4] }
  | _ => none }
def FnExactSellPlanWrongFalsely : Prop := fnExactSellPlanRow.holds Try.pinned (OpenSpec.ofChange fnExactSellPlanWrong)

/-- 'laws.FnSales': WHATEVER THE INPUT: true; the input reads as it did. -/
def fnSalesSpec : ChangeSpec := { name := "fnSales", fn := fun _ => fun
  | [d1, d2] => { results := [.lit (.bool true)], args := [d1, d2] }
  | _ => none }
def fnSalesRow : OpenClaim := { program := "ytfbflbiohbhmmaa", sum := "bbc7e0ef9ff1600cfe307bdee2455cb2f28c017e42028f39f6affac86e72047f", func := "loop.example/g01390/laws.FnSales", spec := "fnSales", inPlace := ["math.archFloor", "math.Float64bits", "math.Float64frombits", "math.archTrunc", "math.Float32bits"], unfollowed := true, recurses := true, apart := false }
def FnSalesSaid : Prop := fnSalesRow.holds Try.pinned (OpenSpec.ofChange fnSalesSpec)

/-- ITS FALSE NEIGHBOUR: 'it returns false'. Refute it at one input. -/
def fnSalesWrong : ChangeSpec := { name := "fnSales", fn := fun _ => fun
  | [d1, d2] => { results := [.lit (.bool false)], args := [d1, d2] }
  | _ => none }
def FnSalesWrongFalsely : Prop := fnSalesRow.holds Try.pinned (OpenSpec.ofChange fnSalesWrong)

/- THE SECOND FORM. 'bulk': how many values and letters a reading holds, each counted each time it is reached (what is shared counts as often as it is met; a slice's spare places count too). A statement '..UptoSaid' is the law's where the arguments, and the package variables that the reading takes, are together of bulk at most 1048576: NARROWER than '..Said'. Prove '..Said' where nothing that the law and all that it calls make is longer than what came in: it says more and counts as full. Else prove '..UptoSaid'. A law counts once. -/
mutual
def uptoBulk {H : Type} : DataW H → Nat
  | .lit (.string bytes) => bytes.length + 1
  | .lit _ => 1
  | .nil => 1
  | .ptr d => uptoBulk d + 1
  | .slice elems spare => uptoBulkAll elems + uptoBulkAll spare + 1
  | .agg parts => uptoBulkAll parts + 1
  | .iface _ d => uptoBulk d + 1
  | .map entries => uptoBulkEntries entries + 1
  | .held _ => 1
def uptoBulkAll {H : Type} : List (DataW H) → Nat
  | [] => 0
  | d :: r => uptoBulk d + uptoBulkAll r
def uptoBulkEntries {H : Type} : List (Lit × DataW H) → Nat
  | [] => 0
  | x :: r => uptoBulkEntry x + uptoBulkEntries r
def uptoBulkEntry {H : Type} : Lit × DataW H → Nat
  | (.string bytes, d) => bytes.length + uptoBulk d + 1
  | (_, d) => uptoBulk d + 1
 end
def uptoSmall : (H : Type) → List (DataW H) → Bool := fun _ ds => decide (uptoBulkAll ds ≤ 1048576)
def OpenSpec.upto (s : _root_.Go.ChangeSpec) : _root_.Go.OpenSpec := { _root_.Go.OpenSpec.ofChange s with cond := some uptoSmall }

/-- 'laws.FnExactPriceAt', WHERE WHAT IT READS IS OF BULK AT MOST 1048576: true; the input reads as it did. -/
def fnExactPriceAtUptoRow : OpenClaim := { program := "ytfbflbiohbhmmaa", sum := "bbc7e0ef9ff1600cfe307bdee2455cb2f28c017e42028f39f6affac86e72047f", func := "loop.example/g01390/laws.FnExactPriceAt", spec := "fnExactPriceAt", inPlace := ["math.archFloor", "math.Float64bits", "math.Float64frombits", "math.archTrunc"], unfollowed := true, recurses := true, apart := false, narrowed := true }
def FnExactPriceAtUptoSaid : Prop := fnExactPriceAtUptoRow.holds Try.pinned (OpenSpec.upto fnExactPriceAtSpec)

/-- 'laws.FnExactWorthOf', WHERE WHAT IT READS IS OF BULK AT MOST 1048576: true; the input reads as it did. -/
def fnExactWorthOfUptoRow : OpenClaim := { program := "ytfbflbiohbhmmaa", sum := "bbc7e0ef9ff1600cfe307bdee2455cb2f28c017e42028f39f6affac86e72047f", func := "loop.example/g01390/laws.FnExactWorthOf", spec := "fnExactWorthOf", inPlace := ["math.Float32bits", "math.archFloor", "math.Float64bits", "math.Float64frombits", "math.archTrunc"], unfollowed := true, recurses := true, apart := false, narrowed := true }
def FnExactWorthOfUptoSaid : Prop := fnExactWorthOfUptoRow.holds Try.pinned (OpenSpec.upto fnExactWorthOfSpec)

/-- 'laws.FnExactWorthBehind', WHERE WHAT IT READS IS OF BULK AT MOST 1048576: true; the input reads as it did. -/
def fnExactWorthBehindUptoRow : OpenClaim := { program := "ytfbflbiohbhmmaa", sum := "bbc7e0ef9ff1600cfe307bdee2455cb2f28c017e42028f39f6affac86e72047f", func := "loop.example/g01390/laws.FnExactWorthBehind", spec := "fnExactWorthBehind", inPlace := ["math.Float32bits", "math.archFloor", "math.Float64bits", "math.Float64frombits", "math.archTrunc"], unfollowed := true, recurses := true, apart := false, narrowed := true }
def FnExactWorthBehindUptoSaid : Prop := fnExactWorthBehindUptoRow.holds Try.pinned (OpenSpec.upto fnExactWorthBehindSpec)

/-- 'laws.FnExactBestDay', WHERE WHAT IT READS IS OF BULK AT MOST 1048576: true; the input reads as it did. -/
def fnExactBestDayUptoRow : OpenClaim := { program := "ytfbflbiohbhmmaa", sum := "bbc7e0ef9ff1600cfe307bdee2455cb2f28c017e42028f39f6affac86e72047f", func := "loop.example/g01390/laws.FnExactBestDay", spec := "fnExactBestDay", inPlace := ["math.Float32bits", "math.archFloor", "math.Float64bits", "math.Float64frombits", "math.archTrunc"], unfollowed := true, recurses := true, apart := false, narrowed := true }
def FnExactBestDayUptoSaid : Prop := fnExactBestDayUptoRow.holds Try.pinned (OpenSpec.upto fnExactBestDaySpec)

/-- 'laws.FnExactPlanWorth', WHERE WHAT IT READS IS OF BULK AT MOST 1048576: true; the input reads as it did. -/
def fnExactPlanWorthUptoRow : OpenClaim := { program := "ytfbflbiohbhmmaa", sum := "bbc7e0ef9ff1600cfe307bdee2455cb2f28c017e42028f39f6affac86e72047f", func := "loop.example/g01390/laws.FnExactPlanWorth", spec := "fnExactPlanWorth", inPlace := ["math.Float32bits", "math.archFloor", "math.Float64bits", "math.Float64frombits", "math.archTrunc"], unfollowed := true, recurses := true, apart := false, narrowed := true }
def FnExactPlanWorthUptoSaid : Prop := fnExactPlanWorthUptoRow.holds Try.pinned (OpenSpec.upto fnExactPlanWorthSpec)

/-- 'laws.FnExactSellPlan', WHERE WHAT IT READS IS OF BULK AT MOST 1048576: true; the input reads as it did. -/
def fnExactSellPlanUptoRow : OpenClaim := { program := "ytfbflbiohbhmmaa", sum := "bbc7e0ef9ff1600cfe307bdee2455cb2f28c017e42028f39f6affac86e72047f", func := "loop.example/g01390/laws.FnExactSellPlan", spec := "fnExactSellPlan", inPlace := ["math.Float32bits", "math.archFloor", "math.Float64bits", "math.Float64frombits", "math.archTrunc"], unfollowed := true, recurses := true, apart := false, narrowed := true }
def FnExactSellPlanUptoSaid : Prop := fnExactSellPlanUptoRow.holds Try.pinned (OpenSpec.upto fnExactSellPlanSpec)

/-- 'laws.FnSales', WHERE WHAT IT READS IS OF BULK AT MOST 1048576: true; the input reads as it did. -/
def fnSalesUptoRow : OpenClaim := { program := "ytfbflbiohbhmmaa", sum := "bbc7e0ef9ff1600cfe307bdee2455cb2f28c017e42028f39f6affac86e72047f", func := "loop.example/g01390/laws.FnSales", spec := "fnSales", inPlace := ["math.archFloor", "math.Float64bits", "math.Float64frombits", "math.archTrunc", "math.Float32bits"], unfollowed := true, recurses := true, apart := false, narrowed := true }
def FnSalesUptoSaid : Prop := fnSalesUptoRow.holds Try.pinned (OpenSpec.upto fnSalesSpec)

end Rows
end Go.Proofs.Ytfbflbiohbhmmaa
