/-
  No cell of these rows narrows 'for every input' (looked for: loops, veiled, ifaces, maps, wideKeys, modest, calm, conditions, laid).
  DERIVED. THE GIVEN ROWS OF THIS SEAT. 10 by the template 'for every input the law returns true; each argument reads behind the call as it read before'; 0 by the template 'total and deterministic' (their statements: YtgeeggfedopeeaaTotals.lean).
  GIVEN WITH THE SEED: the statements are not yours to turn. If you find one false, say at which input.
  Laid BY PROGRAM, IN A SANDBOX (cutbox-rows.mjs): the forced cells as the released guide's own fill.sh prints them over the translation 766a1dd81c0294e0… (all of the seat's roots in one cut). By AI agents, Wed Nov 11 2026. No macro, syntax, notation, axiom, sorry.
-/
import Derived.Test.YtgeeggfedopeeaaChecked
import GoSem.Claim
import GoSem.ClaimJoined
import GoSem.ClaimMapViews
import Derived.JoinedTies
import Derived.KernelRfl
namespace Go.Proofs.Ytgeeggfedopeeaa
/- THE CELL 'sum', in the pinned program and in every row, IS THE sha256 OF THE DUMP (.gsa) THAT YtgeeggfedopeeaaProg.lean LOADS. Nothing in Lean hashes anything: it is a label: what it is worth is what the hold of that sum in a sandbox is worth. -/
noncomputable def Try.pinned : Pinned := { name := "ytgeeggfedopeeaa", sum := "766a1dd81c0294e01891b84174bcf96f243b0e7265529dac27485172655246bf", checked := Try.checked }
namespace Rows
def none {H : Type} : Left H := { results := [], args := [] }

/-- 'laws.FnExactValidLine': WHATEVER THE INPUT: true; the input reads as it did. -/
def fnExactValidLineSpec : ChangeSpec := { name := "fnExactValidLine", fn := fun _ => fun
  | [d] => { results := [.lit (.bool true)], args := [d] }
  | _ => none }
def fnExactValidLineRow : OpenClaim := { program := "ytgeeggfedopeeaa", sum := "766a1dd81c0294e01891b84174bcf96f243b0e7265529dac27485172655246bf", func := "loop.example/g01390/laws.FnExactValidLine", spec := "fnExactValidLine", unfollowed := true, recurses := true, apart := false }
def FnExactValidLineSaid : Prop := fnExactValidLineRow.holds Try.pinned (OpenSpec.ofChange fnExactValidLineSpec)

/-- ITS FALSE NEIGHBOUR: 'it returns false'. Refute it at one input. -/
def fnExactValidLineWrong : ChangeSpec := { name := "fnExactValidLine", fn := fun _ => fun
  | [d] => { results := [.lit (.bool false)], args := [d] }
  | _ => none }
def FnExactValidLineWrongFalsely : Prop := fnExactValidLineRow.holds Try.pinned (OpenSpec.ofChange fnExactValidLineWrong)

/-- 'laws.FnExactValueAt': WHATEVER THE INPUT: true; the input reads as it did. -/
def fnExactValueAtSpec : ChangeSpec := { name := "fnExactValueAt", fn := fun _ => fun
  | [d1, d2] => { results := [.lit (.bool true)], args := [d1, d2] }
  | _ => none }
def fnExactValueAtRow : OpenClaim := { program := "ytgeeggfedopeeaa", sum := "766a1dd81c0294e01891b84174bcf96f243b0e7265529dac27485172655246bf", func := "loop.example/g01390/laws.FnExactValueAt", spec := "fnExactValueAt", unfollowed := true, recurses := true, apart := false }
def FnExactValueAtSaid : Prop := fnExactValueAtRow.holds Try.pinned (OpenSpec.ofChange fnExactValueAtSpec)

/-- ITS FALSE NEIGHBOUR: 'it returns false'. Refute it at one input. -/
def fnExactValueAtWrong : ChangeSpec := { name := "fnExactValueAt", fn := fun _ => fun
  | [d1, d2] => { results := [.lit (.bool false)], args := [d1, d2] }
  | _ => none }
def FnExactValueAtWrongFalsely : Prop := fnExactValueAtRow.holds Try.pinned (OpenSpec.ofChange fnExactValueAtWrong)

/-- 'laws.FnExactValidDots': WHATEVER THE INPUT: true; the input reads as it did. -/
def fnExactValidDotsSpec : ChangeSpec := { name := "fnExactValidDots", fn := fun _ => fun
  | [d] => { results := [.lit (.bool true)], args := [d] }
  | _ => none }
def fnExactValidDotsRow : OpenClaim := { program := "ytgeeggfedopeeaa", sum := "766a1dd81c0294e01891b84174bcf96f243b0e7265529dac27485172655246bf", func := "loop.example/g01390/laws.FnExactValidDots", spec := "fnExactValidDots", unfollowed := true, recurses := true, apart := false }
def FnExactValidDotsSaid : Prop := fnExactValidDotsRow.holds Try.pinned (OpenSpec.ofChange fnExactValidDotsSpec)

/-- ITS FALSE NEIGHBOUR: 'it returns false'. Refute it at one input. -/
def fnExactValidDotsWrong : ChangeSpec := { name := "fnExactValidDots", fn := fun _ => fun
  | [d] => { results := [.lit (.bool false)], args := [d] }
  | _ => none }
def FnExactValidDotsWrongFalsely : Prop := fnExactValidDotsRow.holds Try.pinned (OpenSpec.ofChange fnExactValidDotsWrong)

/-- 'laws.FnExactSameDots': WHATEVER THE INPUT: true; the input reads as it did. -/
def fnExactSameDotsSpec : ChangeSpec := { name := "fnExactSameDots", fn := fun _ => fun
  | [d1, d2] => { results := [.lit (.bool true)], args := [d1, d2] }
  | _ => none }
def fnExactSameDotsRow : OpenClaim := { program := "ytgeeggfedopeeaa", sum := "766a1dd81c0294e01891b84174bcf96f243b0e7265529dac27485172655246bf", func := "loop.example/g01390/laws.FnExactSameDots", spec := "fnExactSameDots", inPlace := ["math.Float32bits"], unfollowed := true, recurses := true, apart := false }
def FnExactSameDotsSaid : Prop := fnExactSameDotsRow.holds Try.pinned (OpenSpec.ofChange fnExactSameDotsSpec)

/-- ITS FALSE NEIGHBOUR: 'it returns false'. Refute it at one input. -/
def fnExactSameDotsWrong : ChangeSpec := { name := "fnExactSameDots", fn := fun _ => fun
  | [d1, d2] => { results := [.lit (.bool false)], args := [d1, d2] }
  | _ => none }
def FnExactSameDotsWrongFalsely : Prop := fnExactSameDotsRow.holds Try.pinned (OpenSpec.ofChange fnExactSameDotsWrong)

/-- 'laws.FnExactSumsOf': WHATEVER THE INPUT: true; the input reads as it did. -/
def fnExactSumsOfSpec : ChangeSpec := { name := "fnExactSumsOf", fn := fun _ => fun
  | [d] => { results := [.lit (.bool true)], args := [d] }
  | _ => none }
def fnExactSumsOfRow : OpenClaim := { program := "ytgeeggfedopeeaa", sum := "766a1dd81c0294e01891b84174bcf96f243b0e7265529dac27485172655246bf", func := "loop.example/g01390/laws.FnExactSumsOf", spec := "fnExactSumsOf", unfollowed := true, recurses := true, apart := false }
def FnExactSumsOfSaid : Prop := fnExactSumsOfRow.holds Try.pinned (OpenSpec.ofChange fnExactSumsOfSpec)

/-- ITS FALSE NEIGHBOUR: 'it returns false'. Refute it at one input. -/
def fnExactSumsOfWrong : ChangeSpec := { name := "fnExactSumsOf", fn := fun _ => fun
  | [d] => { results := [.lit (.bool false)], args := [d] }
  | _ => none }
def FnExactSumsOfWrongFalsely : Prop := fnExactSumsOfRow.holds Try.pinned (OpenSpec.ofChange fnExactSumsOfWrong)

/-- 'laws.FnExactPairSumsOf': WHATEVER THE INPUT: true; the input reads as it did. -/
def fnExactPairSumsOfSpec : ChangeSpec := { name := "fnExactPairSumsOf", fn := fun _ => fun
  | [d] => { results := [.lit (.bool true)], args := [d] }
  | _ => none }
def fnExactPairSumsOfRow : OpenClaim := { program := "ytgeeggfedopeeaa", sum := "766a1dd81c0294e01891b84174bcf96f243b0e7265529dac27485172655246bf", func := "loop.example/g01390/laws.FnExactPairSumsOf", spec := "fnExactPairSumsOf", unfollowed := true, recurses := true, apart := false }
def FnExactPairSumsOfSaid : Prop := fnExactPairSumsOfRow.holds Try.pinned (OpenSpec.ofChange fnExactPairSumsOfSpec)

/-- ITS FALSE NEIGHBOUR: 'it returns false'. Refute it at one input. -/
def fnExactPairSumsOfWrong : ChangeSpec := { name := "fnExactPairSumsOf", fn := fun _ => fun
  | [d] => { results := [.lit (.bool false)], args := [d] }
  | _ => none }
def FnExactPairSumsOfWrongFalsely : Prop := fnExactPairSumsOfRow.holds Try.pinned (OpenSpec.ofChange fnExactPairSumsOfWrong)

/-- 'laws.FnExactFitLine': WHATEVER THE INPUT: true; the input reads as it did. -/
def fnExactFitLineSpec : ChangeSpec := { name := "fnExactFitLine", fn := fun _ => fun
  | [d] => { results := [.lit (.bool true)], args := [d] }
  | _ => none }
def fnExactFitLineRow : OpenClaim := { program := "ytgeeggfedopeeaa", sum := "766a1dd81c0294e01891b84174bcf96f243b0e7265529dac27485172655246bf", func := "loop.example/g01390/laws.FnExactFitLine", spec := "fnExactFitLine", unfollowed := true, recurses := true, apart := false }
def FnExactFitLineSaid : Prop := fnExactFitLineRow.holds Try.pinned (OpenSpec.ofChange fnExactFitLineSpec)

/-- ITS FALSE NEIGHBOUR: 'it returns false'. Refute it at one input. -/
def fnExactFitLineWrong : ChangeSpec := { name := "fnExactFitLine", fn := fun _ => fun
  | [d] => { results := [.lit (.bool false)], args := [d] }
  | _ => none }
def FnExactFitLineWrongFalsely : Prop := fnExactFitLineRow.holds Try.pinned (OpenSpec.ofChange fnExactFitLineWrong)

/-- 'laws.FnExactFitPairs': WHATEVER THE INPUT: true; the input reads as it did. -/
def fnExactFitPairsSpec : ChangeSpec := { name := "fnExactFitPairs", fn := fun _ => fun
  | [d] => { results := [.lit (.bool true)], args := [d] }
  | _ => none }
def fnExactFitPairsRow : OpenClaim := { program := "ytgeeggfedopeeaa", sum := "766a1dd81c0294e01891b84174bcf96f243b0e7265529dac27485172655246bf", func := "loop.example/g01390/laws.FnExactFitPairs", spec := "fnExactFitPairs", unfollowed := true, recurses := true, apart := false }
def FnExactFitPairsSaid : Prop := fnExactFitPairsRow.holds Try.pinned (OpenSpec.ofChange fnExactFitPairsSpec)

/-- ITS FALSE NEIGHBOUR: 'it returns false'. Refute it at one input. -/
def fnExactFitPairsWrong : ChangeSpec := { name := "fnExactFitPairs", fn := fun _ => fun
  | [d] => { results := [.lit (.bool false)], args := [d] }
  | _ => none }
def FnExactFitPairsWrongFalsely : Prop := fnExactFitPairsRow.holds Try.pinned (OpenSpec.ofChange fnExactFitPairsWrong)

/-- 'laws.FnExactFitModel': WHATEVER THE INPUT: true; the input reads as it did. -/
def fnExactFitModelSpec : ChangeSpec := { name := "fnExactFitModel", fn := fun _ => fun
  | [d1, d2] => { results := [.lit (.bool true)], args := [d1, d2] }
  | _ => none }
def fnExactFitModelRow : OpenClaim := { program := "ytgeeggfedopeeaa", sum := "766a1dd81c0294e01891b84174bcf96f243b0e7265529dac27485172655246bf", func := "loop.example/g01390/laws.FnExactFitModel", spec := "fnExactFitModel", unfollowed := true, recurses := true, apart := false }
def FnExactFitModelSaid : Prop := fnExactFitModelRow.holds Try.pinned (OpenSpec.ofChange fnExactFitModelSpec)

/-- ITS FALSE NEIGHBOUR: 'it returns false'. Refute it at one input. -/
def fnExactFitModelWrong : ChangeSpec := { name := "fnExactFitModel", fn := fun _ => fun
  | [d1, d2] => { results := [.lit (.bool false)], args := [d1, d2] }
  | _ => none }
def FnExactFitModelWrongFalsely : Prop := fnExactFitModelRow.holds Try.pinned (OpenSpec.ofChange fnExactFitModelWrong)

/-- 'laws.FnExactMiddleSlope': WHATEVER THE INPUT: true; the input reads as it did. -/
def fnExactMiddleSlopeSpec : ChangeSpec := { name := "fnExactMiddleSlope", fn := fun _ => fun
  | [d] => { results := [.lit (.bool true)], args := [d] }
  | _ => none }
def fnExactMiddleSlopeRow : OpenClaim := { program := "ytgeeggfedopeeaa", sum := "766a1dd81c0294e01891b84174bcf96f243b0e7265529dac27485172655246bf", func := "loop.example/g01390/laws.FnExactMiddleSlope", spec := "fnExactMiddleSlope", unfollowed := true, recurses := true, apart := false }
def FnExactMiddleSlopeSaid : Prop := fnExactMiddleSlopeRow.holds Try.pinned (OpenSpec.ofChange fnExactMiddleSlopeSpec)

/-- ITS FALSE NEIGHBOUR: 'it returns false'. Refute it at one input. -/
def fnExactMiddleSlopeWrong : ChangeSpec := { name := "fnExactMiddleSlope", fn := fun _ => fun
  | [d] => { results := [.lit (.bool false)], args := [d] }
  | _ => none }
def FnExactMiddleSlopeWrongFalsely : Prop := fnExactMiddleSlopeRow.holds Try.pinned (OpenSpec.ofChange fnExactMiddleSlopeWrong)

/- THE SECOND FORM. 'bulk': how many values and letters a reading holds, each counted each time it is reached (what is shared counts as often as it is met; a slice's spare places count too). A statement '..UptoSaid' is the law's where the arguments, and the package variables that the reading takes, are together of bulk at most 1048576: NARROWER than '..Said'. Prove '..Said' where nothing that the law and all that it calls make is longer than what came in: it says more and counts as full. Else prove '..UptoSaid'. A law counts once. -/
mutual
def uptoBulk {H : Type} : DataW H → Nat
  | .lit (.string bytes) => bytes.length + 1
  | .lit _ => 1
  | .nil => 1
  | .ptr d => uptoBulk d + 1
  | .slice elems spare => uptoBulkAll elems + uptoBulkAll spare + 1
  | .agg parts => uptoBulkAll parts + 1
  | .iface _ d => uptoBulk d + 1
  | .map entries => uptoBulkEntries entries + 1
  | .held _ => 1
def uptoBulkAll {H : Type} : List (DataW H) → Nat
  | [] => 0
  | d :: r => uptoBulk d + uptoBulkAll r
def uptoBulkEntries {H : Type} : List (Lit × DataW H) → Nat
  | [] => 0
  | x :: r => uptoBulkEntry x + uptoBulkEntries r
def uptoBulkEntry {H : Type} : Lit × DataW H → Nat
  | (.string bytes, d) => bytes.length + uptoBulk d + 1
  | (_, d) => uptoBulk d + 1
 end
def uptoSmall : (H : Type) → List (DataW H) → Bool := fun _ ds => decide (uptoBulkAll ds ≤ 1048576)
def OpenSpec.upto (s : _root_.Go.ChangeSpec) : _root_.Go.OpenSpec := { _root_.Go.OpenSpec.ofChange s with cond := some uptoSmall }

/-- 'laws.FnExactValidLine', WHERE WHAT IT READS IS OF BULK AT MOST 1048576: true; the input reads as it did. -/
def fnExactValidLineUptoRow : OpenClaim := { program := "ytgeeggfedopeeaa", sum := "766a1dd81c0294e01891b84174bcf96f243b0e7265529dac27485172655246bf", func := "loop.example/g01390/laws.FnExactValidLine", spec := "fnExactValidLine", unfollowed := true, recurses := true, apart := false, narrowed := true }
def FnExactValidLineUptoSaid : Prop := fnExactValidLineUptoRow.holds Try.pinned (OpenSpec.upto fnExactValidLineSpec)

/-- 'laws.FnExactValueAt', WHERE WHAT IT READS IS OF BULK AT MOST 1048576: true; the input reads as it did. -/
def fnExactValueAtUptoRow : OpenClaim := { program := "ytgeeggfedopeeaa", sum := "766a1dd81c0294e01891b84174bcf96f243b0e7265529dac27485172655246bf", func := "loop.example/g01390/laws.FnExactValueAt", spec := "fnExactValueAt", unfollowed := true, recurses := true, apart := false, narrowed := true }
def FnExactValueAtUptoSaid : Prop := fnExactValueAtUptoRow.holds Try.pinned (OpenSpec.upto fnExactValueAtSpec)

/-- 'laws.FnExactValidDots', WHERE WHAT IT READS IS OF BULK AT MOST 1048576: true; the input reads as it did. -/
def fnExactValidDotsUptoRow : OpenClaim := { program := "ytgeeggfedopeeaa", sum := "766a1dd81c0294e01891b84174bcf96f243b0e7265529dac27485172655246bf", func := "loop.example/g01390/laws.FnExactValidDots", spec := "fnExactValidDots", unfollowed := true, recurses := true, apart := false, narrowed := true }
def FnExactValidDotsUptoSaid : Prop := fnExactValidDotsUptoRow.holds Try.pinned (OpenSpec.upto fnExactValidDotsSpec)

/-- 'laws.FnExactSameDots', WHERE WHAT IT READS IS OF BULK AT MOST 1048576: true; the input reads as it did. -/
def fnExactSameDotsUptoRow : OpenClaim := { program := "ytgeeggfedopeeaa", sum := "766a1dd81c0294e01891b84174bcf96f243b0e7265529dac27485172655246bf", func := "loop.example/g01390/laws.FnExactSameDots", spec := "fnExactSameDots", inPlace := ["math.Float32bits"], unfollowed := true, recurses := true, apart := false, narrowed := true }
def FnExactSameDotsUptoSaid : Prop := fnExactSameDotsUptoRow.holds Try.pinned (OpenSpec.upto fnExactSameDotsSpec)

/-- 'laws.FnExactSumsOf', WHERE WHAT IT READS IS OF BULK AT MOST 1048576: true; the input reads as it did. -/
def fnExactSumsOfUptoRow : OpenClaim := { program := "ytgeeggfedopeeaa", sum := "766a1dd81c0294e01891b84174bcf96f243b0e7265529dac27485172655246bf", func := "loop.example/g01390/laws.FnExactSumsOf", spec := "fnExactSumsOf", unfollowed := true, recurses := true, apart := false, narrowed := true }
def FnExactSumsOfUptoSaid : Prop := fnExactSumsOfUptoRow.holds Try.pinned (OpenSpec.upto fnExactSumsOfSpec)

/-- 'laws.FnExactPairSumsOf', WHERE WHAT IT READS IS OF BULK AT MOST 1048576: true; the input reads as it did. -/
def fnExactPairSumsOfUptoRow : OpenClaim := { program := "ytgeeggfedopeeaa", sum := "766a1dd81c0294e01891b84174bcf96f243b0e7265529dac27485172655246bf", func := "loop.example/g01390/laws.FnExactPairSumsOf", spec := "fnExactPairSumsOf", unfollowed := true, recurses := true, apart := false, narrowed := true }
def FnExactPairSumsOfUptoSaid : Prop := fnExactPairSumsOfUptoRow.holds Try.pinned (OpenSpec.upto fnExactPairSumsOfSpec)

/-- 'laws.FnExactFitLine', WHERE WHAT IT READS IS OF BULK AT MOST 1048576: true; the input reads as it did. -/
def fnExactFitLineUptoRow : OpenClaim := { program := "ytgeeggfedopeeaa", sum := "766a1dd81c0294e01891b84174bcf96f243b0e7265529dac27485172655246bf", func := "loop.example/g01390/laws.FnExactFitLine", spec := "fnExactFitLine", unfollowed := true, recurses := true, apart := false, narrowed := true }
def FnExactFitLineUptoSaid : Prop := fnExactFitLineUptoRow.holds Try.pinned (OpenSpec.upto fnExactFitLineSpec)

/-- 'laws.FnExactFitPairs', WHERE WHAT IT READS IS OF BULK AT MOST 1048576: true; the input reads as it did. -/
def fnExactFitPairsUptoRow : OpenClaim := { program := "ytgeeggfedopeeaa", sum := "766a1dd81c0294e01891b84174bcf96f243b0e7265529dac27485172655246bf", func := "loop.example/g01390/laws.FnExactFitPairs", spec := "fnExactFitPairs", unfollowed := true, recurses := true, apart := false, narrowed := true }
def FnExactFitPairsUptoSaid : Prop := fnExactFitPairsUptoRow.holds Try.pinned (OpenSpec.upto fnExactFitPairsSpec)

/-- 'laws.FnExactFitModel', WHERE WHAT IT READS IS OF BULK AT MOST 1048576: true; the input reads as it did. -/
def fnExactFitModelUptoRow : OpenClaim := { program := "ytgeeggfedopeeaa", sum := "766a1dd81c0294e01891b84174bcf96f243b0e7265529dac27485172655246bf", func := "loop.example/g01390/laws.FnExactFitModel", spec := "fnExactFitModel", unfollowed := true, recurses := true, apart := false, narrowed := true }
def FnExactFitModelUptoSaid : Prop := fnExactFitModelUptoRow.holds Try.pinned (OpenSpec.upto fnExactFitModelSpec)

/-- 'laws.FnExactMiddleSlope', WHERE WHAT IT READS IS OF BULK AT MOST 1048576: true; the input reads as it did. -/
def fnExactMiddleSlopeUptoRow : OpenClaim := { program := "ytgeeggfedopeeaa", sum := "766a1dd81c0294e01891b84174bcf96f243b0e7265529dac27485172655246bf", func := "loop.example/g01390/laws.FnExactMiddleSlope", spec := "fnExactMiddleSlope", unfollowed := true, recurses := true, apart := false, narrowed := true }
def FnExactMiddleSlopeUptoSaid : Prop := fnExactMiddleSlopeUptoRow.holds Try.pinned (OpenSpec.upto fnExactMiddleSlopeSpec)

end Rows
end Go.Proofs.Ytgeeggfedopeeaa
