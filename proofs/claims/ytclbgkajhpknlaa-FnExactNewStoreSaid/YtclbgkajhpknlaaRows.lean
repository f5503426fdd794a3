/-
  No cell of these rows narrows 'for every input' (looked for: loops, veiled, ifaces, maps, wideKeys, modest, calm, conditions, laid).
  DERIVED. THE GIVEN ROWS OF THIS SEAT. 10 by the template 'for every input the law returns true; each argument reads behind the call as it read before'; 0 by the template 'total and deterministic' (their statements: YtclbgkajhpknlaaTotals.lean).
  GIVEN WITH THE SEED: the statements are not yours to turn. If you find one false, say at which input.
  Laid BY PROGRAM, IN A SANDBOX (cutbox-rows.mjs): the forced cells as the released guide's own fill.sh prints them over the translation 410bd4f51a6b46ce… (all of the seat's roots in one cut). By AI agents, Wed Nov 11 2026. No macro, syntax, notation, axiom, sorry.
-/
import Derived.Test.YtclbgkajhpknlaaChecked
import GoSem.Claim
import GoSem.ClaimJoined
import GoSem.ClaimMapViews
import Derived.JoinedTies
import Derived.KernelRfl
namespace Go.Proofs.Ytclbgkajhpknlaa
/- THE CELL 'sum', in the pinned program and in every row, IS THE sha256 OF THE DUMP (.gsa) THAT YtclbgkajhpknlaaProg.lean LOADS. Nothing in Lean hashes anything: it is a label: what it is worth is what the hold of that sum in a sandbox is worth. -/
noncomputable def Try.pinned : Pinned := { name := "ytclbgkajhpknlaa", sum := "410bd4f51a6b46ce7c60db79472d186fcff05c22565adfe941f289450f3a7b82", checked := Try.checked }
namespace Rows
def none {H : Type} : Left H := { results := [], args := [] }

/-- 'laws.FnExactValidRules': WHATEVER THE INPUT: true; the input reads as it did. -/
def fnExactValidRulesSpec : ChangeSpec := { name := "fnExactValidRules", fn := fun _ => fun
  | [d] => { results := [.lit (.bool true)], args := [d] }
  | _ => none }
def fnExactValidRulesRow : OpenClaim := { program := "ytclbgkajhpknlaa", sum := "410bd4f51a6b46ce7c60db79472d186fcff05c22565adfe941f289450f3a7b82", func := "loop.example/g01390/laws.FnExactValidRules", spec := "fnExactValidRules", unfollowed := true, recurses := true, apart := false }
def FnExactValidRulesSaid : Prop := fnExactValidRulesRow.holds Try.pinned (OpenSpec.ofChange fnExactValidRulesSpec)

/-- ITS FALSE NEIGHBOUR: 'it returns false'. Refute it at one input. -/
def fnExactValidRulesWrong : ChangeSpec := { name := "fnExactValidRules", fn := fun _ => fun
  | [d] => { results := [.lit (.bool false)], args := [d] }
  | _ => none }
def FnExactValidRulesWrongFalsely : Prop := fnExactValidRulesRow.holds Try.pinned (OpenSpec.ofChange fnExactValidRulesWrong)

/-- 'laws.FnExactSameStore': WHATEVER THE INPUT: true; the input reads as it did. -/
def fnExactSameStoreSpec : ChangeSpec := { name := "fnExactSameStore", fn := fun _ => fun
  | [d1, d2] => { results := [.lit (.bool true)], args := [d1, d2] }
  | _ => none }
def fnExactSameStoreRow : OpenClaim := { program := "ytclbgkajhpknlaa", sum := "410bd4f51a6b46ce7c60db79472d186fcff05c22565adfe941f289450f3a7b82", func := "loop.example/g01390/laws.FnExactSameStore", spec := "fnExactSameStore", inPlace := ["math.Float32bits"], unfollowed := true, recurses := true, apart := false }
def FnExactSameStoreSaid : Prop := fnExactSameStoreRow.holds Try.pinned (OpenSpec.ofChange fnExactSameStoreSpec)

/-- ITS FALSE NEIGHBOUR: 'it returns false'. Refute it at one input. -/
def fnExactSameStoreWrong : ChangeSpec := { name := "fnExactSameStore", fn := fun _ => fun
  | [d1, d2] => { results := [.lit (.bool false)], args := [d1, d2] }
  | _ => none }
def FnExactSameStoreWrongFalsely : Prop := fnExactSameStoreRow.holds Try.pinned (OpenSpec.ofChange fnExactSameStoreWrong)

/-- 'laws.FnExactValidStore': WHATEVER THE INPUT: true; the input reads as it did. -/
def fnExactValidStoreSpec : ChangeSpec := { name := "fnExactValidStore", fn := fun _ => fun
  | [d] => { results := [.lit (.bool true)], args := [d] }
  | _ => none }
def fnExactValidStoreRow : OpenClaim := { program := "ytclbgkajhpknlaa", sum := "410bd4f51a6b46ce7c60db79472d186fcff05c22565adfe941f289450f3a7b82", func := "loop.example/g01390/laws.FnExactValidStore", spec := "fnExactValidStore", inPlace := ["math.Float32bits"], unfollowed := true, recurses := true, apart := false }
def FnExactValidStoreSaid : Prop := fnExactValidStoreRow.holds Try.pinned (OpenSpec.ofChange fnExactValidStoreSpec)

/-- ITS FALSE NEIGHBOUR: 'it returns false'. Refute it at one input. -/
def fnExactValidStoreWrong : ChangeSpec := { name := "fnExactValidStore", fn := fun _ => fun
  | [d] => { results := [.lit (.bool false)], args := [d] }
  | _ => none }
def FnExactValidStoreWrongFalsely : Prop := fnExactValidStoreRow.holds Try.pinned (OpenSpec.ofChange fnExactValidStoreWrong)

/-- 'laws.FnExactAllFruits': WHATEVER THE INPUT: true; the input reads as it did. -/
def fnExactAllFruitsSpec : ChangeSpec := { name := "fnExactAllFruits", fn := fun _ => fun
  | [d] => { results := [.lit (.bool true)], args := [d] }
  | _ => none }
def fnExactAllFruitsRow : OpenClaim := { program := "ytclbgkajhpknlaa", sum := "410bd4f51a6b46ce7c60db79472d186fcff05c22565adfe941f289450f3a7b82", func := "loop.example/g01390/laws.FnExactAllFruits", spec := "fnExactAllFruits", inPlace := ["math.Float32bits"], unfollowed := true, recurses := true, apart := false }
def FnExactAllFruitsSaid : Prop := fnExactAllFruitsRow.holds Try.pinned (OpenSpec.ofChange fnExactAllFruitsSpec)

/-- ITS FALSE NEIGHBOUR: 'it returns false'. Refute it at one input. -/
def fnExactAllFruitsWrong : ChangeSpec := { name := "fnExactAllFruits", fn := fun _ => fun
  | [d] => { results := [.lit (.bool false)], args := [d] }
  | _ => none }
def FnExactAllFruitsWrongFalsely : Prop := fnExactAllFruitsRow.holds Try.pinned (OpenSpec.ofChange fnExactAllFruitsWrong)

/-- 'laws.FnExactCountBad': WHATEVER THE INPUT: true; the input reads as it did. -/
def fnExactCountBadSpec : ChangeSpec := { name := "fnExactCountBad", fn := fun _ => fun
  | [d] => { results := [.lit (.bool true)], args := [d] }
  | _ => none }
def fnExactCountBadRow : OpenClaim := { program := "ytclbgkajhpknlaa", sum := "410bd4f51a6b46ce7c60db79472d186fcff05c22565adfe941f289450f3a7b82", func := "loop.example/g01390/laws.FnExactCountBad", spec := "fnExactCountBad", inPlace := ["math.Float32bits"], unfollowed := true, recurses := true, apart := false }
def FnExactCountBadSaid : Prop := fnExactCountBadRow.holds Try.pinned (OpenSpec.ofChange fnExactCountBadSpec)

/-- ITS FALSE NEIGHBOUR: 'it returns false'. Refute it at one input. -/
def fnExactCountBadWrong : ChangeSpec := { name := "fnExactCountBad", fn := fun _ => fun
  | [d] => { results := [.lit (.bool false)], args := [d] }
  | _ => none }
def FnExactCountBadWrongFalsely : Prop := fnExactCountBadRow.holds Try.pinned (OpenSpec.ofChange fnExactCountBadWrong)

/-- 'laws.FnExactNewStore': WHATEVER THE INPUT: true; the input reads as it did. -/
def fnExactNewStoreSpec : ChangeSpec := { name := "fnExactNewStore", fn := fun _ => fun
  | [d] => { results := [.lit (.bool true)], args := [d] }
  | _ => none }
def fnExactNewStoreRow : OpenClaim := { program := "ytclbgkajhpknlaa", sum := "410bd4f51a6b46ce7c60db79472d186fcff05c22565adfe941f289450f3a7b82", func := "loop.example/g01390/laws.FnExactNewStore", spec := "fnExactNewStore", inPlace := ["math.Float32bits"], unfollowed := true, recurses := true, apart := false }
def FnExactNewStoreSaid : Prop := fnExactNewStoreRow.holds Try.pinned (OpenSpec.ofChange fnExactNewStoreSpec)

/-- ITS FALSE NEIGHBOUR: 'it returns false'. Refute it at one input. -/
def fnExactNewStoreWrong : ChangeSpec := { name := "fnExactNewStore", fn := fun _ => fun
  | [d] => { results := [.lit (.bool false)], args := [d] }
  | _ => none }
def FnExactNewStoreWrongFalsely : Prop := fnExactNewStoreRow.holds Try.pinned (OpenSpec.ofChange fnExactNewStoreWrong)

/-- 'laws.FnExactSameSeason': WHATEVER THE INPUT: true; the input reads as it did. -/
def fnExactSameSeasonSpec : ChangeSpec := { name := "fnExactSameSeason", fn := fun _ => fun
  | [d] => { results := [.lit (.bool true)], args := [d] }
  | _ => none }
def fnExactSameSeasonRow : OpenClaim := { program := "ytclbgkajhpknlaa", sum := "410bd4f51a6b46ce7c60db79472d186fcff05c22565adfe941f289450f3a7b82", func := "loop.example/g01390/laws.FnExactSameSeason", spec := "fnExactSameSeason", inPlace := ["math.Float32bits"], unfollowed := true, recurses := true, apart := false }
def FnExactSameSeasonSaid : Prop := fnExactSameSeasonRow.holds Try.pinned (OpenSpec.ofChange fnExactSameSeasonSpec)

/-- ITS FALSE NEIGHBOUR: 'it returns false'. Refute it at one input. -/
def fnExactSameSeasonWrong : ChangeSpec := { name := "fnExactSameSeason", fn := fun _ => fun
  | [d] => { results := [.lit (.bool false)], args := [d] }
  | _ => none }
def FnExactSameSeasonWrongFalsely : Prop := fnExactSameSeasonRow.holds Try.pinned (OpenSpec.ofChange fnExactSameSeasonWrong)

/-- 'laws.FnExactThrowOut': WHATEVER THE INPUT: true; the input reads as it did. -/
def fnExactThrowOutSpec : ChangeSpec := { name := "fnExactThrowOut", fn := fun _ => fun
  | [d] => { results := [.lit (.bool true)], args := [d] }
  | _ => none }
def fnExactThrowOutRow : OpenClaim := { program := "ytclbgkajhpknlaa", sum := "410bd4f51a6b46ce7c60db79472d186fcff05c22565adfe941f289450f3a7b82", func := "loop.example/g01390/laws.FnExactThrowOut", spec := "fnExactThrowOut", inPlace := ["math.Float32bits"], unfollowed := true, recurses := true, apart := false }
def FnExactThrowOutSaid : Prop := fnExactThrowOutRow.holds Try.pinned (OpenSpec.ofChange fnExactThrowOutSpec)

/-- ITS FALSE NEIGHBOUR: 'it returns false'. Refute it at one input. -/
def fnExactThrowOutWrong : ChangeSpec := { name := "fnExactThrowOut", fn := fun _ => fun
  | [d] => { results := [.lit (.bool false)], args := [d] }
  | _ => none }
def FnExactThrowOutWrongFalsely : Prop := fnExactThrowOutRow.holds Try.pinned (OpenSpec.ofChange fnExactThrowOutWrong)

/-- 'laws.FnExactBringIn': WHATEVER THE INPUT: true; the input reads as it did. -/
def fnExactBringInSpec : ChangeSpec := { name := "fnExactBringIn", fn := fun _ => fun
  | [d1, d2] => { results := [.lit (.bool true)], args := [d1, d2] }
  | _ => none }
def fnExactBringInRow : OpenClaim := { program := "ytclbgkajhpknlaa", sum := "410bd4f51a6b46ce7c60db79472d186fcff05c22565adfe941f289450f3a7b82", func := "loop.example/g01390/laws.FnExactBringIn", spec := "fnExactBringIn", inPlace := ["math.Float32bits"], unfollowed := true, recurses := true, apart := false }
def FnExactBringInSaid : Prop := fnExactBringInRow.holds Try.pinned (OpenSpec.ofChange fnExactBringInSpec)

/-- ITS FALSE NEIGHBOUR: 'it returns false'. Refute it at one input. -/
def fnExactBringInWrong : ChangeSpec := { name := "fnExactBringIn", fn := fun _ => fun
  | [d1, d2] => { results := [.lit (.bool false)], args := [d1, d2] }
  | _ => none }
def FnExactBringInWrongFalsely : Prop := fnExactBringInRow.holds Try.pinned (OpenSpec.ofChange fnExactBringInWrong)

/-- 'laws.FnExactSellRipe': WHATEVER THE INPUT: true; the input reads as it did. -/
def fnExactSellRipeSpec : ChangeSpec := { name := "fnExactSellRipe", fn := fun _ => fun
  | [d1, d2, d3] => { results := [.lit (.bool true)], args := [d1, d2, d3] }
  | _ => none }
def fnExactSellRipeRow : OpenClaim := { program := "ytclbgkajhpknlaa", sum := "410bd4f51a6b46ce7c60db79472d186fcff05c22565adfe941f289450f3a7b82", func := "loop.example/g01390/laws.FnExactSellRipe", spec := "fnExactSellRipe", inPlace := ["math.Float32bits"], unfollowed := true, recurses := true, apart := false }
def FnExactSellRipeSaid : Prop := fnExactSellRipeRow.holds Try.pinned (OpenSpec.ofChange fnExactSellRipeSpec)

/-- ITS FALSE NEIGHBOUR: 'it returns false'. Refute it at one input. -/
def fnExactSellRipeWrong : ChangeSpec := { name := "fnExactSellRipe", fn := fun _ => fun
  | [d1, d2, d3] => { results := [.lit (.bool false)], args := [d1, d2, d3] }
  | _ => none }
def FnExactSellRipeWrongFalsely : Prop := fnExactSellRipeRow.holds Try.pinned (OpenSpec.ofChange fnExactSellRipeWrong)

/- THE SECOND FORM. 'bulk': how many values and letters a reading holds, each counted each time it is reached (what is shared counts as often as it is met; a slice's spare places count too). A statement '..UptoSaid' is the law's where the arguments, and the package variables that the reading takes, are together of bulk at most 1048576: NARROWER than '..Said'. Prove '..Said' where nothing that the law and all that it calls make is longer than what came in: it says more and counts as full. Else prove '..UptoSaid'. A law counts once. -/
mutual
def uptoBulk {H : Type} : DataW H → Nat
  | .lit (.string bytes) => bytes.length + 1
  | .lit _ => 1
  | .nil => 1
  | .ptr d => uptoBulk d + 1
  | .slice elems spare => uptoBulkAll elems + uptoBulkAll spare + 1
  | .agg parts => uptoBulkAll parts + 1
  | .iface _ d => uptoBulk d + 1
  | .map entries => uptoBulkEntries entries + 1
  | .held _ => 1
def uptoBulkAll {H : Type} : List (DataW H) → Nat
  | [] => 0
  | d :: r => uptoBulk d + uptoBulkAll r
def uptoBulkEntries {H : Type} : List (Lit × DataW H) → Nat
  | [] => 0
  | x :: r => uptoBulkEntry x + uptoBulkEntries r
def uptoBulkEntry {H : Type} : Lit × DataW H → Nat
  | (.string bytes, d) => bytes.length + uptoBulk d + 1
  | (_, d) => uptoBulk d + 1
 end
def uptoSmall : (H : Type) → List (DataW H) → Bool := fun _ ds => decide (uptoBulkAll ds ≤ 1048576)
def OpenSpec.upto (s : _root_.Go.ChangeSpec) : _root_.Go.OpenSpec := { _root_.Go.OpenSpec.ofChange s with cond := some uptoSmall }

/-- 'laws.FnExactValidRules', WHERE WHAT IT READS IS OF BULK AT MOST 1048576: true; the input reads as it did. -/
def fnExactValidRulesUptoRow : OpenClaim := { program := "ytclbgkajhpknlaa", sum := "410bd4f51a6b46ce7c60db79472d186fcff05c22565adfe941f289450f3a7b82", func := "loop.example/g01390/laws.FnExactValidRules", spec := "fnExactValidRules", unfollowed := true, recurses := true, apart := false, narrowed := true }
def FnExactValidRulesUptoSaid : Prop := fnExactValidRulesUptoRow.holds Try.pinned (OpenSpec.upto fnExactValidRulesSpec)

/-- 'laws.FnExactSameStore', WHERE WHAT IT READS IS OF BULK AT MOST 1048576: true; the input reads as it did. -/
def fnExactSameStoreUptoRow : OpenClaim := { program := "ytclbgkajhpknlaa", sum := "410bd4f51a6b46ce7c60db79472d186fcff05c22565adfe941f289450f3a7b82", func := "loop.example/g01390/laws.FnExactSameStore", spec := "fnExactSameStore", inPlace := ["math.Float32bits"], unfollowed := true, recurses := true, apart := false, narrowed := true }
def FnExactSameStoreUptoSaid : Prop := fnExactSameStoreUptoRow.holds Try.pinned (OpenSpec.upto fnExactSameStoreSpec)

/-- 'laws.FnExactValidStore', WHERE WHAT IT READS IS OF BULK AT MOST 1048576: true; the input reads as it did. -/
def fnExactValidStoreUptoRow : OpenClaim := { program := "ytclbgkajhpknlaa", sum := "410bd4f51a6b46ce7c60db79472d186fcff05c22565adfe941f289450f3a7b82", func := "loop.example/g01390/laws.FnExactValidStore", spec := "fnExactValidStore", inPlace := ["math.Float32bits"], unfollowed := true, recurses := true, apart := false, narrowed := true }
def FnExactValidStoreUptoSaid : Prop := fnExactValidStoreUptoRow.holds Try.pinned (OpenSpec.upto fnExactValidStoreSpec)

/-- 'laws.FnExactAllFruits', WHERE WHAT IT READS IS OF BULK AT MOST 1048576: true; the input reads as it did. -/
def fnExactAllFruitsUptoRow : OpenClaim := { program := "ytclbgkajhpknlaa", sum := "410bd4f51a6b46ce7c60db79472d186fcff05c22565adfe941f289450f3a7b82", func := "loop.example/g01390/laws.FnExactAllFruits", spec := "fnExactAllFruits", inPlace := ["math.Float32bits"], unfollowed := true, recurses := true, apart := false, narrowed := true }
def FnExactAllFruitsUptoSaid : Prop := fnExactAllFruitsUptoRow.holds Try.pinned (OpenSpec.upto fnExactAllFruitsSpec)

/-- 'laws.FnExactCountBad', WHERE WHAT IT READS IS OF BULK AT MOST 1048576: true; the input reads as it did. -/
def fnExactCountBadUptoRow : OpenClaim := { program := "ytclbgkajhpknlaa", sum := "410bd4f51a6b46ce7c60db79472d186fcff05c22565adfe941f289450f3a7b82", func := "loop.example/g01390/laws.FnExactCountBad", spec := "fnExactCountBad", inPlace := ["math.Float32bits"], unfollowed := true, recurses := true, apart := false, narrowed := true }
def FnExactCountBadUptoSaid : Prop := fnExactCountBadUptoRow.holds Try.pinned (OpenSpec.upto fnExactCountBadSpec)

/-- 'laws.FnExactNewStore', WHERE WHAT IT READS IS OF BULK AT MOST 1048576: true; the input reads as it did. -/
def fnExactNewStoreUptoRow : OpenClaim := { program := "ytclbgkajhpknlaa", sum := "410bd4f51a6b46ce7c60db79472d186fcff05c22565adfe941f289450f3a7b82", func := "loop.example/g01390/laws.FnExactNewStore", spec := "fnExactNewStore", inPlace := ["math.Float32bits"], unfollowed := true, recurses := true, apart := false, narrowed := true }
def FnExactNewStoreUptoSaid : Prop := fnExactNewStoreUptoRow.holds Try.pinned (OpenSpec.upto fnExactNewStoreSpec)

/-- 'laws.FnExactSameSeason', WHERE WHAT IT READS IS OF BULK AT MOST 1048576: true; the input reads as it did. -/
def fnExactSameSeasonUptoRow : OpenClaim := { program := "ytclbgkajhpknlaa", sum := "410bd4f51a6b46ce7c60db79472d186fcff05c22565adfe941f289450f3a7b82", func := "loop.example/g01390/laws.FnExactSameSeason", spec := "fnExactSameSeason", inPlace := ["math.Float32bits"], unfollowed := true, recurses := true, apart := false, narrowed := true }
def FnExactSameSeasonUptoSaid : Prop := fnExactSameSeasonUptoRow.holds Try.pinned (OpenSpec.upto fnExactSameSeasonSpec)

/-- 'laws.FnExactThrowOut', WHERE WHAT IT READS IS OF BULK AT MOST 1048576: true; the input reads as it did. -/
def fnExactThrowOutUptoRow : OpenClaim := { program := "ytclbgkajhpknlaa", sum := "410bd4f51a6b46ce7c60db79472d186fcff05c22565adfe941f289450f3a7b82", func := "loop.example/g01390/laws.FnExactThrowOut", spec := "fnExactThrowOut", inPlace := ["math.Float32bits"], unfollowed := true, recurses := true, apart := false, narrowed := true }
def FnExactThrowOutUptoSaid : Prop := fnExactThrowOutUptoRow.holds Try.pinned (OpenSpec.upto fnExactThrowOutSpec)

/-- 'laws.FnExactBringIn', WHERE WHAT IT READS IS OF BULK AT MOST 1048576: true; the input reads as it did. -/
def fnExactBringInUptoRow : OpenClaim := { program := "ytclbgkajhpknlaa", sum := "410bd4f51a6b46ce7c60db79472d186fcff05c22565adfe941f289450f3a7b82", func := "loop.example/g01390/laws.FnExactBringIn", spec := "fnExactBringIn", inPlace := ["math.Float32bits"], unfollowed := true, recurses := true, apart := false, narrowed := true }
def FnExactBringInUptoSaid : Prop := fnExactBringInUptoRow.holds Try.pinned (OpenSpec.upto fnExactBringInSpec)

/-- 'laws.FnExactSellRipe', WHERE WHAT IT READS IS OF BULK AT MOST 1048576: true; the input reads as it did. -/
def fnExactSellRipeUptoRow : OpenClaim := { program := "ytclbgkajhpknlaa", sum := "410bd4f51a6b46ce7c60db79472d186fcff05c22565adfe941f289450f3a7b82", func := "loop.example/g01390/laws.FnExactSellRipe", spec := "fnExactSellRipe", inPlace := ["math.Float32bits"], unfollowed := true, recurses := true, apart := false, narrowed := true }
def FnExactSellRipeUptoSaid : Prop := fnExactSellRipeUptoRow.holds Try.pinned (OpenSpec.upto fnExactSellRipeSpec)

end Rows
end Go.Proofs.Ytclbgkajhpknlaa
