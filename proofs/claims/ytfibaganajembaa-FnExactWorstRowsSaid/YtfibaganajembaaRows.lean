/-
  No cell of these rows narrows 'for every input' (looked for: loops, veiled, ifaces, maps, wideKeys, modest, calm, conditions, laid).
  DERIVED. THE GIVEN ROWS OF THIS SEAT. 11 by the template 'for every input the law returns true; each argument reads behind the call as it read before'; 0 by the template 'total and deterministic' (their statements: YtfibaganajembaaTotals.lean).
  GIVEN WITH THE SEED: the statements are not yours to turn. If you find one false, say at which input.
  Laid BY PROGRAM, IN A SANDBOX (cutbox-rows.mjs): the forced cells as the released guide's own fill.sh prints them over the translation 013b835b1883cc93… (all of the seat's roots in one cut). By AI agents, Wed Nov 11 2026. No macro, syntax, notation, axiom, sorry.
-/
import Derived.Test.YtfibaganajembaaChecked
import GoSem.Claim
import GoSem.ClaimJoined
import GoSem.ClaimMapViews
import Derived.JoinedTies
import Derived.KernelRfl
namespace Go.Proofs.Ytfibaganajembaa
/- THE CELL 'sum', in the pinned program and in every row, IS THE sha256 OF THE DUMP (.gsa) THAT YtfibaganajembaaProg.lean LOADS. Nothing in Lean hashes anything: it is a label: what it is worth is what the hold of that sum in a sandbox is worth. -/
noncomputable def Try.pinned : Pinned := { name := "ytfibaganajembaa", sum := "013b835b1883cc93d04e13bb91348d85be0d841a987d1a6eda8ebf0f15539645", checked := Try.checked }
namespace Rows
def none {H : Type} : Left H := { results := [], args := [] }

/-- 'laws.FnExactWeightOf': WHATEVER THE INPUT: true; the input reads as it did. -/
def fnExactWeightOfSpec : ChangeSpec := { name := "fnExactWeightOf", fn := fun _ => fun
  | [d1, d2] => { results := [.lit (.bool true)], args := [d1, d2] }
  | _ => none }
def fnExactWeightOfRow : OpenClaim := { program := "ytfibaganajembaa", sum := "013b835b1883cc93d04e13bb91348d85be0d841a987d1a6eda8ebf0f15539645", func := "loop.example/g01023/laws.FnExactWeightOf", spec := "fnExactWeightOf", unfollowed := true, recurses := true, apart := false }
def FnExactWeightOfSaid : Prop := fnExactWeightOfRow.holds Try.pinned (OpenSpec.ofChange fnExactWeightOfSpec)

/-- ITS FALSE NEIGHBOUR: 'it returns false'. Refute it at one input. -/
def fnExactWeightOfWrong : ChangeSpec := { name := "fnExactWeightOf", fn := fun _ => fun
  | [d1, d2] => { results := [.lit (.bool false)], args := [d1, d2] }
  | _ => none }
def FnExactWeightOfWrongFalsely : Prop := fnExactWeightOfRow.holds Try.pinned (OpenSpec.ofChange fnExactWeightOfWrong)

/-- 'laws.FnExactAreFlaws': WHATEVER THE INPUT: true; the input reads as it did. -/
def fnExactAreFlawsSpec : ChangeSpec := { name := "fnExactAreFlaws", fn := fun _ => fun
  | [d1, d2] => { results := [.lit (.bool true)], args := [d1, d2] }
  | _ => none }
def fnExactAreFlawsRow : OpenClaim := { program := "ytfibaganajembaa", sum := "013b835b1883cc93d04e13bb91348d85be0d841a987d1a6eda8ebf0f15539645", func := "loop.example/g01023/laws.FnExactAreFlaws", spec := "fnExactAreFlaws", unfollowed := true, recurses := true, apart := false }
def FnExactAreFlawsSaid : Prop := fnExactAreFlawsRow.holds Try.pinned (OpenSpec.ofChange fnExactAreFlawsSpec)

/-- ITS FALSE NEIGHBOUR: 'it returns false'. Refute it at one input. -/
def fnExactAreFlawsWrong : ChangeSpec := { name := "fnExactAreFlaws", fn := fun _ => fun
  | [d1, d2] => { results := [.lit (.bool false)], args := [d1, d2] }
  | _ => none }
def FnExactAreFlawsWrongFalsely : Prop := fnExactAreFlawsRow.holds Try.pinned (OpenSpec.ofChange fnExactAreFlawsWrong)

/-- 'laws.FnExactPointsOf': WHATEVER THE INPUT: true; the input reads as it did. -/
def fnExactPointsOfSpec : ChangeSpec := { name := "fnExactPointsOf", fn := fun _ => fun
  | [d1, d2] => { results := [.lit (.bool true)], args := [d1, d2] }
  | _ => none }
def fnExactPointsOfRow : OpenClaim := { program := "ytfibaganajembaa", sum := "013b835b1883cc93d04e13bb91348d85be0d841a987d1a6eda8ebf0f15539645", func := "loop.example/g01023/laws.FnExactPointsOf", spec := "fnExactPointsOf", unfollowed := true, recurses := true, apart := false }
def FnExactPointsOfSaid : Prop := fnExactPointsOfRow.holds Try.pinned (OpenSpec.ofChange fnExactPointsOfSpec)

/-- ITS FALSE NEIGHBOUR: 'it returns false'. Refute it at one input. -/
def fnExactPointsOfWrong : ChangeSpec := { name := "fnExactPointsOf", fn := fun _ => fun
  | [d1, d2] => { results := [.lit (.bool false)], args := [d1, d2] }
  | _ => none }
def FnExactPointsOfWrongFalsely : Prop := fnExactPointsOfRow.holds Try.pinned (OpenSpec.ofChange fnExactPointsOfWrong)

/-- 'laws.FnExactFlawCounts': WHATEVER THE INPUT: true; the input reads as it did. -/
def fnExactFlawCountsSpec : ChangeSpec := { name := "fnExactFlawCounts", fn := fun _ => fun
  | [d1, d2] => { results := [.lit (.bool true)], args := [d1, d2] }
  | _ => none }
def fnExactFlawCountsRow : OpenClaim := { program := "ytfibaganajembaa", sum := "013b835b1883cc93d04e13bb91348d85be0d841a987d1a6eda8ebf0f15539645", func := "loop.example/g01023/laws.FnExactFlawCounts", spec := "fnExactFlawCounts", unfollowed := true, recurses := true, apart := false }
def FnExactFlawCountsSaid : Prop := fnExactFlawCountsRow.holds Try.pinned (OpenSpec.ofChange fnExactFlawCountsSpec)

/-- ITS FALSE NEIGHBOUR: 'it returns false'. Refute it at one input. -/
def fnExactFlawCountsWrong : ChangeSpec := { name := "fnExactFlawCounts", fn := fun _ => fun
  | [d1, d2] => { results := [.lit (.bool false)], args := [d1, d2] }
  | _ => none }
def FnExactFlawCountsWrongFalsely : Prop := fnExactFlawCountsRow.holds Try.pinned (OpenSpec.ofChange fnExactFlawCountsWrong)

/-- 'laws.FnExactGradeOf': WHATEVER THE INPUT: true; the input reads as it did. -/
def fnExactGradeOfSpec : ChangeSpec := { name := "fnExactGradeOf", fn := fun _ => fun
  | [d1, d2] => { results := [.lit (.bool true)], args := [d1, d2] }
  | _ => none }
def fnExactGradeOfRow : OpenClaim := { program := "ytfibaganajembaa", sum := "013b835b1883cc93d04e13bb91348d85be0d841a987d1a6eda8ebf0f15539645", func := "loop.example/g01023/laws.FnExactGradeOf", spec := "fnExactGradeOf", unfollowed := true, recurses := true, apart := false }
def FnExactGradeOfSaid : Prop := fnExactGradeOfRow.holds Try.pinned (OpenSpec.ofChange fnExactGradeOfSpec)

/-- ITS FALSE NEIGHBOUR: 'it returns false'. Refute it at one input. -/
def fnExactGradeOfWrong : ChangeSpec := { name := "fnExactGradeOf", fn := fun _ => fun
  | [d1, d2] => { results := [.lit (.bool false)], args := [d1, d2] }
  | _ => none }
def FnExactGradeOfWrongFalsely : Prop := fnExactGradeOfRow.holds Try.pinned (OpenSpec.ofChange fnExactGradeOfWrong)

/-- 'laws.FnExactWorstRows': WHATEVER THE INPUT: true; the input reads as it did. -/
def fnExactWorstRowsSpec : ChangeSpec := { name := "fnExactWorstRows", fn := fun _ => fun
  | [d1, d2] => { results := [.lit (.bool true)], args := [d1, d2] }
  | _ => none }
def fnExactWorstRowsRow : OpenClaim := { program := "ytfibaganajembaa", sum := "013b835b1883cc93d04e13bb91348d85be0d841a987d1a6eda8ebf0f15539645", func := "loop.example/g01023/laws.FnExactWorstRows", spec := "fnExactWorstRows", unfollowed := true, recurses := true, apart := false }
def FnExactWorstRowsSaid : Prop := fnExactWorstRowsRow.holds Try.pinned (OpenSpec.ofChange fnExactWorstRowsSpec)

/-- ITS FALSE NEIGHBOUR: 'it returns false'. Refute it at one input. -/
def fnExactWorstRowsWrong : ChangeSpec := { name := "fnExactWorstRows", fn := fun _ => fun
  | [d1, d2] => { results := [.lit (.bool false)], args := [d1, d2] }
  | _ => none }
def FnExactWorstRowsWrongFalsely : Prop := fnExactWorstRowsRow.holds Try.pinned (OpenSpec.ofChange fnExactWorstRowsWrong)

/-- 'laws.FnExactIsWeaving': WHATEVER THE INPUT: true; the input reads as it did. -/
def fnExactIsWeavingSpec : ChangeSpec := { name := "fnExactIsWeaving", fn := fun _ => fun
  | [d] => { results := [.lit (.bool true)], args := [d] }
  | _ => none }
def fnExactIsWeavingRow : OpenClaim := { program := "ytfibaganajembaa", sum := "013b835b1883cc93d04e13bb91348d85be0d841a987d1a6eda8ebf0f15539645", func := "loop.example/g01023/laws.FnExactIsWeaving", spec := "fnExactIsWeaving", unfollowed := true, recurses := true, apart := false }
def FnExactIsWeavingSaid : Prop := fnExactIsWeavingRow.holds Try.pinned (OpenSpec.ofChange fnExactIsWeavingSpec)

/-- ITS FALSE NEIGHBOUR: 'it returns false'. Refute it at one input. -/
def fnExactIsWeavingWrong : ChangeSpec := { name := "fnExactIsWeaving", fn := fun _ => fun
  | [d] => { results := [.lit (.bool false)], args := [d] }
  | _ => none }
def FnExactIsWeavingWrongFalsely : Prop := fnExactIsWeavingRow.holds Try.pinned (OpenSpec.ofChange fnExactIsWeavingWrong)

/-- 'laws.FnExactNextColor': WHATEVER THE INPUT: true; the input reads as it did. -/
def fnExactNextColorSpec : ChangeSpec := { name := "fnExactNextColor", fn := fun _ => fun
  | [d] => { results := [.lit (.bool true)], args := [d] }
  | _ => none }
def fnExactNextColorRow : OpenClaim := { program := "ytfibaganajembaa", sum := "013b835b1883cc93d04e13bb91348d85be0d841a987d1a6eda8ebf0f15539645", func := "loop.example/g01023/laws.FnExactNextColor", spec := "fnExactNextColor", unfollowed := true, recurses := true, apart := false }
def FnExactNextColorSaid : Prop := fnExactNextColorRow.holds Try.pinned (OpenSpec.ofChange fnExactNextColorSpec)

/-- ITS FALSE NEIGHBOUR: 'it returns false'. Refute it at one input. -/
def fnExactNextColorWrong : ChangeSpec := { name := "fnExactNextColor", fn := fun _ => fun
  | [d] => { results := [.lit (.bool false)], args := [d] }
  | _ => none }
def FnExactNextColorWrongFalsely : Prop := fnExactNextColorRow.holds Try.pinned (OpenSpec.ofChange fnExactNextColorWrong)

/-- 'laws.FnExactWovenPart': WHATEVER THE INPUT: true; the input reads as it did. -/
def fnExactWovenPartSpec : ChangeSpec := { name := "fnExactWovenPart", fn := fun _ => fun
  | [d] => { results := [.lit (.bool true)], args := [d] }
  | _ => none }
def fnExactWovenPartRow : OpenClaim := { program := "ytfibaganajembaa", sum := "013b835b1883cc93d04e13bb91348d85be0d841a987d1a6eda8ebf0f15539645", func := "loop.example/g01023/laws.FnExactWovenPart", spec := "fnExactWovenPart", unfollowed := true, recurses := true, apart := false }
def FnExactWovenPartSaid : Prop := fnExactWovenPartRow.holds Try.pinned (OpenSpec.ofChange fnExactWovenPartSpec)

/-- ITS FALSE NEIGHBOUR: 'it returns false'. Refute it at one input. -/
def fnExactWovenPartWrong : ChangeSpec := { name := "fnExactWovenPart", fn := fun _ => fun
  | [d] => { results := [.lit (.bool false)], args := [d] }
  | _ => none }
def FnExactWovenPartWrongFalsely : Prop := fnExactWovenPartRow.holds Try.pinned (OpenSpec.ofChange fnExactWovenPartWrong)

/-- 'laws.FnExactMistakesIn': WHATEVER THE INPUT: true; the input reads as it did. -/
def fnExactMistakesInSpec : ChangeSpec := { name := "fnExactMistakesIn", fn := fun _ => fun
  | [d] => { results := [.lit (.bool true)], args := [d] }
  | _ => none }
def fnExactMistakesInRow : OpenClaim := { program := "ytfibaganajembaa", sum := "013b835b1883cc93d04e13bb91348d85be0d841a987d1a6eda8ebf0f15539645", func := "loop.example/g01023/laws.FnExactMistakesIn", spec := "fnExactMistakesIn", unfollowed := true, recurses := true, apart := false }
def FnExactMistakesInSaid : Prop := fnExactMistakesInRow.holds Try.pinned (OpenSpec.ofChange fnExactMistakesInSpec)

/-- ITS FALSE NEIGHBOUR: 'it returns false'. Refute it at one input. -/
def fnExactMistakesInWrong : ChangeSpec := { name := "fnExactMistakesIn", fn := fun _ => fun
  | [d] => { results := [.lit (.bool false)], args := [d] }
  | _ => none }
def FnExactMistakesInWrongFalsely : Prop := fnExactMistakesInRow.holds Try.pinned (OpenSpec.ofChange fnExactMistakesInWrong)

/-- 'laws.FnExactWovenChart': WHATEVER THE INPUT: true; the input reads as it did. -/
def fnExactWovenChartSpec : ChangeSpec := { name := "fnExactWovenChart", fn := fun _ => fun
  | [d] => { results := [.lit (.bool true)], args := [d] }
  | _ => none }
def fnExactWovenChartRow : OpenClaim := { program := "ytfibaganajembaa", sum := "013b835b1883cc93d04e13bb91348d85be0d841a987d1a6eda8ebf0f15539645", func := "loop.example/g01023/laws.FnExactWovenChart", spec := "fnExactWovenChart", unfollowed := true, recurses := true, apart := false }
def FnExactWovenChartSaid : Prop := fnExactWovenChartRow.holds Try.pinned (OpenSpec.ofChange fnExactWovenChartSpec)

/-- ITS FALSE NEIGHBOUR: 'it returns false'. Refute it at one input. -/
def fnExactWovenChartWrong : ChangeSpec := { name := "fnExactWovenChart", fn := fun _ => fun
  | [d] => { results := [.lit (.bool false)], args := [d] }
  | _ => none }
def FnExactWovenChartWrongFalsely : Prop := fnExactWovenChartRow.holds Try.pinned (OpenSpec.ofChange fnExactWovenChartWrong)

/- THE SECOND FORM. 'bulk': how many values and letters a reading holds, each counted each time it is reached (what is shared counts as often as it is met; a slice's spare places count too). A statement '..UptoSaid' is the law's where the arguments, and the package variables that the reading takes, are together of bulk at most 1048576: NARROWER than '..Said'. Prove '..Said' where nothing that the law and all that it calls make is longer than what came in: it says more and counts as full. Else prove '..UptoSaid'. A law counts once. -/
mutual
def uptoBulk {H : Type} : DataW H → Nat
  | .lit (.string bytes) => bytes.length + 1
  | .lit _ => 1
  | .nil => 1
  | .ptr d => uptoBulk d + 1
  | .slice elems spare => uptoBulkAll elems + uptoBulkAll spare + 1
  | .agg parts => uptoBulkAll parts + 1
  | .iface _ d => uptoBulk d + 1
  | .map entries => uptoBulkEntries entries + 1
  | .held _ => 1
def uptoBulkAll {H : Type} : List (DataW H) → Nat
  | [] => 0
  | d :: r => uptoBulk d + uptoBulkAll r
def uptoBulkEntries {H : Type} : List (Lit × DataW H) → Nat
  | [] => 0
  | x :: r => uptoBulkEntry x + uptoBulkEntries r
def uptoBulkEntry {H : Type} : Lit × DataW H → Nat
  | (.string bytes, d) => bytes.length + uptoBulk d + 1
  | (_, d) => uptoBulk d + 1
 end
def uptoSmall : (H : Type) → List (DataW H) → Bool := fun _ ds => decide (uptoBulkAll ds ≤ 1048576)
def OpenSpec.upto (s : _root_.Go.ChangeSpec) : _root_.Go.OpenSpec := { _root_.Go.OpenSpec.ofChange s with cond := some uptoSmall }

/-- 'laws.FnExactWeightOf', WHERE WHAT IT READS IS OF BULK AT MOST 1048576: true; the input reads as it did. -/
def fnExactWeightOfUptoRow : OpenClaim := { program := "ytfibaganajembaa", sum := "013b835b1883cc93d04e13bb91348d85be0d841a987d1a6eda8ebf0f15539645", func := "loop.example/g01023/laws.FnExactWeightOf", spec := "fnExactWeightOf", unfollowed := true, recurses := true, apart := false, narrowed := true }
def FnExactWeightOfUptoSaid : Prop := fnExactWeightOfUptoRow.holds Try.pinned (OpenSpec.upto fnExactWeightOfSpec)

/-- 'laws.FnExactAreFlaws', WHERE WHAT IT READS IS OF BULK AT MOST 1048576: true; the input reads as it did. -/
def fnExactAreFlawsUptoRow : OpenClaim := { program := "ytfibaganajembaa", sum := "013b835b1883cc93d04e13bb91348d85be0d841a987d1a6eda8ebf0f15539645", func := "loop.example/g01023/laws.FnExactAreFlaws", spec := "fnExactAreFlaws", unfollowed := true, recurses := true, apart := false, narrowed := true }
def FnExactAreFlawsUptoSaid : Prop := fnExactAreFlawsUptoRow.holds Try.pinned (OpenSpec.upto fnExactAreFlawsSpec)

/-- 'laws.FnExactPointsOf', WHERE WHAT IT READS IS OF BULK AT MOST 1048576: true; the input reads as it did. -/
def fnExactPointsOfUptoRow : OpenClaim := { program := "ytfibaganajembaa", sum := "013b835b1883cc93d04e13bb91348d85be0d841a987d1a6eda8ebf0f15539645", func := "loop.example/g01023/laws.FnExactPointsOf", spec := "fnExactPointsOf", unfollowed := true, recurses := true, apart := false, narrowed := true }
def FnExactPointsOfUptoSaid : Prop := fnExactPointsOfUptoRow.holds Try.pinned (OpenSpec.upto fnExactPointsOfSpec)

/-- 'laws.FnExactFlawCounts', WHERE WHAT IT READS IS OF BULK AT MOST 1048576: true; the input reads as it did. -/
def fnExactFlawCountsUptoRow : OpenClaim := { program := "ytfibaganajembaa", sum := "013b835b1883cc93d04e13bb91348d85be0d841a987d1a6eda8ebf0f15539645", func := "loop.example/g01023/laws.FnExactFlawCounts", spec := "fnExactFlawCounts", unfollowed := true, recurses := true, apart := false, narrowed := true }
def FnExactFlawCountsUptoSaid : Prop := fnExactFlawCountsUptoRow.holds Try.pinned (OpenSpec.upto fnExactFlawCountsSpec)

/-- 'laws.FnExactGradeOf', WHERE WHAT IT READS IS OF BULK AT MOST 1048576: true; the input reads as it did. -/
def fnExactGradeOfUptoRow : OpenClaim := { program := "ytfibaganajembaa", sum := "013b835b1883cc93d04e13bb91348d85be0d841a987d1a6eda8ebf0f15539645", func := "loop.example/g01023/laws.FnExactGradeOf", spec := "fnExactGradeOf", unfollowed := true, recurses := true, apart := false, narrowed := true }
def FnExactGradeOfUptoSaid : Prop := fnExactGradeOfUptoRow.holds Try.pinned (OpenSpec.upto fnExactGradeOfSpec)

/-- 'laws.FnExactWorstRows', WHERE WHAT IT READS IS OF BULK AT MOST 1048576: true; the input reads as it did. -/
def fnExactWorstRowsUptoRow : OpenClaim := { program := "ytfibaganajembaa", sum := "013b835b1883cc93d04e13bb91348d85be0d841a987d1a6eda8ebf0f15539645", func := "loop.example/g01023/laws.FnExactWorstRows", spec := "fnExactWorstRows", unfollowed := true, recurses := true, apart := false, narrowed := true }
def FnExactWorstRowsUptoSaid : Prop := fnExactWorstRowsUptoRow.holds Try.pinned (OpenSpec.upto fnExactWorstRowsSpec)

/-- 'laws.FnExactIsWeaving', WHERE WHAT IT READS IS OF BULK AT MOST 1048576: true; the input reads as it did. -/
def fnExactIsWeavingUptoRow : OpenClaim := { program := "ytfibaganajembaa", sum := "013b835b1883cc93d04e13bb91348d85be0d841a987d1a6eda8ebf0f15539645", func := "loop.example/g01023/laws.FnExactIsWeaving", spec := "fnExactIsWeaving", unfollowed := true, recurses := true, apart := false, narrowed := true }
def FnExactIsWeavingUptoSaid : Prop := fnExactIsWeavingUptoRow.holds Try.pinned (OpenSpec.upto fnExactIsWeavingSpec)

/-- 'laws.FnExactNextColor', WHERE WHAT IT READS IS OF BULK AT MOST 1048576: true; the input reads as it did. -/
def fnExactNextColorUptoRow : OpenClaim := { program := "ytfibaganajembaa", sum := "013b835b1883cc93d04e13bb91348d85be0d841a987d1a6eda8ebf0f15539645", func := "loop.example/g01023/laws.FnExactNextColor", spec := "fnExactNextColor", unfollowed := true, recurses := true, apart := false, narrowed := true }
def FnExactNextColorUptoSaid : Prop := fnExactNextColorUptoRow.holds Try.pinned (OpenSpec.upto fnExactNextColorSpec)

/-- 'laws.FnExactWovenPart', WHERE WHAT IT READS IS OF BULK AT MOST 1048576: true; the input reads as it did. -/
def fnExactWovenPartUptoRow : OpenClaim := { program := "ytfibaganajembaa", sum := "013b835b1883cc93d04e13bb91348d85be0d841a987d1a6eda8ebf0f15539645", func := "loop.example/g01023/laws.FnExactWovenPart", spec := "fnExactWovenPart", unfollowed := true, recurses := true, apart := false, narrowed := true }
def FnExactWovenPartUptoSaid : Prop := fnExactWovenPartUptoRow.holds Try.pinned (OpenSpec.upto fnExactWovenPartSpec)

/-- 'laws.FnExactMistakesIn', WHERE WHAT IT READS IS OF BULK AT MOST 1048576: true; the input reads as it did. -/
def fnExactMistakesInUptoRow : OpenClaim := { program := "ytfibaganajembaa", sum := "013b835b1883cc93d04e13bb91348d85be0d841a987d1a6eda8ebf0f15539645", func := "loop.example/g01023/laws.FnExactMistakesIn", spec := "fnExactMistakesIn", unfollowed := true, recurses := true, apart := false, narrowed := true }
def FnExactMistakesInUptoSaid : Prop := fnExactMistakesInUptoRow.holds Try.pinned (OpenSpec.upto fnExactMistakesInSpec)

/-- 'laws.FnExactWovenChart', WHERE WHAT IT READS IS OF BULK AT MOST 1048576: true; the input reads as it did. -/
def fnExactWovenChartUptoRow : OpenClaim := { program := "ytfibaganajembaa", sum := "013b835b1883cc93d04e13bb91348d85be0d841a987d1a6eda8ebf0f15539645", func := "loop.example/g01023/laws.FnExactWovenChart", spec := "fnExactWovenChart", unfollowed := true, recurses := true, apart := false, narrowed := true }
def FnExactWovenChartUptoSaid : Prop := fnExactWovenChartUptoRow.holds Try.pinned (OpenSpec.upto fnExactWovenChartSpec)

end Rows
end Go.Proofs.Ytfibaganajembaa
