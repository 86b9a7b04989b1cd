/-
  No cell of these rows narrows 'for every input' (looked for: loops, veiled, ifaces, maps, wideKeys, modest, calm, conditions, laid).
  DERIVED. THE GIVEN ROWS OF THIS SEAT. 12 by the template 'for every input the law returns true; each argument reads behind the call as it read before'; 0 by the template 'total and deterministic' (their statements: YtgohfbelppokcaaTotals.lean).
  GIVEN WITH THE SEED: the statements are not yours to turn. If you find one false, say at which input.
  Laid BY PROGRAM, IN A SANDBOX (cutbox-rows.mjs): the forced cells as the released guide's own fill.sh prints them over the translation b52b68a94ee686b0… (all of the seat's roots in one cut). By AI agents, Wed Nov 11 2026. No macro, syntax, notation, axiom, sorry.
-/
import Derived.Test.YtgohfbelppokcaaChecked
import GoSem.Claim
import GoSem.ClaimJoined
import GoSem.ClaimMapViews
import Derived.JoinedTies
import Derived.KernelRfl
namespace Go.Proofs.Ytgohfbelppokcaa
/- THE CELL 'sum', in the pinned program and in every row, IS THE sha256 OF THE DUMP (.gsa) THAT YtgohfbelppokcaaProg.lean LOADS. Nothing in Lean hashes anything: it is a label: what it is worth is what the hold of that sum in a sandbox is worth. -/
noncomputable def Try.pinned : Pinned := { name := "ytgohfbelppokcaa", sum := "b52b68a94ee686b0bc53b35aa68ae44797c2741c413fd5698f354c9508777539", checked := Try.checked }
namespace Rows
def none {H : Type} : Left H := { results := [], args := [] }

/-- 'laws.FnExactIsGauge': WHATEVER THE INPUT: true; the input reads as it did. -/
def fnExactIsGaugeSpec : ChangeSpec := { name := "fnExactIsGauge", fn := fun _ => fun
  | [d] => { results := [.lit (.bool true)], args := [d] }
  | _ => none }
def fnExactIsGaugeRow : OpenClaim := { program := "ytgohfbelppokcaa", sum := "b52b68a94ee686b0bc53b35aa68ae44797c2741c413fd5698f354c9508777539", func := "loop.example/g01023/laws.FnExactIsGauge", spec := "fnExactIsGauge", apart := false }
def FnExactIsGaugeSaid : Prop := fnExactIsGaugeRow.holds Try.pinned (OpenSpec.ofChange fnExactIsGaugeSpec)

/-- ITS FALSE NEIGHBOUR: 'it returns false'. Refute it at one input. -/
def fnExactIsGaugeWrong : ChangeSpec := { name := "fnExactIsGauge", fn := fun _ => fun
  | [d] => { results := [.lit (.bool false)], args := [d] }
  | _ => none }
def FnExactIsGaugeWrongFalsely : Prop := fnExactIsGaugeRow.holds Try.pinned (OpenSpec.ofChange fnExactIsGaugeWrong)

/-- 'laws.FnExactKnotsPerArea': WHATEVER THE INPUT: true; the input reads as it did. -/
def fnExactKnotsPerAreaSpec : ChangeSpec := { name := "fnExactKnotsPerArea", fn := fun _ => fun
  | [d] => { results := [.lit (.bool true)], args := [d] }
  | _ => none }
def fnExactKnotsPerAreaRow : OpenClaim := { program := "ytgohfbelppokcaa", sum := "b52b68a94ee686b0bc53b35aa68ae44797c2741c413fd5698f354c9508777539", func := "loop.example/g01023/laws.FnExactKnotsPerArea", spec := "fnExactKnotsPerArea", apart := false }
def FnExactKnotsPerAreaSaid : Prop := fnExactKnotsPerAreaRow.holds Try.pinned (OpenSpec.ofChange fnExactKnotsPerAreaSpec)

/-- ITS FALSE NEIGHBOUR: 'it returns false'. Refute it at one input. -/
def fnExactKnotsPerAreaWrong : ChangeSpec := { name := "fnExactKnotsPerArea", fn := fun _ => fun
  | [d] => { results := [.lit (.bool false)], args := [d] }
  | _ => none }
def FnExactKnotsPerAreaWrongFalsely : Prop := fnExactKnotsPerAreaRow.holds Try.pinned (OpenSpec.ofChange fnExactKnotsPerAreaWrong)

/-- 'laws.FnExactKnotsForSize': WHATEVER THE INPUT: true; the input reads as it did. -/
def fnExactKnotsForSizeSpec : ChangeSpec := { name := "fnExactKnotsForSize", fn := fun _ => fun
  | [d1, d2, d3] => { results := [.lit (.bool true)], args := [d1, d2, d3] }
  | _ => none }
def fnExactKnotsForSizeRow : OpenClaim := { program := "ytgohfbelppokcaa", sum := "b52b68a94ee686b0bc53b35aa68ae44797c2741c413fd5698f354c9508777539", func := "loop.example/g01023/laws.FnExactKnotsForSize", spec := "fnExactKnotsForSize", apart := false }
def FnExactKnotsForSizeSaid : Prop := fnExactKnotsForSizeRow.holds Try.pinned (OpenSpec.ofChange fnExactKnotsForSizeSpec)

/-- ITS FALSE NEIGHBOUR: 'it returns false'. Refute it at one input. -/
def fnExactKnotsForSizeWrong : ChangeSpec := { name := "fnExactKnotsForSize", fn := fun _ => fun
  | [d1, d2, d3] => { results := [.lit (.bool false)], args := [d1, d2, d3] }
  | _ => none }
def FnExactKnotsForSizeWrongFalsely : Prop := fnExactKnotsForSizeRow.holds Try.pinned (OpenSpec.ofChange fnExactKnotsForSizeWrong)

/-- 'laws.FnExactIsMeasure': WHATEVER THE INPUT: true; the input reads as it did. -/
def fnExactIsMeasureSpec : ChangeSpec := { name := "fnExactIsMeasure", fn := fun _ => fun
  | [d] => { results := [.lit (.bool true)], args := [d] }
  | _ => none }
def fnExactIsMeasureRow : OpenClaim := { program := "ytgohfbelppokcaa", sum := "b52b68a94ee686b0bc53b35aa68ae44797c2741c413fd5698f354c9508777539", func := "loop.example/g01023/laws.FnExactIsMeasure", spec := "fnExactIsMeasure", unfollowed := true, recurses := true, apart := false }
def FnExactIsMeasureSaid : Prop := fnExactIsMeasureRow.holds Try.pinned (OpenSpec.ofChange fnExactIsMeasureSpec)

/-- ITS FALSE NEIGHBOUR: 'it returns false'. Refute it at one input. -/
def fnExactIsMeasureWrong : ChangeSpec := { name := "fnExactIsMeasure", fn := fun _ => fun
  | [d] => { results := [.lit (.bool false)], args := [d] }
  | _ => none }
def FnExactIsMeasureWrongFalsely : Prop := fnExactIsMeasureRow.holds Try.pinned (OpenSpec.ofChange fnExactIsMeasureWrong)

/-- 'laws.FnExactStraightenBy': WHATEVER THE INPUT: true; the input reads as it did. -/
def fnExactStraightenBySpec : ChangeSpec := { name := "fnExactStraightenBy", fn := fun _ => fun
  | [d] => { results := [.lit (.bool true)], args := [d] }
  | _ => none }
def fnExactStraightenByRow : OpenClaim := { program := "ytgohfbelppokcaa", sum := "b52b68a94ee686b0bc53b35aa68ae44797c2741c413fd5698f354c9508777539", func := "loop.example/g01023/laws.FnExactStraightenBy", spec := "fnExactStraightenBy", unfollowed := true, recurses := true, apart := false }
def FnExactStraightenBySaid : Prop := fnExactStraightenByRow.holds Try.pinned (OpenSpec.ofChange fnExactStraightenBySpec)

/-- ITS FALSE NEIGHBOUR: 'it returns false'. Refute it at one input. -/
def fnExactStraightenByWrong : ChangeSpec := { name := "fnExactStraightenBy", fn := fun _ => fun
  | [d] => { results := [.lit (.bool false)], args := [d] }
  | _ => none }
def FnExactStraightenByWrongFalsely : Prop := fnExactStraightenByRow.holds Try.pinned (OpenSpec.ofChange fnExactStraightenByWrong)

/-- 'laws.FnExactSkewOf': WHATEVER THE INPUT: true; the input reads as it did. -/
def fnExactSkewOfSpec : ChangeSpec := { name := "fnExactSkewOf", fn := fun _ => fun
  | [d] => { results := [.lit (.bool true)], args := [d] }
  | _ => none }
def fnExactSkewOfRow : OpenClaim := { program := "ytgohfbelppokcaa", sum := "b52b68a94ee686b0bc53b35aa68ae44797c2741c413fd5698f354c9508777539", func := "loop.example/g01023/laws.FnExactSkewOf", spec := "fnExactSkewOf", unfollowed := true, recurses := true, apart := false }
def FnExactSkewOfSaid : Prop := fnExactSkewOfRow.holds Try.pinned (OpenSpec.ofChange fnExactSkewOfSpec)

/-- ITS FALSE NEIGHBOUR: 'it returns false'. Refute it at one input. -/
def fnExactSkewOfWrong : ChangeSpec := { name := "fnExactSkewOf", fn := fun _ => fun
  | [d] => { results := [.lit (.bool false)], args := [d] }
  | _ => none }
def FnExactSkewOfWrongFalsely : Prop := fnExactSkewOfRow.holds Try.pinned (OpenSpec.ofChange fnExactSkewOfWrong)

/-- 'laws.FnExactSizeOf': WHATEVER THE INPUT: true; the input reads as it did. -/
def fnExactSizeOfSpec : ChangeSpec := { name := "fnExactSizeOf", fn := fun _ => fun
  | [d1, d2] => { results := [.lit (.bool true)], args := [d1, d2] }
  | _ => none }
def fnExactSizeOfRow : OpenClaim := { program := "ytgohfbelppokcaa", sum := "b52b68a94ee686b0bc53b35aa68ae44797c2741c413fd5698f354c9508777539", func := "loop.example/g01023/laws.FnExactSizeOf", spec := "fnExactSizeOf", unfollowed := true, recurses := true, apart := false }
def FnExactSizeOfSaid : Prop := fnExactSizeOfRow.holds Try.pinned (OpenSpec.ofChange fnExactSizeOfSpec)

/-- ITS FALSE NEIGHBOUR: 'it returns false'. Refute it at one input. -/
def fnExactSizeOfWrong : ChangeSpec := { name := "fnExactSizeOf", fn := fun _ => fun
  | [d1, d2] => { results := [.lit (.bool false)], args := [d1, d2] }
  | _ => none }
def FnExactSizeOfWrongFalsely : Prop := fnExactSizeOfRow.holds Try.pinned (OpenSpec.ofChange fnExactSizeOfWrong)

/-- 'laws.FnExactAspectOf': WHATEVER THE INPUT: true; the input reads as it did. -/
def fnExactAspectOfSpec : ChangeSpec := { name := "fnExactAspectOf", fn := fun _ => fun
  | [d1, d2] => { results := [.lit (.bool true)], args := [d1, d2] }
  | _ => none }
def fnExactAspectOfRow : OpenClaim := { program := "ytgohfbelppokcaa", sum := "b52b68a94ee686b0bc53b35aa68ae44797c2741c413fd5698f354c9508777539", func := "loop.example/g01023/laws.FnExactAspectOf", spec := "fnExactAspectOf", unfollowed := true, recurses := true, apart := false }
def FnExactAspectOfSaid : Prop := fnExactAspectOfRow.holds Try.pinned (OpenSpec.ofChange fnExactAspectOfSpec)

/-- ITS FALSE NEIGHBOUR: 'it returns false'. Refute it at one input. -/
def fnExactAspectOfWrong : ChangeSpec := { name := "fnExactAspectOf", fn := fun _ => fun
  | [d1, d2] => { results := [.lit (.bool false)], args := [d1, d2] }
  | _ => none }
def FnExactAspectOfWrongFalsely : Prop := fnExactAspectOfRow.holds Try.pinned (OpenSpec.ofChange fnExactAspectOfWrong)

/-- 'laws.FnExactWithinSize': WHATEVER THE INPUT: true; the input reads as it did. -/
def fnExactWithinSizeSpec : ChangeSpec := { name := "fnExactWithinSize", fn := fun _ => fun
  | [d1, d2, d3, d4] => { results := [.lit (.bool true)], args := [d1, d2, d3, d4] }
  | _ => none }
def fnExactWithinSizeRow : OpenClaim := { program := "ytgohfbelppokcaa", sum := "b52b68a94ee686b0bc53b35aa68ae44797c2741c413fd5698f354c9508777539", func := "loop.example/g01023/laws.FnExactWithinSize", spec := "fnExactWithinSize", unfollowed := true, recurses := true, apart := false }
def FnExactWithinSizeSaid : Prop := fnExactWithinSizeRow.holds Try.pinned (OpenSpec.ofChange fnExactWithinSizeSpec)

/-- ITS FALSE NEIGHBOUR: 'it returns false'. Refute it at one input. -/
def fnExactWithinSizeWrong : ChangeSpec := { name := "fnExactWithinSize", fn := fun _ => fun
  | [d1, d2, d3, d4] => { results := [.lit (.bool false)], args := [d1, d2, d3, d4] }
  | _ => none }
def FnExactWithinSizeWrongFalsely : Prop := fnExactWithinSizeRow.holds Try.pinned (OpenSpec.ofChange fnExactWithinSizeWrong)

/-- 'laws.FnExactOffSize': WHATEVER THE INPUT: true; the input reads as it did. -/
def fnExactOffSizeSpec : ChangeSpec := { name := "fnExactOffSize", fn := fun _ => fun
  | [d1, d2, d3] => { results := [.lit (.bool true)], args := [d1, d2, d3] }
  | _ => none }
def fnExactOffSizeRow : OpenClaim := { program := "ytgohfbelppokcaa", sum := "b52b68a94ee686b0bc53b35aa68ae44797c2741c413fd5698f354c9508777539", func := "loop.example/g01023/laws.FnExactOffSize", spec := "fnExactOffSize", unfollowed := true, recurses := true, apart := false }
def FnExactOffSizeSaid : Prop := fnExactOffSizeRow.holds Try.pinned (OpenSpec.ofChange fnExactOffSizeSpec)

/-- ITS FALSE NEIGHBOUR: 'it returns false'. Refute it at one input. -/
def fnExactOffSizeWrong : ChangeSpec := { name := "fnExactOffSize", fn := fun _ => fun
  | [d1, d2, d3] => { results := [.lit (.bool false)], args := [d1, d2, d3] }
  | _ => none }
def FnExactOffSizeWrongFalsely : Prop := fnExactOffSizeRow.holds Try.pinned (OpenSpec.ofChange fnExactOffSizeWrong)

/-- 'laws.FnSizes': WHATEVER THE INPUT: true; the input reads as it did. -/
def fnSizesSpec : ChangeSpec := { name := "fnSizes", fn := fun _ => fun
  | [d] => { results := [.lit (.bool true)], args := [d] }
  | _ => none }
def fnSizesRow : OpenClaim := { program := "ytgohfbelppokcaa", sum := "b52b68a94ee686b0bc53b35aa68ae44797c2741c413fd5698f354c9508777539", func := "loop.example/g01023/laws.FnSizes", spec := "fnSizes", unfollowed := true, recurses := true, apart := false }
def FnSizesSaid : Prop := fnSizesRow.holds Try.pinned (OpenSpec.ofChange fnSizesSpec)

/-- ITS FALSE NEIGHBOUR: 'it returns false'. Refute it at one input. -/
def fnSizesWrong : ChangeSpec := { name := "fnSizes", fn := fun _ => fun
  | [d] => { results := [.lit (.bool false)], args := [d] }
  | _ => none }
def FnSizesWrongFalsely : Prop := fnSizesRow.holds Try.pinned (OpenSpec.ofChange fnSizesWrong)

/-- 'laws.FnSkews': WHATEVER THE INPUT: true; the input reads as it did. -/
def fnSkewsSpec : ChangeSpec := { name := "fnSkews", fn := fun _ => fun
  | [d] => { results := [.lit (.bool true)], args := [d] }
  | _ => none }
def fnSkewsRow : OpenClaim := { program := "ytgohfbelppokcaa", sum := "b52b68a94ee686b0bc53b35aa68ae44797c2741c413fd5698f354c9508777539", func := "loop.example/g01023/laws.FnSkews", spec := "fnSkews", unfollowed := true, recurses := true, apart := false }
def FnSkewsSaid : Prop := fnSkewsRow.holds Try.pinned (OpenSpec.ofChange fnSkewsSpec)

/-- ITS FALSE NEIGHBOUR: 'it returns false'. Refute it at one input. -/
def fnSkewsWrong : ChangeSpec := { name := "fnSkews", fn := fun _ => fun
  | [d] => { results := [.lit (.bool false)], args := [d] }
  | _ => none }
def FnSkewsWrongFalsely : Prop := fnSkewsRow.holds Try.pinned (OpenSpec.ofChange fnSkewsWrong)

/- THE SECOND FORM. 'bulk': how many values and letters a reading holds, each counted each time it is reached (what is shared counts as often as it is met; a slice's spare places count too). A statement '..UptoSaid' is the law's where the arguments, and the package variables that the reading takes, are together of bulk at most 1048576: NARROWER than '..Said'. Prove '..Said' where nothing that the law and all that it calls make is longer than what came in: it says more and counts as full. Else prove '..UptoSaid'. A law counts once. -/
mutual
def uptoBulk {H : Type} : DataW H → Nat
  | .lit (.string bytes) => bytes.length + 1
  | .lit _ => 1
  | .nil => 1
  | .ptr d => uptoBulk d + 1
  | .slice elems spare => uptoBulkAll elems + uptoBulkAll spare + 1
  | .agg parts => uptoBulkAll parts + 1
  | .iface _ d => uptoBulk d + 1
  | .map entries => uptoBulkEntries entries + 1
  | .held _ => 1
def uptoBulkAll {H : Type} : List (DataW H) → Nat
  | [] => 0
  | d :: r => uptoBulk d + uptoBulkAll r
def uptoBulkEntries {H : Type} : List (Lit × DataW H) → Nat
  | [] => 0
  | x :: r => uptoBulkEntry x + uptoBulkEntries r
def uptoBulkEntry {H : Type} : Lit × DataW H → Nat
  | (.string bytes, d) => bytes.length + uptoBulk d + 1
  | (_, d) => uptoBulk d + 1
 end
def uptoSmall : (H : Type) → List (DataW H) → Bool := fun _ ds => decide (uptoBulkAll ds ≤ 1048576)
def OpenSpec.upto (s : _root_.Go.ChangeSpec) : _root_.Go.OpenSpec := { _root_.Go.OpenSpec.ofChange s with cond := some uptoSmall }

/-- 'laws.FnExactIsGauge', WHERE WHAT IT READS IS OF BULK AT MOST 1048576: true; the input reads as it did. -/
def fnExactIsGaugeUptoRow : OpenClaim := { program := "ytgohfbelppokcaa", sum := "b52b68a94ee686b0bc53b35aa68ae44797c2741c413fd5698f354c9508777539", func := "loop.example/g01023/laws.FnExactIsGauge", spec := "fnExactIsGauge", apart := false, narrowed := true }
def FnExactIsGaugeUptoSaid : Prop := fnExactIsGaugeUptoRow.holds Try.pinned (OpenSpec.upto fnExactIsGaugeSpec)

/-- 'laws.FnExactKnotsPerArea', WHERE WHAT IT READS IS OF BULK AT MOST 1048576: true; the input reads as it did. -/
def fnExactKnotsPerAreaUptoRow : OpenClaim := { program := "ytgohfbelppokcaa", sum := "b52b68a94ee686b0bc53b35aa68ae44797c2741c413fd5698f354c9508777539", func := "loop.example/g01023/laws.FnExactKnotsPerArea", spec := "fnExactKnotsPerArea", apart := false, narrowed := true }
def FnExactKnotsPerAreaUptoSaid : Prop := fnExactKnotsPerAreaUptoRow.holds Try.pinned (OpenSpec.upto fnExactKnotsPerAreaSpec)

/-- 'laws.FnExactKnotsForSize', WHERE WHAT IT READS IS OF BULK AT MOST 1048576: true; the input reads as it did. -/
def fnExactKnotsForSizeUptoRow : OpenClaim := { program := "ytgohfbelppokcaa", sum := "b52b68a94ee686b0bc53b35aa68ae44797c2741c413fd5698f354c9508777539", func := "loop.example/g01023/laws.FnExactKnotsForSize", spec := "fnExactKnotsForSize", apart := false, narrowed := true }
def FnExactKnotsForSizeUptoSaid : Prop := fnExactKnotsForSizeUptoRow.holds Try.pinned (OpenSpec.upto fnExactKnotsForSizeSpec)

/-- 'laws.FnExactIsMeasure', WHERE WHAT IT READS IS OF BULK AT MOST 1048576: true; the input reads as it did. -/
def fnExactIsMeasureUptoRow : OpenClaim := { program := "ytgohfbelppokcaa", sum := "b52b68a94ee686b0bc53b35aa68ae44797c2741c413fd5698f354c9508777539", func := "loop.example/g01023/laws.FnExactIsMeasure", spec := "fnExactIsMeasure", unfollowed := true, recurses := true, apart := false, narrowed := true }
def FnExactIsMeasureUptoSaid : Prop := fnExactIsMeasureUptoRow.holds Try.pinned (OpenSpec.upto fnExactIsMeasureSpec)

/-- 'laws.FnExactStraightenBy', WHERE WHAT IT READS IS OF BULK AT MOST 1048576: true; the input reads as it did. -/
def fnExactStraightenByUptoRow : OpenClaim := { program := "ytgohfbelppokcaa", sum := "b52b68a94ee686b0bc53b35aa68ae44797c2741c413fd5698f354c9508777539", func := "loop.example/g01023/laws.FnExactStraightenBy", spec := "fnExactStraightenBy", unfollowed := true, recurses := true, apart := false, narrowed := true }
def FnExactStraightenByUptoSaid : Prop := fnExactStraightenByUptoRow.holds Try.pinned (OpenSpec.upto fnExactStraightenBySpec)

/-- 'laws.FnExactSkewOf', WHERE WHAT IT READS IS OF BULK AT MOST 1048576: true; the input reads as it did. -/
def fnExactSkewOfUptoRow : OpenClaim := { program := "ytgohfbelppokcaa", sum := "b52b68a94ee686b0bc53b35aa68ae44797c2741c413fd5698f354c9508777539", func := "loop.example/g01023/laws.FnExactSkewOf", spec := "fnExactSkewOf", unfollowed := true, recurses := true, apart := false, narrowed := true }
def FnExactSkewOfUptoSaid : Prop := fnExactSkewOfUptoRow.holds Try.pinned (OpenSpec.upto fnExactSkewOfSpec)

/-- 'laws.FnExactSizeOf', WHERE WHAT IT READS IS OF BULK AT MOST 1048576: true; the input reads as it did. -/
def fnExactSizeOfUptoRow : OpenClaim := { program := "ytgohfbelppokcaa", sum := "b52b68a94ee686b0bc53b35aa68ae44797c2741c413fd5698f354c9508777539", func := "loop.example/g01023/laws.FnExactSizeOf", spec := "fnExactSizeOf", unfollowed := true, recurses := true, apart := false, narrowed := true }
def FnExactSizeOfUptoSaid : Prop := fnExactSizeOfUptoRow.holds Try.pinned (OpenSpec.upto fnExactSizeOfSpec)

/-- 'laws.FnExactAspectOf', WHERE WHAT IT READS IS OF BULK AT MOST 1048576: true; the input reads as it did. -/
def fnExactAspectOfUptoRow : OpenClaim := { program := "ytgohfbelppokcaa", sum := "b52b68a94ee686b0bc53b35aa68ae44797c2741c413fd5698f354c9508777539", func := "loop.example/g01023/laws.FnExactAspectOf", spec := "fnExactAspectOf", unfollowed := true, recurses := true, apart := false, narrowed := true }
def FnExactAspectOfUptoSaid : Prop := fnExactAspectOfUptoRow.holds Try.pinned (OpenSpec.upto fnExactAspectOfSpec)

/-- 'laws.FnExactWithinSize', WHERE WHAT IT READS IS OF BULK AT MOST 1048576: true; the input reads as it did. -/
def fnExactWithinSizeUptoRow : OpenClaim := { program := "ytgohfbelppokcaa", sum := "b52b68a94ee686b0bc53b35aa68ae44797c2741c413fd5698f354c9508777539", func := "loop.example/g01023/laws.FnExactWithinSize", spec := "fnExactWithinSize", unfollowed := true, recurses := true, apart := false, narrowed := true }
def FnExactWithinSizeUptoSaid : Prop := fnExactWithinSizeUptoRow.holds Try.pinned (OpenSpec.upto fnExactWithinSizeSpec)

/-- 'laws.FnExactOffSize', WHERE WHAT IT READS IS OF BULK AT MOST 1048576: true; the input reads as it did. -/
def fnExactOffSizeUptoRow : OpenClaim := { program := "ytgohfbelppokcaa", sum := "b52b68a94ee686b0bc53b35aa68ae44797c2741c413fd5698f354c9508777539", func := "loop.example/g01023/laws.FnExactOffSize", spec := "fnExactOffSize", unfollowed := true, recurses := true, apart := false, narrowed := true }
def FnExactOffSizeUptoSaid : Prop := fnExactOffSizeUptoRow.holds Try.pinned (OpenSpec.upto fnExactOffSizeSpec)

/-- 'laws.FnSizes', WHERE WHAT IT READS IS OF BULK AT MOST 1048576: true; the input reads as it did. -/
def fnSizesUptoRow : OpenClaim := { program := "ytgohfbelppokcaa", sum := "b52b68a94ee686b0bc53b35aa68ae44797c2741c413fd5698f354c9508777539", func := "loop.example/g01023/laws.FnSizes", spec := "fnSizes", unfollowed := true, recurses := true, apart := false, narrowed := true }
def FnSizesUptoSaid : Prop := fnSizesUptoRow.holds Try.pinned (OpenSpec.upto fnSizesSpec)

/-- 'laws.FnSkews', WHERE WHAT IT READS IS OF BULK AT MOST 1048576: true; the input reads as it did. -/
def fnSkewsUptoRow : OpenClaim := { program := "ytgohfbelppokcaa", sum := "b52b68a94ee686b0bc53b35aa68ae44797c2741c413fd5698f354c9508777539", func := "loop.example/g01023/laws.FnSkews", spec := "fnSkews", unfollowed := true, recurses := true, apart := false, narrowed := true }
def FnSkewsUptoSaid : Prop := fnSkewsUptoRow.holds Try.pinned (OpenSpec.upto fnSkewsSpec)

end Rows
end Go.Proofs.Ytgohfbelppokcaa
