/-
  No cell of these rows narrows 'for every input' (looked for: loops, veiled, ifaces, maps, wideKeys, modest, calm, conditions, laid).
  DERIVED. THE GIVEN ROWS OF THIS SEAT. 12 by the template 'for every input the law returns true; each argument reads behind the call as it read before'; 0 by the template 'total and deterministic' (their statements: YtdennkmfjkgfhaaTotals.lean).
  GIVEN WITH THE SEED: the statements are not yours to turn. If you find one false, say at which input.
  Laid BY PROGRAM, IN A SANDBOX (cutbox-rows.mjs): the forced cells as the released guide's own fill.sh prints them over the translation 2c6d43a7afdb4f49… (all of the seat's roots in one cut). By AI agents, Wed Nov 11 2026. No macro, syntax, notation, axiom, sorry.
-/
import Derived.Test.YtdennkmfjkgfhaaChecked
import GoSem.Claim
import GoSem.ClaimJoined
import GoSem.ClaimMapViews
import Derived.JoinedTies
import Derived.KernelRfl
namespace Go.Proofs.Ytdennkmfjkgfhaa
/- THE CELL 'sum', in the pinned program and in every row, IS THE sha256 OF THE DUMP (.gsa) THAT YtdennkmfjkgfhaaProg.lean LOADS. Nothing in Lean hashes anything: it is a label: what it is worth is what the hold of that sum in a sandbox is worth. -/
noncomputable def Try.pinned : Pinned := { name := "ytdennkmfjkgfhaa", sum := "2c6d43a7afdb4f4922911e8de66d47550ed39356e6dd9efabca9f77997b0d5a9", checked := Try.checked }
namespace Rows
def none {H : Type} : Left H := { results := [], args := [] }

/-- 'laws.FnExactIsWetCarpet': WHATEVER THE INPUT: true; the input reads as it did. -/
def fnExactIsWetCarpetSpec : ChangeSpec := { name := "fnExactIsWetCarpet", fn := fun _ => fun
  | [d] => { results := [.lit (.bool true)], args := [d] }
  | _ => none }
def fnExactIsWetCarpetRow : OpenClaim := { program := "ytdennkmfjkgfhaa", sum := "2c6d43a7afdb4f4922911e8de66d47550ed39356e6dd9efabca9f77997b0d5a9", func := "loop.example/g01023/laws.FnExactIsWetCarpet", spec := "fnExactIsWetCarpet", apart := false }
def FnExactIsWetCarpetSaid : Prop := fnExactIsWetCarpetRow.holds Try.pinned (OpenSpec.ofChange fnExactIsWetCarpetSpec)

/-- ITS FALSE NEIGHBOUR: 'it returns false'. Refute it at one input. -/
def fnExactIsWetCarpetWrong : ChangeSpec := { name := "fnExactIsWetCarpet", fn := fun _ => fun
  | [d] => { results := [.lit (.bool false)], args := [d] }
  | _ => none }
def FnExactIsWetCarpetWrongFalsely : Prop := fnExactIsWetCarpetRow.holds Try.pinned (OpenSpec.ofChange fnExactIsWetCarpetWrong)

/-- 'laws.FnExactFewestSpins': WHATEVER THE INPUT: true; the input reads as it did. -/
def fnExactFewestSpinsSpec : ChangeSpec := { name := "fnExactFewestSpins", fn := fun _ => fun
  | [d1, d2] => { results := [.lit (.bool true)], args := [d1, d2] }
  | _ => none }
def fnExactFewestSpinsRow : OpenClaim := { program := "ytdennkmfjkgfhaa", sum := "2c6d43a7afdb4f4922911e8de66d47550ed39356e6dd9efabca9f77997b0d5a9", func := "loop.example/g01023/laws.FnExactFewestSpins", spec := "fnExactFewestSpins", apart := false }
def FnExactFewestSpinsSaid : Prop := fnExactFewestSpinsRow.holds Try.pinned (OpenSpec.ofChange fnExactFewestSpinsSpec)

/-- ITS FALSE NEIGHBOUR: 'it returns false'. Refute it at one input. -/
def fnExactFewestSpinsWrong : ChangeSpec := { name := "fnExactFewestSpins", fn := fun _ => fun
  | [d1, d2] => { results := [.lit (.bool false)], args := [d1, d2] }
  | _ => none }
def FnExactFewestSpinsWrongFalsely : Prop := fnExactFewestSpinsRow.holds Try.pinned (OpenSpec.ofChange fnExactFewestSpinsWrong)

/-- 'laws.FnExactMostShear': WHATEVER THE INPUT: true; the input reads as it did. -/
def fnExactMostShearSpec : ChangeSpec := { name := "fnExactMostShear", fn := fun _ => fun
  | [d] => { results := [.lit (.bool true)], args := [d] }
  | _ => none }
def fnExactMostShearRow : OpenClaim := { program := "ytdennkmfjkgfhaa", sum := "2c6d43a7afdb4f4922911e8de66d47550ed39356e6dd9efabca9f77997b0d5a9", func := "loop.example/g01023/laws.FnExactMostShear", spec := "fnExactMostShear", apart := false }
def FnExactMostShearSaid : Prop := fnExactMostShearRow.holds Try.pinned (OpenSpec.ofChange fnExactMostShearSpec)

/-- ITS FALSE NEIGHBOUR: 'it returns false'. Refute it at one input. -/
def fnExactMostShearWrong : ChangeSpec := { name := "fnExactMostShear", fn := fun _ => fun
  | [d] => { results := [.lit (.bool false)], args := [d] }
  | _ => none }
def FnExactMostShearWrongFalsely : Prop := fnExactMostShearRow.holds Try.pinned (OpenSpec.ofChange fnExactMostShearWrong)

/-- 'laws.FnExactHoursFor': WHATEVER THE INPUT: true; the input reads as it did. -/
def fnExactHoursForSpec : ChangeSpec := { name := "fnExactHoursFor", fn := fun _ => fun
  | [d1, d2] => { results := [.lit (.bool true)], args := [d1, d2] }
  | _ => none }
def fnExactHoursForRow : OpenClaim := { program := "ytdennkmfjkgfhaa", sum := "2c6d43a7afdb4f4922911e8de66d47550ed39356e6dd9efabca9f77997b0d5a9", func := "loop.example/g01023/laws.FnExactHoursFor", spec := "fnExactHoursFor", apart := false }
def FnExactHoursForSaid : Prop := fnExactHoursForRow.holds Try.pinned (OpenSpec.ofChange fnExactHoursForSpec)

/-- ITS FALSE NEIGHBOUR: 'it returns false'. Refute it at one input. -/
def fnExactHoursForWrong : ChangeSpec := { name := "fnExactHoursFor", fn := fun _ => fun
  | [d1, d2] => { results := [.lit (.bool false)], args := [d1, d2] }
  | _ => none }
def FnExactHoursForWrongFalsely : Prop := fnExactHoursForRow.holds Try.pinned (OpenSpec.ofChange fnExactHoursForWrong)

/-- 'laws.FnExactAreWetCarpets': WHATEVER THE INPUT: true; the input reads as it did. -/
def fnExactAreWetCarpetsSpec : ChangeSpec := { name := "fnExactAreWetCarpets", fn := fun _ => fun
  | [d] => { results := [.lit (.bool true)], args := [d] }
  | _ => none }
def fnExactAreWetCarpetsRow : OpenClaim := { program := "ytdennkmfjkgfhaa", sum := "2c6d43a7afdb4f4922911e8de66d47550ed39356e6dd9efabca9f77997b0d5a9", func := "loop.example/g01023/laws.FnExactAreWetCarpets", spec := "fnExactAreWetCarpets", unfollowed := true, recurses := true, apart := false }
def FnExactAreWetCarpetsSaid : Prop := fnExactAreWetCarpetsRow.holds Try.pinned (OpenSpec.ofChange fnExactAreWetCarpetsSpec)

/-- ITS FALSE NEIGHBOUR: 'it returns false'. Refute it at one input. -/
def fnExactAreWetCarpetsWrong : ChangeSpec := { name := "fnExactAreWetCarpets", fn := fun _ => fun
  | [d] => { results := [.lit (.bool false)], args := [d] }
  | _ => none }
def FnExactAreWetCarpetsWrongFalsely : Prop := fnExactAreWetCarpetsRow.holds Try.pinned (OpenSpec.ofChange fnExactAreWetCarpetsWrong)

/-- 'laws.FnExactLineLoad': WHATEVER THE INPUT: true; the input reads as it did. -/
def fnExactLineLoadSpec : ChangeSpec := { name := "fnExactLineLoad", fn := fun _ => fun
  | [d] => { results := [.lit (.bool true)], args := [d] }
  | _ => none }
def fnExactLineLoadRow : OpenClaim := { program := "ytdennkmfjkgfhaa", sum := "2c6d43a7afdb4f4922911e8de66d47550ed39356e6dd9efabca9f77997b0d5a9", func := "loop.example/g01023/laws.FnExactLineLoad", spec := "fnExactLineLoad", unfollowed := true, recurses := true, apart := false }
def FnExactLineLoadSaid : Prop := fnExactLineLoadRow.holds Try.pinned (OpenSpec.ofChange fnExactLineLoadSpec)

/-- ITS FALSE NEIGHBOUR: 'it returns false'. Refute it at one input. -/
def fnExactLineLoadWrong : ChangeSpec := { name := "fnExactLineLoad", fn := fun _ => fun
  | [d] => { results := [.lit (.bool false)], args := [d] }
  | _ => none }
def FnExactLineLoadWrongFalsely : Prop := fnExactLineLoadRow.holds Try.pinned (OpenSpec.ofChange fnExactLineLoadWrong)

/-- 'laws.FnExactWashCarpet': WHATEVER THE INPUT: true; the input reads as it did. -/
def fnExactWashCarpetSpec : ChangeSpec := { name := "fnExactWashCarpet", fn := fun _ => fun
  | [d1, d2] => { results := [.lit (.bool true)], args := [d1, d2] }
  | _ => none }
def fnExactWashCarpetRow : OpenClaim := { program := "ytdennkmfjkgfhaa", sum := "2c6d43a7afdb4f4922911e8de66d47550ed39356e6dd9efabca9f77997b0d5a9", func := "loop.example/g01023/laws.FnExactWashCarpet", spec := "fnExactWashCarpet", unfollowed := true, recurses := true, apart := false }
def FnExactWashCarpetSaid : Prop := fnExactWashCarpetRow.holds Try.pinned (OpenSpec.ofChange fnExactWashCarpetSpec)

/-- ITS FALSE NEIGHBOUR: 'it returns false'. Refute it at one input. -/
def fnExactWashCarpetWrong : ChangeSpec := { name := "fnExactWashCarpet", fn := fun _ => fun
  | [d1, d2] => { results := [.lit (.bool false)], args := [d1, d2] }
  | _ => none }
def FnExactWashCarpetWrongFalsely : Prop := fnExactWashCarpetRow.holds Try.pinned (OpenSpec.ofChange fnExactWashCarpetWrong)

/-- 'laws.FnExactSpinCarpet': WHATEVER THE INPUT: true; the input reads as it did. -/
def fnExactSpinCarpetSpec : ChangeSpec := { name := "fnExactSpinCarpet", fn := fun _ => fun
  | [d1, d2] => { results := [.lit (.bool true)], args := [d1, d2] }
  | _ => none }
def fnExactSpinCarpetRow : OpenClaim := { program := "ytdennkmfjkgfhaa", sum := "2c6d43a7afdb4f4922911e8de66d47550ed39356e6dd9efabca9f77997b0d5a9", func := "loop.example/g01023/laws.FnExactSpinCarpet", spec := "fnExactSpinCarpet", unfollowed := true, recurses := true, apart := false }
def FnExactSpinCarpetSaid : Prop := fnExactSpinCarpetRow.holds Try.pinned (OpenSpec.ofChange fnExactSpinCarpetSpec)

/-- ITS FALSE NEIGHBOUR: 'it returns false'. Refute it at one input. -/
def fnExactSpinCarpetWrong : ChangeSpec := { name := "fnExactSpinCarpet", fn := fun _ => fun
  | [d1, d2] => { results := [.lit (.bool false)], args := [d1, d2] }
  | _ => none }
def FnExactSpinCarpetWrongFalsely : Prop := fnExactSpinCarpetRow.holds Try.pinned (OpenSpec.ofChange fnExactSpinCarpetWrong)

/-- 'laws.FnExactShearCarpet': WHATEVER THE INPUT: true; the input reads as it did. -/
def fnExactShearCarpetSpec : ChangeSpec := { name := "fnExactShearCarpet", fn := fun _ => fun
  | [d1, d2, d3] => { results := [.lit (.bool true)], args := [d1, d2, d3] }
  | _ => none }
def fnExactShearCarpetRow : OpenClaim := { program := "ytdennkmfjkgfhaa", sum := "2c6d43a7afdb4f4922911e8de66d47550ed39356e6dd9efabca9f77997b0d5a9", func := "loop.example/g01023/laws.FnExactShearCarpet", spec := "fnExactShearCarpet", unfollowed := true, recurses := true, apart := false }
def FnExactShearCarpetSaid : Prop := fnExactShearCarpetRow.holds Try.pinned (OpenSpec.ofChange fnExactShearCarpetSpec)

/-- ITS FALSE NEIGHBOUR: 'it returns false'. Refute it at one input. -/
def fnExactShearCarpetWrong : ChangeSpec := { name := "fnExactShearCarpet", fn := fun _ => fun
  | [d1, d2, d3] => { results := [.lit (.bool false)], args := [d1, d2, d3] }
  | _ => none }
def FnExactShearCarpetWrongFalsely : Prop := fnExactShearCarpetRow.holds Try.pinned (OpenSpec.ofChange fnExactShearCarpetWrong)

/-- 'laws.FnExactDryCarpets': WHATEVER THE INPUT: true; the input reads as it did. -/
def fnExactDryCarpetsSpec : ChangeSpec := { name := "fnExactDryCarpets", fn := fun _ => fun
  | [d1, d2, d3] => { results := [.lit (.bool true)], args := [d1, d2, d3] }
  | _ => none }
def fnExactDryCarpetsRow : OpenClaim := { program := "ytdennkmfjkgfhaa", sum := "2c6d43a7afdb4f4922911e8de66d47550ed39356e6dd9efabca9f77997b0d5a9", func := "loop.example/g01023/laws.FnExactDryCarpets", spec := "fnExactDryCarpets", unfollowed := true, recurses := true, apart := false }
def FnExactDryCarpetsSaid : Prop := fnExactDryCarpetsRow.holds Try.pinned (OpenSpec.ofChange fnExactDryCarpetsSpec)

/-- ITS FALSE NEIGHBOUR: 'it returns false'. Refute it at one input. -/
def fnExactDryCarpetsWrong : ChangeSpec := { name := "fnExactDryCarpets", fn := fun _ => fun
  | [d1, d2, d3] => { results := [.lit (.bool false)], args := [d1, d2, d3] }
  | _ => none }
def FnExactDryCarpetsWrongFalsely : Prop := fnExactDryCarpetsRow.holds Try.pinned (OpenSpec.ofChange fnExactDryCarpetsWrong)

/-- 'laws.FnDryLines': WHATEVER THE INPUT: true; the input reads as it did. -/
def fnDryLinesSpec : ChangeSpec := { name := "fnDryLines", fn := fun _ => fun
  | [d] => { results := [.lit (.bool true)], args := [d] }
  | _ => none }
def fnDryLinesRow : OpenClaim := { program := "ytdennkmfjkgfhaa", sum := "2c6d43a7afdb4f4922911e8de66d47550ed39356e6dd9efabca9f77997b0d5a9", func := "loop.example/g01023/laws.FnDryLines", spec := "fnDryLines", unfollowed := true, recurses := true, apart := false }
def FnDryLinesSaid : Prop := fnDryLinesRow.holds Try.pinned (OpenSpec.ofChange fnDryLinesSpec)

/-- ITS FALSE NEIGHBOUR: 'it returns false'. Refute it at one input. -/
def fnDryLinesWrong : ChangeSpec := { name := "fnDryLines", fn := fun _ => fun
  | [d] => { results := [.lit (.bool false)], args := [d] }
  | _ => none }
def FnDryLinesWrongFalsely : Prop := fnDryLinesRow.holds Try.pinned (OpenSpec.ofChange fnDryLinesWrong)

/-- 'laws.FnWashing': WHATEVER THE INPUT: true; the input reads as it did. -/
def fnWashingSpec : ChangeSpec := { name := "fnWashing", fn := fun _ => fun
  | [d] => { results := [.lit (.bool true)], args := [d] }
  | _ => none }
def fnWashingRow : OpenClaim := { program := "ytdennkmfjkgfhaa", sum := "2c6d43a7afdb4f4922911e8de66d47550ed39356e6dd9efabca9f77997b0d5a9", func := "loop.example/g01023/laws.FnWashing", spec := "fnWashing", unfollowed := true, recurses := true, apart := false }
def FnWashingSaid : Prop := fnWashingRow.holds Try.pinned (OpenSpec.ofChange fnWashingSpec)

/-- ITS FALSE NEIGHBOUR: 'it returns false'. Refute it at one input. -/
def fnWashingWrong : ChangeSpec := { name := "fnWashing", fn := fun _ => fun
  | [d] => { results := [.lit (.bool false)], args := [d] }
  | _ => none }
def FnWashingWrongFalsely : Prop := fnWashingRow.holds Try.pinned (OpenSpec.ofChange fnWashingWrong)

/- THE SECOND FORM. 'bulk': how many values and letters a reading holds, each counted each time it is reached (what is shared counts as often as it is met; a slice's spare places count too). A statement '..UptoSaid' is the law's where the arguments, and the package variables that the reading takes, are together of bulk at most 1048576: NARROWER than '..Said'. Prove '..Said' where nothing that the law and all that it calls make is longer than what came in: it says more and counts as full. Else prove '..UptoSaid'. A law counts once. -/
mutual
def uptoBulk {H : Type} : DataW H → Nat
  | .lit (.string bytes) => bytes.length + 1
  | .lit _ => 1
  | .nil => 1
  | .ptr d => uptoBulk d + 1
  | .slice elems spare => uptoBulkAll elems + uptoBulkAll spare + 1
  | .agg parts => uptoBulkAll parts + 1
  | .iface _ d => uptoBulk d + 1
  | .map entries => uptoBulkEntries entries + 1
  | .held _ => 1
def uptoBulkAll {H : Type} : List (DataW H) → Nat
  | [] => 0
  | d :: r => uptoBulk d + uptoBulkAll r
def uptoBulkEntries {H : Type} : List (Lit × DataW H) → Nat
  | [] => 0
  | x :: r => uptoBulkEntry x + uptoBulkEntries r
def uptoBulkEntry {H : Type} : Lit × DataW H → Nat
  | (.string bytes, d) => bytes.length + uptoBulk d + 1
  | (_, d) => uptoBulk d + 1
 end
def uptoSmall : (H : Type) → List (DataW H) → Bool := fun _ ds => decide (uptoBulkAll ds ≤ 1048576)
def OpenSpec.upto (s : _root_.Go.ChangeSpec) : _root_.Go.OpenSpec := { _root_.Go.OpenSpec.ofChange s with cond := some uptoSmall }

/-- 'laws.FnExactIsWetCarpet', WHERE WHAT IT READS IS OF BULK AT MOST 1048576: true; the input reads as it did. -/
def fnExactIsWetCarpetUptoRow : OpenClaim := { program := "ytdennkmfjkgfhaa", sum := "2c6d43a7afdb4f4922911e8de66d47550ed39356e6dd9efabca9f77997b0d5a9", func := "loop.example/g01023/laws.FnExactIsWetCarpet", spec := "fnExactIsWetCarpet", apart := false, narrowed := true }
def FnExactIsWetCarpetUptoSaid : Prop := fnExactIsWetCarpetUptoRow.holds Try.pinned (OpenSpec.upto fnExactIsWetCarpetSpec)

/-- 'laws.FnExactFewestSpins', WHERE WHAT IT READS IS OF BULK AT MOST 1048576: true; the input reads as it did. -/
def fnExactFewestSpinsUptoRow : OpenClaim := { program := "ytdennkmfjkgfhaa", sum := "2c6d43a7afdb4f4922911e8de66d47550ed39356e6dd9efabca9f77997b0d5a9", func := "loop.example/g01023/laws.FnExactFewestSpins", spec := "fnExactFewestSpins", apart := false, narrowed := true }
def FnExactFewestSpinsUptoSaid : Prop := fnExactFewestSpinsUptoRow.holds Try.pinned (OpenSpec.upto fnExactFewestSpinsSpec)

/-- 'laws.FnExactMostShear', WHERE WHAT IT READS IS OF BULK AT MOST 1048576: true; the input reads as it did. -/
def fnExactMostShearUptoRow : OpenClaim := { program := "ytdennkmfjkgfhaa", sum := "2c6d43a7afdb4f4922911e8de66d47550ed39356e6dd9efabca9f77997b0d5a9", func := "loop.example/g01023/laws.FnExactMostShear", spec := "fnExactMostShear", apart := false, narrowed := true }
def FnExactMostShearUptoSaid : Prop := fnExactMostShearUptoRow.holds Try.pinned (OpenSpec.upto fnExactMostShearSpec)

/-- 'laws.FnExactHoursFor', WHERE WHAT IT READS IS OF BULK AT MOST 1048576: true; the input reads as it did. -/
def fnExactHoursForUptoRow : OpenClaim := { program := "ytdennkmfjkgfhaa", sum := "2c6d43a7afdb4f4922911e8de66d47550ed39356e6dd9efabca9f77997b0d5a9", func := "loop.example/g01023/laws.FnExactHoursFor", spec := "fnExactHoursFor", apart := false, narrowed := true }
def FnExactHoursForUptoSaid : Prop := fnExactHoursForUptoRow.holds Try.pinned (OpenSpec.upto fnExactHoursForSpec)

/-- 'laws.FnExactAreWetCarpets', WHERE WHAT IT READS IS OF BULK AT MOST 1048576: true; the input reads as it did. -/
def fnExactAreWetCarpetsUptoRow : OpenClaim := { program := "ytdennkmfjkgfhaa", sum := "2c6d43a7afdb4f4922911e8de66d47550ed39356e6dd9efabca9f77997b0d5a9", func := "loop.example/g01023/laws.FnExactAreWetCarpets", spec := "fnExactAreWetCarpets", unfollowed := true, recurses := true, apart := false, narrowed := true }
def FnExactAreWetCarpetsUptoSaid : Prop := fnExactAreWetCarpetsUptoRow.holds Try.pinned (OpenSpec.upto fnExactAreWetCarpetsSpec)

/-- 'laws.FnExactLineLoad', WHERE WHAT IT READS IS OF BULK AT MOST 1048576: true; the input reads as it did. -/
def fnExactLineLoadUptoRow : OpenClaim := { program := "ytdennkmfjkgfhaa", sum := "2c6d43a7afdb4f4922911e8de66d47550ed39356e6dd9efabca9f77997b0d5a9", func := "loop.example/g01023/laws.FnExactLineLoad", spec := "fnExactLineLoad", unfollowed := true, recurses := true, apart := false, narrowed := true }
def FnExactLineLoadUptoSaid : Prop := fnExactLineLoadUptoRow.holds Try.pinned (OpenSpec.upto fnExactLineLoadSpec)

/-- 'laws.FnExactWashCarpet', WHERE WHAT IT READS IS OF BULK AT MOST 1048576: true; the input reads as it did. -/
def fnExactWashCarpetUptoRow : OpenClaim := { program := "ytdennkmfjkgfhaa", sum := "2c6d43a7afdb4f4922911e8de66d47550ed39356e6dd9efabca9f77997b0d5a9", func := "loop.example/g01023/laws.FnExactWashCarpet", spec := "fnExactWashCarpet", unfollowed := true, recurses := true, apart := false, narrowed := true }
def FnExactWashCarpetUptoSaid : Prop := fnExactWashCarpetUptoRow.holds Try.pinned (OpenSpec.upto fnExactWashCarpetSpec)

/-- 'laws.FnExactSpinCarpet', WHERE WHAT IT READS IS OF BULK AT MOST 1048576: true; the input reads as it did. -/
def fnExactSpinCarpetUptoRow : OpenClaim := { program := "ytdennkmfjkgfhaa", sum := "2c6d43a7afdb4f4922911e8de66d47550ed39356e6dd9efabca9f77997b0d5a9", func := "loop.example/g01023/laws.FnExactSpinCarpet", spec := "fnExactSpinCarpet", unfollowed := true, recurses := true, apart := false, narrowed := true }
def FnExactSpinCarpetUptoSaid : Prop := fnExactSpinCarpetUptoRow.holds Try.pinned (OpenSpec.upto fnExactSpinCarpetSpec)

/-- 'laws.FnExactShearCarpet', WHERE WHAT IT READS IS OF BULK AT MOST 1048576: true; the input reads as it did. -/
def fnExactShearCarpetUptoRow : OpenClaim := { program := "ytdennkmfjkgfhaa", sum := "2c6d43a7afdb4f4922911e8de66d47550ed39356e6dd9efabca9f77997b0d5a9", func := "loop.example/g01023/laws.FnExactShearCarpet", spec := "fnExactShearCarpet", unfollowed := true, recurses := true, apart := false, narrowed := true }
def FnExactShearCarpetUptoSaid : Prop := fnExactShearCarpetUptoRow.holds Try.pinned (OpenSpec.upto fnExactShearCarpetSpec)

/-- 'laws.FnExactDryCarpets', WHERE WHAT IT READS IS OF BULK AT MOST 1048576: true; the input reads as it did. -/
def fnExactDryCarpetsUptoRow : OpenClaim := { program := "ytdennkmfjkgfhaa", sum := "2c6d43a7afdb4f4922911e8de66d47550ed39356e6dd9efabca9f77997b0d5a9", func := "loop.example/g01023/laws.FnExactDryCarpets", spec := "fnExactDryCarpets", unfollowed := true, recurses := true, apart := false, narrowed := true }
def FnExactDryCarpetsUptoSaid : Prop := fnExactDryCarpetsUptoRow.holds Try.pinned (OpenSpec.upto fnExactDryCarpetsSpec)

/-- 'laws.FnDryLines', WHERE WHAT IT READS IS OF BULK AT MOST 1048576: true; the input reads as it did. -/
def fnDryLinesUptoRow : OpenClaim := { program := "ytdennkmfjkgfhaa", sum := "2c6d43a7afdb4f4922911e8de66d47550ed39356e6dd9efabca9f77997b0d5a9", func := "loop.example/g01023/laws.FnDryLines", spec := "fnDryLines", unfollowed := true, recurses := true, apart := false, narrowed := true }
def FnDryLinesUptoSaid : Prop := fnDryLinesUptoRow.holds Try.pinned (OpenSpec.upto fnDryLinesSpec)

/-- 'laws.FnWashing', WHERE WHAT IT READS IS OF BULK AT MOST 1048576: true; the input reads as it did. -/
def fnWashingUptoRow : OpenClaim := { program := "ytdennkmfjkgfhaa", sum := "2c6d43a7afdb4f4922911e8de66d47550ed39356e6dd9efabca9f77997b0d5a9", func := "loop.example/g01023/laws.FnWashing", spec := "fnWashing", unfollowed := true, recurses := true, apart := false, narrowed := true }
def FnWashingUptoSaid : Prop := fnWashingUptoRow.holds Try.pinned (OpenSpec.upto fnWashingSpec)

end Rows
end Go.Proofs.Ytdennkmfjkgfhaa
