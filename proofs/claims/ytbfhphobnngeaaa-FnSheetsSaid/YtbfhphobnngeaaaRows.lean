/-
  No cell of these rows narrows 'for every input' (looked for: loops, veiled, ifaces, maps, wideKeys, modest, calm, conditions, laid).
  DERIVED. THE GIVEN ROWS OF THIS SEAT. 7 by the template 'for every input the law returns true; each argument reads behind the call as it read before'; 0 by the template 'total and deterministic' (their statements: YtbfhphobnngeaaaTotals.lean).
  GIVEN WITH THE SEED: the statements are not yours to turn. If you find one false, say at which input.
  Laid BY PROGRAM, IN A SANDBOX (cutbox-rows.mjs): the forced cells as the released guide's own fill.sh prints them over the translation e45491d64bfcc29b… (all of the seat's roots in one cut). By AI agents, Wed Nov 11 2026. No macro, syntax, notation, axiom, sorry.
-/
import Derived.Test.YtbfhphobnngeaaaChecked
import GoSem.Claim
import GoSem.ClaimJoined
import GoSem.ClaimMapViews
import Derived.JoinedTies
import Derived.KernelRfl
namespace Go.Proofs.Ytbfhphobnngeaaa
/- THE CELL 'sum', in the pinned program and in every row, IS THE sha256 OF THE DUMP (.gsa) THAT YtbfhphobnngeaaaProg.lean LOADS. Nothing in Lean hashes anything: it is a label: what it is worth is what the hold of that sum in a sandbox is worth. -/
noncomputable def Try.pinned : Pinned := { name := "ytbfhphobnngeaaa", sum := "e45491d64bfcc29b33495c89a21cacf39a19b3c61b8b04569ea72c99da4fdf48", checked := Try.checked }
namespace Rows
def none {H : Type} : Left H := { results := [], args := [] }

/-- 'laws.FnExactAreHoles': WHATEVER THE INPUT: true; the input reads as it did. -/
def fnExactAreHolesSpec : ChangeSpec := { name := "fnExactAreHoles", fn := fun _ => fun
  | [d1, d2] => { results := [.lit (.bool true)], args := [d1, d2] }
  | _ => none }
def fnExactAreHolesRow : OpenClaim := { program := "ytbfhphobnngeaaa", sum := "e45491d64bfcc29b33495c89a21cacf39a19b3c61b8b04569ea72c99da4fdf48", func := "loop.example/g01023/laws.FnExactAreHoles", spec := "fnExactAreHoles", unfollowed := true, recurses := true, apart := false }
def FnExactAreHolesSaid : Prop := fnExactAreHolesRow.holds Try.pinned (OpenSpec.ofChange fnExactAreHolesSpec)

/-- ITS FALSE NEIGHBOUR: 'it returns false'. Refute it at one input. -/
def fnExactAreHolesWrong : ChangeSpec := { name := "fnExactAreHoles", fn := fun _ => fun
  | [d1, d2] => { results := [.lit (.bool false)], args := [d1, d2] }
  | _ => none }
def FnExactAreHolesWrongFalsely : Prop := fnExactAreHolesRow.holds Try.pinned (OpenSpec.ofChange fnExactAreHolesWrong)

/-- 'laws.FnExactKnotsLost': WHATEVER THE INPUT: true; the input reads as it did. -/
def fnExactKnotsLostSpec : ChangeSpec := { name := "fnExactKnotsLost", fn := fun _ => fun
  | [d1, d2] => { results := [.lit (.bool true)], args := [d1, d2] }
  | _ => none }
def fnExactKnotsLostRow : OpenClaim := { program := "ytbfhphobnngeaaa", sum := "e45491d64bfcc29b33495c89a21cacf39a19b3c61b8b04569ea72c99da4fdf48", func := "loop.example/g01023/laws.FnExactKnotsLost", spec := "fnExactKnotsLost", unfollowed := true, recurses := true, apart := false }
def FnExactKnotsLostSaid : Prop := fnExactKnotsLostRow.holds Try.pinned (OpenSpec.ofChange fnExactKnotsLostSpec)

/-- ITS FALSE NEIGHBOUR: 'it returns false'. Refute it at one input. -/
def fnExactKnotsLostWrong : ChangeSpec := { name := "fnExactKnotsLost", fn := fun _ => fun
  | [d1, d2] => { results := [.lit (.bool false)], args := [d1, d2] }
  | _ => none }
def FnExactKnotsLostWrongFalsely : Prop := fnExactKnotsLostRow.holds Try.pinned (OpenSpec.ofChange fnExactKnotsLostWrong)

/-- 'laws.FnExactPatchOf': WHATEVER THE INPUT: true; the input reads as it did. -/
def fnExactPatchOfSpec : ChangeSpec := { name := "fnExactPatchOf", fn := fun _ => fun
  | [d1, d2, d3] => { results := [.lit (.bool true)], args := [d1, d2, d3] }
  | _ => none }
def fnExactPatchOfRow : OpenClaim := { program := "ytbfhphobnngeaaa", sum := "e45491d64bfcc29b33495c89a21cacf39a19b3c61b8b04569ea72c99da4fdf48", func := "loop.example/g01023/laws.FnExactPatchOf", spec := "fnExactPatchOf", unfollowed := true, recurses := true, apart := false }
def FnExactPatchOfSaid : Prop := fnExactPatchOfRow.holds Try.pinned (OpenSpec.ofChange fnExactPatchOfSpec)

/-- ITS FALSE NEIGHBOUR: 'it returns false'. Refute it at one input. -/
def fnExactPatchOfWrong : ChangeSpec := { name := "fnExactPatchOf", fn := fun _ => fun
  | [d1, d2, d3] => { results := [.lit (.bool false)], args := [d1, d2, d3] }
  | _ => none }
def FnExactPatchOfWrongFalsely : Prop := fnExactPatchOfRow.holds Try.pinned (OpenSpec.ofChange fnExactPatchOfWrong)

/-- 'laws.FnExactLargestWhole': WHATEVER THE INPUT: true; the input reads as it did. -/
def fnExactLargestWholeSpec : ChangeSpec := { name := "fnExactLargestWhole", fn := fun _ => fun
  | [d1, d2] => { results := [.lit (.bool true)], args := [d1, d2] }
  | _ => none }
def fnExactLargestWholeRow : OpenClaim := { program := "ytbfhphobnngeaaa", sum := "e45491d64bfcc29b33495c89a21cacf39a19b3c61b8b04569ea72c99da4fdf48", func := "loop.example/g01023/laws.FnExactLargestWhole", spec := "fnExactLargestWhole", unfollowed := true, recurses := true, apart := false }
def FnExactLargestWholeSaid : Prop := fnExactLargestWholeRow.holds Try.pinned (OpenSpec.ofChange fnExactLargestWholeSpec)

/-- ITS FALSE NEIGHBOUR: 'it returns false'. Refute it at one input. -/
def fnExactLargestWholeWrong : ChangeSpec := { name := "fnExactLargestWhole", fn := fun _ => fun
  | [d1, d2] => { results := [.lit (.bool false)], args := [d1, d2] }
  | _ => none }
def FnExactLargestWholeWrongFalsely : Prop := fnExactLargestWholeRow.holds Try.pinned (OpenSpec.ofChange fnExactLargestWholeWrong)

/-- 'laws.FnExactMendMinutes': WHATEVER THE INPUT: true; the input reads as it did. -/
def fnExactMendMinutesSpec : ChangeSpec := { name := "fnExactMendMinutes", fn := fun _ => fun
  | [d1, d2, d3] => { results := [.lit (.bool true)], args := [d1, d2, d3] }
  | _ => none }
def fnExactMendMinutesRow : OpenClaim := { program := "ytbfhphobnngeaaa", sum := "e45491d64bfcc29b33495c89a21cacf39a19b3c61b8b04569ea72c99da4fdf48", func := "loop.example/g01023/laws.FnExactMendMinutes", spec := "fnExactMendMinutes", unfollowed := true, recurses := true, apart := false }
def FnExactMendMinutesSaid : Prop := fnExactMendMinutesRow.holds Try.pinned (OpenSpec.ofChange fnExactMendMinutesSpec)

/-- ITS FALSE NEIGHBOUR: 'it returns false'. Refute it at one input. -/
def fnExactMendMinutesWrong : ChangeSpec := { name := "fnExactMendMinutes", fn := fun _ => fun
  | [d1, d2, d3] => { results := [.lit (.bool false)], args := [d1, d2, d3] }
  | _ => none }
def FnExactMendMinutesWrongFalsely : Prop := fnExactMendMinutesRow.holds Try.pinned (OpenSpec.ofChange fnExactMendMinutesWrong)

/-- 'laws.FnExactYarnLost': WHATEVER THE INPUT: true; the input reads as it did. -/
def fnExactYarnLostSpec : ChangeSpec := { name := "fnExactYarnLost", fn := fun _ => fun
  | [d1, d2] => { results := [.lit (.bool true)], args := [d1, d2] }
  | _ => none }
def fnExactYarnLostRow : OpenClaim := { program := "ytbfhphobnngeaaa", sum := "e45491d64bfcc29b33495c89a21cacf39a19b3c61b8b04569ea72c99da4fdf48", func := "loop.example/g01023/laws.FnExactYarnLost", spec := "fnExactYarnLost", unfollowed := true, recurses := true, apart := false }
def FnExactYarnLostSaid : Prop := fnExactYarnLostRow.holds Try.pinned (OpenSpec.ofChange fnExactYarnLostSpec)

/-- ITS FALSE NEIGHBOUR: 'it returns false'. Refute it at one input. -/
def fnExactYarnLostWrong : ChangeSpec := { name := "fnExactYarnLost", fn := fun _ => fun
  | [d1, d2] => { results := [.lit (.bool false)], args := [d1, d2] }
  | _ => none }
def FnExactYarnLostWrongFalsely : Prop := fnExactYarnLostRow.holds Try.pinned (OpenSpec.ofChange fnExactYarnLostWrong)

/-- 'laws.FnSheets': WHATEVER THE INPUT: true; the input reads as it did. -/
def fnSheetsSpec : ChangeSpec := { name := "fnSheets", fn := fun _ => fun
  | [d] => { results := [.lit (.bool true)], args := [d] }
  | _ => none }
def fnSheetsRow : OpenClaim := { program := "ytbfhphobnngeaaa", sum := "e45491d64bfcc29b33495c89a21cacf39a19b3c61b8b04569ea72c99da4fdf48", func := "loop.example/g01023/laws.FnSheets", spec := "fnSheets", unfollowed := true, recurses := true, apart := false }
def FnSheetsSaid : Prop := fnSheetsRow.holds Try.pinned (OpenSpec.ofChange fnSheetsSpec)

/-- ITS FALSE NEIGHBOUR: 'it returns false'. Refute it at one input. -/
def fnSheetsWrong : ChangeSpec := { name := "fnSheets", fn := fun _ => fun
  | [d] => { results := [.lit (.bool false)], args := [d] }
  | _ => none }
def FnSheetsWrongFalsely : Prop := fnSheetsRow.holds Try.pinned (OpenSpec.ofChange fnSheetsWrong)

/- THE SECOND FORM. 'bulk': how many values and letters a reading holds, each counted each time it is reached (what is shared counts as often as it is met; a slice's spare places count too). A statement '..UptoSaid' is the law's where the arguments, and the package variables that the reading takes, are together of bulk at most 1048576: NARROWER than '..Said'. Prove '..Said' where nothing that the law and all that it calls make is longer than what came in: it says more and counts as full. Else prove '..UptoSaid'. A law counts once. -/
mutual
def uptoBulk {H : Type} : DataW H → Nat
  | .lit (.string bytes) => bytes.length + 1
  | .lit _ => 1
  | .nil => 1
  | .ptr d => uptoBulk d + 1
  | .slice elems spare => uptoBulkAll elems + uptoBulkAll spare + 1
  | .agg parts => uptoBulkAll parts + 1
  | .iface _ d => uptoBulk d + 1
  | .map entries => uptoBulkEntries entries + 1
  | .held _ => 1
def uptoBulkAll {H : Type} : List (DataW H) → Nat
  | [] => 0
  | d :: r => uptoBulk d + uptoBulkAll r
def uptoBulkEntries {H : Type} : List (Lit × DataW H) → Nat
  | [] => 0
  | x :: r => uptoBulkEntry x + uptoBulkEntries r
def uptoBulkEntry {H : Type} : Lit × DataW H → Nat
  | (.string bytes, d) => bytes.length + uptoBulk d + 1
  | (_, d) => uptoBulk d + 1
 end
def uptoSmall : (H : Type) → List (DataW H) → Bool := fun _ ds => decide (uptoBulkAll ds ≤ 1048576)
def OpenSpec.upto (s : _root_.Go.ChangeSpec) : _root_.Go.OpenSpec := { _root_.Go.OpenSpec.ofChange s with cond := some uptoSmall }

/-- 'laws.FnExactAreHoles', WHERE WHAT IT READS IS OF BULK AT MOST 1048576: true; the input reads as it did. -/
def fnExactAreHolesUptoRow : OpenClaim := { program := "ytbfhphobnngeaaa", sum := "e45491d64bfcc29b33495c89a21cacf39a19b3c61b8b04569ea72c99da4fdf48", func := "loop.example/g01023/laws.FnExactAreHoles", spec := "fnExactAreHoles", unfollowed := true, recurses := true, apart := false, narrowed := true }
def FnExactAreHolesUptoSaid : Prop := fnExactAreHolesUptoRow.holds Try.pinned (OpenSpec.upto fnExactAreHolesSpec)

/-- 'laws.FnExactKnotsLost', WHERE WHAT IT READS IS OF BULK AT MOST 1048576: true; the input reads as it did. -/
def fnExactKnotsLostUptoRow : OpenClaim := { program := "ytbfhphobnngeaaa", sum := "e45491d64bfcc29b33495c89a21cacf39a19b3c61b8b04569ea72c99da4fdf48", func := "loop.example/g01023/laws.FnExactKnotsLost", spec := "fnExactKnotsLost", unfollowed := true, recurses := true, apart := false, narrowed := true }
def FnExactKnotsLostUptoSaid : Prop := fnExactKnotsLostUptoRow.holds Try.pinned (OpenSpec.upto fnExactKnotsLostSpec)

/-- 'laws.FnExactPatchOf', WHERE WHAT IT READS IS OF BULK AT MOST 1048576: true; the input reads as it did. -/
def fnExactPatchOfUptoRow : OpenClaim := { program := "ytbfhphobnngeaaa", sum := "e45491d64bfcc29b33495c89a21cacf39a19b3c61b8b04569ea72c99da4fdf48", func := "loop.example/g01023/laws.FnExactPatchOf", spec := "fnExactPatchOf", unfollowed := true, recurses := true, apart := false, narrowed := true }
def FnExactPatchOfUptoSaid : Prop := fnExactPatchOfUptoRow.holds Try.pinned (OpenSpec.upto fnExactPatchOfSpec)

/-- 'laws.FnExactLargestWhole', WHERE WHAT IT READS IS OF BULK AT MOST 1048576: true; the input reads as it did. -/
def fnExactLargestWholeUptoRow : OpenClaim := { program := "ytbfhphobnngeaaa", sum := "e45491d64bfcc29b33495c89a21cacf39a19b3c61b8b04569ea72c99da4fdf48", func := "loop.example/g01023/laws.FnExactLargestWhole", spec := "fnExactLargestWhole", unfollowed := true, recurses := true, apart := false, narrowed := true }
def FnExactLargestWholeUptoSaid : Prop := fnExactLargestWholeUptoRow.holds Try.pinned (OpenSpec.upto fnExactLargestWholeSpec)

/-- 'laws.FnExactMendMinutes', WHERE WHAT IT READS IS OF BULK AT MOST 1048576: true; the input reads as it did. -/
def fnExactMendMinutesUptoRow : OpenClaim := { program := "ytbfhphobnngeaaa", sum := "e45491d64bfcc29b33495c89a21cacf39a19b3c61b8b04569ea72c99da4fdf48", func := "loop.example/g01023/laws.FnExactMendMinutes", spec := "fnExactMendMinutes", unfollowed := true, recurses := true, apart := false, narrowed := true }
def FnExactMendMinutesUptoSaid : Prop := fnExactMendMinutesUptoRow.holds Try.pinned (OpenSpec.upto fnExactMendMinutesSpec)

/-- 'laws.FnExactYarnLost', WHERE WHAT IT READS IS OF BULK AT MOST 1048576: true; the input reads as it did. -/
def fnExactYarnLostUptoRow : OpenClaim := { program := "ytbfhphobnngeaaa", sum := "e45491d64bfcc29b33495c89a21cacf39a19b3c61b8b04569ea72c99da4fdf48", func := "loop.example/g01023/laws.FnExactYarnLost", spec := "fnExactYarnLost", unfollowed := true, recurses := true, apart := false, narrowed := true }
def FnExactYarnLostUptoSaid : Prop := fnExactYarnLostUptoRow.holds Try.pinned (OpenSpec.upto fnExactYarnLostSpec)

/-- 'laws.FnSheets', WHERE WHAT IT READS IS OF BULK AT MOST 1048576: true; the input reads as it did. -/
def fnSheetsUptoRow : OpenClaim := { program := "ytbfhphobnngeaaa", sum := "e45491d64bfcc29b33495c89a21cacf39a19b3c61b8b04569ea72c99da4fdf48", func := "loop.example/g01023/laws.FnSheets", spec := "fnSheets", unfollowed := true, recurses := true, apart := false, narrowed := true }
def FnSheetsUptoSaid : Prop := fnSheetsUptoRow.holds Try.pinned (OpenSpec.upto fnSheetsSpec)

end Rows
end Go.Proofs.Ytbfhphobnngeaaa
