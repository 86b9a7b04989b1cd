/-
  No cell of these rows narrows 'for every input' (looked for: loops, veiled, ifaces, maps, wideKeys, modest, calm, conditions, laid).
  DERIVED. THE GIVEN ROWS OF THIS SEAT. 7 by the template 'for every input the law returns true; each argument reads behind the call as it read before'; 0 by the template 'total and deterministic' (their statements: YtiomfignokichaaTotals.lean).
  GIVEN WITH THE SEED: the statements are not yours to turn. If you find one false, say at which input.
  Laid BY PROGRAM, IN A SANDBOX (cutbox-rows.mjs): the forced cells as the released guide's own fill.sh prints them over the translation 0be743adc90d8966… (all of the seat's roots in one cut). By AI agents, Wed Nov 11 2026. No macro, syntax, notation, axiom, sorry.
-/
import Derived.Test.YtiomfignokichaaChecked
import GoSem.Claim
import GoSem.ClaimJoined
import GoSem.ClaimMapViews
import Derived.JoinedTies
import Derived.KernelRfl
namespace Go.Proofs.Ytiomfignokichaa
/- THE CELL 'sum', in the pinned program and in every row, IS THE sha256 OF THE DUMP (.gsa) THAT YtiomfignokichaaProg.lean LOADS. Nothing in Lean hashes anything: it is a label: what it is worth is what the hold of that sum in a sandbox is worth. -/
noncomputable def Try.pinned : Pinned := { name := "ytiomfignokichaa", sum := "0be743adc90d8966905d7788bb589fa150417b866da9c9a7b27c8245e2537085", checked := Try.checked }
namespace Rows
def none {H : Type} : Left H := { results := [], args := [] }

/-- 'laws.FnExactIsPiece': WHATEVER THE INPUT: true; the input reads as it did. -/
def fnExactIsPieceSpec : ChangeSpec := { name := "fnExactIsPiece", fn := fun _ => fun
  | [d] => { results := [.lit (.bool true)], args := [d] }
  | _ => none }
def fnExactIsPieceRow : OpenClaim := { program := "ytiomfignokichaa", sum := "0be743adc90d8966905d7788bb589fa150417b866da9c9a7b27c8245e2537085", func := "loop.example/g01023/laws.FnExactIsPiece", spec := "fnExactIsPiece", unfollowed := true, recurses := true, apart := false }
def FnExactIsPieceSaid : Prop := fnExactIsPieceRow.holds Try.pinned (OpenSpec.ofChange fnExactIsPieceSpec)

/-- ITS FALSE NEIGHBOUR: 'it returns false'. Refute it at one input. -/
def fnExactIsPieceWrong : ChangeSpec := { name := "fnExactIsPiece", fn := fun _ => fun
  | [d] => { results := [.lit (.bool false)], args := [d] }
  | _ => none }
def FnExactIsPieceWrongFalsely : Prop := fnExactIsPieceRow.holds Try.pinned (OpenSpec.ofChange fnExactIsPieceWrong)

/-- 'laws.FnExactWithMark': WHATEVER THE INPUT: true; the input reads as it did. -/
def fnExactWithMarkSpec : ChangeSpec := { name := "fnExactWithMark", fn := fun _ => fun
  | [d1, d2, d3] => { results := [.lit (.bool true)], args := [d1, d2, d3] }
  | _ => none }
def fnExactWithMarkRow : OpenClaim := { program := "ytiomfignokichaa", sum := "0be743adc90d8966905d7788bb589fa150417b866da9c9a7b27c8245e2537085", func := "loop.example/g01023/laws.FnExactWithMark", spec := "fnExactWithMark", unfollowed := true, recurses := true, apart := false }
def FnExactWithMarkSaid : Prop := fnExactWithMarkRow.holds Try.pinned (OpenSpec.ofChange fnExactWithMarkSpec)

/-- ITS FALSE NEIGHBOUR: 'it returns false'. Refute it at one input. -/
def fnExactWithMarkWrong : ChangeSpec := { name := "fnExactWithMark", fn := fun _ => fun
  | [d1, d2, d3] => { results := [.lit (.bool false)], args := [d1, d2, d3] }
  | _ => none }
def FnExactWithMarkWrongFalsely : Prop := fnExactWithMarkRow.holds Try.pinned (OpenSpec.ofChange fnExactWithMarkWrong)

/-- 'laws.FnExactNewYarnStore': WHATEVER THE INPUT: true; the input reads as it did. -/
def fnExactNewYarnStoreSpec : ChangeSpec := { name := "fnExactNewYarnStore", fn := fun _ => fun
  | [d] => { results := [.lit (.bool true)], args := [d] }
  | _ => none }
def fnExactNewYarnStoreRow : OpenClaim := { program := "ytiomfignokichaa", sum := "0be743adc90d8966905d7788bb589fa150417b866da9c9a7b27c8245e2537085", func := "loop.example/g01023/laws.FnExactNewYarnStore", spec := "fnExactNewYarnStore", apart := false }
def FnExactNewYarnStoreSaid : Prop := fnExactNewYarnStoreRow.holds Try.pinned (OpenSpec.ofChange fnExactNewYarnStoreSpec)

/-- ITS FALSE NEIGHBOUR: 'it returns false'. Refute it at one input. -/
def fnExactNewYarnStoreWrong : ChangeSpec := { name := "fnExactNewYarnStore", fn := fun _ => fun
  | [d] => { results := [.lit (.bool false)], args := [d] }
  | _ => none }
def FnExactNewYarnStoreWrongFalsely : Prop := fnExactNewYarnStoreRow.holds Try.pinned (OpenSpec.ofChange fnExactNewYarnStoreWrong)

/-- 'laws.FnExactIsYarnStore': WHATEVER THE INPUT: true; the input reads as it did. -/
def fnExactIsYarnStoreSpec : ChangeSpec := { name := "fnExactIsYarnStore", fn := fun _ => fun
  | [d] => { results := [.lit (.bool true)], args := [d] }
  | _ => none }
def fnExactIsYarnStoreRow : OpenClaim := { program := "ytiomfignokichaa", sum := "0be743adc90d8966905d7788bb589fa150417b866da9c9a7b27c8245e2537085", func := "loop.example/g01023/laws.FnExactIsYarnStore", spec := "fnExactIsYarnStore", unfollowed := true, recurses := true, apart := false }
def FnExactIsYarnStoreSaid : Prop := fnExactIsYarnStoreRow.holds Try.pinned (OpenSpec.ofChange fnExactIsYarnStoreSpec)

/-- ITS FALSE NEIGHBOUR: 'it returns false'. Refute it at one input. -/
def fnExactIsYarnStoreWrong : ChangeSpec := { name := "fnExactIsYarnStore", fn := fun _ => fun
  | [d] => { results := [.lit (.bool false)], args := [d] }
  | _ => none }
def FnExactIsYarnStoreWrongFalsely : Prop := fnExactIsYarnStoreRow.holds Try.pinned (OpenSpec.ofChange fnExactIsYarnStoreWrong)

/-- 'laws.FnExactMetersOf': WHATEVER THE INPUT: true; the input reads as it did. -/
def fnExactMetersOfSpec : ChangeSpec := { name := "fnExactMetersOf", fn := fun _ => fun
  | [d1, d2] => { results := [.lit (.bool true)], args := [d1, d2] }
  | _ => none }
def fnExactMetersOfRow : OpenClaim := { program := "ytiomfignokichaa", sum := "0be743adc90d8966905d7788bb589fa150417b866da9c9a7b27c8245e2537085", func := "loop.example/g01023/laws.FnExactMetersOf", spec := "fnExactMetersOf", unfollowed := true, recurses := true, apart := false }
def FnExactMetersOfSaid : Prop := fnExactMetersOfRow.holds Try.pinned (OpenSpec.ofChange fnExactMetersOfSpec)

/-- ITS FALSE NEIGHBOUR: 'it returns false'. Refute it at one input. -/
def fnExactMetersOfWrong : ChangeSpec := { name := "fnExactMetersOf", fn := fun _ => fun
  | [d1, d2] => { results := [.lit (.bool false)], args := [d1, d2] }
  | _ => none }
def FnExactMetersOfWrongFalsely : Prop := fnExactMetersOfRow.holds Try.pinned (OpenSpec.ofChange fnExactMetersOfWrong)

/-- 'laws.FnExactShortestFor': WHATEVER THE INPUT: true; the input reads as it did. -/
def fnExactShortestForSpec : ChangeSpec := { name := "fnExactShortestFor", fn := fun _ => fun
  | [d1, d2, d3] => { results := [.lit (.bool true)], args := [d1, d2, d3] }
  | _ => none }
def fnExactShortestForRow : OpenClaim := { program := "ytiomfignokichaa", sum := "0be743adc90d8966905d7788bb589fa150417b866da9c9a7b27c8245e2537085", func := "loop.example/g01023/laws.FnExactShortestFor", spec := "fnExactShortestFor", unfollowed := true, recurses := true, apart := false }
def FnExactShortestForSaid : Prop := fnExactShortestForRow.holds Try.pinned (OpenSpec.ofChange fnExactShortestForSpec)

/-- ITS FALSE NEIGHBOUR: 'it returns false'. Refute it at one input. -/
def fnExactShortestForWrong : ChangeSpec := { name := "fnExactShortestFor", fn := fun _ => fun
  | [d1, d2, d3] => { results := [.lit (.bool false)], args := [d1, d2, d3] }
  | _ => none }
def FnExactShortestForWrongFalsely : Prop := fnExactShortestForRow.holds Try.pinned (OpenSpec.ofChange fnExactShortestForWrong)

/-- 'laws.FnExactTiesFor': WHATEVER THE INPUT: true; the input reads as it did. -/
def fnExactTiesForSpec : ChangeSpec := { name := "fnExactTiesFor", fn := fun _ => fun
  | [d1, d2, d3] => { results := [.lit (.bool true)], args := [d1, d2, d3] }
  | _ => none }
def fnExactTiesForRow : OpenClaim := { program := "ytiomfignokichaa", sum := "0be743adc90d8966905d7788bb589fa150417b866da9c9a7b27c8245e2537085", func := "loop.example/g01023/laws.FnExactTiesFor", spec := "fnExactTiesFor", unfollowed := true, recurses := true, apart := false }
def FnExactTiesForSaid : Prop := fnExactTiesForRow.holds Try.pinned (OpenSpec.ofChange fnExactTiesForSpec)

/-- ITS FALSE NEIGHBOUR: 'it returns false'. Refute it at one input. -/
def fnExactTiesForWrong : ChangeSpec := { name := "fnExactTiesFor", fn := fun _ => fun
  | [d1, d2, d3] => { results := [.lit (.bool false)], args := [d1, d2, d3] }
  | _ => none }
def FnExactTiesForWrongFalsely : Prop := fnExactTiesForRow.holds Try.pinned (OpenSpec.ofChange fnExactTiesForWrong)

/- THE SECOND FORM. 'bulk': how many values and letters a reading holds, each counted each time it is reached (what is shared counts as often as it is met; a slice's spare places count too). A statement '..UptoSaid' is the law's where the arguments, and the package variables that the reading takes, are together of bulk at most 1048576: NARROWER than '..Said'. Prove '..Said' where nothing that the law and all that it calls make is longer than what came in: it says more and counts as full. Else prove '..UptoSaid'. A law counts once. -/
mutual
def uptoBulk {H : Type} : DataW H → Nat
  | .lit (.string bytes) => bytes.length + 1
  | .lit _ => 1
  | .nil => 1
  | .ptr d => uptoBulk d + 1
  | .slice elems spare => uptoBulkAll elems + uptoBulkAll spare + 1
  | .agg parts => uptoBulkAll parts + 1
  | .iface _ d => uptoBulk d + 1
  | .map entries => uptoBulkEntries entries + 1
  | .held _ => 1
def uptoBulkAll {H : Type} : List (DataW H) → Nat
  | [] => 0
  | d :: r => uptoBulk d + uptoBulkAll r
def uptoBulkEntries {H : Type} : List (Lit × DataW H) → Nat
  | [] => 0
  | x :: r => uptoBulkEntry x + uptoBulkEntries r
def uptoBulkEntry {H : Type} : Lit × DataW H → Nat
  | (.string bytes, d) => bytes.length + uptoBulk d + 1
  | (_, d) => uptoBulk d + 1
 end
def uptoSmall : (H : Type) → List (DataW H) → Bool := fun _ ds => decide (uptoBulkAll ds ≤ 1048576)
def OpenSpec.upto (s : _root_.Go.ChangeSpec) : _root_.Go.OpenSpec := { _root_.Go.OpenSpec.ofChange s with cond := some uptoSmall }

/-- 'laws.FnExactIsPiece', WHERE WHAT IT READS IS OF BULK AT MOST 1048576: true; the input reads as it did. -/
def fnExactIsPieceUptoRow : OpenClaim := { program := "ytiomfignokichaa", sum := "0be743adc90d8966905d7788bb589fa150417b866da9c9a7b27c8245e2537085", func := "loop.example/g01023/laws.FnExactIsPiece", spec := "fnExactIsPiece", unfollowed := true, recurses := true, apart := false, narrowed := true }
def FnExactIsPieceUptoSaid : Prop := fnExactIsPieceUptoRow.holds Try.pinned (OpenSpec.upto fnExactIsPieceSpec)

/-- 'laws.FnExactWithMark', WHERE WHAT IT READS IS OF BULK AT MOST 1048576: true; the input reads as it did. -/
def fnExactWithMarkUptoRow : OpenClaim := { program := "ytiomfignokichaa", sum := "0be743adc90d8966905d7788bb589fa150417b866da9c9a7b27c8245e2537085", func := "loop.example/g01023/laws.FnExactWithMark", spec := "fnExactWithMark", unfollowed := true, recurses := true, apart := false, narrowed := true }
def FnExactWithMarkUptoSaid : Prop := fnExactWithMarkUptoRow.holds Try.pinned (OpenSpec.upto fnExactWithMarkSpec)

/-- 'laws.FnExactNewYarnStore', WHERE WHAT IT READS IS OF BULK AT MOST 1048576: true; the input reads as it did. -/
def fnExactNewYarnStoreUptoRow : OpenClaim := { program := "ytiomfignokichaa", sum := "0be743adc90d8966905d7788bb589fa150417b866da9c9a7b27c8245e2537085", func := "loop.example/g01023/laws.FnExactNewYarnStore", spec := "fnExactNewYarnStore", apart := false, narrowed := true }
def FnExactNewYarnStoreUptoSaid : Prop := fnExactNewYarnStoreUptoRow.holds Try.pinned (OpenSpec.upto fnExactNewYarnStoreSpec)

/-- 'laws.FnExactIsYarnStore', WHERE WHAT IT READS IS OF BULK AT MOST 1048576: true; the input reads as it did. -/
def fnExactIsYarnStoreUptoRow : OpenClaim := { program := "ytiomfignokichaa", sum := "0be743adc90d8966905d7788bb589fa150417b866da9c9a7b27c8245e2537085", func := "loop.example/g01023/laws.FnExactIsYarnStore", spec := "fnExactIsYarnStore", unfollowed := true, recurses := true, apart := false, narrowed := true }
def FnExactIsYarnStoreUptoSaid : Prop := fnExactIsYarnStoreUptoRow.holds Try.pinned (OpenSpec.upto fnExactIsYarnStoreSpec)

/-- 'laws.FnExactMetersOf', WHERE WHAT IT READS IS OF BULK AT MOST 1048576: true; the input reads as it did. -/
def fnExactMetersOfUptoRow : OpenClaim := { program := "ytiomfignokichaa", sum := "0be743adc90d8966905d7788bb589fa150417b866da9c9a7b27c8245e2537085", func := "loop.example/g01023/laws.FnExactMetersOf", spec := "fnExactMetersOf", unfollowed := true, recurses := true, apart := false, narrowed := true }
def FnExactMetersOfUptoSaid : Prop := fnExactMetersOfUptoRow.holds Try.pinned (OpenSpec.upto fnExactMetersOfSpec)

/-- 'laws.FnExactShortestFor', WHERE WHAT IT READS IS OF BULK AT MOST 1048576: true; the input reads as it did. -/
def fnExactShortestForUptoRow : OpenClaim := { program := "ytiomfignokichaa", sum := "0be743adc90d8966905d7788bb589fa150417b866da9c9a7b27c8245e2537085", func := "loop.example/g01023/laws.FnExactShortestFor", spec := "fnExactShortestFor", unfollowed := true, recurses := true, apart := false, narrowed := true }
def FnExactShortestForUptoSaid : Prop := fnExactShortestForUptoRow.holds Try.pinned (OpenSpec.upto fnExactShortestForSpec)

/-- 'laws.FnExactTiesFor', WHERE WHAT IT READS IS OF BULK AT MOST 1048576: true; the input reads as it did. -/
def fnExactTiesForUptoRow : OpenClaim := { program := "ytiomfignokichaa", sum := "0be743adc90d8966905d7788bb589fa150417b866da9c9a7b27c8245e2537085", func := "loop.example/g01023/laws.FnExactTiesFor", spec := "fnExactTiesFor", unfollowed := true, recurses := true, apart := false, narrowed := true }
def FnExactTiesForUptoSaid : Prop := fnExactTiesForUptoRow.holds Try.pinned (OpenSpec.upto fnExactTiesForSpec)

end Rows
end Go.Proofs.Ytiomfignokichaa
