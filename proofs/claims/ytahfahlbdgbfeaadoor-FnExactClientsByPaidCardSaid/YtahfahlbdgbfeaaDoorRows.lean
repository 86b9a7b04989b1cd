/-
  NARROWER THAN 'FOR EVERY INPUT', by the rows' own cells (each row's printed sentence says how): FnExactClientsByPaid: laid · FnExactIsCarpetOrder: laid · FnExactAreCarpetOrders: laid · FnExactAreaOnOrder: laid · FnExactStillOwed: laid · FnExactWaitingSince: laid · FnExactPayPart: laid · FnExactCallOff: laid · FnExactNextStage: laid · FnExactAtStage: laid · FnCarpetOrders: laid.
  DERIVED. THE GIVEN ROWS OF THIS SEAT. 11 by the template 'for every input the law returns true; each argument reads behind the call as it read before'; 0 by the template 'total and deterministic' (their statements: YtahfahlbdgbfeaaDoorTotals.lean).
  GIVEN WITH THE SEED: the statements are not yours to turn. If you find one false, say at which input.
  Laid BY PROGRAM, IN A SANDBOX (cutbox-rows.mjs): the forced cells as the released guide's own fill.sh prints them over the translation 559b5b55280f59f4… (all of the seat's roots in one cut). By AI agents, Wed Nov 11 2026. No macro, syntax, notation, axiom, sorry.
-/
import Derived.Test.YtahfahlbdgbfeaaDoorChecked
import GoSem.PinnedTables
import GoSem.Claim
import GoSem.ClaimJoined
import GoSem.ClaimMapViews
import Derived.JoinedTies
import Derived.KernelRfl
namespace Go.Proofs.YtahfahlbdgbfeaaDoor
/- THE CELL 'sum', in the pinned program and in every row, IS THE sha256 OF THE DUMP (.gsa) THAT YtahfahlbdgbfeaaDoorProg.lean LOADS. Nothing in Lean hashes anything: it is a label: what it is worth is what the hold of that sum in a sandbox is worth. -/
noncomputable def Tryd.pinned : Pinned := { name := "ytahfahlbdgbfeaadoor", sum := "559b5b55280f59f4e1e686cba13a5d741569bfcdddaceef794664acf1279ec2c", checked := Tryd.checked }
namespace Rows
def none {H : Type} : Left H := { results := [], args := [] }

/- WHAT THE LISTED PACKAGE-LEVEL VARIABLES READ AS WHEN THE CALL BEGINS. Each datum BY PROGRAM (the guide's laid-datum.mjs) off the statement by which the dump's own 'gosem.cut.vars' lays the variable. In a bare row this is a premise. The card (YtahfahlbdgbfeaaDoorCards.lean) ties it to the program's text. -/
def laid_unicode_utf8_acceptRanges {H : Type} : DataW H := .agg [.agg [.lit (.int .u8 128), .lit (.int .u8 191)], .agg [.lit (.int .u8 160), .lit (.int .u8 191)], .agg [.lit (.int .u8 128), .lit (.int .u8 159)], .agg [.lit (.int .u8 144), .lit (.int .u8 191)], .agg [.lit (.int .u8 128), .lit (.int .u8 143)], .agg [.lit (.int .u8 0), .lit (.int .u8 0)], .agg [.lit (.int .u8 0), .lit (.int .u8 0)], .agg [.lit (.int .u8 0), .lit (.int .u8 0)], .agg [.lit (.int .u8 0), .lit (.int .u8 0)], .agg [.lit (.int .u8 0), .lit (.int .u8 0)], .agg [.lit (.int .u8 0), .lit (.int .u8 0)], .agg [.lit (.int .u8 0), .lit (.int .u8 0)], .agg [.lit (.int .u8 0), .lit (.int .u8 0)], .agg [.lit (.int .u8 0), .lit (.int .u8 0)], .agg [.lit (.int .u8 0), .lit (.int .u8 0)], .agg [.lit (.int .u8 0), .lit (.int .u8 0)]]
/-- One of Go's own tables, pinned by name: the form's constant. -/
def laid_unicode_utf8_first : DataW Unit := Go.Pinned.utf8First

/-- 'laws.FnExactClientsByPaid': WHATEVER THE INPUT: true; the input reads as it did. -/
def fnExactClientsByPaidSpec : ChangeSpec := { name := "fnExactClientsByPaid", fn := fun _ => fun
  | [d] => { results := [.lit (.bool true)], args := [d] }
  | _ => none }
def fnExactClientsByPaidRow : OpenClaim := { program := "ytahfahlbdgbfeaadoor", sum := "559b5b55280f59f4e1e686cba13a5d741569bfcdddaceef794664acf1279ec2c", func := "loop.example/g01023/laws.FnExactClientsByPaid", spec := "fnExactClientsByPaid", inPlace := ["internal/bytealg.IndexByteString", "internal/bytealg.IndexString"], unfollowed := true, recurses := true, named := ["unicode/utf8.first", "unicode/utf8.acceptRanges", "internal/bytealg.MaxLen"], apart := false, laid := [("unicode/utf8.acceptRanges", laid_unicode_utf8_acceptRanges), ("unicode/utf8.first", laid_unicode_utf8_first)] }
def FnExactClientsByPaidSaid : Prop := fnExactClientsByPaidRow.holds Tryd.pinned (OpenSpec.ofChange fnExactClientsByPaidSpec)

/-- ITS FALSE NEIGHBOUR: 'it returns false'. Refute it at one input. -/
def fnExactClientsByPaidWrong : ChangeSpec := { name := "fnExactClientsByPaid", fn := fun _ => fun
  | [d] => { results := [.lit (.bool false)], args := [d] }
  | _ => none }
def FnExactClientsByPaidWrongFalsely : Prop := fnExactClientsByPaidRow.holds Tryd.pinned (OpenSpec.ofChange fnExactClientsByPaidWrong)

/-- 'laws.FnExactIsCarpetOrder': WHATEVER THE INPUT: true; the input reads as it did. -/
def fnExactIsCarpetOrderSpec : ChangeSpec := { name := "fnExactIsCarpetOrder", fn := fun _ => fun
  | [d] => { results := [.lit (.bool true)], args := [d] }
  | _ => none }
def fnExactIsCarpetOrderRow : OpenClaim := { program := "ytahfahlbdgbfeaadoor", sum := "559b5b55280f59f4e1e686cba13a5d741569bfcdddaceef794664acf1279ec2c", func := "loop.example/g01023/laws.FnExactIsCarpetOrder", spec := "fnExactIsCarpetOrder", inPlace := ["internal/bytealg.IndexByteString", "internal/bytealg.IndexString"], named := ["unicode/utf8.first", "unicode/utf8.acceptRanges", "internal/bytealg.MaxLen"], apart := false, laid := [("unicode/utf8.acceptRanges", laid_unicode_utf8_acceptRanges), ("unicode/utf8.first", laid_unicode_utf8_first)] }
def FnExactIsCarpetOrderSaid : Prop := fnExactIsCarpetOrderRow.holds Tryd.pinned (OpenSpec.ofChange fnExactIsCarpetOrderSpec)

/-- ITS FALSE NEIGHBOUR: 'it returns false'. Refute it at one input. -/
def fnExactIsCarpetOrderWrong : ChangeSpec := { name := "fnExactIsCarpetOrder", fn := fun _ => fun
  | [d] => { results := [.lit (.bool false)], args := [d] }
  | _ => none }
def FnExactIsCarpetOrderWrongFalsely : Prop := fnExactIsCarpetOrderRow.holds Tryd.pinned (OpenSpec.ofChange fnExactIsCarpetOrderWrong)

/-- 'laws.FnExactAreCarpetOrders': WHATEVER THE INPUT: true; the input reads as it did. -/
def fnExactAreCarpetOrdersSpec : ChangeSpec := { name := "fnExactAreCarpetOrders", fn := fun _ => fun
  | [d] => { results := [.lit (.bool true)], args := [d] }
  | _ => none }
def fnExactAreCarpetOrdersRow : OpenClaim := { program := "ytahfahlbdgbfeaadoor", sum := "559b5b55280f59f4e1e686cba13a5d741569bfcdddaceef794664acf1279ec2c", func := "loop.example/g01023/laws.FnExactAreCarpetOrders", spec := "fnExactAreCarpetOrders", inPlace := ["internal/bytealg.IndexByteString", "internal/bytealg.IndexString"], unfollowed := true, recurses := true, named := ["unicode/utf8.first", "unicode/utf8.acceptRanges", "internal/bytealg.MaxLen"], apart := false, laid := [("unicode/utf8.acceptRanges", laid_unicode_utf8_acceptRanges), ("unicode/utf8.first", laid_unicode_utf8_first)] }
def FnExactAreCarpetOrdersSaid : Prop := fnExactAreCarpetOrdersRow.holds Tryd.pinned (OpenSpec.ofChange fnExactAreCarpetOrdersSpec)

/-- ITS FALSE NEIGHBOUR: 'it returns false'. Refute it at one input. -/
def fnExactAreCarpetOrdersWrong : ChangeSpec := { name := "fnExactAreCarpetOrders", fn := fun _ => fun
  | [d] => { results := [.lit (.bool false)], args := [d] }
  | _ => none }
def FnExactAreCarpetOrdersWrongFalsely : Prop := fnExactAreCarpetOrdersRow.holds Tryd.pinned (OpenSpec.ofChange fnExactAreCarpetOrdersWrong)

/-- 'laws.FnExactAreaOnOrder': WHATEVER THE INPUT: true; the input reads as it did. -/
def fnExactAreaOnOrderSpec : ChangeSpec := { name := "fnExactAreaOnOrder", fn := fun _ => fun
  | [d] => { results := [.lit (.bool true)], args := [d] }
  | _ => none }
def fnExactAreaOnOrderRow : OpenClaim := { program := "ytahfahlbdgbfeaadoor", sum := "559b5b55280f59f4e1e686cba13a5d741569bfcdddaceef794664acf1279ec2c", func := "loop.example/g01023/laws.FnExactAreaOnOrder", spec := "fnExactAreaOnOrder", inPlace := ["internal/bytealg.IndexByteString", "internal/bytealg.IndexString"], unfollowed := true, recurses := true, named := ["unicode/utf8.first", "unicode/utf8.acceptRanges", "internal/bytealg.MaxLen"], apart := false, laid := [("unicode/utf8.acceptRanges", laid_unicode_utf8_acceptRanges), ("unicode/utf8.first", laid_unicode_utf8_first)] }
def FnExactAreaOnOrderSaid : Prop := fnExactAreaOnOrderRow.holds Tryd.pinned (OpenSpec.ofChange fnExactAreaOnOrderSpec)

/-- ITS FALSE NEIGHBOUR: 'it returns false'. Refute it at one input. -/
def fnExactAreaOnOrderWrong : ChangeSpec := { name := "fnExactAreaOnOrder", fn := fun _ => fun
  | [d] => { results := [.lit (.bool false)], args := [d] }
  | _ => none }
def FnExactAreaOnOrderWrongFalsely : Prop := fnExactAreaOnOrderRow.holds Tryd.pinned (OpenSpec.ofChange fnExactAreaOnOrderWrong)

/-- 'laws.FnExactStillOwed': WHATEVER THE INPUT: true; the input reads as it did. -/
def fnExactStillOwedSpec : ChangeSpec := { name := "fnExactStillOwed", fn := fun _ => fun
  | [d1, d2] => { results := [.lit (.bool true)], args := [d1, d2] }
  | _ => none }
def fnExactStillOwedRow : OpenClaim := { program := "ytahfahlbdgbfeaadoor", sum := "559b5b55280f59f4e1e686cba13a5d741569bfcdddaceef794664acf1279ec2c", func := "loop.example/g01023/laws.FnExactStillOwed", spec := "fnExactStillOwed", inPlace := ["internal/bytealg.IndexByteString", "internal/bytealg.IndexString"], unfollowed := true, recurses := true, named := ["unicode/utf8.first", "unicode/utf8.acceptRanges", "internal/bytealg.MaxLen"], apart := false, laid := [("unicode/utf8.acceptRanges", laid_unicode_utf8_acceptRanges), ("unicode/utf8.first", laid_unicode_utf8_first)] }
def FnExactStillOwedSaid : Prop := fnExactStillOwedRow.holds Tryd.pinned (OpenSpec.ofChange fnExactStillOwedSpec)

/-- ITS FALSE NEIGHBOUR: 'it returns false'. Refute it at one input. -/
def fnExactStillOwedWrong : ChangeSpec := { name := "fnExactStillOwed", fn := fun _ => fun
  | [d1, d2] => { results := [.lit (.bool false)], args := [d1, d2] }
  | _ => none }
def FnExactStillOwedWrongFalsely : Prop := fnExactStillOwedRow.holds Tryd.pinned (OpenSpec.ofChange fnExactStillOwedWrong)

/-- 'laws.FnExactWaitingSince': WHATEVER THE INPUT: true; the input reads as it did. -/
def fnExactWaitingSinceSpec : ChangeSpec := { name := "fnExactWaitingSince", fn := fun _ => fun
  | [d1, d2, d3] => { results := [.lit (.bool true)], args := [d1, d2, d3] }
  | _ => none }
def fnExactWaitingSinceRow : OpenClaim := { program := "ytahfahlbdgbfeaadoor", sum := "559b5b55280f59f4e1e686cba13a5d741569bfcdddaceef794664acf1279ec2c", func := "loop.example/g01023/laws.FnExactWaitingSince", spec := "fnExactWaitingSince", inPlace := ["internal/bytealg.IndexByteString", "internal/bytealg.IndexString"], unfollowed := true, recurses := true, named := ["unicode/utf8.first", "unicode/utf8.acceptRanges", "internal/bytealg.MaxLen"], apart := false, laid := [("unicode/utf8.acceptRanges", laid_unicode_utf8_acceptRanges), ("unicode/utf8.first", laid_unicode_utf8_first)] }
def FnExactWaitingSinceSaid : Prop := fnExactWaitingSinceRow.holds Tryd.pinned (OpenSpec.ofChange fnExactWaitingSinceSpec)

/-- ITS FALSE NEIGHBOUR: 'it returns false'. Refute it at one input. -/
def fnExactWaitingSinceWrong : ChangeSpec := { name := "fnExactWaitingSince", fn := fun _ => fun
  | [d1, d2, d3] => { results := [.lit (.bool false)], args := [d1, d2, d3] }
  | _ => none }
def FnExactWaitingSinceWrongFalsely : Prop := fnExactWaitingSinceRow.holds Tryd.pinned (OpenSpec.ofChange fnExactWaitingSinceWrong)

/-- 'laws.FnExactPayPart': WHATEVER THE INPUT: true; the input reads as it did. -/
def fnExactPayPartSpec : ChangeSpec := { name := "fnExactPayPart", fn := fun _ => fun
  | [d1, d2, d3] => { results := [.lit (.bool true)], args := [d1, d2, d3] }
  | _ => none }
def fnExactPayPartRow : OpenClaim := { program := "ytahfahlbdgbfeaadoor", sum := "559b5b55280f59f4e1e686cba13a5d741569bfcdddaceef794664acf1279ec2c", func := "loop.example/g01023/laws.FnExactPayPart", spec := "fnExactPayPart", inPlace := ["internal/bytealg.IndexByteString", "internal/bytealg.IndexString"], unfollowed := true, recurses := true, named := ["unicode/utf8.first", "unicode/utf8.acceptRanges", "internal/bytealg.MaxLen"], apart := false, laid := [("unicode/utf8.acceptRanges", laid_unicode_utf8_acceptRanges), ("unicode/utf8.first", laid_unicode_utf8_first)] }
def FnExactPayPartSaid : Prop := fnExactPayPartRow.holds Tryd.pinned (OpenSpec.ofChange fnExactPayPartSpec)

/-- ITS FALSE NEIGHBOUR: 'it returns false'. Refute it at one input. -/
def fnExactPayPartWrong : ChangeSpec := { name := "fnExactPayPart", fn := fun _ => fun
  | [d1, d2, d3] => { results := [.lit (.bool false)], args := [d1, d2, d3] }
  | _ => none }
def FnExactPayPartWrongFalsely : Prop := fnExactPayPartRow.holds Tryd.pinned (OpenSpec.ofChange fnExactPayPartWrong)

/-- 'laws.FnExactCallOff': WHATEVER THE INPUT: true; the input reads as it did. -/
def fnExactCallOffSpec : ChangeSpec := { name := "fnExactCallOff", fn := fun _ => fun
  | [d1, d2, d3] => { results := [.lit (.bool true)], args := [d1, d2, d3] }
  | _ => none }
def fnExactCallOffRow : OpenClaim := { program := "ytahfahlbdgbfeaadoor", sum := "559b5b55280f59f4e1e686cba13a5d741569bfcdddaceef794664acf1279ec2c", func := "loop.example/g01023/laws.FnExactCallOff", spec := "fnExactCallOff", inPlace := ["internal/bytealg.IndexByteString", "internal/bytealg.IndexString"], unfollowed := true, recurses := true, named := ["unicode/utf8.first", "unicode/utf8.acceptRanges", "internal/bytealg.MaxLen"], apart := false, laid := [("unicode/utf8.acceptRanges", laid_unicode_utf8_acceptRanges), ("unicode/utf8.first", laid_unicode_utf8_first)] }
def FnExactCallOffSaid : Prop := fnExactCallOffRow.holds Tryd.pinned (OpenSpec.ofChange fnExactCallOffSpec)

/-- ITS FALSE NEIGHBOUR: 'it returns false'. Refute it at one input. -/
def fnExactCallOffWrong : ChangeSpec := { name := "fnExactCallOff", fn := fun _ => fun
  | [d1, d2, d3] => { results := [.lit (.bool false)], args := [d1, d2, d3] }
  | _ => none }
def FnExactCallOffWrongFalsely : Prop := fnExactCallOffRow.holds Tryd.pinned (OpenSpec.ofChange fnExactCallOffWrong)

/-- 'laws.FnExactNextStage': WHATEVER THE INPUT: true; the input reads as it did. -/
def fnExactNextStageSpec : ChangeSpec := { name := "fnExactNextStage", fn := fun _ => fun
  | [d1, d2, d3] => { results := [.lit (.bool true)], args := [d1, d2, d3] }
  | _ => none }
def fnExactNextStageRow : OpenClaim := { program := "ytahfahlbdgbfeaadoor", sum := "559b5b55280f59f4e1e686cba13a5d741569bfcdddaceef794664acf1279ec2c", func := "loop.example/g01023/laws.FnExactNextStage", spec := "fnExactNextStage", inPlace := ["internal/bytealg.IndexByteString", "internal/bytealg.IndexString"], unfollowed := true, recurses := true, named := ["unicode/utf8.first", "unicode/utf8.acceptRanges", "internal/bytealg.MaxLen"], apart := false, laid := [("unicode/utf8.acceptRanges", laid_unicode_utf8_acceptRanges), ("unicode/utf8.first", laid_unicode_utf8_first)] }
def FnExactNextStageSaid : Prop := fnExactNextStageRow.holds Tryd.pinned (OpenSpec.ofChange fnExactNextStageSpec)

/-- ITS FALSE NEIGHBOUR: 'it returns false'. Refute it at one input. -/
def fnExactNextStageWrong : ChangeSpec := { name := "fnExactNextStage", fn := fun _ => fun
  | [d1, d2, d3] => { results := [.lit (.bool false)], args := [d1, d2, d3] }
  | _ => none }
def FnExactNextStageWrongFalsely : Prop := fnExactNextStageRow.holds Tryd.pinned (OpenSpec.ofChange fnExactNextStageWrong)

/-- 'laws.FnExactAtStage': WHATEVER THE INPUT: true; the input reads as it did. -/
def fnExactAtStageSpec : ChangeSpec := { name := "fnExactAtStage", fn := fun _ => fun
  | [d1, d2] => { results := [.lit (.bool true)], args := [d1, d2] }
  | _ => none }
def fnExactAtStageRow : OpenClaim := { program := "ytahfahlbdgbfeaadoor", sum := "559b5b55280f59f4e1e686cba13a5d741569bfcdddaceef794664acf1279ec2c", func := "loop.example/g01023/laws.FnExactAtStage", spec := "fnExactAtStage", inPlace := ["internal/bytealg.IndexByteString", "internal/bytealg.IndexString"], unfollowed := true, recurses := true, named := ["unicode/utf8.first", "unicode/utf8.acceptRanges", "internal/bytealg.MaxLen"], apart := false, laid := [("unicode/utf8.acceptRanges", laid_unicode_utf8_acceptRanges), ("unicode/utf8.first", laid_unicode_utf8_first)] }
def FnExactAtStageSaid : Prop := fnExactAtStageRow.holds Tryd.pinned (OpenSpec.ofChange fnExactAtStageSpec)

/-- ITS FALSE NEIGHBOUR: 'it returns false'. Refute it at one input. -/
def fnExactAtStageWrong : ChangeSpec := { name := "fnExactAtStage", fn := fun _ => fun
  | [d1, d2] => { results := [.lit (.bool false)], args := [d1, d2] }
  | _ => none }
def FnExactAtStageWrongFalsely : Prop := fnExactAtStageRow.holds Tryd.pinned (OpenSpec.ofChange fnExactAtStageWrong)

/-- 'laws.FnCarpetOrders': WHATEVER THE INPUT: true; the input reads as it did. -/
def fnCarpetOrdersSpec : ChangeSpec := { name := "fnCarpetOrders", fn := fun _ => fun
  | [d] => { results := [.lit (.bool true)], args := [d] }
  | _ => none }
def fnCarpetOrdersRow : OpenClaim := { program := "ytahfahlbdgbfeaadoor", sum := "559b5b55280f59f4e1e686cba13a5d741569bfcdddaceef794664acf1279ec2c", func := "loop.example/g01023/laws.FnCarpetOrders", spec := "fnCarpetOrders", inPlace := ["internal/bytealg.IndexByteString", "internal/bytealg.IndexString"], unfollowed := true, recurses := true, named := ["unicode/utf8.first", "unicode/utf8.acceptRanges", "internal/bytealg.MaxLen"], apart := false, laid := [("unicode/utf8.acceptRanges", laid_unicode_utf8_acceptRanges), ("unicode/utf8.first", laid_unicode_utf8_first)] }
def FnCarpetOrdersSaid : Prop := fnCarpetOrdersRow.holds Tryd.pinned (OpenSpec.ofChange fnCarpetOrdersSpec)

/-- ITS FALSE NEIGHBOUR: 'it returns false'. Refute it at one input. -/
def fnCarpetOrdersWrong : ChangeSpec := { name := "fnCarpetOrders", fn := fun _ => fun
  | [d] => { results := [.lit (.bool false)], args := [d] }
  | _ => none }
def FnCarpetOrdersWrongFalsely : Prop := fnCarpetOrdersRow.holds Tryd.pinned (OpenSpec.ofChange fnCarpetOrdersWrong)

/- THE SECOND FORM. 'bulk': how many values and letters a reading holds, each counted each time it is reached (what is shared counts as often as it is met; a slice's spare places count too). A statement '..UptoSaid' is the law's where the arguments, and the package variables that the reading takes, are together of bulk at most 1048576: NARROWER than '..Said'. Prove '..Said' where nothing that the law and all that it calls make is longer than what came in: it says more and counts as full. Else prove '..UptoSaid'. A law counts once. -/
mutual
def uptoBulk {H : Type} : DataW H → Nat
  | .lit (.string bytes) => bytes.length + 1
  | .lit _ => 1
  | .nil => 1
  | .ptr d => uptoBulk d + 1
  | .slice elems spare => uptoBulkAll elems + uptoBulkAll spare + 1
  | .agg parts => uptoBulkAll parts + 1
  | .iface _ d => uptoBulk d + 1
  | .map entries => uptoBulkEntries entries + 1
  | .held _ => 1
def uptoBulkAll {H : Type} : List (DataW H) → Nat
  | [] => 0
  | d :: r => uptoBulk d + uptoBulkAll r
def uptoBulkEntries {H : Type} : List (Lit × DataW H) → Nat
  | [] => 0
  | x :: r => uptoBulkEntry x + uptoBulkEntries r
def uptoBulkEntry {H : Type} : Lit × DataW H → Nat
  | (.string bytes, d) => bytes.length + uptoBulk d + 1
  | (_, d) => uptoBulk d + 1
 end
def uptoSmall : (H : Type) → List (DataW H) → Bool := fun _ ds => decide (uptoBulkAll ds ≤ 1048576)
def OpenSpec.upto (s : _root_.Go.ChangeSpec) : _root_.Go.OpenSpec := { _root_.Go.OpenSpec.ofChange s with cond := some uptoSmall }

/-- 'laws.FnExactClientsByPaid', WHERE WHAT IT READS IS OF BULK AT MOST 1048576: true; the input reads as it did. -/
def fnExactClientsByPaidUptoRow : OpenClaim := { program := "ytahfahlbdgbfeaadoor", sum := "559b5b55280f59f4e1e686cba13a5d741569bfcdddaceef794664acf1279ec2c", func := "loop.example/g01023/laws.FnExactClientsByPaid", spec := "fnExactClientsByPaid", inPlace := ["internal/bytealg.IndexByteString", "internal/bytealg.IndexString"], unfollowed := true, recurses := true, named := ["unicode/utf8.first", "unicode/utf8.acceptRanges", "internal/bytealg.MaxLen"], apart := false, laid := [("unicode/utf8.acceptRanges", laid_unicode_utf8_acceptRanges), ("unicode/utf8.first", laid_unicode_utf8_first)], narrowed := true }
def FnExactClientsByPaidUptoSaid : Prop := fnExactClientsByPaidUptoRow.holds Tryd.pinned (OpenSpec.upto fnExactClientsByPaidSpec)

/-- 'laws.FnExactIsCarpetOrder', WHERE WHAT IT READS IS OF BULK AT MOST 1048576: true; the input reads as it did. -/
def fnExactIsCarpetOrderUptoRow : OpenClaim := { program := "ytahfahlbdgbfeaadoor", sum := "559b5b55280f59f4e1e686cba13a5d741569bfcdddaceef794664acf1279ec2c", func := "loop.example/g01023/laws.FnExactIsCarpetOrder", spec := "fnExactIsCarpetOrder", inPlace := ["internal/bytealg.IndexByteString", "internal/bytealg.IndexString"], named := ["unicode/utf8.first", "unicode/utf8.acceptRanges", "internal/bytealg.MaxLen"], apart := false, laid := [("unicode/utf8.acceptRanges", laid_unicode_utf8_acceptRanges), ("unicode/utf8.first", laid_unicode_utf8_first)], narrowed := true }
def FnExactIsCarpetOrderUptoSaid : Prop := fnExactIsCarpetOrderUptoRow.holds Tryd.pinned (OpenSpec.upto fnExactIsCarpetOrderSpec)

/-- 'laws.FnExactAreCarpetOrders', WHERE WHAT IT READS IS OF BULK AT MOST 1048576: true; the input reads as it did. -/
def fnExactAreCarpetOrdersUptoRow : OpenClaim := { program := "ytahfahlbdgbfeaadoor", sum := "559b5b55280f59f4e1e686cba13a5d741569bfcdddaceef794664acf1279ec2c", func := "loop.example/g01023/laws.FnExactAreCarpetOrders", spec := "fnExactAreCarpetOrders", inPlace := ["internal/bytealg.IndexByteString", "internal/bytealg.IndexString"], unfollowed := true, recurses := true, named := ["unicode/utf8.first", "unicode/utf8.acceptRanges", "internal/bytealg.MaxLen"], apart := false, laid := [("unicode/utf8.acceptRanges", laid_unicode_utf8_acceptRanges), ("unicode/utf8.first", laid_unicode_utf8_first)], narrowed := true }
def FnExactAreCarpetOrdersUptoSaid : Prop := fnExactAreCarpetOrdersUptoRow.holds Tryd.pinned (OpenSpec.upto fnExactAreCarpetOrdersSpec)

/-- 'laws.FnExactAreaOnOrder', WHERE WHAT IT READS IS OF BULK AT MOST 1048576: true; the input reads as it did. -/
def fnExactAreaOnOrderUptoRow : OpenClaim := { program := "ytahfahlbdgbfeaadoor", sum := "559b5b55280f59f4e1e686cba13a5d741569bfcdddaceef794664acf1279ec2c", func := "loop.example/g01023/laws.FnExactAreaOnOrder", spec := "fnExactAreaOnOrder", inPlace := ["internal/bytealg.IndexByteString", "internal/bytealg.IndexString"], unfollowed := true, recurses := true, named := ["unicode/utf8.first", "unicode/utf8.acceptRanges", "internal/bytealg.MaxLen"], apart := false, laid := [("unicode/utf8.acceptRanges", laid_unicode_utf8_acceptRanges), ("unicode/utf8.first", laid_unicode_utf8_first)], narrowed := true }
def FnExactAreaOnOrderUptoSaid : Prop := fnExactAreaOnOrderUptoRow.holds Tryd.pinned (OpenSpec.upto fnExactAreaOnOrderSpec)

/-- 'laws.FnExactStillOwed', WHERE WHAT IT READS IS OF BULK AT MOST 1048576: true; the input reads as it did. -/
def fnExactStillOwedUptoRow : OpenClaim := { program := "ytahfahlbdgbfeaadoor", sum := "559b5b55280f59f4e1e686cba13a5d741569bfcdddaceef794664acf1279ec2c", func := "loop.example/g01023/laws.FnExactStillOwed", spec := "fnExactStillOwed", inPlace := ["internal/bytealg.IndexByteString", "internal/bytealg.IndexString"], unfollowed := true, recurses := true, named := ["unicode/utf8.first", "unicode/utf8.acceptRanges", "internal/bytealg.MaxLen"], apart := false, laid := [("unicode/utf8.acceptRanges", laid_unicode_utf8_acceptRanges), ("unicode/utf8.first", laid_unicode_utf8_first)], narrowed := true }
def FnExactStillOwedUptoSaid : Prop := fnExactStillOwedUptoRow.holds Tryd.pinned (OpenSpec.upto fnExactStillOwedSpec)

/-- 'laws.FnExactWaitingSince', WHERE WHAT IT READS IS OF BULK AT MOST 1048576: true; the input reads as it did. -/
def fnExactWaitingSinceUptoRow : OpenClaim := { program := "ytahfahlbdgbfeaadoor", sum := "559b5b55280f59f4e1e686cba13a5d741569bfcdddaceef794664acf1279ec2c", func := "loop.example/g01023/laws.FnExactWaitingSince", spec := "fnExactWaitingSince", inPlace := ["internal/bytealg.IndexByteString", "internal/bytealg.IndexString"], unfollowed := true, recurses := true, named := ["unicode/utf8.first", "unicode/utf8.acceptRanges", "internal/bytealg.MaxLen"], apart := false, laid := [("unicode/utf8.acceptRanges", laid_unicode_utf8_acceptRanges), ("unicode/utf8.first", laid_unicode_utf8_first)], narrowed := true }
def FnExactWaitingSinceUptoSaid : Prop := fnExactWaitingSinceUptoRow.holds Tryd.pinned (OpenSpec.upto fnExactWaitingSinceSpec)

/-- 'laws.FnExactPayPart', WHERE WHAT IT READS IS OF BULK AT MOST 1048576: true; the input reads as it did. -/
def fnExactPayPartUptoRow : OpenClaim := { program := "ytahfahlbdgbfeaadoor", sum := "559b5b55280f59f4e1e686cba13a5d741569bfcdddaceef794664acf1279ec2c", func := "loop.example/g01023/laws.FnExactPayPart", spec := "fnExactPayPart", inPlace := ["internal/bytealg.IndexByteString", "internal/bytealg.IndexString"], unfollowed := true, recurses := true, named := ["unicode/utf8.first", "unicode/utf8.acceptRanges", "internal/bytealg.MaxLen"], apart := false, laid := [("unicode/utf8.acceptRanges", laid_unicode_utf8_acceptRanges), ("unicode/utf8.first", laid_unicode_utf8_first)], narrowed := true }
def FnExactPayPartUptoSaid : Prop := fnExactPayPartUptoRow.holds Tryd.pinned (OpenSpec.upto fnExactPayPartSpec)

/-- 'laws.FnExactCallOff', WHERE WHAT IT READS IS OF BULK AT MOST 1048576: true; the input reads as it did. -/
def fnExactCallOffUptoRow : OpenClaim := { program := "ytahfahlbdgbfeaadoor", sum := "559b5b55280f59f4e1e686cba13a5d741569bfcdddaceef794664acf1279ec2c", func := "loop.example/g01023/laws.FnExactCallOff", spec := "fnExactCallOff", inPlace := ["internal/bytealg.IndexByteString", "internal/bytealg.IndexString"], unfollowed := true, recurses := true, named := ["unicode/utf8.first", "unicode/utf8.acceptRanges", "internal/bytealg.MaxLen"], apart := false, laid := [("unicode/utf8.acceptRanges", laid_unicode_utf8_acceptRanges), ("unicode/utf8.first", laid_unicode_utf8_first)], narrowed := true }
def FnExactCallOffUptoSaid : Prop := fnExactCallOffUptoRow.holds Tryd.pinned (OpenSpec.upto fnExactCallOffSpec)

/-- 'laws.FnExactNextStage', WHERE WHAT IT READS IS OF BULK AT MOST 1048576: true; the input reads as it did. -/
def fnExactNextStageUptoRow : OpenClaim := { program := "ytahfahlbdgbfeaadoor", sum := "559b5b55280f59f4e1e686cba13a5d741569bfcdddaceef794664acf1279ec2c", func := "loop.example/g01023/laws.FnExactNextStage", spec := "fnExactNextStage", inPlace := ["internal/bytealg.IndexByteString", "internal/bytealg.IndexString"], unfollowed := true, recurses := true, named := ["unicode/utf8.first", "unicode/utf8.acceptRanges", "internal/bytealg.MaxLen"], apart := false, laid := [("unicode/utf8.acceptRanges", laid_unicode_utf8_acceptRanges), ("unicode/utf8.first", laid_unicode_utf8_first)], narrowed := true }
def FnExactNextStageUptoSaid : Prop := fnExactNextStageUptoRow.holds Tryd.pinned (OpenSpec.upto fnExactNextStageSpec)

/-- 'laws.FnExactAtStage', WHERE WHAT IT READS IS OF BULK AT MOST 1048576: true; the input reads as it did. -/
def fnExactAtStageUptoRow : OpenClaim := { program := "ytahfahlbdgbfeaadoor", sum := "559b5b55280f59f4e1e686cba13a5d741569bfcdddaceef794664acf1279ec2c", func := "loop.example/g01023/laws.FnExactAtStage", spec := "fnExactAtStage", inPlace := ["internal/bytealg.IndexByteString", "internal/bytealg.IndexString"], unfollowed := true, recurses := true, named := ["unicode/utf8.first", "unicode/utf8.acceptRanges", "internal/bytealg.MaxLen"], apart := false, laid := [("unicode/utf8.acceptRanges", laid_unicode_utf8_acceptRanges), ("unicode/utf8.first", laid_unicode_utf8_first)], narrowed := true }
def FnExactAtStageUptoSaid : Prop := fnExactAtStageUptoRow.holds Tryd.pinned (OpenSpec.upto fnExactAtStageSpec)

/-- 'laws.FnCarpetOrders', WHERE WHAT IT READS IS OF BULK AT MOST 1048576: true; the input reads as it did. -/
def fnCarpetOrdersUptoRow : OpenClaim := { program := "ytahfahlbdgbfeaadoor", sum := "559b5b55280f59f4e1e686cba13a5d741569bfcdddaceef794664acf1279ec2c", func := "loop.example/g01023/laws.FnCarpetOrders", spec := "fnCarpetOrders", inPlace := ["internal/bytealg.IndexByteString", "internal/bytealg.IndexString"], unfollowed := true, recurses := true, named := ["unicode/utf8.first", "unicode/utf8.acceptRanges", "internal/bytealg.MaxLen"], apart := false, laid := [("unicode/utf8.acceptRanges", laid_unicode_utf8_acceptRanges), ("unicode/utf8.first", laid_unicode_utf8_first)], narrowed := true }
def FnCarpetOrdersUptoSaid : Prop := fnCarpetOrdersUptoRow.holds Tryd.pinned (OpenSpec.upto fnCarpetOrdersSpec)

end Rows
end Go.Proofs.YtahfahlbdgbfeaaDoor
