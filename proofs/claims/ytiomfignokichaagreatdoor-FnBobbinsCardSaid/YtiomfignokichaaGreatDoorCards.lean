/-
  DERIVED. GIVEN WITH THE SEED: THE CARDS: each row of YtiomfignokichaaGreatDoorRows.lean that lists a variable, with what it lists TIED to the program's text (the seventh form; the later family's looks); each row that meets fmt, with fmt's text TOLD by the authors' own Lean function (tested against real Go, not proved from fmt's source: count such statements apart). THE CARD IS WHAT COUNTS. Prove the row's statement (the work); the ties are given (YtiomfignokichaaGreatDoorTie.lean); close each card by the builder's one call (the guide's Derived/Test/ToyasCard.lean, 'card_holds'). Laid BY PROGRAM, IN A SANDBOX (cutbox-door.mjs). By AI agents, Wed Nov 11 2026. No macro, syntax, notation, axiom, sorry.
-/
import Derived.Test.YtiomfignokichaaGreatDoorRows
import GoSem.ClaimSeven
namespace Go.Proofs.YtiomfignokichaaGreatDoor
namespace Rows

/-- THE TIED CARD OF 'laws.FnBobbins'. -/
def fnBobbinsCard : Claim7 := { stood := { row := fnBobbinsRow, standIns := [], harness := (true, "66072db9d424f75f3599716f725001fcee8763004c4c602523dc0efb8485b32b"), looks := false }, kinds := [], alts := [], laidByText := true, laidKinds := [.data, .data, .data], laidTests := true, laidLooks := .later }
def FnBobbinsCardSaid : Prop := Claim7.holds Tryz.pinned (.plain (OpenSpec.ofChange fnBobbinsSpec)) fnBobbinsCard

/-- THE SECOND FORM's CARD OF 'laws.FnBobbins'. -/
def fnBobbinsUptoCard : Claim7 := { stood := { row := fnBobbinsUptoRow, standIns := [], harness := (true, "66072db9d424f75f3599716f725001fcee8763004c4c602523dc0efb8485b32b"), looks := false }, kinds := [], alts := [], laidByText := true, laidKinds := [.data, .data, .data], laidTests := true, laidLooks := .later }
def FnBobbinsUptoCardSaid : Prop := Claim7.holds Tryz.pinned (.plain (OpenSpec.upto fnBobbinsSpec)) fnBobbinsUptoCard
end Rows
end Go.Proofs.YtiomfignokichaaGreatDoor
