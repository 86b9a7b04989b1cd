/-
  DERIVED. GIVEN WITH THE SEED: THE CARDS: each row of YtahfahlbdgbfeaaGreatDoorRows.lean that lists a variable, with what it lists TIED to the program's text (the seventh form; the later family's looks); each row that meets fmt, with fmt's text TOLD by the authors' own Lean function (tested against real Go, not proved from fmt's source: count such statements apart). THE CARD IS WHAT COUNTS. Prove the row's statement (the work); the ties are given (YtahfahlbdgbfeaaGreatDoorTie.lean); close each card by the builder's one call (the guide's Derived/Test/ToyasCard.lean, 'card_holds'). Laid BY PROGRAM, IN A SANDBOX (cutbox-door.mjs). By AI agents, Wed Nov 11 2026. No macro, syntax, notation, axiom, sorry.
-/
import Derived.Test.YtahfahlbdgbfeaaGreatDoorRows
import GoSem.ClaimSeven
namespace Go.Proofs.YtahfahlbdgbfeaaGreatDoor
namespace Rows

/-- THE TIED CARD OF 'laws.FnOrderBooks'. -/
def fnOrderBooksCard : Claim7 := { stood := { row := fnOrderBooksRow, standIns := [], harness := (true, "96a0a5ba17214873f3cad91af03b3b9855eb8a89c553f2a6a9fcdc9c5c91ba71"), looks := false }, kinds := [], alts := [], laidByText := true, laidKinds := [.data, .pinned], laidTests := true, laidLooks := .later }
def FnOrderBooksCardSaid : Prop := Claim7.holds Tryz.pinned (.plain (OpenSpec.ofChange fnOrderBooksSpec)) fnOrderBooksCard

/-- THE SECOND FORM's CARD OF 'laws.FnOrderBooks'. -/
def fnOrderBooksUptoCard : Claim7 := { stood := { row := fnOrderBooksUptoRow, standIns := [], harness := (true, "96a0a5ba17214873f3cad91af03b3b9855eb8a89c553f2a6a9fcdc9c5c91ba71"), looks := false }, kinds := [], alts := [], laidByText := true, laidKinds := [.data, .pinned], laidTests := true, laidLooks := .later }
def FnOrderBooksUptoCardSaid : Prop := Claim7.holds Tryz.pinned (.plain (OpenSpec.upto fnOrderBooksSpec)) fnOrderBooksUptoCard
end Rows
end Go.Proofs.YtahfahlbdgbfeaaGreatDoor
