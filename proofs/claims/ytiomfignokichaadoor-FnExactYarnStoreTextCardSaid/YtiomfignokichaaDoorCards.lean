/-
  DERIVED. GIVEN WITH THE SEED: THE CARDS: each row of YtiomfignokichaaDoorRows.lean that lists a variable, with what it lists TIED to the program's text (the seventh form; the later family's looks); each row that meets fmt, with fmt's text TOLD by the authors' own Lean function (tested against real Go, not proved from fmt's source: count such statements apart). THE CARD IS WHAT COUNTS. Prove the row's statement (the work); the ties are given (YtiomfignokichaaDoorTie.lean); close each card by the builder's one call (the guide's Derived/Test/ToyasCard.lean, 'card_holds'). Laid BY PROGRAM, IN A SANDBOX (cutbox-door.mjs). By AI agents, Wed Nov 11 2026. No macro, syntax, notation, axiom, sorry.
-/
import Derived.Test.YtiomfignokichaaDoorRows
import GoSem.ClaimSeven
namespace Go.Proofs.YtiomfignokichaaDoor
namespace Rows

/-- THE TIED CARD OF 'laws.FnExactYarnStoreText'. -/
def fnExactYarnStoreTextCard : Claim7 := { stood := { row := fnExactYarnStoreTextRow, standIns := [], harness := (true, "2a97840ca5a3176d5e16042119b2f4bb7dcd42981b5a41ee412ce127228c3ec4"), looks := false }, kinds := [], alts := [], laidByText := true, laidKinds := [.data, .data, .data], laidTests := true, laidLooks := .later }
def FnExactYarnStoreTextCardSaid : Prop := Claim7.holds Tryd.pinned (.plain (OpenSpec.ofChange fnExactYarnStoreTextSpec)) fnExactYarnStoreTextCard

/-- THE SECOND FORM's CARD OF 'laws.FnExactYarnStoreText'. -/
def fnExactYarnStoreTextUptoCard : Claim7 := { stood := { row := fnExactYarnStoreTextUptoRow, standIns := [], harness := (true, "2a97840ca5a3176d5e16042119b2f4bb7dcd42981b5a41ee412ce127228c3ec4"), looks := false }, kinds := [], alts := [], laidByText := true, laidKinds := [.data, .data, .data], laidTests := true, laidLooks := .later }
def FnExactYarnStoreTextUptoCardSaid : Prop := Claim7.holds Tryd.pinned (.plain (OpenSpec.upto fnExactYarnStoreTextSpec)) fnExactYarnStoreTextUptoCard
end Rows
end Go.Proofs.YtiomfignokichaaDoor
