/-
  DERIVED. GIVEN WITH THE SEED: THE CARDS: each row of YtahfahlbdgbfeaaDoorRows.lean that lists a variable, with what it lists TIED to the program's text (the seventh form; the later family's looks); each row that meets fmt, with fmt's text TOLD by the authors' own Lean function (tested against real Go, not proved from fmt's source: count such statements apart). THE CARD IS WHAT COUNTS. Prove the row's statement (the work); the ties are given (YtahfahlbdgbfeaaDoorTie.lean); close each card by the builder's one call (the guide's Derived/Test/ToyasCard.lean, 'card_holds'). Laid BY PROGRAM, IN A SANDBOX (cutbox-door.mjs). By AI agents, Wed Nov 11 2026. No macro, syntax, notation, axiom, sorry.
-/
import Derived.Test.YtahfahlbdgbfeaaDoorRows
import GoSem.ClaimSeven
namespace Go.Proofs.YtahfahlbdgbfeaaDoor
namespace Rows

/-- THE TIED CARD OF 'laws.FnExactClientsByPaid'. -/
def fnExactClientsByPaidCard : Claim7 := { stood := { row := fnExactClientsByPaidRow, standIns := [], harness := (true, "db0d1aa1ad798d9c22eef632343477c551b481d126d6bb025e68cde86f5f6c7d"), looks := false }, kinds := [], alts := [], laidByText := true, laidKinds := [.data, .pinned], laidTests := true, laidLooks := .later }
def FnExactClientsByPaidCardSaid : Prop := Claim7.holds Tryd.pinned (.plain (OpenSpec.ofChange fnExactClientsByPaidSpec)) fnExactClientsByPaidCard

/-- THE TIED CARD OF 'laws.FnExactIsCarpetOrder'. -/
def fnExactIsCarpetOrderCard : Claim7 := { stood := { row := fnExactIsCarpetOrderRow, standIns := [], harness := (true, "db0d1aa1ad798d9c22eef632343477c551b481d126d6bb025e68cde86f5f6c7d"), looks := false }, kinds := [], alts := [], laidByText := true, laidKinds := [.data, .pinned], laidTests := true, laidLooks := .later }
def FnExactIsCarpetOrderCardSaid : Prop := Claim7.holds Tryd.pinned (.plain (OpenSpec.ofChange fnExactIsCarpetOrderSpec)) fnExactIsCarpetOrderCard

/-- THE TIED CARD OF 'laws.FnExactAreCarpetOrders'. -/
def fnExactAreCarpetOrdersCard : Claim7 := { stood := { row := fnExactAreCarpetOrdersRow, standIns := [], harness := (true, "db0d1aa1ad798d9c22eef632343477c551b481d126d6bb025e68cde86f5f6c7d"), looks := false }, kinds := [], alts := [], laidByText := true, laidKinds := [.data, .pinned], laidTests := true, laidLooks := .later }
def FnExactAreCarpetOrdersCardSaid : Prop := Claim7.holds Tryd.pinned (.plain (OpenSpec.ofChange fnExactAreCarpetOrdersSpec)) fnExactAreCarpetOrdersCard

/-- THE TIED CARD OF 'laws.FnExactAreaOnOrder'. -/
def fnExactAreaOnOrderCard : Claim7 := { stood := { row := fnExactAreaOnOrderRow, standIns := [], harness := (true, "db0d1aa1ad798d9c22eef632343477c551b481d126d6bb025e68cde86f5f6c7d"), looks := false }, kinds := [], alts := [], laidByText := true, laidKinds := [.data, .pinned], laidTests := true, laidLooks := .later }
def FnExactAreaOnOrderCardSaid : Prop := Claim7.holds Tryd.pinned (.plain (OpenSpec.ofChange fnExactAreaOnOrderSpec)) fnExactAreaOnOrderCard

/-- THE TIED CARD OF 'laws.FnExactStillOwed'. -/
def fnExactStillOwedCard : Claim7 := { stood := { row := fnExactStillOwedRow, standIns := [], harness := (true, "db0d1aa1ad798d9c22eef632343477c551b481d126d6bb025e68cde86f5f6c7d"), looks := false }, kinds := [], alts := [], laidByText := true, laidKinds := [.data, .pinned], laidTests := true, laidLooks := .later }
def FnExactStillOwedCardSaid : Prop := Claim7.holds Tryd.pinned (.plain (OpenSpec.ofChange fnExactStillOwedSpec)) fnExactStillOwedCard

/-- THE TIED CARD OF 'laws.FnExactWaitingSince'. -/
def fnExactWaitingSinceCard : Claim7 := { stood := { row := fnExactWaitingSinceRow, standIns := [], harness := (true, "db0d1aa1ad798d9c22eef632343477c551b481d126d6bb025e68cde86f5f6c7d"), looks := false }, kinds := [], alts := [], laidByText := true, laidKinds := [.data, .pinned], laidTests := true, laidLooks := .later }
def FnExactWaitingSinceCardSaid : Prop := Claim7.holds Tryd.pinned (.plain (OpenSpec.ofChange fnExactWaitingSinceSpec)) fnExactWaitingSinceCard

/-- THE TIED CARD OF 'laws.FnExactPayPart'. -/
def fnExactPayPartCard : Claim7 := { stood := { row := fnExactPayPartRow, standIns := [], harness := (true, "db0d1aa1ad798d9c22eef632343477c551b481d126d6bb025e68cde86f5f6c7d"), looks := false }, kinds := [], alts := [], laidByText := true, laidKinds := [.data, .pinned], laidTests := true, laidLooks := .later }
def FnExactPayPartCardSaid : Prop := Claim7.holds Tryd.pinned (.plain (OpenSpec.ofChange fnExactPayPartSpec)) fnExactPayPartCard

/-- THE TIED CARD OF 'laws.FnExactCallOff'. -/
def fnExactCallOffCard : Claim7 := { stood := { row := fnExactCallOffRow, standIns := [], harness := (true, "db0d1aa1ad798d9c22eef632343477c551b481d126d6bb025e68cde86f5f6c7d"), looks := false }, kinds := [], alts := [], laidByText := true, laidKinds := [.data, .pinned], laidTests := true, laidLooks := .later }
def FnExactCallOffCardSaid : Prop := Claim7.holds Tryd.pinned (.plain (OpenSpec.ofChange fnExactCallOffSpec)) fnExactCallOffCard

/-- THE TIED CARD OF 'laws.FnExactNextStage'. -/
def fnExactNextStageCard : Claim7 := { stood := { row := fnExactNextStageRow, standIns := [], harness := (true, "db0d1aa1ad798d9c22eef632343477c551b481d126d6bb025e68cde86f5f6c7d"), looks := false }, kinds := [], alts := [], laidByText := true, laidKinds := [.data, .pinned], laidTests := true, laidLooks := .later }
def FnExactNextStageCardSaid : Prop := Claim7.holds Tryd.pinned (.plain (OpenSpec.ofChange fnExactNextStageSpec)) fnExactNextStageCard

/-- THE TIED CARD OF 'laws.FnExactAtStage'. -/
def fnExactAtStageCard : Claim7 := { stood := { row := fnExactAtStageRow, standIns := [], harness := (true, "db0d1aa1ad798d9c22eef632343477c551b481d126d6bb025e68cde86f5f6c7d"), looks := false }, kinds := [], alts := [], laidByText := true, laidKinds := [.data, .pinned], laidTests := true, laidLooks := .later }
def FnExactAtStageCardSaid : Prop := Claim7.holds Tryd.pinned (.plain (OpenSpec.ofChange fnExactAtStageSpec)) fnExactAtStageCard

/-- THE TIED CARD OF 'laws.FnCarpetOrders'. -/
def fnCarpetOrdersCard : Claim7 := { stood := { row := fnCarpetOrdersRow, standIns := [], harness := (true, "db0d1aa1ad798d9c22eef632343477c551b481d126d6bb025e68cde86f5f6c7d"), looks := false }, kinds := [], alts := [], laidByText := true, laidKinds := [.data, .pinned], laidTests := true, laidLooks := .later }
def FnCarpetOrdersCardSaid : Prop := Claim7.holds Tryd.pinned (.plain (OpenSpec.ofChange fnCarpetOrdersSpec)) fnCarpetOrdersCard

/-- THE SECOND FORM's CARD OF 'laws.FnExactClientsByPaid'. -/
def fnExactClientsByPaidUptoCard : Claim7 := { stood := { row := fnExactClientsByPaidUptoRow, standIns := [], harness := (true, "db0d1aa1ad798d9c22eef632343477c551b481d126d6bb025e68cde86f5f6c7d"), looks := false }, kinds := [], alts := [], laidByText := true, laidKinds := [.data, .pinned], laidTests := true, laidLooks := .later }
def FnExactClientsByPaidUptoCardSaid : Prop := Claim7.holds Tryd.pinned (.plain (OpenSpec.upto fnExactClientsByPaidSpec)) fnExactClientsByPaidUptoCard

/-- THE SECOND FORM's CARD OF 'laws.FnExactIsCarpetOrder'. -/
def fnExactIsCarpetOrderUptoCard : Claim7 := { stood := { row := fnExactIsCarpetOrderUptoRow, standIns := [], harness := (true, "db0d1aa1ad798d9c22eef632343477c551b481d126d6bb025e68cde86f5f6c7d"), looks := false }, kinds := [], alts := [], laidByText := true, laidKinds := [.data, .pinned], laidTests := true, laidLooks := .later }
def FnExactIsCarpetOrderUptoCardSaid : Prop := Claim7.holds Tryd.pinned (.plain (OpenSpec.upto fnExactIsCarpetOrderSpec)) fnExactIsCarpetOrderUptoCard

/-- THE SECOND FORM's CARD OF 'laws.FnExactAreCarpetOrders'. -/
def fnExactAreCarpetOrdersUptoCard : Claim7 := { stood := { row := fnExactAreCarpetOrdersUptoRow, standIns := [], harness := (true, "db0d1aa1ad798d9c22eef632343477c551b481d126d6bb025e68cde86f5f6c7d"), looks := false }, kinds := [], alts := [], laidByText := true, laidKinds := [.data, .pinned], laidTests := true, laidLooks := .later }
def FnExactAreCarpetOrdersUptoCardSaid : Prop := Claim7.holds Tryd.pinned (.plain (OpenSpec.upto fnExactAreCarpetOrdersSpec)) fnExactAreCarpetOrdersUptoCard

/-- THE SECOND FORM's CARD OF 'laws.FnExactAreaOnOrder'. -/
def fnExactAreaOnOrderUptoCard : Claim7 := { stood := { row := fnExactAreaOnOrderUptoRow, standIns := [], harness := (true, "db0d1aa1ad798d9c22eef632343477c551b481d126d6bb025e68cde86f5f6c7d"), looks := false }, kinds := [], alts := [], laidByText := true, laidKinds := [.data, .pinned], laidTests := true, laidLooks := .later }
def FnExactAreaOnOrderUptoCardSaid : Prop := Claim7.holds Tryd.pinned (.plain (OpenSpec.upto fnExactAreaOnOrderSpec)) fnExactAreaOnOrderUptoCard

/-- THE SECOND FORM's CARD OF 'laws.FnExactStillOwed'. -/
def fnExactStillOwedUptoCard : Claim7 := { stood := { row := fnExactStillOwedUptoRow, standIns := [], harness := (true, "db0d1aa1ad798d9c22eef632343477c551b481d126d6bb025e68cde86f5f6c7d"), looks := false }, kinds := [], alts := [], laidByText := true, laidKinds := [.data, .pinned], laidTests := true, laidLooks := .later }
def FnExactStillOwedUptoCardSaid : Prop := Claim7.holds Tryd.pinned (.plain (OpenSpec.upto fnExactStillOwedSpec)) fnExactStillOwedUptoCard

/-- THE SECOND FORM's CARD OF 'laws.FnExactWaitingSince'. -/
def fnExactWaitingSinceUptoCard : Claim7 := { stood := { row := fnExactWaitingSinceUptoRow, standIns := [], harness := (true, "db0d1aa1ad798d9c22eef632343477c551b481d126d6bb025e68cde86f5f6c7d"), looks := false }, kinds := [], alts := [], laidByText := true, laidKinds := [.data, .pinned], laidTests := true, laidLooks := .later }
def FnExactWaitingSinceUptoCardSaid : Prop := Claim7.holds Tryd.pinned (.plain (OpenSpec.upto fnExactWaitingSinceSpec)) fnExactWaitingSinceUptoCard

/-- THE SECOND FORM's CARD OF 'laws.FnExactPayPart'. -/
def fnExactPayPartUptoCard : Claim7 := { stood := { row := fnExactPayPartUptoRow, standIns := [], harness := (true, "db0d1aa1ad798d9c22eef632343477c551b481d126d6bb025e68cde86f5f6c7d"), looks := false }, kinds := [], alts := [], laidByText := true, laidKinds := [.data, .pinned], laidTests := true, laidLooks := .later }
def FnExactPayPartUptoCardSaid : Prop := Claim7.holds Tryd.pinned (.plain (OpenSpec.upto fnExactPayPartSpec)) fnExactPayPartUptoCard

/-- THE SECOND FORM's CARD OF 'laws.FnExactCallOff'. -/
def fnExactCallOffUptoCard : Claim7 := { stood := { row := fnExactCallOffUptoRow, standIns := [], harness := (true, "db0d1aa1ad798d9c22eef632343477c551b481d126d6bb025e68cde86f5f6c7d"), looks := false }, kinds := [], alts := [], laidByText := true, laidKinds := [.data, .pinned], laidTests := true, laidLooks := .later }
def FnExactCallOffUptoCardSaid : Prop := Claim7.holds Tryd.pinned (.plain (OpenSpec.upto fnExactCallOffSpec)) fnExactCallOffUptoCard

/-- THE SECOND FORM's CARD OF 'laws.FnExactNextStage'. -/
def fnExactNextStageUptoCard : Claim7 := { stood := { row := fnExactNextStageUptoRow, standIns := [], harness := (true, "db0d1aa1ad798d9c22eef632343477c551b481d126d6bb025e68cde86f5f6c7d"), looks := false }, kinds := [], alts := [], laidByText := true, laidKinds := [.data, .pinned], laidTests := true, laidLooks := .later }
def FnExactNextStageUptoCardSaid : Prop := Claim7.holds Tryd.pinned (.plain (OpenSpec.upto fnExactNextStageSpec)) fnExactNextStageUptoCard

/-- THE SECOND FORM's CARD OF 'laws.FnExactAtStage'. -/
def fnExactAtStageUptoCard : Claim7 := { stood := { row := fnExactAtStageUptoRow, standIns := [], harness := (true, "db0d1aa1ad798d9c22eef632343477c551b481d126d6bb025e68cde86f5f6c7d"), looks := false }, kinds := [], alts := [], laidByText := true, laidKinds := [.data, .pinned], laidTests := true, laidLooks := .later }
def FnExactAtStageUptoCardSaid : Prop := Claim7.holds Tryd.pinned (.plain (OpenSpec.upto fnExactAtStageSpec)) fnExactAtStageUptoCard

/-- THE SECOND FORM's CARD OF 'laws.FnCarpetOrders'. -/
def fnCarpetOrdersUptoCard : Claim7 := { stood := { row := fnCarpetOrdersUptoRow, standIns := [], harness := (true, "db0d1aa1ad798d9c22eef632343477c551b481d126d6bb025e68cde86f5f6c7d"), looks := false }, kinds := [], alts := [], laidByText := true, laidKinds := [.data, .pinned], laidTests := true, laidLooks := .later }
def FnCarpetOrdersUptoCardSaid : Prop := Claim7.holds Tryd.pinned (.plain (OpenSpec.upto fnCarpetOrdersSpec)) fnCarpetOrdersUptoCard
end Rows
end Go.Proofs.YtahfahlbdgbfeaaDoor
