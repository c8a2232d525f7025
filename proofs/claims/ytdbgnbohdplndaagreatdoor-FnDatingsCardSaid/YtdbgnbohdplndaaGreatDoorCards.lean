/-
  DERIVED. GIVEN WITH THE SEED: THE CARDS: each row of YtdbgnbohdplndaaGreatDoorRows.lean that lists a variable, with what it lists TIED to the program's text (the seventh form; the later family's looks); each row that meets fmt, with fmt's text TOLD by the authors' own Lean function (tested against real Go, not proved from fmt's source: count such statements apart). THE CARD IS WHAT COUNTS. Prove the row's statement (the work); the ties are given (YtdbgnbohdplndaaGreatDoorTie.lean); close each card by the builder's one call (the guide's Derived/Test/ToyasCard.lean, 'card_holds'). Laid BY PROGRAM, IN A SANDBOX (cutbox-door.mjs). By AI agents, Wed Nov 11 2026. No macro, syntax, notation, axiom, sorry.
-/
import Derived.Test.YtdbgnbohdplndaaGreatDoorRows
import GoSem.ClaimSeven
namespace Go.Proofs.YtdbgnbohdplndaaGreatDoor
namespace Rows

/-- THE TIED CARD OF 'laws.FnExactCountFitting'. -/
def fnExactCountFittingCard : Claim7 := { stood := { row := fnExactCountFittingRow, standIns := [], harness := (true, "397afc5074f9f8059e3db62cb22b39da8f5126d4608eb4370ba5bc95be4081fc"), looks := false }, kinds := [], alts := [], laidByText := true, laidKinds := [.data, .pinned], laidTests := true, laidLooks := .later }
def FnExactCountFittingCardSaid : Prop := Claim7.holds Tryz.pinned (.plain (OpenSpec.ofChange fnExactCountFittingSpec)) fnExactCountFittingCard

/-- THE TIED CARD OF 'laws.FnExactBestDay'. -/
def fnExactBestDayCard : Claim7 := { stood := { row := fnExactBestDayRow, standIns := [], harness := (true, "397afc5074f9f8059e3db62cb22b39da8f5126d4608eb4370ba5bc95be4081fc"), looks := false }, kinds := [], alts := [], laidByText := true, laidKinds := [.data, .pinned], laidTests := true, laidLooks := .later }
def FnExactBestDayCardSaid : Prop := Claim7.holds Tryz.pinned (.plain (OpenSpec.ofChange fnExactBestDaySpec)) fnExactBestDayCard

/-- THE TIED CARD OF 'laws.FnExactFailingClauses'. -/
def fnExactFailingClausesCard : Claim7 := { stood := { row := fnExactFailingClausesRow, standIns := [], harness := (true, "397afc5074f9f8059e3db62cb22b39da8f5126d4608eb4370ba5bc95be4081fc"), looks := false }, kinds := [], alts := [], laidByText := true, laidKinds := [.data, .pinned], laidTests := true, laidLooks := .later }
def FnExactFailingClausesCardSaid : Prop := Claim7.holds Tryz.pinned (.plain (OpenSpec.ofChange fnExactFailingClausesSpec)) fnExactFailingClausesCard

/-- THE TIED CARD OF 'laws.FnExactFittingDays'. -/
def fnExactFittingDaysCard : Claim7 := { stood := { row := fnExactFittingDaysRow, standIns := [], harness := (true, "397afc5074f9f8059e3db62cb22b39da8f5126d4608eb4370ba5bc95be4081fc"), looks := false }, kinds := [], alts := [], laidByText := true, laidKinds := [.data, .pinned], laidTests := true, laidLooks := .later }
def FnExactFittingDaysCardSaid : Prop := Claim7.holds Tryz.pinned (.plain (OpenSpec.ofChange fnExactFittingDaysSpec)) fnExactFittingDaysCard

/-- THE TIED CARD OF 'laws.FnHolding'. -/
def fnHoldingCard : Claim7 := { stood := { row := fnHoldingRow, standIns := [], harness := (true, "397afc5074f9f8059e3db62cb22b39da8f5126d4608eb4370ba5bc95be4081fc"), looks := false }, kinds := [], alts := [], laidByText := true, laidKinds := [.data, .pinned], laidTests := true, laidLooks := .later }
def FnHoldingCardSaid : Prop := Claim7.holds Tryz.pinned (.plain (OpenSpec.ofChange fnHoldingSpec)) fnHoldingCard

/-- THE TIED CARD OF 'laws.FnDatings'. -/
def fnDatingsCard : Claim7 := { stood := { row := fnDatingsRow, standIns := [], harness := (true, "397afc5074f9f8059e3db62cb22b39da8f5126d4608eb4370ba5bc95be4081fc"), looks := false }, kinds := [], alts := [], laidByText := true, laidKinds := [.data, .pinned], laidTests := true, laidLooks := .later }
def FnDatingsCardSaid : Prop := Claim7.holds Tryz.pinned (.plain (OpenSpec.ofChange fnDatingsSpec)) fnDatingsCard

/-- THE TIED CARD OF 'laws.FnExactSmallestConflict'. -/
def fnExactSmallestConflictCard : Claim7 := { stood := { row := fnExactSmallestConflictRow, standIns := [], harness := (true, "397afc5074f9f8059e3db62cb22b39da8f5126d4608eb4370ba5bc95be4081fc"), looks := false }, kinds := [], alts := [], laidByText := true, laidKinds := [.data, .pinned], laidTests := true, laidLooks := .later }
def FnExactSmallestConflictCardSaid : Prop := Claim7.holds Tryz.pinned (.plain (OpenSpec.ofChange fnExactSmallestConflictSpec)) fnExactSmallestConflictCard

/-- THE SECOND FORM's CARD OF 'laws.FnExactCountFitting'. -/
def fnExactCountFittingUptoCard : Claim7 := { stood := { row := fnExactCountFittingUptoRow, standIns := [], harness := (true, "397afc5074f9f8059e3db62cb22b39da8f5126d4608eb4370ba5bc95be4081fc"), looks := false }, kinds := [], alts := [], laidByText := true, laidKinds := [.data, .pinned], laidTests := true, laidLooks := .later }
def FnExactCountFittingUptoCardSaid : Prop := Claim7.holds Tryz.pinned (.plain (OpenSpec.upto fnExactCountFittingSpec)) fnExactCountFittingUptoCard

/-- THE SECOND FORM's CARD OF 'laws.FnExactBestDay'. -/
def fnExactBestDayUptoCard : Claim7 := { stood := { row := fnExactBestDayUptoRow, standIns := [], harness := (true, "397afc5074f9f8059e3db62cb22b39da8f5126d4608eb4370ba5bc95be4081fc"), looks := false }, kinds := [], alts := [], laidByText := true, laidKinds := [.data, .pinned], laidTests := true, laidLooks := .later }
def FnExactBestDayUptoCardSaid : Prop := Claim7.holds Tryz.pinned (.plain (OpenSpec.upto fnExactBestDaySpec)) fnExactBestDayUptoCard

/-- THE SECOND FORM's CARD OF 'laws.FnExactFailingClauses'. -/
def fnExactFailingClausesUptoCard : Claim7 := { stood := { row := fnExactFailingClausesUptoRow, standIns := [], harness := (true, "397afc5074f9f8059e3db62cb22b39da8f5126d4608eb4370ba5bc95be4081fc"), looks := false }, kinds := [], alts := [], laidByText := true, laidKinds := [.data, .pinned], laidTests := true, laidLooks := .later }
def FnExactFailingClausesUptoCardSaid : Prop := Claim7.holds Tryz.pinned (.plain (OpenSpec.upto fnExactFailingClausesSpec)) fnExactFailingClausesUptoCard

/-- THE SECOND FORM's CARD OF 'laws.FnExactFittingDays'. -/
def fnExactFittingDaysUptoCard : Claim7 := { stood := { row := fnExactFittingDaysUptoRow, standIns := [], harness := (true, "397afc5074f9f8059e3db62cb22b39da8f5126d4608eb4370ba5bc95be4081fc"), looks := false }, kinds := [], alts := [], laidByText := true, laidKinds := [.data, .pinned], laidTests := true, laidLooks := .later }
def FnExactFittingDaysUptoCardSaid : Prop := Claim7.holds Tryz.pinned (.plain (OpenSpec.upto fnExactFittingDaysSpec)) fnExactFittingDaysUptoCard

/-- THE SECOND FORM's CARD OF 'laws.FnHolding'. -/
def fnHoldingUptoCard : Claim7 := { stood := { row := fnHoldingUptoRow, standIns := [], harness := (true, "397afc5074f9f8059e3db62cb22b39da8f5126d4608eb4370ba5bc95be4081fc"), looks := false }, kinds := [], alts := [], laidByText := true, laidKinds := [.data, .pinned], laidTests := true, laidLooks := .later }
def FnHoldingUptoCardSaid : Prop := Claim7.holds Tryz.pinned (.plain (OpenSpec.upto fnHoldingSpec)) fnHoldingUptoCard

/-- THE SECOND FORM's CARD OF 'laws.FnDatings'. -/
def fnDatingsUptoCard : Claim7 := { stood := { row := fnDatingsUptoRow, standIns := [], harness := (true, "397afc5074f9f8059e3db62cb22b39da8f5126d4608eb4370ba5bc95be4081fc"), looks := false }, kinds := [], alts := [], laidByText := true, laidKinds := [.data, .pinned], laidTests := true, laidLooks := .later }
def FnDatingsUptoCardSaid : Prop := Claim7.holds Tryz.pinned (.plain (OpenSpec.upto fnDatingsSpec)) fnDatingsUptoCard

/-- THE SECOND FORM's CARD OF 'laws.FnExactSmallestConflict'. -/
def fnExactSmallestConflictUptoCard : Claim7 := { stood := { row := fnExactSmallestConflictUptoRow, standIns := [], harness := (true, "397afc5074f9f8059e3db62cb22b39da8f5126d4608eb4370ba5bc95be4081fc"), looks := false }, kinds := [], alts := [], laidByText := true, laidKinds := [.data, .pinned], laidTests := true, laidLooks := .later }
def FnExactSmallestConflictUptoCardSaid : Prop := Claim7.holds Tryz.pinned (.plain (OpenSpec.upto fnExactSmallestConflictSpec)) fnExactSmallestConflictUptoCard
end Rows
end Go.Proofs.YtdbgnbohdplndaaGreatDoor
