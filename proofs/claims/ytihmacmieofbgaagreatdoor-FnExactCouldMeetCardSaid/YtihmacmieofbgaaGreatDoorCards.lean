/-
  DERIVED. GIVEN WITH THE SEED: THE CARDS: each row of YtihmacmieofbgaaGreatDoorRows.lean that lists a variable, with what it lists TIED to the program's text (the seventh form; the later family's looks); each row that meets fmt, with fmt's text TOLD by the authors' own Lean function (tested against real Go, not proved from fmt's source: count such statements apart). THE CARD IS WHAT COUNTS. Prove the row's statement (the work); the ties are given (YtihmacmieofbgaaGreatDoorTie.lean); close each card by the builder's one call (the guide's Derived/Test/ToyasCard.lean, 'card_holds'). Laid BY PROGRAM, IN A SANDBOX (cutbox-door.mjs). By AI agents, Wed Nov 11 2026. No macro, syntax, notation, axiom, sorry.
-/
import Derived.Test.YtihmacmieofbgaaGreatDoorRows
import GoSem.ClaimSeven
namespace Go.Proofs.YtihmacmieofbgaaGreatDoor
namespace Rows

/-- THE TIED CARD OF 'laws.FnExactCouldBe'. -/
def fnExactCouldBeCard : Claim7 := { stood := { row := fnExactCouldBeRow, standIns := [], harness := (true, "ae66caa1a873b19e5fb44d2cb9518d72b20a979c8e045741e79df9a5c813bcfd"), looks := false }, kinds := [], alts := [], laidByText := true, laidKinds := [.data, .pinned], laidTests := true, laidLooks := .later }
def FnExactCouldBeCardSaid : Prop := Claim7.holds Tryz.pinned (.plain (OpenSpec.ofChange fnExactCouldBeSpec)) fnExactCouldBeCard

/-- THE TIED CARD OF 'laws.FnExactCouldBeDays'. -/
def fnExactCouldBeDaysCard : Claim7 := { stood := { row := fnExactCouldBeDaysRow, standIns := [], harness := (true, "ae66caa1a873b19e5fb44d2cb9518d72b20a979c8e045741e79df9a5c813bcfd"), looks := false }, kinds := [], alts := [], laidByText := true, laidKinds := [.data, .pinned], laidTests := true, laidLooks := .later }
def FnExactCouldBeDaysCardSaid : Prop := Claim7.holds Tryz.pinned (.plain (OpenSpec.ofChange fnExactCouldBeDaysSpec)) fnExactCouldBeDaysCard

/-- THE TIED CARD OF 'laws.FnExactPossiblePlaces'. -/
def fnExactPossiblePlacesCard : Claim7 := { stood := { row := fnExactPossiblePlacesRow, standIns := [], harness := (true, "ae66caa1a873b19e5fb44d2cb9518d72b20a979c8e045741e79df9a5c813bcfd"), looks := false }, kinds := [], alts := [], laidByText := true, laidKinds := [.data, .pinned], laidTests := true, laidLooks := .later }
def FnExactPossiblePlacesCardSaid : Prop := Claim7.holds Tryz.pinned (.plain (OpenSpec.ofChange fnExactPossiblePlacesSpec)) fnExactPossiblePlacesCard

/-- THE TIED CARD OF 'laws.FnExactCouldMeet'. -/
def fnExactCouldMeetCard : Claim7 := { stood := { row := fnExactCouldMeetRow, standIns := [], harness := (true, "ae66caa1a873b19e5fb44d2cb9518d72b20a979c8e045741e79df9a5c813bcfd"), looks := false }, kinds := [], alts := [], laidByText := true, laidKinds := [.data, .pinned], laidTests := true, laidLooks := .later }
def FnExactCouldMeetCardSaid : Prop := Claim7.holds Tryz.pinned (.plain (OpenSpec.ofChange fnExactCouldMeetSpec)) fnExactCouldMeetCard

/-- THE SECOND FORM's CARD OF 'laws.FnExactCouldBe'. -/
def fnExactCouldBeUptoCard : Claim7 := { stood := { row := fnExactCouldBeUptoRow, standIns := [], harness := (true, "ae66caa1a873b19e5fb44d2cb9518d72b20a979c8e045741e79df9a5c813bcfd"), looks := false }, kinds := [], alts := [], laidByText := true, laidKinds := [.data, .pinned], laidTests := true, laidLooks := .later }
def FnExactCouldBeUptoCardSaid : Prop := Claim7.holds Tryz.pinned (.plain (OpenSpec.upto fnExactCouldBeSpec)) fnExactCouldBeUptoCard

/-- THE SECOND FORM's CARD OF 'laws.FnExactCouldBeDays'. -/
def fnExactCouldBeDaysUptoCard : Claim7 := { stood := { row := fnExactCouldBeDaysUptoRow, standIns := [], harness := (true, "ae66caa1a873b19e5fb44d2cb9518d72b20a979c8e045741e79df9a5c813bcfd"), looks := false }, kinds := [], alts := [], laidByText := true, laidKinds := [.data, .pinned], laidTests := true, laidLooks := .later }
def FnExactCouldBeDaysUptoCardSaid : Prop := Claim7.holds Tryz.pinned (.plain (OpenSpec.upto fnExactCouldBeDaysSpec)) fnExactCouldBeDaysUptoCard

/-- THE SECOND FORM's CARD OF 'laws.FnExactPossiblePlaces'. -/
def fnExactPossiblePlacesUptoCard : Claim7 := { stood := { row := fnExactPossiblePlacesUptoRow, standIns := [], harness := (true, "ae66caa1a873b19e5fb44d2cb9518d72b20a979c8e045741e79df9a5c813bcfd"), looks := false }, kinds := [], alts := [], laidByText := true, laidKinds := [.data, .pinned], laidTests := true, laidLooks := .later }
def FnExactPossiblePlacesUptoCardSaid : Prop := Claim7.holds Tryz.pinned (.plain (OpenSpec.upto fnExactPossiblePlacesSpec)) fnExactPossiblePlacesUptoCard

/-- THE SECOND FORM's CARD OF 'laws.FnExactCouldMeet'. -/
def fnExactCouldMeetUptoCard : Claim7 := { stood := { row := fnExactCouldMeetUptoRow, standIns := [], harness := (true, "ae66caa1a873b19e5fb44d2cb9518d72b20a979c8e045741e79df9a5c813bcfd"), looks := false }, kinds := [], alts := [], laidByText := true, laidKinds := [.data, .pinned], laidTests := true, laidLooks := .later }
def FnExactCouldMeetUptoCardSaid : Prop := Claim7.holds Tryz.pinned (.plain (OpenSpec.upto fnExactCouldMeetSpec)) fnExactCouldMeetUptoCard
end Rows
end Go.Proofs.YtihmacmieofbgaaGreatDoor
