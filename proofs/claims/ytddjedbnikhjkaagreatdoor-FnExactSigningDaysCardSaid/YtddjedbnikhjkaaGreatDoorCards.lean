/-
  DERIVED. GIVEN WITH THE SEED: THE CARDS: each row of YtddjedbnikhjkaaGreatDoorRows.lean that lists a variable, with what it lists TIED to the program's text (the seventh form; the later family's looks); each row that meets fmt, with fmt's text TOLD by the authors' own Lean function (tested against real Go, not proved from fmt's source: count such statements apart). THE CARD IS WHAT COUNTS. Prove the row's statement (the work); the ties are given (YtddjedbnikhjkaaGreatDoorTie.lean); close each card by the builder's one call (the guide's Derived/Test/ToyasCard.lean, 'card_holds'). Laid BY PROGRAM, IN A SANDBOX (cutbox-door.mjs). By AI agents, Wed Nov 11 2026. No macro, syntax, notation, axiom, sorry.
-/
import Derived.Test.YtddjedbnikhjkaaGreatDoorRows
import GoSem.ClaimSeven
namespace Go.Proofs.YtddjedbnikhjkaaGreatDoor
namespace Rows

/-- THE TIED CARD OF 'laws.FnExactCouldBe'. -/
def fnExactCouldBeCard : Claim7 := { stood := { row := fnExactCouldBeRow, standIns := [], harness := (true, "a4bb2dfa0c2c80b96ab8dd2916dfc7d6c9c09d425c2e8c24371968650b292cc4"), looks := false }, kinds := [], alts := [], laidByText := true, laidKinds := [.data, .pinned], laidTests := true, laidLooks := .later }
def FnExactCouldBeCardSaid : Prop := Claim7.holds Tryz.pinned (.plain (OpenSpec.ofChange fnExactCouldBeSpec)) fnExactCouldBeCard

/-- THE TIED CARD OF 'laws.FnExactCouldBeDays'. -/
def fnExactCouldBeDaysCard : Claim7 := { stood := { row := fnExactCouldBeDaysRow, standIns := [], harness := (true, "a4bb2dfa0c2c80b96ab8dd2916dfc7d6c9c09d425c2e8c24371968650b292cc4"), looks := false }, kinds := [], alts := [], laidByText := true, laidKinds := [.data, .pinned], laidTests := true, laidLooks := .later }
def FnExactCouldBeDaysCardSaid : Prop := Claim7.holds Tryz.pinned (.plain (OpenSpec.ofChange fnExactCouldBeDaysSpec)) fnExactCouldBeDaysCard

/-- THE TIED CARD OF 'laws.FnExactPossiblePlaces'. -/
def fnExactPossiblePlacesCard : Claim7 := { stood := { row := fnExactPossiblePlacesRow, standIns := [], harness := (true, "a4bb2dfa0c2c80b96ab8dd2916dfc7d6c9c09d425c2e8c24371968650b292cc4"), looks := false }, kinds := [], alts := [], laidByText := true, laidKinds := [.data, .pinned], laidTests := true, laidLooks := .later }
def FnExactPossiblePlacesCardSaid : Prop := Claim7.holds Tryz.pinned (.plain (OpenSpec.ofChange fnExactPossiblePlacesSpec)) fnExactPossiblePlacesCard

/-- THE TIED CARD OF 'laws.FnExactCouldMeet'. -/
def fnExactCouldMeetCard : Claim7 := { stood := { row := fnExactCouldMeetRow, standIns := [], harness := (true, "a4bb2dfa0c2c80b96ab8dd2916dfc7d6c9c09d425c2e8c24371968650b292cc4"), looks := false }, kinds := [], alts := [], laidByText := true, laidKinds := [.data, .pinned], laidTests := true, laidLooks := .later }
def FnExactCouldMeetCardSaid : Prop := Claim7.holds Tryz.pinned (.plain (OpenSpec.ofChange fnExactCouldMeetSpec)) fnExactCouldMeetCard

/-- THE TIED CARD OF 'laws.FnExactAbsentWitnesses'. -/
def fnExactAbsentWitnessesCard : Claim7 := { stood := { row := fnExactAbsentWitnessesRow, standIns := [], harness := (true, "a4bb2dfa0c2c80b96ab8dd2916dfc7d6c9c09d425c2e8c24371968650b292cc4"), looks := false }, kinds := [], alts := [], laidByText := true, laidKinds := [.data, .pinned], laidTests := true, laidLooks := .later }
def FnExactAbsentWitnessesCardSaid : Prop := Claim7.holds Tryz.pinned (.plain (OpenSpec.ofChange fnExactAbsentWitnessesSpec)) fnExactAbsentWitnessesCard

/-- THE TIED CARD OF 'laws.FnExactSigningDays'. -/
def fnExactSigningDaysCard : Claim7 := { stood := { row := fnExactSigningDaysRow, standIns := [], harness := (true, "a4bb2dfa0c2c80b96ab8dd2916dfc7d6c9c09d425c2e8c24371968650b292cc4"), looks := false }, kinds := [], alts := [], laidByText := true, laidKinds := [.data, .pinned], laidTests := true, laidLooks := .later }
def FnExactSigningDaysCardSaid : Prop := Claim7.holds Tryz.pinned (.plain (OpenSpec.ofChange fnExactSigningDaysSpec)) fnExactSigningDaysCard

/-- THE SECOND FORM's CARD OF 'laws.FnExactCouldBe'. -/
def fnExactCouldBeUptoCard : Claim7 := { stood := { row := fnExactCouldBeUptoRow, standIns := [], harness := (true, "a4bb2dfa0c2c80b96ab8dd2916dfc7d6c9c09d425c2e8c24371968650b292cc4"), looks := false }, kinds := [], alts := [], laidByText := true, laidKinds := [.data, .pinned], laidTests := true, laidLooks := .later }
def FnExactCouldBeUptoCardSaid : Prop := Claim7.holds Tryz.pinned (.plain (OpenSpec.upto fnExactCouldBeSpec)) fnExactCouldBeUptoCard

/-- THE SECOND FORM's CARD OF 'laws.FnExactCouldBeDays'. -/
def fnExactCouldBeDaysUptoCard : Claim7 := { stood := { row := fnExactCouldBeDaysUptoRow, standIns := [], harness := (true, "a4bb2dfa0c2c80b96ab8dd2916dfc7d6c9c09d425c2e8c24371968650b292cc4"), looks := false }, kinds := [], alts := [], laidByText := true, laidKinds := [.data, .pinned], laidTests := true, laidLooks := .later }
def FnExactCouldBeDaysUptoCardSaid : Prop := Claim7.holds Tryz.pinned (.plain (OpenSpec.upto fnExactCouldBeDaysSpec)) fnExactCouldBeDaysUptoCard

/-- THE SECOND FORM's CARD OF 'laws.FnExactPossiblePlaces'. -/
def fnExactPossiblePlacesUptoCard : Claim7 := { stood := { row := fnExactPossiblePlacesUptoRow, standIns := [], harness := (true, "a4bb2dfa0c2c80b96ab8dd2916dfc7d6c9c09d425c2e8c24371968650b292cc4"), looks := false }, kinds := [], alts := [], laidByText := true, laidKinds := [.data, .pinned], laidTests := true, laidLooks := .later }
def FnExactPossiblePlacesUptoCardSaid : Prop := Claim7.holds Tryz.pinned (.plain (OpenSpec.upto fnExactPossiblePlacesSpec)) fnExactPossiblePlacesUptoCard

/-- THE SECOND FORM's CARD OF 'laws.FnExactCouldMeet'. -/
def fnExactCouldMeetUptoCard : Claim7 := { stood := { row := fnExactCouldMeetUptoRow, standIns := [], harness := (true, "a4bb2dfa0c2c80b96ab8dd2916dfc7d6c9c09d425c2e8c24371968650b292cc4"), looks := false }, kinds := [], alts := [], laidByText := true, laidKinds := [.data, .pinned], laidTests := true, laidLooks := .later }
def FnExactCouldMeetUptoCardSaid : Prop := Claim7.holds Tryz.pinned (.plain (OpenSpec.upto fnExactCouldMeetSpec)) fnExactCouldMeetUptoCard

/-- THE SECOND FORM's CARD OF 'laws.FnExactAbsentWitnesses'. -/
def fnExactAbsentWitnessesUptoCard : Claim7 := { stood := { row := fnExactAbsentWitnessesUptoRow, standIns := [], harness := (true, "a4bb2dfa0c2c80b96ab8dd2916dfc7d6c9c09d425c2e8c24371968650b292cc4"), looks := false }, kinds := [], alts := [], laidByText := true, laidKinds := [.data, .pinned], laidTests := true, laidLooks := .later }
def FnExactAbsentWitnessesUptoCardSaid : Prop := Claim7.holds Tryz.pinned (.plain (OpenSpec.upto fnExactAbsentWitnessesSpec)) fnExactAbsentWitnessesUptoCard

/-- THE SECOND FORM's CARD OF 'laws.FnExactSigningDays'. -/
def fnExactSigningDaysUptoCard : Claim7 := { stood := { row := fnExactSigningDaysUptoRow, standIns := [], harness := (true, "a4bb2dfa0c2c80b96ab8dd2916dfc7d6c9c09d425c2e8c24371968650b292cc4"), looks := false }, kinds := [], alts := [], laidByText := true, laidKinds := [.data, .pinned], laidTests := true, laidLooks := .later }
def FnExactSigningDaysUptoCardSaid : Prop := Claim7.holds Tryz.pinned (.plain (OpenSpec.upto fnExactSigningDaysSpec)) fnExactSigningDaysUptoCard
end Rows
end Go.Proofs.YtddjedbnikhjkaaGreatDoor
