/-
  DERIVED. GIVEN WITH THE SEED: THE CARDS: each row of YtmjbigeeokofeaaGreatDoorRows.lean that lists a variable, with what it lists TIED to the program's text (the seventh form; the later family's looks); each row that meets fmt, with fmt's text TOLD by the authors' own Lean function (tested against real Go, not proved from fmt's source: count such statements apart). THE CARD IS WHAT COUNTS. Prove the row's statement (the work); the ties are given (YtmjbigeeokofeaaGreatDoorTie.lean); close each card by the builder's one call (the guide's Derived/Test/ToyasCard.lean, 'card_holds'). Laid BY PROGRAM, IN A SANDBOX (cutbox-door.mjs). By AI agents, Wed Nov 11 2026. No macro, syntax, notation, axiom, sorry.
-/
import Derived.Test.YtmjbigeeokofeaaGreatDoorRows
import GoSem.ClaimSeven
namespace Go.Proofs.YtmjbigeeokofeaaGreatDoor
namespace Rows

/-- THE TIED CARD OF 'laws.FnMeetings'. -/
def fnMeetingsCard : Claim7 := { stood := { row := fnMeetingsRow, standIns := [], harness := (true, "e16b2754b9ca2975600be10f5f7d4d84d9bfd8880fe1c0d78db5c028f68c5530"), looks := false }, kinds := [], alts := [], laidByText := true, laidKinds := [.data, .pinned], laidTests := true, laidLooks := .later }
def FnMeetingsCardSaid : Prop := Claim7.holds Tryz.pinned (.plain (OpenSpec.ofChange fnMeetingsSpec)) fnMeetingsCard

/-- THE TIED CARD OF 'laws.FnPeople'. -/
def fnPeopleCard : Claim7 := { stood := { row := fnPeopleRow, standIns := [], harness := (true, "e16b2754b9ca2975600be10f5f7d4d84d9bfd8880fe1c0d78db5c028f68c5530"), looks := false }, kinds := [], alts := [], laidByText := true, laidKinds := [.data, .pinned], laidTests := true, laidLooks := .later }
def FnPeopleCardSaid : Prop := Claim7.holds Tryz.pinned (.plain (OpenSpec.ofChange fnPeopleSpec)) fnPeopleCard

/-- THE TIED CARD OF 'laws.FnItineraries'. -/
def fnItinerariesCard : Claim7 := { stood := { row := fnItinerariesRow, standIns := [], harness := (true, "e16b2754b9ca2975600be10f5f7d4d84d9bfd8880fe1c0d78db5c028f68c5530"), looks := false }, kinds := [], alts := [], laidByText := true, laidKinds := [.data, .pinned], laidTests := true, laidLooks := .later }
def FnItinerariesCardSaid : Prop := Claim7.holds Tryz.pinned (.plain (OpenSpec.ofChange fnItinerariesSpec)) fnItinerariesCard

/-- THE SECOND FORM's CARD OF 'laws.FnMeetings'. -/
def fnMeetingsUptoCard : Claim7 := { stood := { row := fnMeetingsUptoRow, standIns := [], harness := (true, "e16b2754b9ca2975600be10f5f7d4d84d9bfd8880fe1c0d78db5c028f68c5530"), looks := false }, kinds := [], alts := [], laidByText := true, laidKinds := [.data, .pinned], laidTests := true, laidLooks := .later }
def FnMeetingsUptoCardSaid : Prop := Claim7.holds Tryz.pinned (.plain (OpenSpec.upto fnMeetingsSpec)) fnMeetingsUptoCard

/-- THE SECOND FORM's CARD OF 'laws.FnPeople'. -/
def fnPeopleUptoCard : Claim7 := { stood := { row := fnPeopleUptoRow, standIns := [], harness := (true, "e16b2754b9ca2975600be10f5f7d4d84d9bfd8880fe1c0d78db5c028f68c5530"), looks := false }, kinds := [], alts := [], laidByText := true, laidKinds := [.data, .pinned], laidTests := true, laidLooks := .later }
def FnPeopleUptoCardSaid : Prop := Claim7.holds Tryz.pinned (.plain (OpenSpec.upto fnPeopleSpec)) fnPeopleUptoCard

/-- THE SECOND FORM's CARD OF 'laws.FnItineraries'. -/
def fnItinerariesUptoCard : Claim7 := { stood := { row := fnItinerariesUptoRow, standIns := [], harness := (true, "e16b2754b9ca2975600be10f5f7d4d84d9bfd8880fe1c0d78db5c028f68c5530"), looks := false }, kinds := [], alts := [], laidByText := true, laidKinds := [.data, .pinned], laidTests := true, laidLooks := .later }
def FnItinerariesUptoCardSaid : Prop := Claim7.holds Tryz.pinned (.plain (OpenSpec.upto fnItinerariesSpec)) fnItinerariesUptoCard
end Rows
end Go.Proofs.YtmjbigeeokofeaaGreatDoor
