/-
  DERIVED. GIVEN WITH THE SEED: THE CARDS: each row of YtdocebblppijmaaDoorRows.lean that lists a variable, with what it lists TIED to the program's text (the seventh form; the later family's looks); each row that meets fmt, with fmt's text TOLD by the authors' own Lean function (tested against real Go, not proved from fmt's source: count such statements apart). THE CARD IS WHAT COUNTS. Prove the row's statement (the work); the ties are given (YtdocebblppijmaaDoorTie.lean); close each card by the builder's one call (the guide's Derived/Test/ToyasCard.lean, 'card_holds'). Laid BY PROGRAM, IN A SANDBOX (cutbox-door.mjs). By AI agents, Wed Nov 11 2026. No macro, syntax, notation, axiom, sorry.
-/
import Derived.Test.YtdocebblppijmaaDoorRows
import GoSem.ClaimSeven
namespace Go.Proofs.YtdocebblppijmaaDoor
namespace Rows

/-- THE TIED CARD OF 'laws.FnExactIsChancery'. -/
def fnExactIsChanceryCard : Claim7 := { stood := { row := fnExactIsChanceryRow, standIns := [], harness := (true, "59bfbe0c8b0236c55545c43c1c5f9aa0844d494abce72609be16f1ef27ab259e"), looks := false }, kinds := [], alts := [], laidByText := true, laidKinds := [.data, .pinned], laidTests := true, laidLooks := .later }
def FnExactIsChanceryCardSaid : Prop := Claim7.holds Tryd.pinned (.plain (OpenSpec.ofChange fnExactIsChancerySpec)) fnExactIsChanceryCard

/-- THE TIED CARD OF 'laws.FnExactAreMarks'. -/
def fnExactAreMarksCard : Claim7 := { stood := { row := fnExactAreMarksRow, standIns := [], harness := (true, "59bfbe0c8b0236c55545c43c1c5f9aa0844d494abce72609be16f1ef27ab259e"), looks := false }, kinds := [], alts := [], laidByText := true, laidKinds := [.data, .pinned], laidTests := true, laidLooks := .later }
def FnExactAreMarksCardSaid : Prop := Claim7.holds Tryd.pinned (.plain (OpenSpec.ofChange fnExactAreMarksSpec)) fnExactAreMarksCard

/-- THE TIED CARD OF 'laws.FnExactLongestUse'. -/
def fnExactLongestUseCard : Claim7 := { stood := { row := fnExactLongestUseRow, standIns := [], harness := (true, "59bfbe0c8b0236c55545c43c1c5f9aa0844d494abce72609be16f1ef27ab259e"), looks := false }, kinds := [], alts := [], laidByText := true, laidKinds := [.data, .pinned], laidTests := true, laidLooks := .later }
def FnExactLongestUseCardSaid : Prop := Claim7.holds Tryd.pinned (.plain (OpenSpec.ofChange fnExactLongestUseSpec)) fnExactLongestUseCard

/-- THE TIED CARD OF 'laws.FnExactIsLand'. -/
def fnExactIsLandCard : Claim7 := { stood := { row := fnExactIsLandRow, standIns := [], harness := (true, "59bfbe0c8b0236c55545c43c1c5f9aa0844d494abce72609be16f1ef27ab259e"), looks := false }, kinds := [], alts := [], laidByText := true, laidKinds := [.data, .pinned], laidTests := true, laidLooks := .later }
def FnExactIsLandCardSaid : Prop := Claim7.holds Tryd.pinned (.plain (OpenSpec.ofChange fnExactIsLandSpec)) fnExactIsLandCard

/-- THE TIED CARD OF 'laws.FnExactPlaceNamed'. -/
def fnExactPlaceNamedCard : Claim7 := { stood := { row := fnExactPlaceNamedRow, standIns := [], harness := (true, "59bfbe0c8b0236c55545c43c1c5f9aa0844d494abce72609be16f1ef27ab259e"), looks := false }, kinds := [], alts := [], laidByText := true, laidKinds := [.data, .pinned], laidTests := true, laidLooks := .later }
def FnExactPlaceNamedCardSaid : Prop := Claim7.holds Tryd.pinned (.plain (OpenSpec.ofChange fnExactPlaceNamedSpec)) fnExactPlaceNamedCard

/-- THE TIED CARD OF 'laws.FnExactIsPeople'. -/
def fnExactIsPeopleCard : Claim7 := { stood := { row := fnExactIsPeopleRow, standIns := [], harness := (true, "59bfbe0c8b0236c55545c43c1c5f9aa0844d494abce72609be16f1ef27ab259e"), looks := false }, kinds := [], alts := [], laidByText := true, laidKinds := [.data, .pinned], laidTests := true, laidLooks := .later }
def FnExactIsPeopleCardSaid : Prop := Claim7.holds Tryd.pinned (.plain (OpenSpec.ofChange fnExactIsPeopleSpec)) fnExactIsPeopleCard

/-- THE TIED CARD OF 'laws.FnExactMarksOn'. -/
def fnExactMarksOnCard : Claim7 := { stood := { row := fnExactMarksOnRow, standIns := [], harness := (true, "59bfbe0c8b0236c55545c43c1c5f9aa0844d494abce72609be16f1ef27ab259e"), looks := false }, kinds := [], alts := [], laidByText := true, laidKinds := [.data, .pinned], laidTests := true, laidLooks := .later }
def FnExactMarksOnCardSaid : Prop := Claim7.holds Tryd.pinned (.plain (OpenSpec.ofChange fnExactMarksOnSpec)) fnExactMarksOnCard

/-- THE TIED CARD OF 'laws.FnExactIsConnected'. -/
def fnExactIsConnectedCard : Claim7 := { stood := { row := fnExactIsConnectedRow, standIns := [], harness := (true, "59bfbe0c8b0236c55545c43c1c5f9aa0844d494abce72609be16f1ef27ab259e"), looks := false }, kinds := [], alts := [], laidByText := true, laidKinds := [.data, .pinned], laidTests := true, laidLooks := .later }
def FnExactIsConnectedCardSaid : Prop := Claim7.holds Tryd.pinned (.plain (OpenSpec.ofChange fnExactIsConnectedSpec)) fnExactIsConnectedCard

/-- THE TIED CARD OF 'laws.FnExactTravelDays'. -/
def fnExactTravelDaysCard : Claim7 := { stood := { row := fnExactTravelDaysRow, standIns := [], harness := (true, "59bfbe0c8b0236c55545c43c1c5f9aa0844d494abce72609be16f1ef27ab259e"), looks := false }, kinds := [], alts := [], laidByText := true, laidKinds := [.data, .pinned], laidTests := true, laidLooks := .later }
def FnExactTravelDaysCardSaid : Prop := Claim7.holds Tryd.pinned (.plain (OpenSpec.ofChange fnExactTravelDaysSpec)) fnExactTravelDaysCard

/-- THE TIED CARD OF 'laws.FnExactFarthestPlace'. -/
def fnExactFarthestPlaceCard : Claim7 := { stood := { row := fnExactFarthestPlaceRow, standIns := [], harness := (true, "59bfbe0c8b0236c55545c43c1c5f9aa0844d494abce72609be16f1ef27ab259e"), looks := false }, kinds := [], alts := [], laidByText := true, laidKinds := [.data, .pinned], laidTests := true, laidLooks := .later }
def FnExactFarthestPlaceCardSaid : Prop := Claim7.holds Tryd.pinned (.plain (OpenSpec.ofChange fnExactFarthestPlaceSpec)) fnExactFarthestPlaceCard

/-- THE TIED CARD OF 'laws.FnExactLivingOn'. -/
def fnExactLivingOnCard : Claim7 := { stood := { row := fnExactLivingOnRow, standIns := [], harness := (true, "59bfbe0c8b0236c55545c43c1c5f9aa0844d494abce72609be16f1ef27ab259e"), looks := false }, kinds := [], alts := [], laidByText := true, laidKinds := [.data, .pinned], laidTests := true, laidLooks := .later }
def FnExactLivingOnCardSaid : Prop := Claim7.holds Tryd.pinned (.plain (OpenSpec.ofChange fnExactLivingOnSpec)) fnExactLivingOnCard

/-- THE TIED CARD OF 'laws.FnExactIsDating'. -/
def fnExactIsDatingCard : Claim7 := { stood := { row := fnExactIsDatingRow, standIns := [], harness := (true, "59bfbe0c8b0236c55545c43c1c5f9aa0844d494abce72609be16f1ef27ab259e"), looks := false }, kinds := [], alts := [], laidByText := true, laidKinds := [.data, .pinned], laidTests := true, laidLooks := .later }
def FnExactIsDatingCardSaid : Prop := Claim7.holds Tryd.pinned (.plain (OpenSpec.ofChange fnExactIsDatingSpec)) fnExactIsDatingCard

/-- THE SECOND FORM's CARD OF 'laws.FnExactIsChancery'. -/
def fnExactIsChanceryUptoCard : Claim7 := { stood := { row := fnExactIsChanceryUptoRow, standIns := [], harness := (true, "59bfbe0c8b0236c55545c43c1c5f9aa0844d494abce72609be16f1ef27ab259e"), looks := false }, kinds := [], alts := [], laidByText := true, laidKinds := [.data, .pinned], laidTests := true, laidLooks := .later }
def FnExactIsChanceryUptoCardSaid : Prop := Claim7.holds Tryd.pinned (.plain (OpenSpec.upto fnExactIsChancerySpec)) fnExactIsChanceryUptoCard

/-- THE SECOND FORM's CARD OF 'laws.FnExactAreMarks'. -/
def fnExactAreMarksUptoCard : Claim7 := { stood := { row := fnExactAreMarksUptoRow, standIns := [], harness := (true, "59bfbe0c8b0236c55545c43c1c5f9aa0844d494abce72609be16f1ef27ab259e"), looks := false }, kinds := [], alts := [], laidByText := true, laidKinds := [.data, .pinned], laidTests := true, laidLooks := .later }
def FnExactAreMarksUptoCardSaid : Prop := Claim7.holds Tryd.pinned (.plain (OpenSpec.upto fnExactAreMarksSpec)) fnExactAreMarksUptoCard

/-- THE SECOND FORM's CARD OF 'laws.FnExactLongestUse'. -/
def fnExactLongestUseUptoCard : Claim7 := { stood := { row := fnExactLongestUseUptoRow, standIns := [], harness := (true, "59bfbe0c8b0236c55545c43c1c5f9aa0844d494abce72609be16f1ef27ab259e"), looks := false }, kinds := [], alts := [], laidByText := true, laidKinds := [.data, .pinned], laidTests := true, laidLooks := .later }
def FnExactLongestUseUptoCardSaid : Prop := Claim7.holds Tryd.pinned (.plain (OpenSpec.upto fnExactLongestUseSpec)) fnExactLongestUseUptoCard

/-- THE SECOND FORM's CARD OF 'laws.FnExactIsLand'. -/
def fnExactIsLandUptoCard : Claim7 := { stood := { row := fnExactIsLandUptoRow, standIns := [], harness := (true, "59bfbe0c8b0236c55545c43c1c5f9aa0844d494abce72609be16f1ef27ab259e"), looks := false }, kinds := [], alts := [], laidByText := true, laidKinds := [.data, .pinned], laidTests := true, laidLooks := .later }
def FnExactIsLandUptoCardSaid : Prop := Claim7.holds Tryd.pinned (.plain (OpenSpec.upto fnExactIsLandSpec)) fnExactIsLandUptoCard

/-- THE SECOND FORM's CARD OF 'laws.FnExactPlaceNamed'. -/
def fnExactPlaceNamedUptoCard : Claim7 := { stood := { row := fnExactPlaceNamedUptoRow, standIns := [], harness := (true, "59bfbe0c8b0236c55545c43c1c5f9aa0844d494abce72609be16f1ef27ab259e"), looks := false }, kinds := [], alts := [], laidByText := true, laidKinds := [.data, .pinned], laidTests := true, laidLooks := .later }
def FnExactPlaceNamedUptoCardSaid : Prop := Claim7.holds Tryd.pinned (.plain (OpenSpec.upto fnExactPlaceNamedSpec)) fnExactPlaceNamedUptoCard

/-- THE SECOND FORM's CARD OF 'laws.FnExactIsPeople'. -/
def fnExactIsPeopleUptoCard : Claim7 := { stood := { row := fnExactIsPeopleUptoRow, standIns := [], harness := (true, "59bfbe0c8b0236c55545c43c1c5f9aa0844d494abce72609be16f1ef27ab259e"), looks := false }, kinds := [], alts := [], laidByText := true, laidKinds := [.data, .pinned], laidTests := true, laidLooks := .later }
def FnExactIsPeopleUptoCardSaid : Prop := Claim7.holds Tryd.pinned (.plain (OpenSpec.upto fnExactIsPeopleSpec)) fnExactIsPeopleUptoCard

/-- THE SECOND FORM's CARD OF 'laws.FnExactMarksOn'. -/
def fnExactMarksOnUptoCard : Claim7 := { stood := { row := fnExactMarksOnUptoRow, standIns := [], harness := (true, "59bfbe0c8b0236c55545c43c1c5f9aa0844d494abce72609be16f1ef27ab259e"), looks := false }, kinds := [], alts := [], laidByText := true, laidKinds := [.data, .pinned], laidTests := true, laidLooks := .later }
def FnExactMarksOnUptoCardSaid : Prop := Claim7.holds Tryd.pinned (.plain (OpenSpec.upto fnExactMarksOnSpec)) fnExactMarksOnUptoCard

/-- THE SECOND FORM's CARD OF 'laws.FnExactIsConnected'. -/
def fnExactIsConnectedUptoCard : Claim7 := { stood := { row := fnExactIsConnectedUptoRow, standIns := [], harness := (true, "59bfbe0c8b0236c55545c43c1c5f9aa0844d494abce72609be16f1ef27ab259e"), looks := false }, kinds := [], alts := [], laidByText := true, laidKinds := [.data, .pinned], laidTests := true, laidLooks := .later }
def FnExactIsConnectedUptoCardSaid : Prop := Claim7.holds Tryd.pinned (.plain (OpenSpec.upto fnExactIsConnectedSpec)) fnExactIsConnectedUptoCard

/-- THE SECOND FORM's CARD OF 'laws.FnExactTravelDays'. -/
def fnExactTravelDaysUptoCard : Claim7 := { stood := { row := fnExactTravelDaysUptoRow, standIns := [], harness := (true, "59bfbe0c8b0236c55545c43c1c5f9aa0844d494abce72609be16f1ef27ab259e"), looks := false }, kinds := [], alts := [], laidByText := true, laidKinds := [.data, .pinned], laidTests := true, laidLooks := .later }
def FnExactTravelDaysUptoCardSaid : Prop := Claim7.holds Tryd.pinned (.plain (OpenSpec.upto fnExactTravelDaysSpec)) fnExactTravelDaysUptoCard

/-- THE SECOND FORM's CARD OF 'laws.FnExactFarthestPlace'. -/
def fnExactFarthestPlaceUptoCard : Claim7 := { stood := { row := fnExactFarthestPlaceUptoRow, standIns := [], harness := (true, "59bfbe0c8b0236c55545c43c1c5f9aa0844d494abce72609be16f1ef27ab259e"), looks := false }, kinds := [], alts := [], laidByText := true, laidKinds := [.data, .pinned], laidTests := true, laidLooks := .later }
def FnExactFarthestPlaceUptoCardSaid : Prop := Claim7.holds Tryd.pinned (.plain (OpenSpec.upto fnExactFarthestPlaceSpec)) fnExactFarthestPlaceUptoCard

/-- THE SECOND FORM's CARD OF 'laws.FnExactLivingOn'. -/
def fnExactLivingOnUptoCard : Claim7 := { stood := { row := fnExactLivingOnUptoRow, standIns := [], harness := (true, "59bfbe0c8b0236c55545c43c1c5f9aa0844d494abce72609be16f1ef27ab259e"), looks := false }, kinds := [], alts := [], laidByText := true, laidKinds := [.data, .pinned], laidTests := true, laidLooks := .later }
def FnExactLivingOnUptoCardSaid : Prop := Claim7.holds Tryd.pinned (.plain (OpenSpec.upto fnExactLivingOnSpec)) fnExactLivingOnUptoCard

/-- THE SECOND FORM's CARD OF 'laws.FnExactIsDating'. -/
def fnExactIsDatingUptoCard : Claim7 := { stood := { row := fnExactIsDatingUptoRow, standIns := [], harness := (true, "59bfbe0c8b0236c55545c43c1c5f9aa0844d494abce72609be16f1ef27ab259e"), looks := false }, kinds := [], alts := [], laidByText := true, laidKinds := [.data, .pinned], laidTests := true, laidLooks := .later }
def FnExactIsDatingUptoCardSaid : Prop := Claim7.holds Tryd.pinned (.plain (OpenSpec.upto fnExactIsDatingSpec)) fnExactIsDatingUptoCard
end Rows
end Go.Proofs.YtdocebblppijmaaDoor
