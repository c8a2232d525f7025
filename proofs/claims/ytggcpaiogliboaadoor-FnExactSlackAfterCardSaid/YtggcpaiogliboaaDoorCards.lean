/-
  DERIVED. GIVEN WITH THE SEED: THE CARDS: each row of YtggcpaiogliboaaDoorRows.lean that lists a variable, with what it lists TIED to the program's text (the seventh form; the later family's looks); each row that meets fmt, with fmt's text TOLD by the authors' own Lean function (tested against real Go, not proved from fmt's source: count such statements apart). THE CARD IS WHAT COUNTS. Prove the row's statement (the work); the ties are given (YtggcpaiogliboaaDoorTie.lean); close each card by the builder's one call (the guide's Derived/Test/ToyasCard.lean, 'card_holds'). Laid BY PROGRAM, IN A SANDBOX (cutbox-door.mjs). By AI agents, Wed Nov 11 2026. No macro, syntax, notation, axiom, sorry.
-/
import Derived.Test.YtggcpaiogliboaaDoorRows
import GoSem.ClaimSeven
namespace Go.Proofs.YtggcpaiogliboaaDoor
namespace Rows

/-- THE TIED CARD OF 'laws.FnExactMarksOn'. -/
def fnExactMarksOnCard : Claim7 := { stood := { row := fnExactMarksOnRow, standIns := [], harness := (true, "364f9bcd8c994d8f982d1db85018256cfbad305277d5b28ab73561295dabe73f"), looks := false }, kinds := [], alts := [], laidByText := true, laidKinds := [.data, .pinned], laidTests := true, laidLooks := .later }
def FnExactMarksOnCardSaid : Prop := Claim7.holds Tryd.pinned (.plain (OpenSpec.ofChange fnExactMarksOnSpec)) fnExactMarksOnCard

/-- THE TIED CARD OF 'laws.FnExactLivingOn'. -/
def fnExactLivingOnCard : Claim7 := { stood := { row := fnExactLivingOnRow, standIns := [], harness := (true, "364f9bcd8c994d8f982d1db85018256cfbad305277d5b28ab73561295dabe73f"), looks := false }, kinds := [], alts := [], laidByText := true, laidKinds := [.data, .pinned], laidTests := true, laidLooks := .later }
def FnExactLivingOnCardSaid : Prop := Claim7.holds Tryd.pinned (.plain (OpenSpec.ofChange fnExactLivingOnSpec)) fnExactLivingOnCard

/-- THE TIED CARD OF 'laws.FnExactIsDating'. -/
def fnExactIsDatingCard : Claim7 := { stood := { row := fnExactIsDatingRow, standIns := [], harness := (true, "364f9bcd8c994d8f982d1db85018256cfbad305277d5b28ab73561295dabe73f"), looks := false }, kinds := [], alts := [], laidByText := true, laidKinds := [.data, .pinned], laidTests := true, laidLooks := .later }
def FnExactIsDatingCardSaid : Prop := Claim7.holds Tryd.pinned (.plain (OpenSpec.ofChange fnExactIsDatingSpec)) fnExactIsDatingCard

/-- THE TIED CARD OF 'laws.FnExactIsConnected'. -/
def fnExactIsConnectedCard : Claim7 := { stood := { row := fnExactIsConnectedRow, standIns := [], harness := (true, "364f9bcd8c994d8f982d1db85018256cfbad305277d5b28ab73561295dabe73f"), looks := false }, kinds := [], alts := [], laidByText := true, laidKinds := [.data, .pinned], laidTests := true, laidLooks := .later }
def FnExactIsConnectedCardSaid : Prop := Claim7.holds Tryd.pinned (.plain (OpenSpec.ofChange fnExactIsConnectedSpec)) fnExactIsConnectedCard

/-- THE TIED CARD OF 'laws.FnExactTravelDays'. -/
def fnExactTravelDaysCard : Claim7 := { stood := { row := fnExactTravelDaysRow, standIns := [], harness := (true, "364f9bcd8c994d8f982d1db85018256cfbad305277d5b28ab73561295dabe73f"), looks := false }, kinds := [], alts := [], laidByText := true, laidKinds := [.data, .pinned], laidTests := true, laidLooks := .later }
def FnExactTravelDaysCardSaid : Prop := Claim7.holds Tryd.pinned (.plain (OpenSpec.ofChange fnExactTravelDaysSpec)) fnExactTravelDaysCard

/-- THE TIED CARD OF 'laws.FnExactFarthestPlace'. -/
def fnExactFarthestPlaceCard : Claim7 := { stood := { row := fnExactFarthestPlaceRow, standIns := [], harness := (true, "364f9bcd8c994d8f982d1db85018256cfbad305277d5b28ab73561295dabe73f"), looks := false }, kinds := [], alts := [], laidByText := true, laidKinds := [.data, .pinned], laidTests := true, laidLooks := .later }
def FnExactFarthestPlaceCardSaid : Prop := Claim7.holds Tryd.pinned (.plain (OpenSpec.ofChange fnExactFarthestPlaceSpec)) fnExactFarthestPlaceCard

/-- THE TIED CARD OF 'laws.FnExactIsItinerary'. -/
def fnExactIsItineraryCard : Claim7 := { stood := { row := fnExactIsItineraryRow, standIns := [], harness := (true, "364f9bcd8c994d8f982d1db85018256cfbad305277d5b28ab73561295dabe73f"), looks := false }, kinds := [], alts := [], laidByText := true, laidKinds := [.data, .pinned], laidTests := true, laidLooks := .later }
def FnExactIsItineraryCardSaid : Prop := Claim7.holds Tryd.pinned (.plain (OpenSpec.ofChange fnExactIsItinerarySpec)) fnExactIsItineraryCard

/-- THE TIED CARD OF 'laws.FnExactPlaceOn'. -/
def fnExactPlaceOnCard : Claim7 := { stood := { row := fnExactPlaceOnRow, standIns := [], harness := (true, "364f9bcd8c994d8f982d1db85018256cfbad305277d5b28ab73561295dabe73f"), looks := false }, kinds := [], alts := [], laidByText := true, laidKinds := [.data, .pinned], laidTests := true, laidLooks := .later }
def FnExactPlaceOnCardSaid : Prop := Claim7.holds Tryd.pinned (.plain (OpenSpec.ofChange fnExactPlaceOnSpec)) fnExactPlaceOnCard

/-- THE TIED CARD OF 'laws.FnExactSlackAfter'. -/
def fnExactSlackAfterCard : Claim7 := { stood := { row := fnExactSlackAfterRow, standIns := [], harness := (true, "364f9bcd8c994d8f982d1db85018256cfbad305277d5b28ab73561295dabe73f"), looks := false }, kinds := [], alts := [], laidByText := true, laidKinds := [.data, .pinned], laidTests := true, laidLooks := .later }
def FnExactSlackAfterCardSaid : Prop := Claim7.holds Tryd.pinned (.plain (OpenSpec.ofChange fnExactSlackAfterSpec)) fnExactSlackAfterCard

/-- THE TIED CARD OF 'laws.FnExactPlacesWithin'. -/
def fnExactPlacesWithinCard : Claim7 := { stood := { row := fnExactPlacesWithinRow, standIns := [], harness := (true, "364f9bcd8c994d8f982d1db85018256cfbad305277d5b28ab73561295dabe73f"), looks := false }, kinds := [], alts := [], laidByText := true, laidKinds := [.data, .pinned], laidTests := true, laidLooks := .later }
def FnExactPlacesWithinCardSaid : Prop := Claim7.holds Tryd.pinned (.plain (OpenSpec.ofChange fnExactPlacesWithinSpec)) fnExactPlacesWithinCard

/-- THE TIED CARD OF 'laws.FnExactUselessWays'. -/
def fnExactUselessWaysCard : Claim7 := { stood := { row := fnExactUselessWaysRow, standIns := [], harness := (true, "364f9bcd8c994d8f982d1db85018256cfbad305277d5b28ab73561295dabe73f"), looks := false }, kinds := [], alts := [], laidByText := true, laidKinds := [.data, .pinned], laidTests := true, laidLooks := .later }
def FnExactUselessWaysCardSaid : Prop := Claim7.holds Tryd.pinned (.plain (OpenSpec.ofChange fnExactUselessWaysSpec)) fnExactUselessWaysCard

/-- THE TIED CARD OF 'laws.FnExactMarksText'. -/
def fnExactMarksTextCard : Claim7 := { stood := { row := fnExactMarksTextRow, standIns := [], harness := (true, "364f9bcd8c994d8f982d1db85018256cfbad305277d5b28ab73561295dabe73f"), looks := false }, kinds := [], alts := [], laidByText := true, laidKinds := [.data, .data, .data, .data, .pinned], laidTests := true, laidLooks := .later }
def FnExactMarksTextCardSaid : Prop := Claim7.holds Tryd.pinned (.plain (OpenSpec.ofChange fnExactMarksTextSpec)) fnExactMarksTextCard

/-- THE SECOND FORM's CARD OF 'laws.FnExactMarksOn'. -/
def fnExactMarksOnUptoCard : Claim7 := { stood := { row := fnExactMarksOnUptoRow, standIns := [], harness := (true, "364f9bcd8c994d8f982d1db85018256cfbad305277d5b28ab73561295dabe73f"), looks := false }, kinds := [], alts := [], laidByText := true, laidKinds := [.data, .pinned], laidTests := true, laidLooks := .later }
def FnExactMarksOnUptoCardSaid : Prop := Claim7.holds Tryd.pinned (.plain (OpenSpec.upto fnExactMarksOnSpec)) fnExactMarksOnUptoCard

/-- THE SECOND FORM's CARD OF 'laws.FnExactLivingOn'. -/
def fnExactLivingOnUptoCard : Claim7 := { stood := { row := fnExactLivingOnUptoRow, standIns := [], harness := (true, "364f9bcd8c994d8f982d1db85018256cfbad305277d5b28ab73561295dabe73f"), looks := false }, kinds := [], alts := [], laidByText := true, laidKinds := [.data, .pinned], laidTests := true, laidLooks := .later }
def FnExactLivingOnUptoCardSaid : Prop := Claim7.holds Tryd.pinned (.plain (OpenSpec.upto fnExactLivingOnSpec)) fnExactLivingOnUptoCard

/-- THE SECOND FORM's CARD OF 'laws.FnExactIsDating'. -/
def fnExactIsDatingUptoCard : Claim7 := { stood := { row := fnExactIsDatingUptoRow, standIns := [], harness := (true, "364f9bcd8c994d8f982d1db85018256cfbad305277d5b28ab73561295dabe73f"), looks := false }, kinds := [], alts := [], laidByText := true, laidKinds := [.data, .pinned], laidTests := true, laidLooks := .later }
def FnExactIsDatingUptoCardSaid : Prop := Claim7.holds Tryd.pinned (.plain (OpenSpec.upto fnExactIsDatingSpec)) fnExactIsDatingUptoCard

/-- THE SECOND FORM's CARD OF 'laws.FnExactIsConnected'. -/
def fnExactIsConnectedUptoCard : Claim7 := { stood := { row := fnExactIsConnectedUptoRow, standIns := [], harness := (true, "364f9bcd8c994d8f982d1db85018256cfbad305277d5b28ab73561295dabe73f"), looks := false }, kinds := [], alts := [], laidByText := true, laidKinds := [.data, .pinned], laidTests := true, laidLooks := .later }
def FnExactIsConnectedUptoCardSaid : Prop := Claim7.holds Tryd.pinned (.plain (OpenSpec.upto fnExactIsConnectedSpec)) fnExactIsConnectedUptoCard

/-- THE SECOND FORM's CARD OF 'laws.FnExactTravelDays'. -/
def fnExactTravelDaysUptoCard : Claim7 := { stood := { row := fnExactTravelDaysUptoRow, standIns := [], harness := (true, "364f9bcd8c994d8f982d1db85018256cfbad305277d5b28ab73561295dabe73f"), looks := false }, kinds := [], alts := [], laidByText := true, laidKinds := [.data, .pinned], laidTests := true, laidLooks := .later }
def FnExactTravelDaysUptoCardSaid : Prop := Claim7.holds Tryd.pinned (.plain (OpenSpec.upto fnExactTravelDaysSpec)) fnExactTravelDaysUptoCard

/-- THE SECOND FORM's CARD OF 'laws.FnExactFarthestPlace'. -/
def fnExactFarthestPlaceUptoCard : Claim7 := { stood := { row := fnExactFarthestPlaceUptoRow, standIns := [], harness := (true, "364f9bcd8c994d8f982d1db85018256cfbad305277d5b28ab73561295dabe73f"), looks := false }, kinds := [], alts := [], laidByText := true, laidKinds := [.data, .pinned], laidTests := true, laidLooks := .later }
def FnExactFarthestPlaceUptoCardSaid : Prop := Claim7.holds Tryd.pinned (.plain (OpenSpec.upto fnExactFarthestPlaceSpec)) fnExactFarthestPlaceUptoCard

/-- THE SECOND FORM's CARD OF 'laws.FnExactIsItinerary'. -/
def fnExactIsItineraryUptoCard : Claim7 := { stood := { row := fnExactIsItineraryUptoRow, standIns := [], harness := (true, "364f9bcd8c994d8f982d1db85018256cfbad305277d5b28ab73561295dabe73f"), looks := false }, kinds := [], alts := [], laidByText := true, laidKinds := [.data, .pinned], laidTests := true, laidLooks := .later }
def FnExactIsItineraryUptoCardSaid : Prop := Claim7.holds Tryd.pinned (.plain (OpenSpec.upto fnExactIsItinerarySpec)) fnExactIsItineraryUptoCard

/-- THE SECOND FORM's CARD OF 'laws.FnExactPlaceOn'. -/
def fnExactPlaceOnUptoCard : Claim7 := { stood := { row := fnExactPlaceOnUptoRow, standIns := [], harness := (true, "364f9bcd8c994d8f982d1db85018256cfbad305277d5b28ab73561295dabe73f"), looks := false }, kinds := [], alts := [], laidByText := true, laidKinds := [.data, .pinned], laidTests := true, laidLooks := .later }
def FnExactPlaceOnUptoCardSaid : Prop := Claim7.holds Tryd.pinned (.plain (OpenSpec.upto fnExactPlaceOnSpec)) fnExactPlaceOnUptoCard

/-- THE SECOND FORM's CARD OF 'laws.FnExactSlackAfter'. -/
def fnExactSlackAfterUptoCard : Claim7 := { stood := { row := fnExactSlackAfterUptoRow, standIns := [], harness := (true, "364f9bcd8c994d8f982d1db85018256cfbad305277d5b28ab73561295dabe73f"), looks := false }, kinds := [], alts := [], laidByText := true, laidKinds := [.data, .pinned], laidTests := true, laidLooks := .later }
def FnExactSlackAfterUptoCardSaid : Prop := Claim7.holds Tryd.pinned (.plain (OpenSpec.upto fnExactSlackAfterSpec)) fnExactSlackAfterUptoCard

/-- THE SECOND FORM's CARD OF 'laws.FnExactPlacesWithin'. -/
def fnExactPlacesWithinUptoCard : Claim7 := { stood := { row := fnExactPlacesWithinUptoRow, standIns := [], harness := (true, "364f9bcd8c994d8f982d1db85018256cfbad305277d5b28ab73561295dabe73f"), looks := false }, kinds := [], alts := [], laidByText := true, laidKinds := [.data, .pinned], laidTests := true, laidLooks := .later }
def FnExactPlacesWithinUptoCardSaid : Prop := Claim7.holds Tryd.pinned (.plain (OpenSpec.upto fnExactPlacesWithinSpec)) fnExactPlacesWithinUptoCard

/-- THE SECOND FORM's CARD OF 'laws.FnExactUselessWays'. -/
def fnExactUselessWaysUptoCard : Claim7 := { stood := { row := fnExactUselessWaysUptoRow, standIns := [], harness := (true, "364f9bcd8c994d8f982d1db85018256cfbad305277d5b28ab73561295dabe73f"), looks := false }, kinds := [], alts := [], laidByText := true, laidKinds := [.data, .pinned], laidTests := true, laidLooks := .later }
def FnExactUselessWaysUptoCardSaid : Prop := Claim7.holds Tryd.pinned (.plain (OpenSpec.upto fnExactUselessWaysSpec)) fnExactUselessWaysUptoCard

/-- THE SECOND FORM's CARD OF 'laws.FnExactMarksText'. -/
def fnExactMarksTextUptoCard : Claim7 := { stood := { row := fnExactMarksTextUptoRow, standIns := [], harness := (true, "364f9bcd8c994d8f982d1db85018256cfbad305277d5b28ab73561295dabe73f"), looks := false }, kinds := [], alts := [], laidByText := true, laidKinds := [.data, .data, .data, .data, .pinned], laidTests := true, laidLooks := .later }
def FnExactMarksTextUptoCardSaid : Prop := Claim7.holds Tryd.pinned (.plain (OpenSpec.upto fnExactMarksTextSpec)) fnExactMarksTextUptoCard
end Rows
end Go.Proofs.YtggcpaiogliboaaDoor
