/-
  DERIVED. GIVEN WITH THE SEED: THE CARDS: each row of YtipdcgfdejmjfaaGreatDoorRows.lean that lists a variable, with what it lists TIED to the program's text (the seventh form; the later family's looks); each row that meets fmt, with fmt's text TOLD by the authors' own Lean function (tested against real Go, not proved from fmt's source: count such statements apart). THE CARD IS WHAT COUNTS. Prove the row's statement (the work); the ties are given (YtipdcgfdejmjfaaGreatDoorTie.lean); close each card by the builder's one call (the guide's Derived/Test/ToyasCard.lean, 'card_holds'). Laid BY PROGRAM, IN A SANDBOX (cutbox-door.mjs). By AI agents, Wed Nov 11 2026. No macro, syntax, notation, axiom, sorry.
-/
import Derived.Test.YtipdcgfdejmjfaaGreatDoorRows
import GoSem.ClaimSeven
namespace Go.Proofs.YtipdcgfdejmjfaaGreatDoor
namespace Rows

/-- THE TIED CARD OF 'laws.FnExactDatingText'. -/
def fnExactDatingTextCard : Claim7 := { stood := { row := fnExactDatingTextRow, standIns := [], harness := (true, "00505db180b253ffff4e88dffedef941e63f4ecd0ac3c4dbbc6115b1681bb7aa"), looks := false }, kinds := [], alts := [], laidByText := true, laidKinds := [.data, .data, .data, .data, .pinned], laidTests := true, laidLooks := .later }
def FnExactDatingTextCardSaid : Prop := Claim7.holds Tryz.pinned (.plain (OpenSpec.ofChange fnExactDatingTextSpec)) fnExactDatingTextCard

/-- THE TIED CARD OF 'laws.FnItineraries'. -/
def fnItinerariesCard : Claim7 := { stood := { row := fnItinerariesRow, standIns := [], harness := (true, "00505db180b253ffff4e88dffedef941e63f4ecd0ac3c4dbbc6115b1681bb7aa"), looks := false }, kinds := [], alts := [], laidByText := true, laidKinds := [.data, .pinned], laidTests := true, laidLooks := .later }
def FnItinerariesCardSaid : Prop := Claim7.holds Tryz.pinned (.plain (OpenSpec.ofChange fnItinerariesSpec)) fnItinerariesCard

/-- THE SECOND FORM's CARD OF 'laws.FnExactDatingText'. -/
def fnExactDatingTextUptoCard : Claim7 := { stood := { row := fnExactDatingTextUptoRow, standIns := [], harness := (true, "00505db180b253ffff4e88dffedef941e63f4ecd0ac3c4dbbc6115b1681bb7aa"), looks := false }, kinds := [], alts := [], laidByText := true, laidKinds := [.data, .data, .data, .data, .pinned], laidTests := true, laidLooks := .later }
def FnExactDatingTextUptoCardSaid : Prop := Claim7.holds Tryz.pinned (.plain (OpenSpec.upto fnExactDatingTextSpec)) fnExactDatingTextUptoCard

/-- THE SECOND FORM's CARD OF 'laws.FnItineraries'. -/
def fnItinerariesUptoCard : Claim7 := { stood := { row := fnItinerariesUptoRow, standIns := [], harness := (true, "00505db180b253ffff4e88dffedef941e63f4ecd0ac3c4dbbc6115b1681bb7aa"), looks := false }, kinds := [], alts := [], laidByText := true, laidKinds := [.data, .pinned], laidTests := true, laidLooks := .later }
def FnItinerariesUptoCardSaid : Prop := Claim7.holds Tryz.pinned (.plain (OpenSpec.upto fnItinerariesSpec)) fnItinerariesUptoCard
end Rows
end Go.Proofs.YtipdcgfdejmjfaaGreatDoor
