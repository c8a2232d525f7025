/-
  DERIVED. GIVEN WITH THE SEED: THE CARDS: each row of YtihmacmieofbgaaDoorRows.lean that lists a variable, with what it lists TIED to the program's text (the seventh form; the later family's looks); each row that meets fmt, with fmt's text TOLD by the authors' own Lean function (tested against real Go, not proved from fmt's source: count such statements apart). THE CARD IS WHAT COUNTS. Prove the row's statement (the work); the ties are given (YtihmacmieofbgaaDoorTie.lean); close each card by the builder's one call (the guide's Derived/Test/ToyasCard.lean, 'card_holds'). Laid BY PROGRAM, IN A SANDBOX (cutbox-door.mjs). By AI agents, Wed Nov 11 2026. No macro, syntax, notation, axiom, sorry.
-/
import Derived.Test.YtihmacmieofbgaaDoorRows
import GoSem.ClaimSeven
namespace Go.Proofs.YtihmacmieofbgaaDoor
namespace Rows

/-- THE TIED CARD OF 'laws.FnRoutes'. -/
def fnRoutesCard : Claim7 := { stood := { row := fnRoutesRow, standIns := [], harness := (true, "4974220680529c9e154a6aefb85327bdefbf0dcab3393914d2abd9dbeb2f733b"), looks := false }, kinds := [], alts := [], laidByText := true, laidKinds := [.data, .pinned], laidTests := true, laidLooks := .later }
def FnRoutesCardSaid : Prop := Claim7.holds Tryd.pinned (.plain (OpenSpec.ofChange fnRoutesSpec)) fnRoutesCard

/-- THE TIED CARD OF 'laws.FnTravel'. -/
def fnTravelCard : Claim7 := { stood := { row := fnTravelRow, standIns := [], harness := (true, "4974220680529c9e154a6aefb85327bdefbf0dcab3393914d2abd9dbeb2f733b"), looks := false }, kinds := [], alts := [], laidByText := true, laidKinds := [.data, .pinned], laidTests := true, laidLooks := .later }
def FnTravelCardSaid : Prop := Claim7.holds Tryd.pinned (.plain (OpenSpec.ofChange fnTravelSpec)) fnTravelCard

/-- THE TIED CARD OF 'laws.FnExactRouteOf'. -/
def fnExactRouteOfCard : Claim7 := { stood := { row := fnExactRouteOfRow, standIns := [], harness := (true, "4974220680529c9e154a6aefb85327bdefbf0dcab3393914d2abd9dbeb2f733b"), looks := false }, kinds := [], alts := [], laidByText := true, laidKinds := [.data, .pinned], laidTests := true, laidLooks := .later }
def FnExactRouteOfCardSaid : Prop := Claim7.holds Tryd.pinned (.plain (OpenSpec.ofChange fnExactRouteOfSpec)) fnExactRouteOfCard

/-- THE SECOND FORM's CARD OF 'laws.FnRoutes'. -/
def fnRoutesUptoCard : Claim7 := { stood := { row := fnRoutesUptoRow, standIns := [], harness := (true, "4974220680529c9e154a6aefb85327bdefbf0dcab3393914d2abd9dbeb2f733b"), looks := false }, kinds := [], alts := [], laidByText := true, laidKinds := [.data, .pinned], laidTests := true, laidLooks := .later }
def FnRoutesUptoCardSaid : Prop := Claim7.holds Tryd.pinned (.plain (OpenSpec.upto fnRoutesSpec)) fnRoutesUptoCard

/-- THE SECOND FORM's CARD OF 'laws.FnTravel'. -/
def fnTravelUptoCard : Claim7 := { stood := { row := fnTravelUptoRow, standIns := [], harness := (true, "4974220680529c9e154a6aefb85327bdefbf0dcab3393914d2abd9dbeb2f733b"), looks := false }, kinds := [], alts := [], laidByText := true, laidKinds := [.data, .pinned], laidTests := true, laidLooks := .later }
def FnTravelUptoCardSaid : Prop := Claim7.holds Tryd.pinned (.plain (OpenSpec.upto fnTravelSpec)) fnTravelUptoCard

/-- THE SECOND FORM's CARD OF 'laws.FnExactRouteOf'. -/
def fnExactRouteOfUptoCard : Claim7 := { stood := { row := fnExactRouteOfUptoRow, standIns := [], harness := (true, "4974220680529c9e154a6aefb85327bdefbf0dcab3393914d2abd9dbeb2f733b"), looks := false }, kinds := [], alts := [], laidByText := true, laidKinds := [.data, .pinned], laidTests := true, laidLooks := .later }
def FnExactRouteOfUptoCardSaid : Prop := Claim7.holds Tryd.pinned (.plain (OpenSpec.upto fnExactRouteOfSpec)) fnExactRouteOfUptoCard
end Rows
end Go.Proofs.YtihmacmieofbgaaDoor
