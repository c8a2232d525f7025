/-
  DERIVED. GIVEN WITH THE SEED: THE CARDS: each row of YtjklileooiepmaaGreatDoorRows.lean that lists a variable, with what it lists TIED to the program's text (the seventh form; the later family's looks); each row that meets fmt, with fmt's text TOLD by the authors' own Lean function (tested against real Go, not proved from fmt's source: count such statements apart). THE CARD IS WHAT COUNTS. Prove the row's statement (the work); the ties are given (YtjklileooiepmaaGreatDoorTie.lean); close each card by the builder's one call (the guide's Derived/Test/ToyasCard.lean, 'card_holds'). Laid BY PROGRAM, IN A SANDBOX (cutbox-door.mjs). By AI agents, Wed Nov 11 2026. No macro, syntax, notation, axiom, sorry.
-/
import Derived.Test.YtjklileooiepmaaGreatDoorRows
import GoSem.ClaimSeven
namespace Go.Proofs.YtjklileooiepmaaGreatDoor
namespace Rows

/-- THE TIED CARD OF 'laws.FnExactSmallestConflict'. -/
def fnExactSmallestConflictCard : Claim7 := { stood := { row := fnExactSmallestConflictRow, standIns := [], harness := (true, "7cd086059d0c7c8cac41665c1dd439abf24242cb806db196bc39aa21d032ca14"), looks := false }, kinds := [], alts := [], laidByText := true, laidKinds := [.data, .pinned], laidTests := true, laidLooks := .later }
def FnExactSmallestConflictCardSaid : Prop := Claim7.holds Tryz.pinned (.plain (OpenSpec.ofChange fnExactSmallestConflictSpec)) fnExactSmallestConflictCard

/-- THE SECOND FORM's CARD OF 'laws.FnExactSmallestConflict'. -/
def fnExactSmallestConflictUptoCard : Claim7 := { stood := { row := fnExactSmallestConflictUptoRow, standIns := [], harness := (true, "7cd086059d0c7c8cac41665c1dd439abf24242cb806db196bc39aa21d032ca14"), looks := false }, kinds := [], alts := [], laidByText := true, laidKinds := [.data, .pinned], laidTests := true, laidLooks := .later }
def FnExactSmallestConflictUptoCardSaid : Prop := Claim7.holds Tryz.pinned (.plain (OpenSpec.upto fnExactSmallestConflictSpec)) fnExactSmallestConflictUptoCard
end Rows
end Go.Proofs.YtjklileooiepmaaGreatDoor
