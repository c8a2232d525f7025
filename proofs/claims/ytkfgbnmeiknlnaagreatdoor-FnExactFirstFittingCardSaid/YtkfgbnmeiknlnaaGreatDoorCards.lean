/-
  DERIVED. GIVEN WITH THE SEED: THE CARDS: each row of YtkfgbnmeiknlnaaGreatDoorRows.lean that lists a variable, with what it lists TIED to the program's text (the seventh form; the later family's looks); each row that meets fmt, with fmt's text TOLD by the authors' own Lean function (tested against real Go, not proved from fmt's source: count such statements apart). THE CARD IS WHAT COUNTS. Prove the row's statement (the work); the ties are given (YtkfgbnmeiknlnaaGreatDoorTie.lean); close each card by the builder's one call (the guide's Derived/Test/ToyasCard.lean, 'card_holds'). Laid BY PROGRAM, IN A SANDBOX (cutbox-door.mjs). By AI agents, Wed Nov 11 2026. No macro, syntax, notation, axiom, sorry.
-/
import Derived.Test.YtkfgbnmeiknlnaaGreatDoorRows
import GoSem.ClaimSeven
namespace Go.Proofs.YtkfgbnmeiknlnaaGreatDoor
namespace Rows

/-- THE TIED CARD OF 'laws.FnExactNextHolding'. -/
def fnExactNextHoldingCard : Claim7 := { stood := { row := fnExactNextHoldingRow, standIns := [], harness := (true, "336849a1543423d2143282d8b86a58f1f91179a9fd143968740669731e237301"), looks := false }, kinds := [], alts := [], laidByText := true, laidKinds := [.data, .pinned], laidTests := true, laidLooks := .later }
def FnExactNextHoldingCardSaid : Prop := Claim7.holds Tryz.pinned (.plain (OpenSpec.ofChange fnExactNextHoldingSpec)) fnExactNextHoldingCard

/-- THE TIED CARD OF 'laws.FnExactFirstFitting'. -/
def fnExactFirstFittingCard : Claim7 := { stood := { row := fnExactFirstFittingRow, standIns := [], harness := (true, "336849a1543423d2143282d8b86a58f1f91179a9fd143968740669731e237301"), looks := false }, kinds := [], alts := [], laidByText := true, laidKinds := [.data, .pinned], laidTests := true, laidLooks := .later }
def FnExactFirstFittingCardSaid : Prop := Claim7.holds Tryz.pinned (.plain (OpenSpec.ofChange fnExactFirstFittingSpec)) fnExactFirstFittingCard

/-- THE TIED CARD OF 'laws.FnExactCountFitting'. -/
def fnExactCountFittingCard : Claim7 := { stood := { row := fnExactCountFittingRow, standIns := [], harness := (true, "336849a1543423d2143282d8b86a58f1f91179a9fd143968740669731e237301"), looks := false }, kinds := [], alts := [], laidByText := true, laidKinds := [.data, .pinned], laidTests := true, laidLooks := .later }
def FnExactCountFittingCardSaid : Prop := Claim7.holds Tryz.pinned (.plain (OpenSpec.ofChange fnExactCountFittingSpec)) fnExactCountFittingCard

/-- THE TIED CARD OF 'laws.FnExactBestDay'. -/
def fnExactBestDayCard : Claim7 := { stood := { row := fnExactBestDayRow, standIns := [], harness := (true, "336849a1543423d2143282d8b86a58f1f91179a9fd143968740669731e237301"), looks := false }, kinds := [], alts := [], laidByText := true, laidKinds := [.data, .pinned], laidTests := true, laidLooks := .later }
def FnExactBestDayCardSaid : Prop := Claim7.holds Tryz.pinned (.plain (OpenSpec.ofChange fnExactBestDaySpec)) fnExactBestDayCard

/-- THE TIED CARD OF 'laws.FnExactFailingClauses'. -/
def fnExactFailingClausesCard : Claim7 := { stood := { row := fnExactFailingClausesRow, standIns := [], harness := (true, "336849a1543423d2143282d8b86a58f1f91179a9fd143968740669731e237301"), looks := false }, kinds := [], alts := [], laidByText := true, laidKinds := [.data, .pinned], laidTests := true, laidLooks := .later }
def FnExactFailingClausesCardSaid : Prop := Claim7.holds Tryz.pinned (.plain (OpenSpec.ofChange fnExactFailingClausesSpec)) fnExactFailingClausesCard

/-- THE TIED CARD OF 'laws.FnExactFittingDays'. -/
def fnExactFittingDaysCard : Claim7 := { stood := { row := fnExactFittingDaysRow, standIns := [], harness := (true, "336849a1543423d2143282d8b86a58f1f91179a9fd143968740669731e237301"), looks := false }, kinds := [], alts := [], laidByText := true, laidKinds := [.data, .pinned], laidTests := true, laidLooks := .later }
def FnExactFittingDaysCardSaid : Prop := Claim7.holds Tryz.pinned (.plain (OpenSpec.ofChange fnExactFittingDaysSpec)) fnExactFittingDaysCard

/-- THE SECOND FORM's CARD OF 'laws.FnExactNextHolding'. -/
def fnExactNextHoldingUptoCard : Claim7 := { stood := { row := fnExactNextHoldingUptoRow, standIns := [], harness := (true, "336849a1543423d2143282d8b86a58f1f91179a9fd143968740669731e237301"), looks := false }, kinds := [], alts := [], laidByText := true, laidKinds := [.data, .pinned], laidTests := true, laidLooks := .later }
def FnExactNextHoldingUptoCardSaid : Prop := Claim7.holds Tryz.pinned (.plain (OpenSpec.upto fnExactNextHoldingSpec)) fnExactNextHoldingUptoCard

/-- THE SECOND FORM's CARD OF 'laws.FnExactFirstFitting'. -/
def fnExactFirstFittingUptoCard : Claim7 := { stood := { row := fnExactFirstFittingUptoRow, standIns := [], harness := (true, "336849a1543423d2143282d8b86a58f1f91179a9fd143968740669731e237301"), looks := false }, kinds := [], alts := [], laidByText := true, laidKinds := [.data, .pinned], laidTests := true, laidLooks := .later }
def FnExactFirstFittingUptoCardSaid : Prop := Claim7.holds Tryz.pinned (.plain (OpenSpec.upto fnExactFirstFittingSpec)) fnExactFirstFittingUptoCard

/-- THE SECOND FORM's CARD OF 'laws.FnExactCountFitting'. -/
def fnExactCountFittingUptoCard : Claim7 := { stood := { row := fnExactCountFittingUptoRow, standIns := [], harness := (true, "336849a1543423d2143282d8b86a58f1f91179a9fd143968740669731e237301"), looks := false }, kinds := [], alts := [], laidByText := true, laidKinds := [.data, .pinned], laidTests := true, laidLooks := .later }
def FnExactCountFittingUptoCardSaid : Prop := Claim7.holds Tryz.pinned (.plain (OpenSpec.upto fnExactCountFittingSpec)) fnExactCountFittingUptoCard

/-- THE SECOND FORM's CARD OF 'laws.FnExactBestDay'. -/
def fnExactBestDayUptoCard : Claim7 := { stood := { row := fnExactBestDayUptoRow, standIns := [], harness := (true, "336849a1543423d2143282d8b86a58f1f91179a9fd143968740669731e237301"), looks := false }, kinds := [], alts := [], laidByText := true, laidKinds := [.data, .pinned], laidTests := true, laidLooks := .later }
def FnExactBestDayUptoCardSaid : Prop := Claim7.holds Tryz.pinned (.plain (OpenSpec.upto fnExactBestDaySpec)) fnExactBestDayUptoCard

/-- THE SECOND FORM's CARD OF 'laws.FnExactFailingClauses'. -/
def fnExactFailingClausesUptoCard : Claim7 := { stood := { row := fnExactFailingClausesUptoRow, standIns := [], harness := (true, "336849a1543423d2143282d8b86a58f1f91179a9fd143968740669731e237301"), looks := false }, kinds := [], alts := [], laidByText := true, laidKinds := [.data, .pinned], laidTests := true, laidLooks := .later }
def FnExactFailingClausesUptoCardSaid : Prop := Claim7.holds Tryz.pinned (.plain (OpenSpec.upto fnExactFailingClausesSpec)) fnExactFailingClausesUptoCard

/-- THE SECOND FORM's CARD OF 'laws.FnExactFittingDays'. -/
def fnExactFittingDaysUptoCard : Claim7 := { stood := { row := fnExactFittingDaysUptoRow, standIns := [], harness := (true, "336849a1543423d2143282d8b86a58f1f91179a9fd143968740669731e237301"), looks := false }, kinds := [], alts := [], laidByText := true, laidKinds := [.data, .pinned], laidTests := true, laidLooks := .later }
def FnExactFittingDaysUptoCardSaid : Prop := Claim7.holds Tryz.pinned (.plain (OpenSpec.upto fnExactFittingDaysSpec)) fnExactFittingDaysUptoCard
end Rows
end Go.Proofs.YtkfgbnmeiknlnaaGreatDoor
