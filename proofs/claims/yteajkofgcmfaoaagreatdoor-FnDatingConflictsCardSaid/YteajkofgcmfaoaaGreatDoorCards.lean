/-
  DERIVED. GIVEN WITH THE SEED: THE CARDS: each row of YteajkofgcmfaoaaGreatDoorRows.lean that lists a variable, with what it lists TIED to the program's text (the seventh form; the later family's looks); each row that meets fmt, with fmt's text TOLD by the authors' own Lean function (tested against real Go, not proved from fmt's source: count such statements apart). THE CARD IS WHAT COUNTS. Prove the row's statement (the work); the ties are given (YteajkofgcmfaoaaGreatDoorTie.lean); close each card by the builder's one call (the guide's Derived/Test/ToyasCard.lean, 'card_holds'). Laid BY PROGRAM, IN A SANDBOX (cutbox-door.mjs). By AI agents, Wed Nov 11 2026. No macro, syntax, notation, axiom, sorry.
-/
import Derived.Test.YteajkofgcmfaoaaGreatDoorRows
import GoSem.ClaimSeven
namespace Go.Proofs.YteajkofgcmfaoaaGreatDoor
namespace Rows

/-- THE TIED CARD OF 'laws.FnExactReadDating'. -/
def fnExactReadDatingCard : Claim7 := { stood := { row := fnExactReadDatingRow, standIns := [], harness := (true, "146c2361ebc44b91fafb9698cd15bee251598b9df0d89cfb248da135536ab3ae"), looks := true }, kinds := [], alts := [], laidByText := true, laidKinds := [.data, .data, .data, .data, .sentinel, .sentinel, .pinned], laidTests := true, laidLooks := .later }
def FnExactReadDatingCardSaid : Prop := Claim7.holds Tryz.pinned (.plain (OpenSpec.ofChange fnExactReadDatingSpec)) fnExactReadDatingCard

/-- THE TIED CARD OF 'laws.FnClauses'. -/
def fnClausesCard : Claim7 := { stood := { row := fnClausesRow, standIns := [], harness := (true, "146c2361ebc44b91fafb9698cd15bee251598b9df0d89cfb248da135536ab3ae"), looks := true }, kinds := [], alts := [], laidByText := true, laidKinds := [.data, .data, .data, .data, .sentinel, .sentinel, .pinned], laidTests := true, laidLooks := .later }
def FnClausesCardSaid : Prop := Claim7.holds Tryz.pinned (.plain (OpenSpec.ofChange fnClausesSpec)) fnClausesCard

/-- THE TIED CARD OF 'laws.FnDatingConflicts'. -/
def fnDatingConflictsCard : Claim7 := { stood := { row := fnDatingConflictsRow, standIns := [], harness := (true, "146c2361ebc44b91fafb9698cd15bee251598b9df0d89cfb248da135536ab3ae"), looks := true }, kinds := [], alts := [], laidByText := true, laidKinds := [.data, .data, .data, .data, .sentinel, .sentinel, .pinned], laidTests := true, laidLooks := .later }
def FnDatingConflictsCardSaid : Prop := Claim7.holds Tryz.pinned (.plain (OpenSpec.ofChange fnDatingConflictsSpec)) fnDatingConflictsCard

/-- THE TIED CARD OF 'laws.FnExactReadClause'. -/
def fnExactReadClauseCard : Claim7 := { stood := { row := fnExactReadClauseRow, standIns := [], harness := (true, "146c2361ebc44b91fafb9698cd15bee251598b9df0d89cfb248da135536ab3ae"), looks := true }, kinds := [], alts := [], laidByText := true, laidKinds := [.data, .data, .data, .data, .sentinel, .sentinel, .pinned], laidTests := true, laidLooks := .later }
def FnExactReadClauseCardSaid : Prop := Claim7.holds Tryz.pinned (.plain (OpenSpec.ofChange fnExactReadClauseSpec)) fnExactReadClauseCard

/-- THE SECOND FORM's CARD OF 'laws.FnExactReadDating'. -/
def fnExactReadDatingUptoCard : Claim7 := { stood := { row := fnExactReadDatingUptoRow, standIns := [], harness := (true, "146c2361ebc44b91fafb9698cd15bee251598b9df0d89cfb248da135536ab3ae"), looks := true }, kinds := [], alts := [], laidByText := true, laidKinds := [.data, .data, .data, .data, .sentinel, .sentinel, .pinned], laidTests := true, laidLooks := .later }
def FnExactReadDatingUptoCardSaid : Prop := Claim7.holds Tryz.pinned (.plain (OpenSpec.upto fnExactReadDatingSpec)) fnExactReadDatingUptoCard

/-- THE SECOND FORM's CARD OF 'laws.FnClauses'. -/
def fnClausesUptoCard : Claim7 := { stood := { row := fnClausesUptoRow, standIns := [], harness := (true, "146c2361ebc44b91fafb9698cd15bee251598b9df0d89cfb248da135536ab3ae"), looks := true }, kinds := [], alts := [], laidByText := true, laidKinds := [.data, .data, .data, .data, .sentinel, .sentinel, .pinned], laidTests := true, laidLooks := .later }
def FnClausesUptoCardSaid : Prop := Claim7.holds Tryz.pinned (.plain (OpenSpec.upto fnClausesSpec)) fnClausesUptoCard

/-- THE SECOND FORM's CARD OF 'laws.FnDatingConflicts'. -/
def fnDatingConflictsUptoCard : Claim7 := { stood := { row := fnDatingConflictsUptoRow, standIns := [], harness := (true, "146c2361ebc44b91fafb9698cd15bee251598b9df0d89cfb248da135536ab3ae"), looks := true }, kinds := [], alts := [], laidByText := true, laidKinds := [.data, .data, .data, .data, .sentinel, .sentinel, .pinned], laidTests := true, laidLooks := .later }
def FnDatingConflictsUptoCardSaid : Prop := Claim7.holds Tryz.pinned (.plain (OpenSpec.upto fnDatingConflictsSpec)) fnDatingConflictsUptoCard

/-- THE SECOND FORM's CARD OF 'laws.FnExactReadClause'. -/
def fnExactReadClauseUptoCard : Claim7 := { stood := { row := fnExactReadClauseUptoRow, standIns := [], harness := (true, "146c2361ebc44b91fafb9698cd15bee251598b9df0d89cfb248da135536ab3ae"), looks := true }, kinds := [], alts := [], laidByText := true, laidKinds := [.data, .data, .data, .data, .sentinel, .sentinel, .pinned], laidTests := true, laidLooks := .later }
def FnExactReadClauseUptoCardSaid : Prop := Claim7.holds Tryz.pinned (.plain (OpenSpec.upto fnExactReadClauseSpec)) fnExactReadClauseUptoCard
end Rows
end Go.Proofs.YteajkofgcmfaoaaGreatDoor
