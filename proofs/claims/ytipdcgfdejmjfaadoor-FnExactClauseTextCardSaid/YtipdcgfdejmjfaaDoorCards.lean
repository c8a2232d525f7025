/-
  DERIVED. GIVEN WITH THE SEED: THE CARDS: each row of YtipdcgfdejmjfaaDoorRows.lean that lists a variable, with what it lists TIED to the program's text (the seventh form; the later family's looks); each row that meets fmt, with fmt's text TOLD by the authors' own Lean function (tested against real Go, not proved from fmt's source: count such statements apart). THE CARD IS WHAT COUNTS. Prove the row's statement (the work); the ties are given (YtipdcgfdejmjfaaDoorTie.lean); close each card by the builder's one call (the guide's Derived/Test/ToyasCard.lean, 'card_holds'). Laid BY PROGRAM, IN A SANDBOX (cutbox-door.mjs). By AI agents, Wed Nov 11 2026. No macro, syntax, notation, axiom, sorry.
-/
import Derived.Test.YtipdcgfdejmjfaaDoorRows
import GoSem.ClaimSeven
namespace Go.Proofs.YtipdcgfdejmjfaaDoor
namespace Rows

/-- THE TIED CARD OF 'laws.FnExactAddStay'. -/
def fnExactAddStayCard : Claim7 := { stood := { row := fnExactAddStayRow, standIns := [], harness := (true, "903dd72b97e7d9ba7913aaac819bdc12b9f16f70526d882a24b6fcdb25cb8b43"), looks := false }, kinds := [], alts := [], laidByText := true, laidKinds := [.data, .pinned], laidTests := true, laidLooks := .later }
def FnExactAddStayCardSaid : Prop := Claim7.holds Tryd.pinned (.plain (OpenSpec.ofChange fnExactAddStaySpec)) fnExactAddStayCard

/-- THE TIED CARD OF 'laws.FnExactClauseText'. -/
def fnExactClauseTextCard : Claim7 := { stood := { row := fnExactClauseTextRow, standIns := [], harness := (true, "903dd72b97e7d9ba7913aaac819bdc12b9f16f70526d882a24b6fcdb25cb8b43"), looks := false }, kinds := [], alts := [], laidByText := true, laidKinds := [.data, .data, .data, .data, .pinned], laidTests := true, laidLooks := .later }
def FnExactClauseTextCardSaid : Prop := Claim7.holds Tryd.pinned (.plain (OpenSpec.ofChange fnExactClauseTextSpec)) fnExactClauseTextCard

/-- THE SECOND FORM's CARD OF 'laws.FnExactAddStay'. -/
def fnExactAddStayUptoCard : Claim7 := { stood := { row := fnExactAddStayUptoRow, standIns := [], harness := (true, "903dd72b97e7d9ba7913aaac819bdc12b9f16f70526d882a24b6fcdb25cb8b43"), looks := false }, kinds := [], alts := [], laidByText := true, laidKinds := [.data, .pinned], laidTests := true, laidLooks := .later }
def FnExactAddStayUptoCardSaid : Prop := Claim7.holds Tryd.pinned (.plain (OpenSpec.upto fnExactAddStaySpec)) fnExactAddStayUptoCard

/-- THE SECOND FORM's CARD OF 'laws.FnExactClauseText'. -/
def fnExactClauseTextUptoCard : Claim7 := { stood := { row := fnExactClauseTextUptoRow, standIns := [], harness := (true, "903dd72b97e7d9ba7913aaac819bdc12b9f16f70526d882a24b6fcdb25cb8b43"), looks := false }, kinds := [], alts := [], laidByText := true, laidKinds := [.data, .data, .data, .data, .pinned], laidTests := true, laidLooks := .later }
def FnExactClauseTextUptoCardSaid : Prop := Claim7.holds Tryd.pinned (.plain (OpenSpec.upto fnExactClauseTextSpec)) fnExactClauseTextUptoCard
end Rows
end Go.Proofs.YtipdcgfdejmjfaaDoor
