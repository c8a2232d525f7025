/-
  DERIVED. GIVEN WITH THE SEED: THE CARDS: each row of YtmjbigeeokofeaaDoorRows.lean that lists a variable, with what it lists TIED to the program's text (the seventh form; the later family's looks); each row that meets fmt, with fmt's text TOLD by the authors' own Lean function (tested against real Go, not proved from fmt's source: count such statements apart). THE CARD IS WHAT COUNTS. Prove the row's statement (the work); the ties are given (YtmjbigeeokofeaaDoorTie.lean); close each card by the builder's one call (the guide's Derived/Test/ToyasCard.lean, 'card_holds'). Laid BY PROGRAM, IN A SANDBOX (cutbox-door.mjs). By AI agents, Wed Nov 11 2026. No macro, syntax, notation, axiom, sorry.
-/
import Derived.Test.YtmjbigeeokofeaaDoorRows
import GoSem.ClaimSeven
namespace Go.Proofs.YtmjbigeeokofeaaDoor
namespace Rows

/-- THE TIED CARD OF 'laws.FnExactAddStay'. -/
def fnExactAddStayCard : Claim7 := { stood := { row := fnExactAddStayRow, standIns := [], harness := (true, "b052f514a82f103f03be3d0e3d910c48ba2173dfcf68fbec631b5314279096b1"), looks := false }, kinds := [], alts := [], laidByText := true, laidKinds := [.data, .pinned], laidTests := true, laidLooks := .later }
def FnExactAddStayCardSaid : Prop := Claim7.holds Tryd.pinned (.plain (OpenSpec.ofChange fnExactAddStaySpec)) fnExactAddStayCard

/-- THE TIED CARD OF 'laws.FnExactRecordUse'. -/
def fnExactRecordUseCard : Claim7 := { stood := { row := fnExactRecordUseRow, standIns := [], harness := (true, "b052f514a82f103f03be3d0e3d910c48ba2173dfcf68fbec631b5314279096b1"), looks := false }, kinds := [], alts := [], laidByText := true, laidKinds := [.data, .pinned], laidTests := true, laidLooks := .later }
def FnExactRecordUseCardSaid : Prop := Claim7.holds Tryd.pinned (.plain (OpenSpec.ofChange fnExactRecordUseSpec)) fnExactRecordUseCard

/-- THE TIED CARD OF 'laws.FnExactMarksText'. -/
def fnExactMarksTextCard : Claim7 := { stood := { row := fnExactMarksTextRow, standIns := [], harness := (true, "b052f514a82f103f03be3d0e3d910c48ba2173dfcf68fbec631b5314279096b1"), looks := false }, kinds := [], alts := [], laidByText := true, laidKinds := [.data, .data, .data, .data, .pinned], laidTests := true, laidLooks := .later }
def FnExactMarksTextCardSaid : Prop := Claim7.holds Tryd.pinned (.plain (OpenSpec.ofChange fnExactMarksTextSpec)) fnExactMarksTextCard

/-- THE SECOND FORM's CARD OF 'laws.FnExactAddStay'. -/
def fnExactAddStayUptoCard : Claim7 := { stood := { row := fnExactAddStayUptoRow, standIns := [], harness := (true, "b052f514a82f103f03be3d0e3d910c48ba2173dfcf68fbec631b5314279096b1"), looks := false }, kinds := [], alts := [], laidByText := true, laidKinds := [.data, .pinned], laidTests := true, laidLooks := .later }
def FnExactAddStayUptoCardSaid : Prop := Claim7.holds Tryd.pinned (.plain (OpenSpec.upto fnExactAddStaySpec)) fnExactAddStayUptoCard

/-- THE SECOND FORM's CARD OF 'laws.FnExactRecordUse'. -/
def fnExactRecordUseUptoCard : Claim7 := { stood := { row := fnExactRecordUseUptoRow, standIns := [], harness := (true, "b052f514a82f103f03be3d0e3d910c48ba2173dfcf68fbec631b5314279096b1"), looks := false }, kinds := [], alts := [], laidByText := true, laidKinds := [.data, .pinned], laidTests := true, laidLooks := .later }
def FnExactRecordUseUptoCardSaid : Prop := Claim7.holds Tryd.pinned (.plain (OpenSpec.upto fnExactRecordUseSpec)) fnExactRecordUseUptoCard

/-- THE SECOND FORM's CARD OF 'laws.FnExactMarksText'. -/
def fnExactMarksTextUptoCard : Claim7 := { stood := { row := fnExactMarksTextUptoRow, standIns := [], harness := (true, "b052f514a82f103f03be3d0e3d910c48ba2173dfcf68fbec631b5314279096b1"), looks := false }, kinds := [], alts := [], laidByText := true, laidKinds := [.data, .data, .data, .data, .pinned], laidTests := true, laidLooks := .later }
def FnExactMarksTextUptoCardSaid : Prop := Claim7.holds Tryd.pinned (.plain (OpenSpec.upto fnExactMarksTextSpec)) fnExactMarksTextUptoCard
end Rows
end Go.Proofs.YtmjbigeeokofeaaDoor
