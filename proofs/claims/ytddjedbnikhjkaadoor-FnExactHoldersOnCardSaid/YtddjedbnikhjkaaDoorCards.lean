/-
  DERIVED. GIVEN WITH THE SEED: THE CARDS: each row of YtddjedbnikhjkaaDoorRows.lean that lists a variable, with what it lists TIED to the program's text (the seventh form; the later family's looks); each row that meets fmt, with fmt's text TOLD by the authors' own Lean function (tested against real Go, not proved from fmt's source: count such statements apart). THE CARD IS WHAT COUNTS. Prove the row's statement (the work); the ties are given (YtddjedbnikhjkaaDoorTie.lean); close each card by the builder's one call (the guide's Derived/Test/ToyasCard.lean, 'card_holds'). Laid BY PROGRAM, IN A SANDBOX (cutbox-door.mjs). By AI agents, Wed Nov 11 2026. No macro, syntax, notation, axiom, sorry.
-/
import Derived.Test.YtddjedbnikhjkaaDoorRows
import GoSem.ClaimSeven
namespace Go.Proofs.YtddjedbnikhjkaaDoor
namespace Rows

/-- THE TIED CARD OF 'laws.FnExactRouteOf'. -/
def fnExactRouteOfCard : Claim7 := { stood := { row := fnExactRouteOfRow, standIns := [], harness := (true, "0454822cdaeed2f1a9286998447fef10ed63ec4153ae038217e54768a4ebbb88"), looks := false }, kinds := [], alts := [], laidByText := true, laidKinds := [.data, .pinned], laidTests := true, laidLooks := .later }
def FnExactRouteOfCardSaid : Prop := Claim7.holds Tryd.pinned (.plain (OpenSpec.ofChange fnExactRouteOfSpec)) fnExactRouteOfCard

/-- THE TIED CARD OF 'laws.FnExactHoldersOn'. -/
def fnExactHoldersOnCard : Claim7 := { stood := { row := fnExactHoldersOnRow, standIns := [], harness := (true, "0454822cdaeed2f1a9286998447fef10ed63ec4153ae038217e54768a4ebbb88"), looks := false }, kinds := [], alts := [], laidByText := true, laidKinds := [.data, .pinned], laidTests := true, laidLooks := .later }
def FnExactHoldersOnCardSaid : Prop := Claim7.holds Tryd.pinned (.plain (OpenSpec.ofChange fnExactHoldersOnSpec)) fnExactHoldersOnCard

/-- THE TIED CARD OF 'laws.FnExactOfficeDays'. -/
def fnExactOfficeDaysCard : Claim7 := { stood := { row := fnExactOfficeDaysRow, standIns := [], harness := (true, "0454822cdaeed2f1a9286998447fef10ed63ec4153ae038217e54768a4ebbb88"), looks := false }, kinds := [], alts := [], laidByText := true, laidKinds := [.data, .pinned], laidTests := true, laidLooks := .later }
def FnExactOfficeDaysCardSaid : Prop := Claim7.holds Tryd.pinned (.plain (OpenSpec.ofChange fnExactOfficeDaysSpec)) fnExactOfficeDaysCard

/-- THE TIED CARD OF 'laws.FnExactSharedDays'. -/
def fnExactSharedDaysCard : Claim7 := { stood := { row := fnExactSharedDaysRow, standIns := [], harness := (true, "0454822cdaeed2f1a9286998447fef10ed63ec4153ae038217e54768a4ebbb88"), looks := false }, kinds := [], alts := [], laidByText := true, laidKinds := [.data, .pinned], laidTests := true, laidLooks := .later }
def FnExactSharedDaysCardSaid : Prop := Claim7.holds Tryd.pinned (.plain (OpenSpec.ofChange fnExactSharedDaysSpec)) fnExactSharedDaysCard

/-- THE TIED CARD OF 'laws.FnExactVacantDays'. -/
def fnExactVacantDaysCard : Claim7 := { stood := { row := fnExactVacantDaysRow, standIns := [], harness := (true, "0454822cdaeed2f1a9286998447fef10ed63ec4153ae038217e54768a4ebbb88"), looks := false }, kinds := [], alts := [], laidByText := true, laidKinds := [.data, .pinned], laidTests := true, laidLooks := .later }
def FnExactVacantDaysCardSaid : Prop := Claim7.holds Tryd.pinned (.plain (OpenSpec.ofChange fnExactVacantDaysSpec)) fnExactVacantDaysCard

/-- THE TIED CARD OF 'laws.FnExactUselessWays'. -/
def fnExactUselessWaysCard : Claim7 := { stood := { row := fnExactUselessWaysRow, standIns := [], harness := (true, "0454822cdaeed2f1a9286998447fef10ed63ec4153ae038217e54768a4ebbb88"), looks := false }, kinds := [], alts := [], laidByText := true, laidKinds := [.data, .pinned], laidTests := true, laidLooks := .later }
def FnExactUselessWaysCardSaid : Prop := Claim7.holds Tryd.pinned (.plain (OpenSpec.ofChange fnExactUselessWaysSpec)) fnExactUselessWaysCard

/-- THE SECOND FORM's CARD OF 'laws.FnExactRouteOf'. -/
def fnExactRouteOfUptoCard : Claim7 := { stood := { row := fnExactRouteOfUptoRow, standIns := [], harness := (true, "0454822cdaeed2f1a9286998447fef10ed63ec4153ae038217e54768a4ebbb88"), looks := false }, kinds := [], alts := [], laidByText := true, laidKinds := [.data, .pinned], laidTests := true, laidLooks := .later }
def FnExactRouteOfUptoCardSaid : Prop := Claim7.holds Tryd.pinned (.plain (OpenSpec.upto fnExactRouteOfSpec)) fnExactRouteOfUptoCard

/-- THE SECOND FORM's CARD OF 'laws.FnExactHoldersOn'. -/
def fnExactHoldersOnUptoCard : Claim7 := { stood := { row := fnExactHoldersOnUptoRow, standIns := [], harness := (true, "0454822cdaeed2f1a9286998447fef10ed63ec4153ae038217e54768a4ebbb88"), looks := false }, kinds := [], alts := [], laidByText := true, laidKinds := [.data, .pinned], laidTests := true, laidLooks := .later }
def FnExactHoldersOnUptoCardSaid : Prop := Claim7.holds Tryd.pinned (.plain (OpenSpec.upto fnExactHoldersOnSpec)) fnExactHoldersOnUptoCard

/-- THE SECOND FORM's CARD OF 'laws.FnExactOfficeDays'. -/
def fnExactOfficeDaysUptoCard : Claim7 := { stood := { row := fnExactOfficeDaysUptoRow, standIns := [], harness := (true, "0454822cdaeed2f1a9286998447fef10ed63ec4153ae038217e54768a4ebbb88"), looks := false }, kinds := [], alts := [], laidByText := true, laidKinds := [.data, .pinned], laidTests := true, laidLooks := .later }
def FnExactOfficeDaysUptoCardSaid : Prop := Claim7.holds Tryd.pinned (.plain (OpenSpec.upto fnExactOfficeDaysSpec)) fnExactOfficeDaysUptoCard

/-- THE SECOND FORM's CARD OF 'laws.FnExactSharedDays'. -/
def fnExactSharedDaysUptoCard : Claim7 := { stood := { row := fnExactSharedDaysUptoRow, standIns := [], harness := (true, "0454822cdaeed2f1a9286998447fef10ed63ec4153ae038217e54768a4ebbb88"), looks := false }, kinds := [], alts := [], laidByText := true, laidKinds := [.data, .pinned], laidTests := true, laidLooks := .later }
def FnExactSharedDaysUptoCardSaid : Prop := Claim7.holds Tryd.pinned (.plain (OpenSpec.upto fnExactSharedDaysSpec)) fnExactSharedDaysUptoCard

/-- THE SECOND FORM's CARD OF 'laws.FnExactVacantDays'. -/
def fnExactVacantDaysUptoCard : Claim7 := { stood := { row := fnExactVacantDaysUptoRow, standIns := [], harness := (true, "0454822cdaeed2f1a9286998447fef10ed63ec4153ae038217e54768a4ebbb88"), looks := false }, kinds := [], alts := [], laidByText := true, laidKinds := [.data, .pinned], laidTests := true, laidLooks := .later }
def FnExactVacantDaysUptoCardSaid : Prop := Claim7.holds Tryd.pinned (.plain (OpenSpec.upto fnExactVacantDaysSpec)) fnExactVacantDaysUptoCard

/-- THE SECOND FORM's CARD OF 'laws.FnExactUselessWays'. -/
def fnExactUselessWaysUptoCard : Claim7 := { stood := { row := fnExactUselessWaysUptoRow, standIns := [], harness := (true, "0454822cdaeed2f1a9286998447fef10ed63ec4153ae038217e54768a4ebbb88"), looks := false }, kinds := [], alts := [], laidByText := true, laidKinds := [.data, .pinned], laidTests := true, laidLooks := .later }
def FnExactUselessWaysUptoCardSaid : Prop := Claim7.holds Tryd.pinned (.plain (OpenSpec.upto fnExactUselessWaysSpec)) fnExactUselessWaysUptoCard
end Rows
end Go.Proofs.YtddjedbnikhjkaaDoor
