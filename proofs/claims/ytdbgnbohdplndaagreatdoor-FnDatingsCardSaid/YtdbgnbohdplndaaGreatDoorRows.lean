/-
  NARROWER THAN 'FOR EVERY INPUT', by the rows' own cells (each row's printed sentence says how): FnExactCountFitting: laid · FnExactBestDay: laid · FnExactFailingClauses: laid · FnExactFittingDays: laid · FnHolding: laid · FnDatings: laid · FnExactSmallestConflict: laid.
  DERIVED. THE GIVEN ROWS OF THIS SEAT. 7 by the template 'for every input the law returns true; each argument reads behind the call as it read before'; 0 by the template 'total and deterministic' (their statements: YtdbgnbohdplndaaGreatDoorTotals.lean).
  GIVEN WITH THE SEED: the statements are not yours to turn. If you find one false, say at which input.
  Laid BY PROGRAM, IN A SANDBOX (cutbox-rows.mjs): the forced cells as the released guide's own fill.sh prints them over the translation c9cdcfa14f433fc5… (all of the seat's roots in one cut). By AI agents, Wed Nov 11 2026. No macro, syntax, notation, axiom, sorry.
-/
import Derived.Test.YtdbgnbohdplndaaGreatDoorChecked
import GoSem.PinnedTables
import GoSem.Claim
import GoSem.ClaimJoined
import GoSem.ClaimMapViews
import Derived.JoinedTies
import Derived.KernelRfl
namespace Go.Proofs.YtdbgnbohdplndaaGreatDoor
/- THE CELL 'sum', in the pinned program and in every row, IS THE sha256 OF THE DUMP (.gsa) THAT YtdbgnbohdplndaaGreatDoorProg.lean LOADS. Nothing in Lean hashes anything: it is a label: what it is worth is what the hold of that sum in a sandbox is worth. -/
noncomputable def Tryz.pinned : Pinned := { name := "ytdbgnbohdplndaagreatdoor", sum := "c9cdcfa14f433fc5546d26e40826ca95839421e5742b10e8fbc0babb1bb956e8", checked := Tryz.checked }
namespace Rows
def none {H : Type} : Left H := { results := [], args := [] }

/- WHAT THE LISTED PACKAGE-LEVEL VARIABLES READ AS WHEN THE CALL BEGINS. Each datum BY PROGRAM (the guide's laid-datum.mjs) off the statement by which the dump's own 'gosem.cut.vars' lays the variable. In a bare row this is a premise. The card (YtdbgnbohdplndaaGreatDoorCards.lean) ties it to the program's text. -/
def laid_unicode_utf8_acceptRanges {H : Type} : DataW H := .agg [.agg [.lit (.int .u8 128), .lit (.int .u8 191)], .agg [.lit (.int .u8 160), .lit (.int .u8 191)], .agg [.lit (.int .u8 128), .lit (.int .u8 159)], .agg [.lit (.int .u8 144), .lit (.int .u8 191)], .agg [.lit (.int .u8 128), .lit (.int .u8 143)], .agg [.lit (.int .u8 0), .lit (.int .u8 0)], .agg [.lit (.int .u8 0), .lit (.int .u8 0)], .agg [.lit (.int .u8 0), .lit (.int .u8 0)], .agg [.lit (.int .u8 0), .lit (.int .u8 0)], .agg [.lit (.int .u8 0), .lit (.int .u8 0)], .agg [.lit (.int .u8 0), .lit (.int .u8 0)], .agg [.lit (.int .u8 0), .lit (.int .u8 0)], .agg [.lit (.int .u8 0), .lit (.int .u8 0)], .agg [.lit (.int .u8 0), .lit (.int .u8 0)], .agg [.lit (.int .u8 0), .lit (.int .u8 0)], .agg [.lit (.int .u8 0), .lit (.int .u8 0)]]
/-- One of Go's own tables, pinned by name: the form's constant. -/
def laid_unicode_utf8_first : DataW Unit := Go.Pinned.utf8First

/-- 'laws.FnExactCountFitting': WHATEVER THE INPUT: true; the input reads as it did. -/
def fnExactCountFittingSpec : ChangeSpec := { name := "fnExactCountFitting", fn := fun _ => fun
  | [d1, d2] => { results := [.lit (.bool true)], args := [d1, d2] }
  | _ => none }
def fnExactCountFittingRow : OpenClaim := { program := "ytdbgnbohdplndaagreatdoor", sum := "c9cdcfa14f433fc5546d26e40826ca95839421e5742b10e8fbc0babb1bb956e8", func := "loop.example/g01034/laws.FnExactCountFitting", spec := "fnExactCountFitting", inPlace := ["internal/bytealg.IndexByteString", "internal/bytealg.IndexString"], unfollowed := true, recurses := true, named := ["unicode/utf8.first", "unicode/utf8.acceptRanges", "internal/bytealg.MaxLen"], apart := false, laid := [("unicode/utf8.acceptRanges", laid_unicode_utf8_acceptRanges), ("unicode/utf8.first", laid_unicode_utf8_first)] }
def FnExactCountFittingSaid : Prop := fnExactCountFittingRow.holds Tryz.pinned (OpenSpec.ofChange fnExactCountFittingSpec)

/-- ITS FALSE NEIGHBOUR: 'it returns false'. Refute it at one input. -/
def fnExactCountFittingWrong : ChangeSpec := { name := "fnExactCountFitting", fn := fun _ => fun
  | [d1, d2] => { results := [.lit (.bool false)], args := [d1, d2] }
  | _ => none }
def FnExactCountFittingWrongFalsely : Prop := fnExactCountFittingRow.holds Tryz.pinned (OpenSpec.ofChange fnExactCountFittingWrong)

/-- 'laws.FnExactBestDay': WHATEVER THE INPUT: true; the input reads as it did. -/
def fnExactBestDaySpec : ChangeSpec := { name := "fnExactBestDay", fn := fun _ => fun
  | [d1, d2] => { results := [.lit (.bool true)], args := [d1, d2] }
  | _ => none }
def fnExactBestDayRow : OpenClaim := { program := "ytdbgnbohdplndaagreatdoor", sum := "c9cdcfa14f433fc5546d26e40826ca95839421e5742b10e8fbc0babb1bb956e8", func := "loop.example/g01034/laws.FnExactBestDay", spec := "fnExactBestDay", inPlace := ["internal/bytealg.IndexByteString", "internal/bytealg.IndexString"], unfollowed := true, recurses := true, named := ["unicode/utf8.first", "unicode/utf8.acceptRanges", "internal/bytealg.MaxLen"], apart := false, laid := [("unicode/utf8.acceptRanges", laid_unicode_utf8_acceptRanges), ("unicode/utf8.first", laid_unicode_utf8_first)] }
def FnExactBestDaySaid : Prop := fnExactBestDayRow.holds Tryz.pinned (OpenSpec.ofChange fnExactBestDaySpec)

/-- ITS FALSE NEIGHBOUR: 'it returns false'. Refute it at one input. -/
def fnExactBestDayWrong : ChangeSpec := { name := "fnExactBestDay", fn := fun _ => fun
  | [d1, d2] => { results := [.lit (.bool false)], args := [d1, d2] }
  | _ => none }
def FnExactBestDayWrongFalsely : Prop := fnExactBestDayRow.holds Tryz.pinned (OpenSpec.ofChange fnExactBestDayWrong)

/-- 'laws.FnExactFailingClauses': WHATEVER THE INPUT: true; the input reads as it did. -/
def fnExactFailingClausesSpec : ChangeSpec := { name := "fnExactFailingClauses", fn := fun _ => fun
  | [d1, d2, d3] => { results := [.lit (.bool true)], args := [d1, d2, d3] }
  | _ => none }
def fnExactFailingClausesRow : OpenClaim := { program := "ytdbgnbohdplndaagreatdoor", sum := "c9cdcfa14f433fc5546d26e40826ca95839421e5742b10e8fbc0babb1bb956e8", func := "loop.example/g01034/laws.FnExactFailingClauses", spec := "fnExactFailingClauses", inPlace := ["internal/bytealg.IndexByteString", "internal/bytealg.IndexString"], unfollowed := true, recurses := true, named := ["unicode/utf8.first", "unicode/utf8.acceptRanges", "internal/bytealg.MaxLen"], apart := false, laid := [("unicode/utf8.acceptRanges", laid_unicode_utf8_acceptRanges), ("unicode/utf8.first", laid_unicode_utf8_first)] }
def FnExactFailingClausesSaid : Prop := fnExactFailingClausesRow.holds Tryz.pinned (OpenSpec.ofChange fnExactFailingClausesSpec)

/-- ITS FALSE NEIGHBOUR: 'it returns false'. Refute it at one input. -/
def fnExactFailingClausesWrong : ChangeSpec := { name := "fnExactFailingClauses", fn := fun _ => fun
  | [d1, d2, d3] => { results := [.lit (.bool false)], args := [d1, d2, d3] }
  | _ => none }
def FnExactFailingClausesWrongFalsely : Prop := fnExactFailingClausesRow.holds Tryz.pinned (OpenSpec.ofChange fnExactFailingClausesWrong)

/-- 'laws.FnExactFittingDays': WHATEVER THE INPUT: true; the input reads as it did. -/
def fnExactFittingDaysSpec : ChangeSpec := { name := "fnExactFittingDays", fn := fun _ => fun
  | [d1, d2] => { results := [.lit (.bool true)], args := [d1, d2] }
  | _ => none }
def fnExactFittingDaysRow : OpenClaim := { program := "ytdbgnbohdplndaagreatdoor", sum := "c9cdcfa14f433fc5546d26e40826ca95839421e5742b10e8fbc0babb1bb956e8", func := "loop.example/g01034/laws.FnExactFittingDays", spec := "fnExactFittingDays", inPlace := ["internal/bytealg.IndexByteString", "internal/bytealg.IndexString"], unfollowed := true, recurses := true, named := ["unicode/utf8.first", "unicode/utf8.acceptRanges", "internal/bytealg.MaxLen"], apart := false, laid := [("unicode/utf8.acceptRanges", laid_unicode_utf8_acceptRanges), ("unicode/utf8.first", laid_unicode_utf8_first)] }
def FnExactFittingDaysSaid : Prop := fnExactFittingDaysRow.holds Tryz.pinned (OpenSpec.ofChange fnExactFittingDaysSpec)

/-- ITS FALSE NEIGHBOUR: 'it returns false'. Refute it at one input. -/
def fnExactFittingDaysWrong : ChangeSpec := { name := "fnExactFittingDays", fn := fun _ => fun
  | [d1, d2] => { results := [.lit (.bool false)], args := [d1, d2] }
  | _ => none }
def FnExactFittingDaysWrongFalsely : Prop := fnExactFittingDaysRow.holds Tryz.pinned (OpenSpec.ofChange fnExactFittingDaysWrong)

/-- 'laws.FnHolding': WHATEVER THE INPUT: true; the input reads as it did. -/
def fnHoldingSpec : ChangeSpec := { name := "fnHolding", fn := fun _ => fun
  | [d] => { results := [.lit (.bool true)], args := [d] }
  | _ => none }
def fnHoldingRow : OpenClaim := { program := "ytdbgnbohdplndaagreatdoor", sum := "c9cdcfa14f433fc5546d26e40826ca95839421e5742b10e8fbc0babb1bb956e8", func := "loop.example/g01034/laws.FnHolding", spec := "fnHolding", inPlace := ["internal/bytealg.IndexByteString", "internal/bytealg.IndexString"], unfollowed := true, recurses := true, named := ["unicode/utf8.first", "unicode/utf8.acceptRanges", "internal/bytealg.MaxLen"], apart := false, laid := [("unicode/utf8.acceptRanges", laid_unicode_utf8_acceptRanges), ("unicode/utf8.first", laid_unicode_utf8_first)] }
def FnHoldingSaid : Prop := fnHoldingRow.holds Tryz.pinned (OpenSpec.ofChange fnHoldingSpec)

/-- ITS FALSE NEIGHBOUR: 'it returns false'. Refute it at one input. -/
def fnHoldingWrong : ChangeSpec := { name := "fnHolding", fn := fun _ => fun
  | [d] => { results := [.lit (.bool false)], args := [d] }
  | _ => none }
def FnHoldingWrongFalsely : Prop := fnHoldingRow.holds Tryz.pinned (OpenSpec.ofChange fnHoldingWrong)

/-- 'laws.FnDatings': WHATEVER THE INPUT: true; the input reads as it did. -/
def fnDatingsSpec : ChangeSpec := { name := "fnDatings", fn := fun _ => fun
  | [d] => { results := [.lit (.bool true)], args := [d] }
  | _ => none }
def fnDatingsRow : OpenClaim := { program := "ytdbgnbohdplndaagreatdoor", sum := "c9cdcfa14f433fc5546d26e40826ca95839421e5742b10e8fbc0babb1bb956e8", func := "loop.example/g01034/laws.FnDatings", spec := "fnDatings", inPlace := ["internal/bytealg.IndexByteString", "internal/bytealg.IndexString"], unfollowed := true, recurses := true, named := ["unicode/utf8.first", "unicode/utf8.acceptRanges", "internal/bytealg.MaxLen"], apart := false, laid := [("unicode/utf8.acceptRanges", laid_unicode_utf8_acceptRanges), ("unicode/utf8.first", laid_unicode_utf8_first)] }
def FnDatingsSaid : Prop := fnDatingsRow.holds Tryz.pinned (OpenSpec.ofChange fnDatingsSpec)

/-- ITS FALSE NEIGHBOUR: 'it returns false'. Refute it at one input. -/
def fnDatingsWrong : ChangeSpec := { name := "fnDatings", fn := fun _ => fun
  | [d] => { results := [.lit (.bool false)], args := [d] }
  | _ => none }
def FnDatingsWrongFalsely : Prop := fnDatingsRow.holds Tryz.pinned (OpenSpec.ofChange fnDatingsWrong)

/-- 'laws.FnExactSmallestConflict': WHATEVER THE INPUT: true; the input reads as it did. -/
def fnExactSmallestConflictSpec : ChangeSpec := { name := "fnExactSmallestConflict", fn := fun _ => fun
  | [d1, d2] => { results := [.lit (.bool true)], args := [d1, d2] }
  | _ => none }
def fnExactSmallestConflictRow : OpenClaim := { program := "ytdbgnbohdplndaagreatdoor", sum := "c9cdcfa14f433fc5546d26e40826ca95839421e5742b10e8fbc0babb1bb956e8", func := "loop.example/g01034/laws.FnExactSmallestConflict", spec := "fnExactSmallestConflict", inPlace := ["internal/bytealg.IndexByteString", "internal/bytealg.IndexString"], unfollowed := true, recurses := true, named := ["unicode/utf8.first", "unicode/utf8.acceptRanges", "internal/bytealg.MaxLen"], apart := false, laid := [("unicode/utf8.acceptRanges", laid_unicode_utf8_acceptRanges), ("unicode/utf8.first", laid_unicode_utf8_first)] }
def FnExactSmallestConflictSaid : Prop := fnExactSmallestConflictRow.holds Tryz.pinned (OpenSpec.ofChange fnExactSmallestConflictSpec)

/-- ITS FALSE NEIGHBOUR: 'it returns false'. Refute it at one input. -/
def fnExactSmallestConflictWrong : ChangeSpec := { name := "fnExactSmallestConflict", fn := fun _ => fun
  | [d1, d2] => { results := [.lit (.bool false)], args := [d1, d2] }
  | _ => none }
def FnExactSmallestConflictWrongFalsely : Prop := fnExactSmallestConflictRow.holds Tryz.pinned (OpenSpec.ofChange fnExactSmallestConflictWrong)

/- THE SECOND FORM. 'bulk': how many values and letters a reading holds, each counted each time it is reached (what is shared counts as often as it is met; a slice's spare places count too). A statement '..UptoSaid' is the law's where the arguments, and the package variables that the reading takes, are together of bulk at most 1048576: NARROWER than '..Said'. Prove '..Said' where nothing that the law and all that it calls make is longer than what came in: it says more and counts as full. Else prove '..UptoSaid'. A law counts once. -/
mutual
def uptoBulk {H : Type} : DataW H → Nat
  | .lit (.string bytes) => bytes.length + 1
  | .lit _ => 1
  | .nil => 1
  | .ptr d => uptoBulk d + 1
  | .slice elems spare => uptoBulkAll elems + uptoBulkAll spare + 1
  | .agg parts => uptoBulkAll parts + 1
  | .iface _ d => uptoBulk d + 1
  | .map entries => uptoBulkEntries entries + 1
  | .held _ => 1
def uptoBulkAll {H : Type} : List (DataW H) → Nat
  | [] => 0
  | d :: r => uptoBulk d + uptoBulkAll r
def uptoBulkEntries {H : Type} : List (Lit × DataW H) → Nat
  | [] => 0
  | x :: r => uptoBulkEntry x + uptoBulkEntries r
def uptoBulkEntry {H : Type} : Lit × DataW H → Nat
  | (.string bytes, d) => bytes.length + uptoBulk d + 1
  | (_, d) => uptoBulk d + 1
 end
def uptoSmall : (H : Type) → List (DataW H) → Bool := fun _ ds => decide (uptoBulkAll ds ≤ 1048576)
def OpenSpec.upto (s : _root_.Go.ChangeSpec) : _root_.Go.OpenSpec := { _root_.Go.OpenSpec.ofChange s with cond := some uptoSmall }

/-- 'laws.FnExactCountFitting', WHERE WHAT IT READS IS OF BULK AT MOST 1048576: true; the input reads as it did. -/
def fnExactCountFittingUptoRow : OpenClaim := { program := "ytdbgnbohdplndaagreatdoor", sum := "c9cdcfa14f433fc5546d26e40826ca95839421e5742b10e8fbc0babb1bb956e8", func := "loop.example/g01034/laws.FnExactCountFitting", spec := "fnExactCountFitting", inPlace := ["internal/bytealg.IndexByteString", "internal/bytealg.IndexString"], unfollowed := true, recurses := true, named := ["unicode/utf8.first", "unicode/utf8.acceptRanges", "internal/bytealg.MaxLen"], apart := false, laid := [("unicode/utf8.acceptRanges", laid_unicode_utf8_acceptRanges), ("unicode/utf8.first", laid_unicode_utf8_first)], narrowed := true }
def FnExactCountFittingUptoSaid : Prop := fnExactCountFittingUptoRow.holds Tryz.pinned (OpenSpec.upto fnExactCountFittingSpec)

/-- 'laws.FnExactBestDay', WHERE WHAT IT READS IS OF BULK AT MOST 1048576: true; the input reads as it did. -/
def fnExactBestDayUptoRow : OpenClaim := { program := "ytdbgnbohdplndaagreatdoor", sum := "c9cdcfa14f433fc5546d26e40826ca95839421e5742b10e8fbc0babb1bb956e8", func := "loop.example/g01034/laws.FnExactBestDay", spec := "fnExactBestDay", inPlace := ["internal/bytealg.IndexByteString", "internal/bytealg.IndexString"], unfollowed := true, recurses := true, named := ["unicode/utf8.first", "unicode/utf8.acceptRanges", "internal/bytealg.MaxLen"], apart := false, laid := [("unicode/utf8.acceptRanges", laid_unicode_utf8_acceptRanges), ("unicode/utf8.first", laid_unicode_utf8_first)], narrowed := true }
def FnExactBestDayUptoSaid : Prop := fnExactBestDayUptoRow.holds Tryz.pinned (OpenSpec.upto fnExactBestDaySpec)

/-- 'laws.FnExactFailingClauses', WHERE WHAT IT READS IS OF BULK AT MOST 1048576: true; the input reads as it did. -/
def fnExactFailingClausesUptoRow : OpenClaim := { program := "ytdbgnbohdplndaagreatdoor", sum := "c9cdcfa14f433fc5546d26e40826ca95839421e5742b10e8fbc0babb1bb956e8", func := "loop.example/g01034/laws.FnExactFailingClauses", spec := "fnExactFailingClauses", inPlace := ["internal/bytealg.IndexByteString", "internal/bytealg.IndexString"], unfollowed := true, recurses := true, named := ["unicode/utf8.first", "unicode/utf8.acceptRanges", "internal/bytealg.MaxLen"], apart := false, laid := [("unicode/utf8.acceptRanges", laid_unicode_utf8_acceptRanges), ("unicode/utf8.first", laid_unicode_utf8_first)], narrowed := true }
def FnExactFailingClausesUptoSaid : Prop := fnExactFailingClausesUptoRow.holds Tryz.pinned (OpenSpec.upto fnExactFailingClausesSpec)

/-- 'laws.FnExactFittingDays', WHERE WHAT IT READS IS OF BULK AT MOST 1048576: true; the input reads as it did. -/
def fnExactFittingDaysUptoRow : OpenClaim := { program := "ytdbgnbohdplndaagreatdoor", sum := "c9cdcfa14f433fc5546d26e40826ca95839421e5742b10e8fbc0babb1bb956e8", func := "loop.example/g01034/laws.FnExactFittingDays", spec := "fnExactFittingDays", inPlace := ["internal/bytealg.IndexByteString", "internal/bytealg.IndexString"], unfollowed := true, recurses := true, named := ["unicode/utf8.first", "unicode/utf8.acceptRanges", "internal/bytealg.MaxLen"], apart := false, laid := [("unicode/utf8.acceptRanges", laid_unicode_utf8_acceptRanges), ("unicode/utf8.first", laid_unicode_utf8_first)], narrowed := true }
def FnExactFittingDaysUptoSaid : Prop := fnExactFittingDaysUptoRow.holds Tryz.pinned (OpenSpec.upto fnExactFittingDaysSpec)

/-- 'laws.FnHolding', WHERE WHAT IT READS IS OF BULK AT MOST 1048576: true; the input reads as it did. -/
def fnHoldingUptoRow : OpenClaim := { program := "ytdbgnbohdplndaagreatdoor", sum := "c9cdcfa14f433fc5546d26e40826ca95839421e5742b10e8fbc0babb1bb956e8", func := "loop.example/g01034/laws.FnHolding", spec := "fnHolding", inPlace := ["internal/bytealg.IndexByteString", "internal/bytealg.IndexString"], unfollowed := true, recurses := true, named := ["unicode/utf8.first", "unicode/utf8.acceptRanges", "internal/bytealg.MaxLen"], apart := false, laid := [("unicode/utf8.acceptRanges", laid_unicode_utf8_acceptRanges), ("unicode/utf8.first", laid_unicode_utf8_first)], narrowed := true }
def FnHoldingUptoSaid : Prop := fnHoldingUptoRow.holds Tryz.pinned (OpenSpec.upto fnHoldingSpec)

/-- 'laws.FnDatings', WHERE WHAT IT READS IS OF BULK AT MOST 1048576: true; the input reads as it did. -/
def fnDatingsUptoRow : OpenClaim := { program := "ytdbgnbohdplndaagreatdoor", sum := "c9cdcfa14f433fc5546d26e40826ca95839421e5742b10e8fbc0babb1bb956e8", func := "loop.example/g01034/laws.FnDatings", spec := "fnDatings", inPlace := ["internal/bytealg.IndexByteString", "internal/bytealg.IndexString"], unfollowed := true, recurses := true, named := ["unicode/utf8.first", "unicode/utf8.acceptRanges", "internal/bytealg.MaxLen"], apart := false, laid := [("unicode/utf8.acceptRanges", laid_unicode_utf8_acceptRanges), ("unicode/utf8.first", laid_unicode_utf8_first)], narrowed := true }
def FnDatingsUptoSaid : Prop := fnDatingsUptoRow.holds Tryz.pinned (OpenSpec.upto fnDatingsSpec)

/-- 'laws.FnExactSmallestConflict', WHERE WHAT IT READS IS OF BULK AT MOST 1048576: true; the input reads as it did. -/
def fnExactSmallestConflictUptoRow : OpenClaim := { program := "ytdbgnbohdplndaagreatdoor", sum := "c9cdcfa14f433fc5546d26e40826ca95839421e5742b10e8fbc0babb1bb956e8", func := "loop.example/g01034/laws.FnExactSmallestConflict", spec := "fnExactSmallestConflict", inPlace := ["internal/bytealg.IndexByteString", "internal/bytealg.IndexString"], unfollowed := true, recurses := true, named := ["unicode/utf8.first", "unicode/utf8.acceptRanges", "internal/bytealg.MaxLen"], apart := false, laid := [("unicode/utf8.acceptRanges", laid_unicode_utf8_acceptRanges), ("unicode/utf8.first", laid_unicode_utf8_first)], narrowed := true }
def FnExactSmallestConflictUptoSaid : Prop := fnExactSmallestConflictUptoRow.holds Tryz.pinned (OpenSpec.upto fnExactSmallestConflictSpec)

end Rows
end Go.Proofs.YtdbgnbohdplndaaGreatDoor
