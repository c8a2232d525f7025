/-
  NARROWER THAN 'FOR EVERY INPUT', by the rows' own cells (each row's printed sentence says how): FnExactIsChancery: laid · FnExactAreMarks: laid · FnExactLongestUse: laid · FnExactIsLand: laid · FnExactPlaceNamed: laid · FnExactIsPeople: laid · FnExactMarksOn: laid · FnExactIsConnected: laid · FnExactTravelDays: laid · FnExactFarthestPlace: laid · FnExactLivingOn: laid · FnExactIsDating: laid.
  DERIVED. THE GIVEN ROWS OF THIS SEAT. 12 by the template 'for every input the law returns true; each argument reads behind the call as it read before'; 0 by the template 'total and deterministic' (their statements: YtdocebblppijmaaDoorTotals.lean).
  GIVEN WITH THE SEED: the statements are not yours to turn. If you find one false, say at which input.
  Laid BY PROGRAM, IN A SANDBOX (cutbox-rows.mjs): the forced cells as the released guide's own fill.sh prints them over the translation 356ef06d611496ec… (all of the seat's roots in one cut). By AI agents, Wed Nov 11 2026. No macro, syntax, notation, axiom, sorry.
-/
import Derived.Test.YtdocebblppijmaaDoorChecked
import GoSem.PinnedTables
import GoSem.Claim
import GoSem.ClaimJoined
import GoSem.ClaimMapViews
import Derived.JoinedTies
import Derived.KernelRfl
namespace Go.Proofs.YtdocebblppijmaaDoor
/- THE CELL 'sum', in the pinned program and in every row, IS THE sha256 OF THE DUMP (.gsa) THAT YtdocebblppijmaaDoorProg.lean LOADS. Nothing in Lean hashes anything: it is a label: what it is worth is what the hold of that sum in a sandbox is worth. -/
noncomputable def Tryd.pinned : Pinned := { name := "ytdocebblppijmaadoor", sum := "356ef06d611496ecb8a964d705c72b3bdab88f1c2430d332387906c330aad1da", checked := Tryd.checked }
namespace Rows
def none {H : Type} : Left H := { results := [], args := [] }

/- WHAT THE LISTED PACKAGE-LEVEL VARIABLES READ AS WHEN THE CALL BEGINS. Each datum BY PROGRAM (the guide's laid-datum.mjs) off the statement by which the dump's own 'gosem.cut.vars' lays the variable. In a bare row this is a premise. The card (YtdocebblppijmaaDoorCards.lean) ties it to the program's text. -/
def laid_unicode_utf8_acceptRanges {H : Type} : DataW H := .agg [.agg [.lit (.int .u8 128), .lit (.int .u8 191)], .agg [.lit (.int .u8 160), .lit (.int .u8 191)], .agg [.lit (.int .u8 128), .lit (.int .u8 159)], .agg [.lit (.int .u8 144), .lit (.int .u8 191)], .agg [.lit (.int .u8 128), .lit (.int .u8 143)], .agg [.lit (.int .u8 0), .lit (.int .u8 0)], .agg [.lit (.int .u8 0), .lit (.int .u8 0)], .agg [.lit (.int .u8 0), .lit (.int .u8 0)], .agg [.lit (.int .u8 0), .lit (.int .u8 0)], .agg [.lit (.int .u8 0), .lit (.int .u8 0)], .agg [.lit (.int .u8 0), .lit (.int .u8 0)], .agg [.lit (.int .u8 0), .lit (.int .u8 0)], .agg [.lit (.int .u8 0), .lit (.int .u8 0)], .agg [.lit (.int .u8 0), .lit (.int .u8 0)], .agg [.lit (.int .u8 0), .lit (.int .u8 0)], .agg [.lit (.int .u8 0), .lit (.int .u8 0)]]
/-- One of Go's own tables, pinned by name: the form's constant. -/
def laid_unicode_utf8_first : DataW Unit := Go.Pinned.utf8First

/-- 'laws.FnExactIsChancery': WHATEVER THE INPUT: true; the input reads as it did. -/
def fnExactIsChancerySpec : ChangeSpec := { name := "fnExactIsChancery", fn := fun _ => fun
  | [d] => { results := [.lit (.bool true)], args := [d] }
  | _ => none }
def fnExactIsChanceryRow : OpenClaim := { program := "ytdocebblppijmaadoor", sum := "356ef06d611496ecb8a964d705c72b3bdab88f1c2430d332387906c330aad1da", func := "loop.example/g01034/laws.FnExactIsChancery", spec := "fnExactIsChancery", inPlace := ["internal/bytealg.IndexByteString", "internal/bytealg.IndexString"], named := ["unicode/utf8.first", "unicode/utf8.acceptRanges", "internal/bytealg.MaxLen"], apart := false, laid := [("unicode/utf8.acceptRanges", laid_unicode_utf8_acceptRanges), ("unicode/utf8.first", laid_unicode_utf8_first)] }
def FnExactIsChancerySaid : Prop := fnExactIsChanceryRow.holds Tryd.pinned (OpenSpec.ofChange fnExactIsChancerySpec)

/-- ITS FALSE NEIGHBOUR: 'it returns false'. Refute it at one input. -/
def fnExactIsChanceryWrong : ChangeSpec := { name := "fnExactIsChancery", fn := fun _ => fun
  | [d] => { results := [.lit (.bool false)], args := [d] }
  | _ => none }
def FnExactIsChanceryWrongFalsely : Prop := fnExactIsChanceryRow.holds Tryd.pinned (OpenSpec.ofChange fnExactIsChanceryWrong)

/-- 'laws.FnExactAreMarks': WHATEVER THE INPUT: true; the input reads as it did. -/
def fnExactAreMarksSpec : ChangeSpec := { name := "fnExactAreMarks", fn := fun _ => fun
  | [d] => { results := [.lit (.bool true)], args := [d] }
  | _ => none }
def fnExactAreMarksRow : OpenClaim := { program := "ytdocebblppijmaadoor", sum := "356ef06d611496ecb8a964d705c72b3bdab88f1c2430d332387906c330aad1da", func := "loop.example/g01034/laws.FnExactAreMarks", spec := "fnExactAreMarks", inPlace := ["internal/bytealg.IndexByteString", "internal/bytealg.IndexString"], named := ["unicode/utf8.first", "unicode/utf8.acceptRanges", "internal/bytealg.MaxLen"], apart := false, laid := [("unicode/utf8.acceptRanges", laid_unicode_utf8_acceptRanges), ("unicode/utf8.first", laid_unicode_utf8_first)] }
def FnExactAreMarksSaid : Prop := fnExactAreMarksRow.holds Tryd.pinned (OpenSpec.ofChange fnExactAreMarksSpec)

/-- ITS FALSE NEIGHBOUR: 'it returns false'. Refute it at one input. -/
def fnExactAreMarksWrong : ChangeSpec := { name := "fnExactAreMarks", fn := fun _ => fun
  | [d] => { results := [.lit (.bool false)], args := [d] }
  | _ => none }
def FnExactAreMarksWrongFalsely : Prop := fnExactAreMarksRow.holds Tryd.pinned (OpenSpec.ofChange fnExactAreMarksWrong)

/-- 'laws.FnExactLongestUse': WHATEVER THE INPUT: true; the input reads as it did. -/
def fnExactLongestUseSpec : ChangeSpec := { name := "fnExactLongestUse", fn := fun _ => fun
  | [d] => { results := [.lit (.bool true)], args := [d] }
  | _ => none }
def fnExactLongestUseRow : OpenClaim := { program := "ytdocebblppijmaadoor", sum := "356ef06d611496ecb8a964d705c72b3bdab88f1c2430d332387906c330aad1da", func := "loop.example/g01034/laws.FnExactLongestUse", spec := "fnExactLongestUse", inPlace := ["internal/bytealg.IndexByteString", "internal/bytealg.IndexString"], named := ["unicode/utf8.first", "unicode/utf8.acceptRanges", "internal/bytealg.MaxLen"], apart := false, laid := [("unicode/utf8.acceptRanges", laid_unicode_utf8_acceptRanges), ("unicode/utf8.first", laid_unicode_utf8_first)] }
def FnExactLongestUseSaid : Prop := fnExactLongestUseRow.holds Tryd.pinned (OpenSpec.ofChange fnExactLongestUseSpec)

/-- ITS FALSE NEIGHBOUR: 'it returns false'. Refute it at one input. -/
def fnExactLongestUseWrong : ChangeSpec := { name := "fnExactLongestUse", fn := fun _ => fun
  | [d] => { results := [.lit (.bool false)], args := [d] }
  | _ => none }
def FnExactLongestUseWrongFalsely : Prop := fnExactLongestUseRow.holds Tryd.pinned (OpenSpec.ofChange fnExactLongestUseWrong)

/-- 'laws.FnExactIsLand': WHATEVER THE INPUT: true; the input reads as it did. -/
def fnExactIsLandSpec : ChangeSpec := { name := "fnExactIsLand", fn := fun _ => fun
  | [d] => { results := [.lit (.bool true)], args := [d] }
  | _ => none }
def fnExactIsLandRow : OpenClaim := { program := "ytdocebblppijmaadoor", sum := "356ef06d611496ecb8a964d705c72b3bdab88f1c2430d332387906c330aad1da", func := "loop.example/g01034/laws.FnExactIsLand", spec := "fnExactIsLand", inPlace := ["internal/bytealg.IndexByteString", "internal/bytealg.IndexString"], unfollowed := true, recurses := true, named := ["unicode/utf8.first", "unicode/utf8.acceptRanges", "internal/bytealg.MaxLen"], apart := false, laid := [("unicode/utf8.acceptRanges", laid_unicode_utf8_acceptRanges), ("unicode/utf8.first", laid_unicode_utf8_first)] }
def FnExactIsLandSaid : Prop := fnExactIsLandRow.holds Tryd.pinned (OpenSpec.ofChange fnExactIsLandSpec)

/-- ITS FALSE NEIGHBOUR: 'it returns false'. Refute it at one input. -/
def fnExactIsLandWrong : ChangeSpec := { name := "fnExactIsLand", fn := fun _ => fun
  | [d] => { results := [.lit (.bool false)], args := [d] }
  | _ => none }
def FnExactIsLandWrongFalsely : Prop := fnExactIsLandRow.holds Tryd.pinned (OpenSpec.ofChange fnExactIsLandWrong)

/-- 'laws.FnExactPlaceNamed': WHATEVER THE INPUT: true; the input reads as it did. -/
def fnExactPlaceNamedSpec : ChangeSpec := { name := "fnExactPlaceNamed", fn := fun _ => fun
  | [d1, d2] => { results := [.lit (.bool true)], args := [d1, d2] }
  | _ => none }
def fnExactPlaceNamedRow : OpenClaim := { program := "ytdocebblppijmaadoor", sum := "356ef06d611496ecb8a964d705c72b3bdab88f1c2430d332387906c330aad1da", func := "loop.example/g01034/laws.FnExactPlaceNamed", spec := "fnExactPlaceNamed", inPlace := ["internal/bytealg.IndexByteString", "internal/bytealg.IndexString"], unfollowed := true, recurses := true, named := ["unicode/utf8.first", "unicode/utf8.acceptRanges", "internal/bytealg.MaxLen"], apart := false, laid := [("unicode/utf8.acceptRanges", laid_unicode_utf8_acceptRanges), ("unicode/utf8.first", laid_unicode_utf8_first)] }
def FnExactPlaceNamedSaid : Prop := fnExactPlaceNamedRow.holds Tryd.pinned (OpenSpec.ofChange fnExactPlaceNamedSpec)

/-- ITS FALSE NEIGHBOUR: 'it returns false'. Refute it at one input. -/
def fnExactPlaceNamedWrong : ChangeSpec := { name := "fnExactPlaceNamed", fn := fun _ => fun
  | [d1, d2] => { results := [.lit (.bool false)], args := [d1, d2] }
  | _ => none }
def FnExactPlaceNamedWrongFalsely : Prop := fnExactPlaceNamedRow.holds Tryd.pinned (OpenSpec.ofChange fnExactPlaceNamedWrong)

/-- 'laws.FnExactIsPeople': WHATEVER THE INPUT: true; the input reads as it did. -/
def fnExactIsPeopleSpec : ChangeSpec := { name := "fnExactIsPeople", fn := fun _ => fun
  | [d] => { results := [.lit (.bool true)], args := [d] }
  | _ => none }
def fnExactIsPeopleRow : OpenClaim := { program := "ytdocebblppijmaadoor", sum := "356ef06d611496ecb8a964d705c72b3bdab88f1c2430d332387906c330aad1da", func := "loop.example/g01034/laws.FnExactIsPeople", spec := "fnExactIsPeople", inPlace := ["internal/bytealg.IndexByteString", "internal/bytealg.IndexString"], unfollowed := true, recurses := true, named := ["unicode/utf8.first", "unicode/utf8.acceptRanges", "internal/bytealg.MaxLen"], apart := false, laid := [("unicode/utf8.acceptRanges", laid_unicode_utf8_acceptRanges), ("unicode/utf8.first", laid_unicode_utf8_first)] }
def FnExactIsPeopleSaid : Prop := fnExactIsPeopleRow.holds Tryd.pinned (OpenSpec.ofChange fnExactIsPeopleSpec)

/-- ITS FALSE NEIGHBOUR: 'it returns false'. Refute it at one input. -/
def fnExactIsPeopleWrong : ChangeSpec := { name := "fnExactIsPeople", fn := fun _ => fun
  | [d] => { results := [.lit (.bool false)], args := [d] }
  | _ => none }
def FnExactIsPeopleWrongFalsely : Prop := fnExactIsPeopleRow.holds Tryd.pinned (OpenSpec.ofChange fnExactIsPeopleWrong)

/-- 'laws.FnExactMarksOn': WHATEVER THE INPUT: true; the input reads as it did. -/
def fnExactMarksOnSpec : ChangeSpec := { name := "fnExactMarksOn", fn := fun _ => fun
  | [d1, d2] => { results := [.lit (.bool true)], args := [d1, d2] }
  | _ => none }
def fnExactMarksOnRow : OpenClaim := { program := "ytdocebblppijmaadoor", sum := "356ef06d611496ecb8a964d705c72b3bdab88f1c2430d332387906c330aad1da", func := "loop.example/g01034/laws.FnExactMarksOn", spec := "fnExactMarksOn", inPlace := ["internal/bytealg.IndexByteString", "internal/bytealg.IndexString"], named := ["unicode/utf8.first", "unicode/utf8.acceptRanges", "internal/bytealg.MaxLen"], apart := false, laid := [("unicode/utf8.acceptRanges", laid_unicode_utf8_acceptRanges), ("unicode/utf8.first", laid_unicode_utf8_first)] }
def FnExactMarksOnSaid : Prop := fnExactMarksOnRow.holds Tryd.pinned (OpenSpec.ofChange fnExactMarksOnSpec)

/-- ITS FALSE NEIGHBOUR: 'it returns false'. Refute it at one input. -/
def fnExactMarksOnWrong : ChangeSpec := { name := "fnExactMarksOn", fn := fun _ => fun
  | [d1, d2] => { results := [.lit (.bool false)], args := [d1, d2] }
  | _ => none }
def FnExactMarksOnWrongFalsely : Prop := fnExactMarksOnRow.holds Tryd.pinned (OpenSpec.ofChange fnExactMarksOnWrong)

/-- 'laws.FnExactIsConnected': WHATEVER THE INPUT: true; the input reads as it did. -/
def fnExactIsConnectedSpec : ChangeSpec := { name := "fnExactIsConnected", fn := fun _ => fun
  | [d] => { results := [.lit (.bool true)], args := [d] }
  | _ => none }
def fnExactIsConnectedRow : OpenClaim := { program := "ytdocebblppijmaadoor", sum := "356ef06d611496ecb8a964d705c72b3bdab88f1c2430d332387906c330aad1da", func := "loop.example/g01034/laws.FnExactIsConnected", spec := "fnExactIsConnected", inPlace := ["internal/bytealg.IndexByteString", "internal/bytealg.IndexString"], unfollowed := true, recurses := true, named := ["unicode/utf8.first", "unicode/utf8.acceptRanges", "internal/bytealg.MaxLen"], apart := false, laid := [("unicode/utf8.acceptRanges", laid_unicode_utf8_acceptRanges), ("unicode/utf8.first", laid_unicode_utf8_first)] }
def FnExactIsConnectedSaid : Prop := fnExactIsConnectedRow.holds Tryd.pinned (OpenSpec.ofChange fnExactIsConnectedSpec)

/-- ITS FALSE NEIGHBOUR: 'it returns false'. Refute it at one input. -/
def fnExactIsConnectedWrong : ChangeSpec := { name := "fnExactIsConnected", fn := fun _ => fun
  | [d] => { results := [.lit (.bool false)], args := [d] }
  | _ => none }
def FnExactIsConnectedWrongFalsely : Prop := fnExactIsConnectedRow.holds Tryd.pinned (OpenSpec.ofChange fnExactIsConnectedWrong)

/-- 'laws.FnExactTravelDays': WHATEVER THE INPUT: true; the input reads as it did. -/
def fnExactTravelDaysSpec : ChangeSpec := { name := "fnExactTravelDays", fn := fun _ => fun
  | [d1, d2, d3] => { results := [.lit (.bool true)], args := [d1, d2, d3] }
  | _ => none }
def fnExactTravelDaysRow : OpenClaim := { program := "ytdocebblppijmaadoor", sum := "356ef06d611496ecb8a964d705c72b3bdab88f1c2430d332387906c330aad1da", func := "loop.example/g01034/laws.FnExactTravelDays", spec := "fnExactTravelDays", inPlace := ["internal/bytealg.IndexByteString", "internal/bytealg.IndexString"], unfollowed := true, recurses := true, named := ["unicode/utf8.first", "unicode/utf8.acceptRanges", "internal/bytealg.MaxLen"], apart := false, laid := [("unicode/utf8.acceptRanges", laid_unicode_utf8_acceptRanges), ("unicode/utf8.first", laid_unicode_utf8_first)] }
def FnExactTravelDaysSaid : Prop := fnExactTravelDaysRow.holds Tryd.pinned (OpenSpec.ofChange fnExactTravelDaysSpec)

/-- ITS FALSE NEIGHBOUR: 'it returns false'. Refute it at one input. -/
def fnExactTravelDaysWrong : ChangeSpec := { name := "fnExactTravelDays", fn := fun _ => fun
  | [d1, d2, d3] => { results := [.lit (.bool false)], args := [d1, d2, d3] }
  | _ => none }
def FnExactTravelDaysWrongFalsely : Prop := fnExactTravelDaysRow.holds Tryd.pinned (OpenSpec.ofChange fnExactTravelDaysWrong)

/-- 'laws.FnExactFarthestPlace': WHATEVER THE INPUT: true; the input reads as it did. -/
def fnExactFarthestPlaceSpec : ChangeSpec := { name := "fnExactFarthestPlace", fn := fun _ => fun
  | [d1, d2] => { results := [.lit (.bool true)], args := [d1, d2] }
  | _ => none }
def fnExactFarthestPlaceRow : OpenClaim := { program := "ytdocebblppijmaadoor", sum := "356ef06d611496ecb8a964d705c72b3bdab88f1c2430d332387906c330aad1da", func := "loop.example/g01034/laws.FnExactFarthestPlace", spec := "fnExactFarthestPlace", inPlace := ["internal/bytealg.IndexByteString", "internal/bytealg.IndexString"], unfollowed := true, recurses := true, named := ["unicode/utf8.first", "unicode/utf8.acceptRanges", "internal/bytealg.MaxLen"], apart := false, laid := [("unicode/utf8.acceptRanges", laid_unicode_utf8_acceptRanges), ("unicode/utf8.first", laid_unicode_utf8_first)] }
def FnExactFarthestPlaceSaid : Prop := fnExactFarthestPlaceRow.holds Tryd.pinned (OpenSpec.ofChange fnExactFarthestPlaceSpec)

/-- ITS FALSE NEIGHBOUR: 'it returns false'. Refute it at one input. -/
def fnExactFarthestPlaceWrong : ChangeSpec := { name := "fnExactFarthestPlace", fn := fun _ => fun
  | [d1, d2] => { results := [.lit (.bool false)], args := [d1, d2] }
  | _ => none }
def FnExactFarthestPlaceWrongFalsely : Prop := fnExactFarthestPlaceRow.holds Tryd.pinned (OpenSpec.ofChange fnExactFarthestPlaceWrong)

/-- 'laws.FnExactLivingOn': WHATEVER THE INPUT: true; the input reads as it did. -/
def fnExactLivingOnSpec : ChangeSpec := { name := "fnExactLivingOn", fn := fun _ => fun
  | [d1, d2] => { results := [.lit (.bool true)], args := [d1, d2] }
  | _ => none }
def fnExactLivingOnRow : OpenClaim := { program := "ytdocebblppijmaadoor", sum := "356ef06d611496ecb8a964d705c72b3bdab88f1c2430d332387906c330aad1da", func := "loop.example/g01034/laws.FnExactLivingOn", spec := "fnExactLivingOn", inPlace := ["internal/bytealg.IndexByteString", "internal/bytealg.IndexString"], unfollowed := true, recurses := true, named := ["unicode/utf8.first", "unicode/utf8.acceptRanges", "internal/bytealg.MaxLen"], apart := false, laid := [("unicode/utf8.acceptRanges", laid_unicode_utf8_acceptRanges), ("unicode/utf8.first", laid_unicode_utf8_first)] }
def FnExactLivingOnSaid : Prop := fnExactLivingOnRow.holds Tryd.pinned (OpenSpec.ofChange fnExactLivingOnSpec)

/-- ITS FALSE NEIGHBOUR: 'it returns false'. Refute it at one input. -/
def fnExactLivingOnWrong : ChangeSpec := { name := "fnExactLivingOn", fn := fun _ => fun
  | [d1, d2] => { results := [.lit (.bool false)], args := [d1, d2] }
  | _ => none }
def FnExactLivingOnWrongFalsely : Prop := fnExactLivingOnRow.holds Tryd.pinned (OpenSpec.ofChange fnExactLivingOnWrong)

/-- 'laws.FnExactIsDating': WHATEVER THE INPUT: true; the input reads as it did. -/
def fnExactIsDatingSpec : ChangeSpec := { name := "fnExactIsDating", fn := fun _ => fun
  | [d] => { results := [.lit (.bool true)], args := [d] }
  | _ => none }
def fnExactIsDatingRow : OpenClaim := { program := "ytdocebblppijmaadoor", sum := "356ef06d611496ecb8a964d705c72b3bdab88f1c2430d332387906c330aad1da", func := "loop.example/g01034/laws.FnExactIsDating", spec := "fnExactIsDating", inPlace := ["internal/bytealg.IndexByteString", "internal/bytealg.IndexString"], unfollowed := true, recurses := true, named := ["unicode/utf8.first", "unicode/utf8.acceptRanges", "internal/bytealg.MaxLen"], apart := false, laid := [("unicode/utf8.acceptRanges", laid_unicode_utf8_acceptRanges), ("unicode/utf8.first", laid_unicode_utf8_first)] }
def FnExactIsDatingSaid : Prop := fnExactIsDatingRow.holds Tryd.pinned (OpenSpec.ofChange fnExactIsDatingSpec)

/-- ITS FALSE NEIGHBOUR: 'it returns false'. Refute it at one input. -/
def fnExactIsDatingWrong : ChangeSpec := { name := "fnExactIsDating", fn := fun _ => fun
  | [d] => { results := [.lit (.bool false)], args := [d] }
  | _ => none }
def FnExactIsDatingWrongFalsely : Prop := fnExactIsDatingRow.holds Tryd.pinned (OpenSpec.ofChange fnExactIsDatingWrong)

/- THE SECOND FORM. 'bulk': how many values and letters a reading holds, each counted each time it is reached (what is shared counts as often as it is met; a slice's spare places count too). A statement '..UptoSaid' is the law's where the arguments, and the package variables that the reading takes, are together of bulk at most 1048576: NARROWER than '..Said'. Prove '..Said' where nothing that the law and all that it calls make is longer than what came in: it says more and counts as full. Else prove '..UptoSaid'. A law counts once. -/
mutual
def uptoBulk {H : Type} : DataW H → Nat
  | .lit (.string bytes) => bytes.length + 1
  | .lit _ => 1
  | .nil => 1
  | .ptr d => uptoBulk d + 1
  | .slice elems spare => uptoBulkAll elems + uptoBulkAll spare + 1
  | .agg parts => uptoBulkAll parts + 1
  | .iface _ d => uptoBulk d + 1
  | .map entries => uptoBulkEntries entries + 1
  | .held _ => 1
def uptoBulkAll {H : Type} : List (DataW H) → Nat
  | [] => 0
  | d :: r => uptoBulk d + uptoBulkAll r
def uptoBulkEntries {H : Type} : List (Lit × DataW H) → Nat
  | [] => 0
  | x :: r => uptoBulkEntry x + uptoBulkEntries r
def uptoBulkEntry {H : Type} : Lit × DataW H → Nat
  | (.string bytes, d) => bytes.length + uptoBulk d + 1
  | (_, d) => uptoBulk d + 1
 end
def uptoSmall : (H : Type) → List (DataW H) → Bool := fun _ ds => decide (uptoBulkAll ds ≤ 1048576)
def OpenSpec.upto (s : _root_.Go.ChangeSpec) : _root_.Go.OpenSpec := { _root_.Go.OpenSpec.ofChange s with cond := some uptoSmall }

/-- 'laws.FnExactIsChancery', WHERE WHAT IT READS IS OF BULK AT MOST 1048576: true; the input reads as it did. -/
def fnExactIsChanceryUptoRow : OpenClaim := { program := "ytdocebblppijmaadoor", sum := "356ef06d611496ecb8a964d705c72b3bdab88f1c2430d332387906c330aad1da", func := "loop.example/g01034/laws.FnExactIsChancery", spec := "fnExactIsChancery", inPlace := ["internal/bytealg.IndexByteString", "internal/bytealg.IndexString"], named := ["unicode/utf8.first", "unicode/utf8.acceptRanges", "internal/bytealg.MaxLen"], apart := false, laid := [("unicode/utf8.acceptRanges", laid_unicode_utf8_acceptRanges), ("unicode/utf8.first", laid_unicode_utf8_first)], narrowed := true }
def FnExactIsChanceryUptoSaid : Prop := fnExactIsChanceryUptoRow.holds Tryd.pinned (OpenSpec.upto fnExactIsChancerySpec)

/-- 'laws.FnExactAreMarks', WHERE WHAT IT READS IS OF BULK AT MOST 1048576: true; the input reads as it did. -/
def fnExactAreMarksUptoRow : OpenClaim := { program := "ytdocebblppijmaadoor", sum := "356ef06d611496ecb8a964d705c72b3bdab88f1c2430d332387906c330aad1da", func := "loop.example/g01034/laws.FnExactAreMarks", spec := "fnExactAreMarks", inPlace := ["internal/bytealg.IndexByteString", "internal/bytealg.IndexString"], named := ["unicode/utf8.first", "unicode/utf8.acceptRanges", "internal/bytealg.MaxLen"], apart := false, laid := [("unicode/utf8.acceptRanges", laid_unicode_utf8_acceptRanges), ("unicode/utf8.first", laid_unicode_utf8_first)], narrowed := true }
def FnExactAreMarksUptoSaid : Prop := fnExactAreMarksUptoRow.holds Tryd.pinned (OpenSpec.upto fnExactAreMarksSpec)

/-- 'laws.FnExactLongestUse', WHERE WHAT IT READS IS OF BULK AT MOST 1048576: true; the input reads as it did. -/
def fnExactLongestUseUptoRow : OpenClaim := { program := "ytdocebblppijmaadoor", sum := "356ef06d611496ecb8a964d705c72b3bdab88f1c2430d332387906c330aad1da", func := "loop.example/g01034/laws.FnExactLongestUse", spec := "fnExactLongestUse", inPlace := ["internal/bytealg.IndexByteString", "internal/bytealg.IndexString"], named := ["unicode/utf8.first", "unicode/utf8.acceptRanges", "internal/bytealg.MaxLen"], apart := false, laid := [("unicode/utf8.acceptRanges", laid_unicode_utf8_acceptRanges), ("unicode/utf8.first", laid_unicode_utf8_first)], narrowed := true }
def FnExactLongestUseUptoSaid : Prop := fnExactLongestUseUptoRow.holds Tryd.pinned (OpenSpec.upto fnExactLongestUseSpec)

/-- 'laws.FnExactIsLand', WHERE WHAT IT READS IS OF BULK AT MOST 1048576: true; the input reads as it did. -/
def fnExactIsLandUptoRow : OpenClaim := { program := "ytdocebblppijmaadoor", sum := "356ef06d611496ecb8a964d705c72b3bdab88f1c2430d332387906c330aad1da", func := "loop.example/g01034/laws.FnExactIsLand", spec := "fnExactIsLand", inPlace := ["internal/bytealg.IndexByteString", "internal/bytealg.IndexString"], unfollowed := true, recurses := true, named := ["unicode/utf8.first", "unicode/utf8.acceptRanges", "internal/bytealg.MaxLen"], apart := false, laid := [("unicode/utf8.acceptRanges", laid_unicode_utf8_acceptRanges), ("unicode/utf8.first", laid_unicode_utf8_first)], narrowed := true }
def FnExactIsLandUptoSaid : Prop := fnExactIsLandUptoRow.holds Tryd.pinned (OpenSpec.upto fnExactIsLandSpec)

/-- 'laws.FnExactPlaceNamed', WHERE WHAT IT READS IS OF BULK AT MOST 1048576: true; the input reads as it did. -/
def fnExactPlaceNamedUptoRow : OpenClaim := { program := "ytdocebblppijmaadoor", sum := "356ef06d611496ecb8a964d705c72b3bdab88f1c2430d332387906c330aad1da", func := "loop.example/g01034/laws.FnExactPlaceNamed", spec := "fnExactPlaceNamed", inPlace := ["internal/bytealg.IndexByteString", "internal/bytealg.IndexString"], unfollowed := true, recurses := true, named := ["unicode/utf8.first", "unicode/utf8.acceptRanges", "internal/bytealg.MaxLen"], apart := false, laid := [("unicode/utf8.acceptRanges", laid_unicode_utf8_acceptRanges), ("unicode/utf8.first", laid_unicode_utf8_first)], narrowed := true }
def FnExactPlaceNamedUptoSaid : Prop := fnExactPlaceNamedUptoRow.holds Tryd.pinned (OpenSpec.upto fnExactPlaceNamedSpec)

/-- 'laws.FnExactIsPeople', WHERE WHAT IT READS IS OF BULK AT MOST 1048576: true; the input reads as it did. -/
def fnExactIsPeopleUptoRow : OpenClaim := { program := "ytdocebblppijmaadoor", sum := "356ef06d611496ecb8a964d705c72b3bdab88f1c2430d332387906c330aad1da", func := "loop.example/g01034/laws.FnExactIsPeople", spec := "fnExactIsPeople", inPlace := ["internal/bytealg.IndexByteString", "internal/bytealg.IndexString"], unfollowed := true, recurses := true, named := ["unicode/utf8.first", "unicode/utf8.acceptRanges", "internal/bytealg.MaxLen"], apart := false, laid := [("unicode/utf8.acceptRanges", laid_unicode_utf8_acceptRanges), ("unicode/utf8.first", laid_unicode_utf8_first)], narrowed := true }
def FnExactIsPeopleUptoSaid : Prop := fnExactIsPeopleUptoRow.holds Tryd.pinned (OpenSpec.upto fnExactIsPeopleSpec)

/-- 'laws.FnExactMarksOn', WHERE WHAT IT READS IS OF BULK AT MOST 1048576: true; the input reads as it did. -/
def fnExactMarksOnUptoRow : OpenClaim := { program := "ytdocebblppijmaadoor", sum := "356ef06d611496ecb8a964d705c72b3bdab88f1c2430d332387906c330aad1da", func := "loop.example/g01034/laws.FnExactMarksOn", spec := "fnExactMarksOn", inPlace := ["internal/bytealg.IndexByteString", "internal/bytealg.IndexString"], named := ["unicode/utf8.first", "unicode/utf8.acceptRanges", "internal/bytealg.MaxLen"], apart := false, laid := [("unicode/utf8.acceptRanges", laid_unicode_utf8_acceptRanges), ("unicode/utf8.first", laid_unicode_utf8_first)], narrowed := true }
def FnExactMarksOnUptoSaid : Prop := fnExactMarksOnUptoRow.holds Tryd.pinned (OpenSpec.upto fnExactMarksOnSpec)

/-- 'laws.FnExactIsConnected', WHERE WHAT IT READS IS OF BULK AT MOST 1048576: true; the input reads as it did. -/
def fnExactIsConnectedUptoRow : OpenClaim := { program := "ytdocebblppijmaadoor", sum := "356ef06d611496ecb8a964d705c72b3bdab88f1c2430d332387906c330aad1da", func := "loop.example/g01034/laws.FnExactIsConnected", spec := "fnExactIsConnected", inPlace := ["internal/bytealg.IndexByteString", "internal/bytealg.IndexString"], unfollowed := true, recurses := true, named := ["unicode/utf8.first", "unicode/utf8.acceptRanges", "internal/bytealg.MaxLen"], apart := false, laid := [("unicode/utf8.acceptRanges", laid_unicode_utf8_acceptRanges), ("unicode/utf8.first", laid_unicode_utf8_first)], narrowed := true }
def FnExactIsConnectedUptoSaid : Prop := fnExactIsConnectedUptoRow.holds Tryd.pinned (OpenSpec.upto fnExactIsConnectedSpec)

/-- 'laws.FnExactTravelDays', WHERE WHAT IT READS IS OF BULK AT MOST 1048576: true; the input reads as it did. -/
def fnExactTravelDaysUptoRow : OpenClaim := { program := "ytdocebblppijmaadoor", sum := "356ef06d611496ecb8a964d705c72b3bdab88f1c2430d332387906c330aad1da", func := "loop.example/g01034/laws.FnExactTravelDays", spec := "fnExactTravelDays", inPlace := ["internal/bytealg.IndexByteString", "internal/bytealg.IndexString"], unfollowed := true, recurses := true, named := ["unicode/utf8.first", "unicode/utf8.acceptRanges", "internal/bytealg.MaxLen"], apart := false, laid := [("unicode/utf8.acceptRanges", laid_unicode_utf8_acceptRanges), ("unicode/utf8.first", laid_unicode_utf8_first)], narrowed := true }
def FnExactTravelDaysUptoSaid : Prop := fnExactTravelDaysUptoRow.holds Tryd.pinned (OpenSpec.upto fnExactTravelDaysSpec)

/-- 'laws.FnExactFarthestPlace', WHERE WHAT IT READS IS OF BULK AT MOST 1048576: true; the input reads as it did. -/
def fnExactFarthestPlaceUptoRow : OpenClaim := { program := "ytdocebblppijmaadoor", sum := "356ef06d611496ecb8a964d705c72b3bdab88f1c2430d332387906c330aad1da", func := "loop.example/g01034/laws.FnExactFarthestPlace", spec := "fnExactFarthestPlace", inPlace := ["internal/bytealg.IndexByteString", "internal/bytealg.IndexString"], unfollowed := true, recurses := true, named := ["unicode/utf8.first", "unicode/utf8.acceptRanges", "internal/bytealg.MaxLen"], apart := false, laid := [("unicode/utf8.acceptRanges", laid_unicode_utf8_acceptRanges), ("unicode/utf8.first", laid_unicode_utf8_first)], narrowed := true }
def FnExactFarthestPlaceUptoSaid : Prop := fnExactFarthestPlaceUptoRow.holds Tryd.pinned (OpenSpec.upto fnExactFarthestPlaceSpec)

/-- 'laws.FnExactLivingOn', WHERE WHAT IT READS IS OF BULK AT MOST 1048576: true; the input reads as it did. -/
def fnExactLivingOnUptoRow : OpenClaim := { program := "ytdocebblppijmaadoor", sum := "356ef06d611496ecb8a964d705c72b3bdab88f1c2430d332387906c330aad1da", func := "loop.example/g01034/laws.FnExactLivingOn", spec := "fnExactLivingOn", inPlace := ["internal/bytealg.IndexByteString", "internal/bytealg.IndexString"], unfollowed := true, recurses := true, named := ["unicode/utf8.first", "unicode/utf8.acceptRanges", "internal/bytealg.MaxLen"], apart := false, laid := [("unicode/utf8.acceptRanges", laid_unicode_utf8_acceptRanges), ("unicode/utf8.first", laid_unicode_utf8_first)], narrowed := true }
def FnExactLivingOnUptoSaid : Prop := fnExactLivingOnUptoRow.holds Tryd.pinned (OpenSpec.upto fnExactLivingOnSpec)

/-- 'laws.FnExactIsDating', WHERE WHAT IT READS IS OF BULK AT MOST 1048576: true; the input reads as it did. -/
def fnExactIsDatingUptoRow : OpenClaim := { program := "ytdocebblppijmaadoor", sum := "356ef06d611496ecb8a964d705c72b3bdab88f1c2430d332387906c330aad1da", func := "loop.example/g01034/laws.FnExactIsDating", spec := "fnExactIsDating", inPlace := ["internal/bytealg.IndexByteString", "internal/bytealg.IndexString"], unfollowed := true, recurses := true, named := ["unicode/utf8.first", "unicode/utf8.acceptRanges", "internal/bytealg.MaxLen"], apart := false, laid := [("unicode/utf8.acceptRanges", laid_unicode_utf8_acceptRanges), ("unicode/utf8.first", laid_unicode_utf8_first)], narrowed := true }
def FnExactIsDatingUptoSaid : Prop := fnExactIsDatingUptoRow.holds Tryd.pinned (OpenSpec.upto fnExactIsDatingSpec)

end Rows
end Go.Proofs.YtdocebblppijmaaDoor
