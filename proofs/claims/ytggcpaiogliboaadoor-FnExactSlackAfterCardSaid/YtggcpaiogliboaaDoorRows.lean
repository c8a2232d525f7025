/-
  NARROWER THAN 'FOR EVERY INPUT', by the rows' own cells (each row's printed sentence says how): FnExactMarksOn: laid · FnExactLivingOn: laid · FnExactIsDating: laid · FnExactIsConnected: laid · FnExactTravelDays: laid · FnExactFarthestPlace: laid · FnExactIsItinerary: laid · FnExactPlaceOn: laid · FnExactSlackAfter: laid · FnExactPlacesWithin: laid · FnExactUselessWays: laid · FnExactMarksText: laid.
  DERIVED. THE GIVEN ROWS OF THIS SEAT. 12 by the template 'for every input the law returns true; each argument reads behind the call as it read before'; 0 by the template 'total and deterministic' (their statements: YtggcpaiogliboaaDoorTotals.lean).
  GIVEN WITH THE SEED: the statements are not yours to turn. If you find one false, say at which input.
  Laid BY PROGRAM, IN A SANDBOX (cutbox-rows.mjs): the forced cells as the released guide's own fill.sh prints them over the translation 3f10280961472fd3… (all of the seat's roots in one cut). By AI agents, Wed Nov 11 2026. No macro, syntax, notation, axiom, sorry.
-/
import Derived.Test.YtggcpaiogliboaaDoorChecked
import GoSem.PinnedTables
import GoSem.Claim
import GoSem.ClaimJoined
import GoSem.ClaimMapViews
import Derived.JoinedTies
import Derived.KernelRfl
namespace Go.Proofs.YtggcpaiogliboaaDoor
/- THE CELL 'sum', in the pinned program and in every row, IS THE sha256 OF THE DUMP (.gsa) THAT YtggcpaiogliboaaDoorProg.lean LOADS. Nothing in Lean hashes anything: it is a label: what it is worth is what the hold of that sum in a sandbox is worth. -/
noncomputable def Tryd.pinned : Pinned := { name := "ytggcpaiogliboaadoor", sum := "3f10280961472fd3446bbcfc6c8ce7691ff8feeaa2a5f99c430e310415b495b6", checked := Tryd.checked }
namespace Rows
def none {H : Type} : Left H := { results := [], args := [] }

/- WHAT THE LISTED PACKAGE-LEVEL VARIABLES READ AS WHEN THE CALL BEGINS. Each datum BY PROGRAM (the guide's laid-datum.mjs) off the statement by which the dump's own 'gosem.cut.vars' lays the variable. In a bare row this is a premise. The card (YtggcpaiogliboaaDoorCards.lean) ties it to the program's text. -/
def laid_unicode_utf8_acceptRanges {H : Type} : DataW H := .agg [.agg [.lit (.int .u8 128), .lit (.int .u8 191)], .agg [.lit (.int .u8 160), .lit (.int .u8 191)], .agg [.lit (.int .u8 128), .lit (.int .u8 159)], .agg [.lit (.int .u8 144), .lit (.int .u8 191)], .agg [.lit (.int .u8 128), .lit (.int .u8 143)], .agg [.lit (.int .u8 0), .lit (.int .u8 0)], .agg [.lit (.int .u8 0), .lit (.int .u8 0)], .agg [.lit (.int .u8 0), .lit (.int .u8 0)], .agg [.lit (.int .u8 0), .lit (.int .u8 0)], .agg [.lit (.int .u8 0), .lit (.int .u8 0)], .agg [.lit (.int .u8 0), .lit (.int .u8 0)], .agg [.lit (.int .u8 0), .lit (.int .u8 0)], .agg [.lit (.int .u8 0), .lit (.int .u8 0)], .agg [.lit (.int .u8 0), .lit (.int .u8 0)], .agg [.lit (.int .u8 0), .lit (.int .u8 0)], .agg [.lit (.int .u8 0), .lit (.int .u8 0)]]
/-- One of Go's own tables, pinned by name: the form's constant. -/
def laid_unicode_utf8_first : DataW Unit := Go.Pinned.utf8First
def laid_math_bits_deBruijn32tab {H : Type} : DataW H := .agg [.lit (.int .u8 0), .lit (.int .u8 1), .lit (.int .u8 28), .lit (.int .u8 2), .lit (.int .u8 29), .lit (.int .u8 14), .lit (.int .u8 24), .lit (.int .u8 3), .lit (.int .u8 30), .lit (.int .u8 22), .lit (.int .u8 20), .lit (.int .u8 15), .lit (.int .u8 25), .lit (.int .u8 17), .lit (.int .u8 4), .lit (.int .u8 8), .lit (.int .u8 31), .lit (.int .u8 27), .lit (.int .u8 13), .lit (.int .u8 23), .lit (.int .u8 21), .lit (.int .u8 19), .lit (.int .u8 16), .lit (.int .u8 7), .lit (.int .u8 26), .lit (.int .u8 12), .lit (.int .u8 18), .lit (.int .u8 6), .lit (.int .u8 11), .lit (.int .u8 5), .lit (.int .u8 10), .lit (.int .u8 9)]
def laid_math_bits_deBruijn64tab {H : Type} : DataW H := .agg [.lit (.int .u8 0), .lit (.int .u8 1), .lit (.int .u8 56), .lit (.int .u8 2), .lit (.int .u8 57), .lit (.int .u8 49), .lit (.int .u8 28), .lit (.int .u8 3), .lit (.int .u8 61), .lit (.int .u8 58), .lit (.int .u8 42), .lit (.int .u8 50), .lit (.int .u8 38), .lit (.int .u8 29), .lit (.int .u8 17), .lit (.int .u8 4), .lit (.int .u8 62), .lit (.int .u8 47), .lit (.int .u8 59), .lit (.int .u8 36), .lit (.int .u8 45), .lit (.int .u8 43), .lit (.int .u8 51), .lit (.int .u8 22), .lit (.int .u8 53), .lit (.int .u8 39), .lit (.int .u8 33), .lit (.int .u8 30), .lit (.int .u8 24), .lit (.int .u8 18), .lit (.int .u8 12), .lit (.int .u8 5), .lit (.int .u8 63), .lit (.int .u8 55), .lit (.int .u8 48), .lit (.int .u8 27), .lit (.int .u8 60), .lit (.int .u8 41), .lit (.int .u8 37), .lit (.int .u8 16), .lit (.int .u8 46), .lit (.int .u8 35), .lit (.int .u8 44), .lit (.int .u8 21), .lit (.int .u8 52), .lit (.int .u8 32), .lit (.int .u8 23), .lit (.int .u8 11), .lit (.int .u8 54), .lit (.int .u8 26), .lit (.int .u8 40), .lit (.int .u8 15), .lit (.int .u8 34), .lit (.int .u8 20), .lit (.int .u8 31), .lit (.int .u8 10), .lit (.int .u8 25), .lit (.int .u8 14), .lit (.int .u8 19), .lit (.int .u8 9), .lit (.int .u8 13), .lit (.int .u8 8), .lit (.int .u8 7), .lit (.int .u8 6)]
def laid_internal_strconv_uint64pow10 {H : Type} : DataW H := .agg [.lit (.int .u64 1), .lit (.int .u64 10), .lit (.int .u64 100), .lit (.int .u64 1000), .lit (.int .u64 10000), .lit (.int .u64 100000), .lit (.int .u64 1000000), .lit (.int .u64 10000000), .lit (.int .u64 100000000), .lit (.int .u64 1000000000), .lit (.int .u64 10000000000), .lit (.int .u64 100000000000), .lit (.int .u64 1000000000000), .lit (.int .u64 10000000000000), .lit (.int .u64 100000000000000), .lit (.int .u64 1000000000000000), .lit (.int .u64 10000000000000000), .lit (.int .u64 100000000000000000), .lit (.int .u64 1000000000000000000), .lit (.int .u64 10000000000000000000)]

/-- 'laws.FnExactMarksOn': WHATEVER THE INPUT: true; the input reads as it did. -/
def fnExactMarksOnSpec : ChangeSpec := { name := "fnExactMarksOn", fn := fun _ => fun
  | [d1, d2] => { results := [.lit (.bool true)], args := [d1, d2] }
  | _ => none }
def fnExactMarksOnRow : OpenClaim := { program := "ytggcpaiogliboaadoor", sum := "3f10280961472fd3446bbcfc6c8ce7691ff8feeaa2a5f99c430e310415b495b6", func := "loop.example/g01034/laws.FnExactMarksOn", spec := "fnExactMarksOn", inPlace := ["internal/bytealg.IndexByteString", "internal/bytealg.IndexString"], named := ["unicode/utf8.first", "unicode/utf8.acceptRanges", "internal/bytealg.MaxLen"], apart := false, laid := [("unicode/utf8.acceptRanges", laid_unicode_utf8_acceptRanges), ("unicode/utf8.first", laid_unicode_utf8_first)] }
def FnExactMarksOnSaid : Prop := fnExactMarksOnRow.holds Tryd.pinned (OpenSpec.ofChange fnExactMarksOnSpec)

/-- ITS FALSE NEIGHBOUR: 'it returns false'. Refute it at one input. -/
def fnExactMarksOnWrong : ChangeSpec := { name := "fnExactMarksOn", fn := fun _ => fun
  | [d1, d2] => { results := [.lit (.bool false)], args := [d1, d2] }
  | _ => none }
def FnExactMarksOnWrongFalsely : Prop := fnExactMarksOnRow.holds Tryd.pinned (OpenSpec.ofChange fnExactMarksOnWrong)

/-- 'laws.FnExactLivingOn': WHATEVER THE INPUT: true; the input reads as it did. -/
def fnExactLivingOnSpec : ChangeSpec := { name := "fnExactLivingOn", fn := fun _ => fun
  | [d1, d2] => { results := [.lit (.bool true)], args := [d1, d2] }
  | _ => none }
def fnExactLivingOnRow : OpenClaim := { program := "ytggcpaiogliboaadoor", sum := "3f10280961472fd3446bbcfc6c8ce7691ff8feeaa2a5f99c430e310415b495b6", func := "loop.example/g01034/laws.FnExactLivingOn", spec := "fnExactLivingOn", inPlace := ["internal/bytealg.IndexByteString", "internal/bytealg.IndexString"], unfollowed := true, recurses := true, named := ["unicode/utf8.first", "unicode/utf8.acceptRanges", "internal/bytealg.MaxLen"], apart := false, laid := [("unicode/utf8.acceptRanges", laid_unicode_utf8_acceptRanges), ("unicode/utf8.first", laid_unicode_utf8_first)] }
def FnExactLivingOnSaid : Prop := fnExactLivingOnRow.holds Tryd.pinned (OpenSpec.ofChange fnExactLivingOnSpec)

/-- ITS FALSE NEIGHBOUR: 'it returns false'. Refute it at one input. -/
def fnExactLivingOnWrong : ChangeSpec := { name := "fnExactLivingOn", fn := fun _ => fun
  | [d1, d2] => { results := [.lit (.bool false)], args := [d1, d2] }
  | _ => none }
def FnExactLivingOnWrongFalsely : Prop := fnExactLivingOnRow.holds Tryd.pinned (OpenSpec.ofChange fnExactLivingOnWrong)

/-- 'laws.FnExactIsDating': WHATEVER THE INPUT: true; the input reads as it did. -/
def fnExactIsDatingSpec : ChangeSpec := { name := "fnExactIsDating", fn := fun _ => fun
  | [d] => { results := [.lit (.bool true)], args := [d] }
  | _ => none }
def fnExactIsDatingRow : OpenClaim := { program := "ytggcpaiogliboaadoor", sum := "3f10280961472fd3446bbcfc6c8ce7691ff8feeaa2a5f99c430e310415b495b6", func := "loop.example/g01034/laws.FnExactIsDating", spec := "fnExactIsDating", inPlace := ["internal/bytealg.IndexByteString", "internal/bytealg.IndexString"], unfollowed := true, recurses := true, named := ["unicode/utf8.first", "unicode/utf8.acceptRanges", "internal/bytealg.MaxLen"], apart := false, laid := [("unicode/utf8.acceptRanges", laid_unicode_utf8_acceptRanges), ("unicode/utf8.first", laid_unicode_utf8_first)] }
def FnExactIsDatingSaid : Prop := fnExactIsDatingRow.holds Tryd.pinned (OpenSpec.ofChange fnExactIsDatingSpec)

/-- ITS FALSE NEIGHBOUR: 'it returns false'. Refute it at one input. -/
def fnExactIsDatingWrong : ChangeSpec := { name := "fnExactIsDating", fn := fun _ => fun
  | [d] => { results := [.lit (.bool false)], args := [d] }
  | _ => none }
def FnExactIsDatingWrongFalsely : Prop := fnExactIsDatingRow.holds Tryd.pinned (OpenSpec.ofChange fnExactIsDatingWrong)

/-- 'laws.FnExactIsConnected': WHATEVER THE INPUT: true; the input reads as it did. -/
def fnExactIsConnectedSpec : ChangeSpec := { name := "fnExactIsConnected", fn := fun _ => fun
  | [d] => { results := [.lit (.bool true)], args := [d] }
  | _ => none }
def fnExactIsConnectedRow : OpenClaim := { program := "ytggcpaiogliboaadoor", sum := "3f10280961472fd3446bbcfc6c8ce7691ff8feeaa2a5f99c430e310415b495b6", func := "loop.example/g01034/laws.FnExactIsConnected", spec := "fnExactIsConnected", inPlace := ["internal/bytealg.IndexByteString", "internal/bytealg.IndexString"], unfollowed := true, recurses := true, named := ["unicode/utf8.first", "unicode/utf8.acceptRanges", "internal/bytealg.MaxLen"], apart := false, laid := [("unicode/utf8.acceptRanges", laid_unicode_utf8_acceptRanges), ("unicode/utf8.first", laid_unicode_utf8_first)] }
def FnExactIsConnectedSaid : Prop := fnExactIsConnectedRow.holds Tryd.pinned (OpenSpec.ofChange fnExactIsConnectedSpec)

/-- ITS FALSE NEIGHBOUR: 'it returns false'. Refute it at one input. -/
def fnExactIsConnectedWrong : ChangeSpec := { name := "fnExactIsConnected", fn := fun _ => fun
  | [d] => { results := [.lit (.bool false)], args := [d] }
  | _ => none }
def FnExactIsConnectedWrongFalsely : Prop := fnExactIsConnectedRow.holds Tryd.pinned (OpenSpec.ofChange fnExactIsConnectedWrong)

/-- 'laws.FnExactTravelDays': WHATEVER THE INPUT: true; the input reads as it did. -/
def fnExactTravelDaysSpec : ChangeSpec := { name := "fnExactTravelDays", fn := fun _ => fun
  | [d1, d2, d3] => { results := [.lit (.bool true)], args := [d1, d2, d3] }
  | _ => none }
def fnExactTravelDaysRow : OpenClaim := { program := "ytggcpaiogliboaadoor", sum := "3f10280961472fd3446bbcfc6c8ce7691ff8feeaa2a5f99c430e310415b495b6", func := "loop.example/g01034/laws.FnExactTravelDays", spec := "fnExactTravelDays", inPlace := ["internal/bytealg.IndexByteString", "internal/bytealg.IndexString"], unfollowed := true, recurses := true, named := ["unicode/utf8.first", "unicode/utf8.acceptRanges", "internal/bytealg.MaxLen"], apart := false, laid := [("unicode/utf8.acceptRanges", laid_unicode_utf8_acceptRanges), ("unicode/utf8.first", laid_unicode_utf8_first)] }
def FnExactTravelDaysSaid : Prop := fnExactTravelDaysRow.holds Tryd.pinned (OpenSpec.ofChange fnExactTravelDaysSpec)

/-- ITS FALSE NEIGHBOUR: 'it returns false'. Refute it at one input. -/
def fnExactTravelDaysWrong : ChangeSpec := { name := "fnExactTravelDays", fn := fun _ => fun
  | [d1, d2, d3] => { results := [.lit (.bool false)], args := [d1, d2, d3] }
  | _ => none }
def FnExactTravelDaysWrongFalsely : Prop := fnExactTravelDaysRow.holds Tryd.pinned (OpenSpec.ofChange fnExactTravelDaysWrong)

/-- 'laws.FnExactFarthestPlace': WHATEVER THE INPUT: true; the input reads as it did. -/
def fnExactFarthestPlaceSpec : ChangeSpec := { name := "fnExactFarthestPlace", fn := fun _ => fun
  | [d1, d2] => { results := [.lit (.bool true)], args := [d1, d2] }
  | _ => none }
def fnExactFarthestPlaceRow : OpenClaim := { program := "ytggcpaiogliboaadoor", sum := "3f10280961472fd3446bbcfc6c8ce7691ff8feeaa2a5f99c430e310415b495b6", func := "loop.example/g01034/laws.FnExactFarthestPlace", spec := "fnExactFarthestPlace", inPlace := ["internal/bytealg.IndexByteString", "internal/bytealg.IndexString"], unfollowed := true, recurses := true, named := ["unicode/utf8.first", "unicode/utf8.acceptRanges", "internal/bytealg.MaxLen"], apart := false, laid := [("unicode/utf8.acceptRanges", laid_unicode_utf8_acceptRanges), ("unicode/utf8.first", laid_unicode_utf8_first)] }
def FnExactFarthestPlaceSaid : Prop := fnExactFarthestPlaceRow.holds Tryd.pinned (OpenSpec.ofChange fnExactFarthestPlaceSpec)

/-- ITS FALSE NEIGHBOUR: 'it returns false'. Refute it at one input. -/
def fnExactFarthestPlaceWrong : ChangeSpec := { name := "fnExactFarthestPlace", fn := fun _ => fun
  | [d1, d2] => { results := [.lit (.bool false)], args := [d1, d2] }
  | _ => none }
def FnExactFarthestPlaceWrongFalsely : Prop := fnExactFarthestPlaceRow.holds Tryd.pinned (OpenSpec.ofChange fnExactFarthestPlaceWrong)

/-- 'laws.FnExactIsItinerary': WHATEVER THE INPUT: true; the input reads as it did. -/
def fnExactIsItinerarySpec : ChangeSpec := { name := "fnExactIsItinerary", fn := fun _ => fun
  | [d1, d2] => { results := [.lit (.bool true)], args := [d1, d2] }
  | _ => none }
def fnExactIsItineraryRow : OpenClaim := { program := "ytggcpaiogliboaadoor", sum := "3f10280961472fd3446bbcfc6c8ce7691ff8feeaa2a5f99c430e310415b495b6", func := "loop.example/g01034/laws.FnExactIsItinerary", spec := "fnExactIsItinerary", inPlace := ["internal/bytealg.IndexByteString", "internal/bytealg.IndexString"], unfollowed := true, recurses := true, named := ["unicode/utf8.first", "unicode/utf8.acceptRanges", "internal/bytealg.MaxLen"], apart := false, laid := [("unicode/utf8.acceptRanges", laid_unicode_utf8_acceptRanges), ("unicode/utf8.first", laid_unicode_utf8_first)] }
def FnExactIsItinerarySaid : Prop := fnExactIsItineraryRow.holds Tryd.pinned (OpenSpec.ofChange fnExactIsItinerarySpec)

/-- ITS FALSE NEIGHBOUR: 'it returns false'. Refute it at one input. -/
def fnExactIsItineraryWrong : ChangeSpec := { name := "fnExactIsItinerary", fn := fun _ => fun
  | [d1, d2] => { results := [.lit (.bool false)], args := [d1, d2] }
  | _ => none }
def FnExactIsItineraryWrongFalsely : Prop := fnExactIsItineraryRow.holds Tryd.pinned (OpenSpec.ofChange fnExactIsItineraryWrong)

/-- 'laws.FnExactPlaceOn': WHATEVER THE INPUT: true; the input reads as it did. -/
def fnExactPlaceOnSpec : ChangeSpec := { name := "fnExactPlaceOn", fn := fun _ => fun
  | [d1, d2, d3] => { results := [.lit (.bool true)], args := [d1, d2, d3] }
  | _ => none }
def fnExactPlaceOnRow : OpenClaim := { program := "ytggcpaiogliboaadoor", sum := "3f10280961472fd3446bbcfc6c8ce7691ff8feeaa2a5f99c430e310415b495b6", func := "loop.example/g01034/laws.FnExactPlaceOn", spec := "fnExactPlaceOn", inPlace := ["internal/bytealg.IndexByteString", "internal/bytealg.IndexString"], unfollowed := true, recurses := true, named := ["unicode/utf8.first", "unicode/utf8.acceptRanges", "internal/bytealg.MaxLen"], apart := false, laid := [("unicode/utf8.acceptRanges", laid_unicode_utf8_acceptRanges), ("unicode/utf8.first", laid_unicode_utf8_first)] }
def FnExactPlaceOnSaid : Prop := fnExactPlaceOnRow.holds Tryd.pinned (OpenSpec.ofChange fnExactPlaceOnSpec)

/-- ITS FALSE NEIGHBOUR: 'it returns false'. Refute it at one input. -/
def fnExactPlaceOnWrong : ChangeSpec := { name := "fnExactPlaceOn", fn := fun _ => fun
  | [d1, d2, d3] => { results := [.lit (.bool false)], args := [d1, d2, d3] }
  | _ => none }
def FnExactPlaceOnWrongFalsely : Prop := fnExactPlaceOnRow.holds Tryd.pinned (OpenSpec.ofChange fnExactPlaceOnWrong)

/-- 'laws.FnExactSlackAfter': WHATEVER THE INPUT: true; the input reads as it did. -/
def fnExactSlackAfterSpec : ChangeSpec := { name := "fnExactSlackAfter", fn := fun _ => fun
  | [d1, d2, d3] => { results := [.lit (.bool true)], args := [d1, d2, d3] }
  | _ => none }
def fnExactSlackAfterRow : OpenClaim := { program := "ytggcpaiogliboaadoor", sum := "3f10280961472fd3446bbcfc6c8ce7691ff8feeaa2a5f99c430e310415b495b6", func := "loop.example/g01034/laws.FnExactSlackAfter", spec := "fnExactSlackAfter", inPlace := ["internal/bytealg.IndexByteString", "internal/bytealg.IndexString"], unfollowed := true, recurses := true, named := ["unicode/utf8.first", "unicode/utf8.acceptRanges", "internal/bytealg.MaxLen"], apart := false, laid := [("unicode/utf8.acceptRanges", laid_unicode_utf8_acceptRanges), ("unicode/utf8.first", laid_unicode_utf8_first)] }
def FnExactSlackAfterSaid : Prop := fnExactSlackAfterRow.holds Tryd.pinned (OpenSpec.ofChange fnExactSlackAfterSpec)

/-- ITS FALSE NEIGHBOUR: 'it returns false'. Refute it at one input. -/
def fnExactSlackAfterWrong : ChangeSpec := { name := "fnExactSlackAfter", fn := fun _ => fun
  | [d1, d2, d3] => { results := [.lit (.bool false)], args := [d1, d2, d3] }
  | _ => none }
def FnExactSlackAfterWrongFalsely : Prop := fnExactSlackAfterRow.holds Tryd.pinned (OpenSpec.ofChange fnExactSlackAfterWrong)

/-- 'laws.FnExactPlacesWithin': WHATEVER THE INPUT: true; the input reads as it did. -/
def fnExactPlacesWithinSpec : ChangeSpec := { name := "fnExactPlacesWithin", fn := fun _ => fun
  | [d1, d2, d3] => { results := [.lit (.bool true)], args := [d1, d2, d3] }
  | _ => none }
def fnExactPlacesWithinRow : OpenClaim := { program := "ytggcpaiogliboaadoor", sum := "3f10280961472fd3446bbcfc6c8ce7691ff8feeaa2a5f99c430e310415b495b6", func := "loop.example/g01034/laws.FnExactPlacesWithin", spec := "fnExactPlacesWithin", inPlace := ["internal/bytealg.IndexByteString", "internal/bytealg.IndexString"], unfollowed := true, recurses := true, named := ["unicode/utf8.first", "unicode/utf8.acceptRanges", "internal/bytealg.MaxLen"], apart := false, laid := [("unicode/utf8.acceptRanges", laid_unicode_utf8_acceptRanges), ("unicode/utf8.first", laid_unicode_utf8_first)] }
def FnExactPlacesWithinSaid : Prop := fnExactPlacesWithinRow.holds Tryd.pinned (OpenSpec.ofChange fnExactPlacesWithinSpec)

/-- ITS FALSE NEIGHBOUR: 'it returns false'. Refute it at one input. -/
def fnExactPlacesWithinWrong : ChangeSpec := { name := "fnExactPlacesWithin", fn := fun _ => fun
  | [d1, d2, d3] => { results := [.lit (.bool false)], args := [d1, d2, d3] }
  | _ => none }
def FnExactPlacesWithinWrongFalsely : Prop := fnExactPlacesWithinRow.holds Tryd.pinned (OpenSpec.ofChange fnExactPlacesWithinWrong)

/-- 'laws.FnExactUselessWays': WHATEVER THE INPUT: true; the input reads as it did. -/
def fnExactUselessWaysSpec : ChangeSpec := { name := "fnExactUselessWays", fn := fun _ => fun
  | [d] => { results := [.lit (.bool true)], args := [d] }
  | _ => none }
def fnExactUselessWaysRow : OpenClaim := { program := "ytggcpaiogliboaadoor", sum := "3f10280961472fd3446bbcfc6c8ce7691ff8feeaa2a5f99c430e310415b495b6", func := "loop.example/g01034/laws.FnExactUselessWays", spec := "fnExactUselessWays", inPlace := ["internal/bytealg.IndexByteString", "internal/bytealg.IndexString"], unfollowed := true, recurses := true, named := ["unicode/utf8.first", "unicode/utf8.acceptRanges", "internal/bytealg.MaxLen"], apart := false, laid := [("unicode/utf8.acceptRanges", laid_unicode_utf8_acceptRanges), ("unicode/utf8.first", laid_unicode_utf8_first)] }
def FnExactUselessWaysSaid : Prop := fnExactUselessWaysRow.holds Tryd.pinned (OpenSpec.ofChange fnExactUselessWaysSpec)

/-- ITS FALSE NEIGHBOUR: 'it returns false'. Refute it at one input. -/
def fnExactUselessWaysWrong : ChangeSpec := { name := "fnExactUselessWays", fn := fun _ => fun
  | [d] => { results := [.lit (.bool false)], args := [d] }
  | _ => none }
def FnExactUselessWaysWrongFalsely : Prop := fnExactUselessWaysRow.holds Tryd.pinned (OpenSpec.ofChange fnExactUselessWaysWrong)

/-- 'laws.FnExactMarksText': WHATEVER THE INPUT: true; the input reads as it did. -/
def fnExactMarksTextSpec : ChangeSpec := { name := "fnExactMarksText", fn := fun _ => fun
  | [d] => { results := [.lit (.bool true)], args := [d] }
  | _ => none }
def fnExactMarksTextRow : OpenClaim := { program := "ytggcpaiogliboaadoor", sum := "3f10280961472fd3446bbcfc6c8ce7691ff8feeaa2a5f99c430e310415b495b6", func := "loop.example/g01034/laws.FnExactMarksText", spec := "fnExactMarksText", inPlace := ["internal/bytealg.IndexByteString", "internal/bytealg.IndexString", "internal/abi.NoEscape", "internal/bytealg.MakeNoZero"], recurses := true, named := ["unicode/utf8.first", "unicode/utf8.acceptRanges", "internal/strconv.uint64pow10", "math/bits.deBruijn32tab", "math/bits.deBruijn64tab", "internal/bytealg.MaxLen"], apart := false, laid := [("math/bits.deBruijn32tab", laid_math_bits_deBruijn32tab), ("math/bits.deBruijn64tab", laid_math_bits_deBruijn64tab), ("internal/strconv.uint64pow10", laid_internal_strconv_uint64pow10), ("unicode/utf8.acceptRanges", laid_unicode_utf8_acceptRanges), ("unicode/utf8.first", laid_unicode_utf8_first)] }
def FnExactMarksTextSaid : Prop := fnExactMarksTextRow.holds Tryd.pinned (OpenSpec.ofChange fnExactMarksTextSpec)

/-- ITS FALSE NEIGHBOUR: 'it returns false'. Refute it at one input. -/
def fnExactMarksTextWrong : ChangeSpec := { name := "fnExactMarksText", fn := fun _ => fun
  | [d] => { results := [.lit (.bool false)], args := [d] }
  | _ => none }
def FnExactMarksTextWrongFalsely : Prop := fnExactMarksTextRow.holds Tryd.pinned (OpenSpec.ofChange fnExactMarksTextWrong)

/- THE SECOND FORM. 'bulk': how many values and letters a reading holds, each counted each time it is reached (what is shared counts as often as it is met; a slice's spare places count too). A statement '..UptoSaid' is the law's where the arguments, and the package variables that the reading takes, are together of bulk at most 1048576: NARROWER than '..Said'. Prove '..Said' where nothing that the law and all that it calls make is longer than what came in: it says more and counts as full. Else prove '..UptoSaid'. A law counts once. -/
mutual
def uptoBulk {H : Type} : DataW H → Nat
  | .lit (.string bytes) => bytes.length + 1
  | .lit _ => 1
  | .nil => 1
  | .ptr d => uptoBulk d + 1
  | .slice elems spare => uptoBulkAll elems + uptoBulkAll spare + 1
  | .agg parts => uptoBulkAll parts + 1
  | .iface _ d => uptoBulk d + 1
  | .map entries => uptoBulkEntries entries + 1
  | .held _ => 1
def uptoBulkAll {H : Type} : List (DataW H) → Nat
  | [] => 0
  | d :: r => uptoBulk d + uptoBulkAll r
def uptoBulkEntries {H : Type} : List (Lit × DataW H) → Nat
  | [] => 0
  | x :: r => uptoBulkEntry x + uptoBulkEntries r
def uptoBulkEntry {H : Type} : Lit × DataW H → Nat
  | (.string bytes, d) => bytes.length + uptoBulk d + 1
  | (_, d) => uptoBulk d + 1
 end
def uptoSmall : (H : Type) → List (DataW H) → Bool := fun _ ds => decide (uptoBulkAll ds ≤ 1048576)
def OpenSpec.upto (s : _root_.Go.ChangeSpec) : _root_.Go.OpenSpec := { _root_.Go.OpenSpec.ofChange s with cond := some uptoSmall }

/-- 'laws.FnExactMarksOn', WHERE WHAT IT READS IS OF BULK AT MOST 1048576: true; the input reads as it did. -/
def fnExactMarksOnUptoRow : OpenClaim := { program := "ytggcpaiogliboaadoor", sum := "3f10280961472fd3446bbcfc6c8ce7691ff8feeaa2a5f99c430e310415b495b6", func := "loop.example/g01034/laws.FnExactMarksOn", spec := "fnExactMarksOn", inPlace := ["internal/bytealg.IndexByteString", "internal/bytealg.IndexString"], named := ["unicode/utf8.first", "unicode/utf8.acceptRanges", "internal/bytealg.MaxLen"], apart := false, laid := [("unicode/utf8.acceptRanges", laid_unicode_utf8_acceptRanges), ("unicode/utf8.first", laid_unicode_utf8_first)], narrowed := true }
def FnExactMarksOnUptoSaid : Prop := fnExactMarksOnUptoRow.holds Tryd.pinned (OpenSpec.upto fnExactMarksOnSpec)

/-- 'laws.FnExactLivingOn', WHERE WHAT IT READS IS OF BULK AT MOST 1048576: true; the input reads as it did. -/
def fnExactLivingOnUptoRow : OpenClaim := { program := "ytggcpaiogliboaadoor", sum := "3f10280961472fd3446bbcfc6c8ce7691ff8feeaa2a5f99c430e310415b495b6", func := "loop.example/g01034/laws.FnExactLivingOn", spec := "fnExactLivingOn", inPlace := ["internal/bytealg.IndexByteString", "internal/bytealg.IndexString"], unfollowed := true, recurses := true, named := ["unicode/utf8.first", "unicode/utf8.acceptRanges", "internal/bytealg.MaxLen"], apart := false, laid := [("unicode/utf8.acceptRanges", laid_unicode_utf8_acceptRanges), ("unicode/utf8.first", laid_unicode_utf8_first)], narrowed := true }
def FnExactLivingOnUptoSaid : Prop := fnExactLivingOnUptoRow.holds Tryd.pinned (OpenSpec.upto fnExactLivingOnSpec)

/-- 'laws.FnExactIsDating', WHERE WHAT IT READS IS OF BULK AT MOST 1048576: true; the input reads as it did. -/
def fnExactIsDatingUptoRow : OpenClaim := { program := "ytggcpaiogliboaadoor", sum := "3f10280961472fd3446bbcfc6c8ce7691ff8feeaa2a5f99c430e310415b495b6", func := "loop.example/g01034/laws.FnExactIsDating", spec := "fnExactIsDating", inPlace := ["internal/bytealg.IndexByteString", "internal/bytealg.IndexString"], unfollowed := true, recurses := true, named := ["unicode/utf8.first", "unicode/utf8.acceptRanges", "internal/bytealg.MaxLen"], apart := false, laid := [("unicode/utf8.acceptRanges", laid_unicode_utf8_acceptRanges), ("unicode/utf8.first", laid_unicode_utf8_first)], narrowed := true }
def FnExactIsDatingUptoSaid : Prop := fnExactIsDatingUptoRow.holds Tryd.pinned (OpenSpec.upto fnExactIsDatingSpec)

/-- 'laws.FnExactIsConnected', WHERE WHAT IT READS IS OF BULK AT MOST 1048576: true; the input reads as it did. -/
def fnExactIsConnectedUptoRow : OpenClaim := { program := "ytggcpaiogliboaadoor", sum := "3f10280961472fd3446bbcfc6c8ce7691ff8feeaa2a5f99c430e310415b495b6", func := "loop.example/g01034/laws.FnExactIsConnected", spec := "fnExactIsConnected", inPlace := ["internal/bytealg.IndexByteString", "internal/bytealg.IndexString"], unfollowed := true, recurses := true, named := ["unicode/utf8.first", "unicode/utf8.acceptRanges", "internal/bytealg.MaxLen"], apart := false, laid := [("unicode/utf8.acceptRanges", laid_unicode_utf8_acceptRanges), ("unicode/utf8.first", laid_unicode_utf8_first)], narrowed := true }
def FnExactIsConnectedUptoSaid : Prop := fnExactIsConnectedUptoRow.holds Tryd.pinned (OpenSpec.upto fnExactIsConnectedSpec)

/-- 'laws.FnExactTravelDays', WHERE WHAT IT READS IS OF BULK AT MOST 1048576: true; the input reads as it did. -/
def fnExactTravelDaysUptoRow : OpenClaim := { program := "ytggcpaiogliboaadoor", sum := "3f10280961472fd3446bbcfc6c8ce7691ff8feeaa2a5f99c430e310415b495b6", func := "loop.example/g01034/laws.FnExactTravelDays", spec := "fnExactTravelDays", inPlace := ["internal/bytealg.IndexByteString", "internal/bytealg.IndexString"], unfollowed := true, recurses := true, named := ["unicode/utf8.first", "unicode/utf8.acceptRanges", "internal/bytealg.MaxLen"], apart := false, laid := [("unicode/utf8.acceptRanges", laid_unicode_utf8_acceptRanges), ("unicode/utf8.first", laid_unicode_utf8_first)], narrowed := true }
def FnExactTravelDaysUptoSaid : Prop := fnExactTravelDaysUptoRow.holds Tryd.pinned (OpenSpec.upto fnExactTravelDaysSpec)

/-- 'laws.FnExactFarthestPlace', WHERE WHAT IT READS IS OF BULK AT MOST 1048576: true; the input reads as it did. -/
def fnExactFarthestPlaceUptoRow : OpenClaim := { program := "ytggcpaiogliboaadoor", sum := "3f10280961472fd3446bbcfc6c8ce7691ff8feeaa2a5f99c430e310415b495b6", func := "loop.example/g01034/laws.FnExactFarthestPlace", spec := "fnExactFarthestPlace", inPlace := ["internal/bytealg.IndexByteString", "internal/bytealg.IndexString"], unfollowed := true, recurses := true, named := ["unicode/utf8.first", "unicode/utf8.acceptRanges", "internal/bytealg.MaxLen"], apart := false, laid := [("unicode/utf8.acceptRanges", laid_unicode_utf8_acceptRanges), ("unicode/utf8.first", laid_unicode_utf8_first)], narrowed := true }
def FnExactFarthestPlaceUptoSaid : Prop := fnExactFarthestPlaceUptoRow.holds Tryd.pinned (OpenSpec.upto fnExactFarthestPlaceSpec)

/-- 'laws.FnExactIsItinerary', WHERE WHAT IT READS IS OF BULK AT MOST 1048576: true; the input reads as it did. -/
def fnExactIsItineraryUptoRow : OpenClaim := { program := "ytggcpaiogliboaadoor", sum := "3f10280961472fd3446bbcfc6c8ce7691ff8feeaa2a5f99c430e310415b495b6", func := "loop.example/g01034/laws.FnExactIsItinerary", spec := "fnExactIsItinerary", inPlace := ["internal/bytealg.IndexByteString", "internal/bytealg.IndexString"], unfollowed := true, recurses := true, named := ["unicode/utf8.first", "unicode/utf8.acceptRanges", "internal/bytealg.MaxLen"], apart := false, laid := [("unicode/utf8.acceptRanges", laid_unicode_utf8_acceptRanges), ("unicode/utf8.first", laid_unicode_utf8_first)], narrowed := true }
def FnExactIsItineraryUptoSaid : Prop := fnExactIsItineraryUptoRow.holds Tryd.pinned (OpenSpec.upto fnExactIsItinerarySpec)

/-- 'laws.FnExactPlaceOn', WHERE WHAT IT READS IS OF BULK AT MOST 1048576: true; the input reads as it did. -/
def fnExactPlaceOnUptoRow : OpenClaim := { program := "ytggcpaiogliboaadoor", sum := "3f10280961472fd3446bbcfc6c8ce7691ff8feeaa2a5f99c430e310415b495b6", func := "loop.example/g01034/laws.FnExactPlaceOn", spec := "fnExactPlaceOn", inPlace := ["internal/bytealg.IndexByteString", "internal/bytealg.IndexString"], unfollowed := true, recurses := true, named := ["unicode/utf8.first", "unicode/utf8.acceptRanges", "internal/bytealg.MaxLen"], apart := false, laid := [("unicode/utf8.acceptRanges", laid_unicode_utf8_acceptRanges), ("unicode/utf8.first", laid_unicode_utf8_first)], narrowed := true }
def FnExactPlaceOnUptoSaid : Prop := fnExactPlaceOnUptoRow.holds Tryd.pinned (OpenSpec.upto fnExactPlaceOnSpec)

/-- 'laws.FnExactSlackAfter', WHERE WHAT IT READS IS OF BULK AT MOST 1048576: true; the input reads as it did. -/
def fnExactSlackAfterUptoRow : OpenClaim := { program := "ytggcpaiogliboaadoor", sum := "3f10280961472fd3446bbcfc6c8ce7691ff8feeaa2a5f99c430e310415b495b6", func := "loop.example/g01034/laws.FnExactSlackAfter", spec := "fnExactSlackAfter", inPlace := ["internal/bytealg.IndexByteString", "internal/bytealg.IndexString"], unfollowed := true, recurses := true, named := ["unicode/utf8.first", "unicode/utf8.acceptRanges", "internal/bytealg.MaxLen"], apart := false, laid := [("unicode/utf8.acceptRanges", laid_unicode_utf8_acceptRanges), ("unicode/utf8.first", laid_unicode_utf8_first)], narrowed := true }
def FnExactSlackAfterUptoSaid : Prop := fnExactSlackAfterUptoRow.holds Tryd.pinned (OpenSpec.upto fnExactSlackAfterSpec)

/-- 'laws.FnExactPlacesWithin', WHERE WHAT IT READS IS OF BULK AT MOST 1048576: true; the input reads as it did. -/
def fnExactPlacesWithinUptoRow : OpenClaim := { program := "ytggcpaiogliboaadoor", sum := "3f10280961472fd3446bbcfc6c8ce7691ff8feeaa2a5f99c430e310415b495b6", func := "loop.example/g01034/laws.FnExactPlacesWithin", spec := "fnExactPlacesWithin", inPlace := ["internal/bytealg.IndexByteString", "internal/bytealg.IndexString"], unfollowed := true, recurses := true, named := ["unicode/utf8.first", "unicode/utf8.acceptRanges", "internal/bytealg.MaxLen"], apart := false, laid := [("unicode/utf8.acceptRanges", laid_unicode_utf8_acceptRanges), ("unicode/utf8.first", laid_unicode_utf8_first)], narrowed := true }
def FnExactPlacesWithinUptoSaid : Prop := fnExactPlacesWithinUptoRow.holds Tryd.pinned (OpenSpec.upto fnExactPlacesWithinSpec)

/-- 'laws.FnExactUselessWays', WHERE WHAT IT READS IS OF BULK AT MOST 1048576: true; the input reads as it did. -/
def fnExactUselessWaysUptoRow : OpenClaim := { program := "ytggcpaiogliboaadoor", sum := "3f10280961472fd3446bbcfc6c8ce7691ff8feeaa2a5f99c430e310415b495b6", func := "loop.example/g01034/laws.FnExactUselessWays", spec := "fnExactUselessWays", inPlace := ["internal/bytealg.IndexByteString", "internal/bytealg.IndexString"], unfollowed := true, recurses := true, named := ["unicode/utf8.first", "unicode/utf8.acceptRanges", "internal/bytealg.MaxLen"], apart := false, laid := [("unicode/utf8.acceptRanges", laid_unicode_utf8_acceptRanges), ("unicode/utf8.first", laid_unicode_utf8_first)], narrowed := true }
def FnExactUselessWaysUptoSaid : Prop := fnExactUselessWaysUptoRow.holds Tryd.pinned (OpenSpec.upto fnExactUselessWaysSpec)

/-- 'laws.FnExactMarksText', WHERE WHAT IT READS IS OF BULK AT MOST 1048576: true; the input reads as it did. -/
def fnExactMarksTextUptoRow : OpenClaim := { program := "ytggcpaiogliboaadoor", sum := "3f10280961472fd3446bbcfc6c8ce7691ff8feeaa2a5f99c430e310415b495b6", func := "loop.example/g01034/laws.FnExactMarksText", spec := "fnExactMarksText", inPlace := ["internal/bytealg.IndexByteString", "internal/bytealg.IndexString", "internal/abi.NoEscape", "internal/bytealg.MakeNoZero"], recurses := true, named := ["unicode/utf8.first", "unicode/utf8.acceptRanges", "internal/strconv.uint64pow10", "math/bits.deBruijn32tab", "math/bits.deBruijn64tab", "internal/bytealg.MaxLen"], apart := false, laid := [("math/bits.deBruijn32tab", laid_math_bits_deBruijn32tab), ("math/bits.deBruijn64tab", laid_math_bits_deBruijn64tab), ("internal/strconv.uint64pow10", laid_internal_strconv_uint64pow10), ("unicode/utf8.acceptRanges", laid_unicode_utf8_acceptRanges), ("unicode/utf8.first", laid_unicode_utf8_first)], narrowed := true }
def FnExactMarksTextUptoSaid : Prop := fnExactMarksTextUptoRow.holds Tryd.pinned (OpenSpec.upto fnExactMarksTextSpec)

end Rows
end Go.Proofs.YtggcpaiogliboaaDoor
