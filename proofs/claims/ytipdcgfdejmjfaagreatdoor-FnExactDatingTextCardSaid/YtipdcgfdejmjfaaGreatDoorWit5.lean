/- The world in which a statement of this seat is witnessed: the settled one, with the library's listed tables laid. -/
import Derived.Test.YtipdcgfdejmjfaaGreatDoorOpen
import Derived.Test.YtipdcgfdejmjfaaGreatDoorCards
import Derived.Test.YtipdcgfdejmjfaaGreatDoorTie
import Derived.Lib.LaidTab
namespace Go.Proofs.YtipdcgfdejmjfaaGreatDoor
open Go.ChangeShapes Go.WideShapes Go.ChangeAt Go.RowKit Go.Deep

/-- The cells of a table of numbers. -/
def cellsD : Nat → DataW Unit → List Value
  | 0, _ => []
  | _ + 1, .lit (.int k z) => [.int k z]
  | n + 1, .agg ds => ds.flatMap (cellsD n)
  | _, _ => []
def layBlock (cs : List Value) : Obj → Obj
  | .cells _ t fr => .cells cs.toArray t fr
  | o => o
noncomputable def laidWorld (os : Os) : World :=
  { World.holding Tryz.prog os ⟨#[], #[], []⟩ with heap := ((((((World.holding Tryz.prog os ⟨#[], #[], []⟩).heap.modify 2 (layBlock (cellsD 4 (Rows.laid_unicode_utf8_first : DataW Unit)))).modify 3 (layBlock (cellsD 4 (Rows.laid_unicode_utf8_acceptRanges : DataW Unit)))).modify 4 (layBlock (cellsD 4 (Rows.laid_math_bits_deBruijn32tab : DataW Unit)))).modify 5 (layBlock (cellsD 4 (Rows.laid_math_bits_deBruijn64tab : DataW Unit)))).modify 1 (layBlock (cellsD 4 (Rows.laid_internal_strconv_uint64pow10 : DataW Unit)))) }
/-- The list of tables that every row of this seat bears. -/
def laidList : List (String × DataW Unit) := [("math/bits.deBruijn32tab", Rows.laid_math_bits_deBruijn32tab), ("math/bits.deBruijn64tab", Rows.laid_math_bits_deBruijn64tab), ("internal/strconv.uint64pow10", Rows.laid_internal_strconv_uint64pow10), ("unicode/utf8.acceptRanges", Rows.laid_unicode_utf8_acceptRanges), ("unicode/utf8.first", Rows.laid_unicode_utf8_first)]
set_option maxRecDepth 100000
theorem laid_met (os : Os) (args : Array Value) : laidMet Tryz.prog laidList ((laidWorld os).forCall (fun _ _ => 0) ⟨#[], args, []⟩).memory :=
  laidMet_of_run' 8 (by kernel_rfl) (by kernel_rfl)
theorem wit_vars (os : Os) (args : Array Value) : ((laidWorld os).forCall (fun _ _ => 0) ⟨#[], args, []⟩).variablesB Tryz.prog = true := by kernel_rfl
theorem wit_rest (os : Os) (args : Array Value) : (((laidWorld os).forCall (fun _ _ => 0) ⟨#[], args, []⟩).heap.toList.drop Tryz.prog.globals.size).take ((begin Tryz.prog (fun _ _ => 0) default).world.heap.size - Tryz.prog.globals.size) =
    (begin Tryz.prog (fun _ _ => 0) default).world.heap.toList.drop Tryz.prog.globals.size := by kernel_rfl
theorem looksNot : false = Tryz.pinned.checked.prog.looks [] := by kernel_rfl
theorem mainIsThat : Tryz.pinned.checked.prog.mainIs = some (Rows.fnExactDatingTextCard.stood.harness.1, Rows.fnExactDatingTextCard.stood.harness.2.toList) := by kernel_rfl
theorem own : ownKnob Tryz.prog.godebug = none := by kernel_rfl
theorem laidOut : laidOutB Tryz.prog = true := by kernel_rfl
end Go.Proofs.YtipdcgfdejmjfaaGreatDoor
