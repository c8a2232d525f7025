/- The world in which a statement of this seat is witnessed: the settled one, with the library's listed tables laid. -/
import Derived.Test.YtipdcgfdejmjfaaDoorOpen
import Derived.Test.YtipdcgfdejmjfaaDoorCards
import Derived.Test.YtipdcgfdejmjfaaDoorTie
import Derived.Lib.LaidTab
namespace Go.Proofs.YtipdcgfdejmjfaaDoor
open Go.ChangeShapes Go.WideShapes Go.ChangeAt Go.RowKit Go.Deep

/-- The cells of a table of numbers. -/
def cellsD : Nat → DataW Unit → List Value
  | 0, _ => []
  | _ + 1, .lit (.int k z) => [.int k z]
  | n + 1, .agg ds => ds.flatMap (cellsD n)
  | _, _ => []
def layBlock (cs : List Value) : Obj → Obj
  | .cells _ t fr => .cells cs.toArray t fr
  | o => o
noncomputable def laidWorld (os : Os) : World :=
  { World.holding Tryd.prog os ⟨#[], #[], []⟩ with heap := ((((((World.holding Tryd.prog os ⟨#[], #[], []⟩).heap.modify 1 (layBlock (cellsD 4 (Rows.laid_unicode_utf8_first : DataW Unit)))).modify 2 (layBlock (cellsD 4 (Rows.laid_unicode_utf8_acceptRanges : DataW Unit)))).modify 4 (layBlock (cellsD 4 (Rows.laid_math_bits_deBruijn32tab : DataW Unit)))).modify 5 (layBlock (cellsD 4 (Rows.laid_math_bits_deBruijn64tab : DataW Unit)))).modify 0 (layBlock (cellsD 4 (Rows.laid_internal_strconv_uint64pow10 : DataW Unit)))) }
/-- The list of tables that every row of this seat bears. -/
def laidList : List (String × DataW Unit) := [("math/bits.deBruijn32tab", Rows.laid_math_bits_deBruijn32tab), ("math/bits.deBruijn64tab", Rows.laid_math_bits_deBruijn64tab), ("internal/strconv.uint64pow10", Rows.laid_internal_strconv_uint64pow10), ("unicode/utf8.acceptRanges", Rows.laid_unicode_utf8_acceptRanges), ("unicode/utf8.first", Rows.laid_unicode_utf8_first)]
set_option maxRecDepth 100000
theorem laid_met (os : Os) (args : Array Value) : laidMet Tryd.prog laidList ((laidWorld os).forCall (fun _ _ => 0) ⟨#[], args, []⟩).memory :=
  laidMet_of_run' 8 (by kernel_rfl) (by kernel_rfl)
theorem wit_vars (os : Os) (args : Array Value) : ((laidWorld os).forCall (fun _ _ => 0) ⟨#[], args, []⟩).variablesB Tryd.prog = true := by kernel_rfl
theorem wit_rest (os : Os) (args : Array Value) : (((laidWorld os).forCall (fun _ _ => 0) ⟨#[], args, []⟩).heap.toList.drop Tryd.prog.globals.size).take ((begin Tryd.prog (fun _ _ => 0) default).world.heap.size - Tryd.prog.globals.size) =
    (begin Tryd.prog (fun _ _ => 0) default).world.heap.toList.drop Tryd.prog.globals.size := by kernel_rfl
theorem looksNot : false = Tryd.pinned.checked.prog.looks [] := by kernel_rfl
theorem mainIsThat : Tryd.pinned.checked.prog.mainIs = some (Rows.fnExactAddStayCard.stood.harness.1, Rows.fnExactAddStayCard.stood.harness.2.toList) := by kernel_rfl
theorem own : ownKnob Tryd.prog.godebug = none := by kernel_rfl
theorem laidOut : laidOutB Tryd.prog = true := by kernel_rfl
end Go.Proofs.YtipdcgfdejmjfaaDoor
