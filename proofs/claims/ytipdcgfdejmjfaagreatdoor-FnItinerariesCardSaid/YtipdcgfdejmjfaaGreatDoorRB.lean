/- How a row of a list of bytes reads. -/
import Derived.Test.YtipdcgfdejmjfaaGreatDoorDrB
import Derived.Test.YtipdcgfdejmjfaaGreatDoorOpen
namespace Go.Proofs.YtipdcgfdejmjfaaGreatDoor
open Go.ChangeShapes Go.WideShapes Go.ChangeAt Go.RowKit Go.Deep
set_option maxRecDepth 100000
theorem row_B {H : Type} {enc0 : TypeId × Value → H} {w : World} {base : Nat} {spare : Nat → Bool} {held : Bool} (n : Nat) (cs : List Value) (y : DataW H × List MemPlace) (_ : cs.length = 1)
    (h : DataW.trod enc0 Tryz.prog w base spare held n 5 cs = some y) : ∃ x, goodB x ∧ cs = encB x := by
  obtain ⟨s, e, _, g⟩ := DataW.trod_int Tryz.underlying5 h
  exact ⟨s, by simpa [goodB, Lit.wf, IntKind.min, IntKind.max, IntKind.signed, IntKind.bits] using g, e⟩
end Go.Proofs.YtipdcgfdejmjfaaGreatDoor
