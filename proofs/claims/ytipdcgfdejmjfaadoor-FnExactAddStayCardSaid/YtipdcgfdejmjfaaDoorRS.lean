/- How a row of a list of strings reads. -/
import Derived.Test.YtipdcgfdejmjfaaDoorTS
import Derived.Test.YtipdcgfdejmjfaaDoorOpen
namespace Go.Proofs.YtipdcgfdejmjfaaDoor
open Go.ChangeShapes Go.WideShapes Go.ChangeAt Go.RowKit Go.Deep
theorem row_S {H : Type} {enc0 : TypeId × Value → H} {w : World} {base : Nat} {spare : Nat → Bool} {held : Bool} (n : Nat) (cs : List Value) (y : DataW H × List MemPlace) (_ : cs.length = 1)
    (h : DataW.trod enc0 Tryd.prog w base spare held n 9 cs = some y) : ∃ x, goodS x ∧ cs = encS x := by
  obtain ⟨s, e, _, g⟩ := DataW.trod_string Tryd.underlying9 h
  exact ⟨s, g, e⟩
end Go.Proofs.YtipdcgfdejmjfaaDoor
