/- Walk: markLand. -/
import Derived.Test.YtdbgnbohdplndaaGreatDoorMWy
import Derived.Test.YtdbgnbohdplndaaGreatDoorMS
import Derived.Test.YtdbgnbohdplndaaGreatDoorRowI
import Derived.Test.YtdbgnbohdplndaaGreatDoorCLand
namespace Go.Proofs.YtdbgnbohdplndaaGreatDoor
open Go.ChangeShapes Go.WideShapes Go.ChangeAt Go.RowKit

theorem own_keepOther {B : Nat} {E : TypeId} {k n g c x : Nat} {xs : List Value} {w w' : World} (h : w.ownsRow B E k (.slice (some ⟨g, 0, none⟩) n c) n xs) (hg : w.grownBy w' (some x)) (hne : g ≠ x) : w'.ownsRow B E k (.slice (some ⟨g, 0, none⟩) n c) n xs :=
  h.kept hg (.inr (by simp [Value.ownBlock]; exact hne))



























end Go.Proofs.YtdbgnbohdplndaaGreatDoor
