/- Walk: markLand. -/
import Derived.Test.YtipdcgfdejmjfaaGreatDoorTS
import Derived.Test.YtipdcgfdejmjfaaGreatDoorTWy
import Derived.Test.YtipdcgfdejmjfaaGreatDoorRowI
namespace Go.Proofs.YtipdcgfdejmjfaaGreatDoor
section
open Go.ChangeShapes Go.WideShapes Go.ChangeAt Go.RowKit

def szLand (xs0 : List ByteArray) (xs1 : List Wy) (left : Int) : Int := if szS ByteArray.size xs0 left < 0 then -1 else if clip ((szS ByteArray.size xs0 left) - xs1.length) < 0 then -1 else clip ((szS ByteArray.size xs0 left) - xs1.length)
theorem szLand_ok {xs0 : List ByteArray} {xs1 : List Wy} {left : Int} (h : ¬ szLand xs0 xs1 left < 0) : ¬ szS ByteArray.size xs0 left < 0 ∧ ¬ clip ((szS ByteArray.size xs0 left) - xs1.length) < 0 := by
  unfold szLand at h
  by_cases h0 : szS ByteArray.size xs0 left < 0
  · rw [if_pos h0] at h; omega
  · rw [if_neg h0] at h
    by_cases h1 : clip ((szS ByteArray.size xs0 left) - xs1.length) < 0
    · rw [if_pos h1] at h; omega
    · exact ⟨h0, h1⟩



































































































































end

section
open Go.ChangeShapes Go.WideShapes Go.ChangeAt Go.RowKit

theorem own_keepOther {B : Nat} {E : TypeId} {k n g c x : Nat} {xs : List Value} {w w' : World} (h : w.ownsRow B E k (.slice (some ⟨g, 0, none⟩) n c) n xs) (hg : w.grownBy w' (some x)) (hne : g ≠ x) : w'.ownsRow B E k (.slice (some ⟨g, 0, none⟩) n c) n xs :=
  h.kept hg (.inr (by simp [Value.ownBlock]; exact hne))



























end
end Go.Proofs.YtipdcgfdejmjfaaGreatDoor
