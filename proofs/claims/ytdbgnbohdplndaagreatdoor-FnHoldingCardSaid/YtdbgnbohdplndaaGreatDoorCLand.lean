/- Walks: Land: sizes, copies, a comparison with itself. Printed by gen_comp.py. -/
import Derived.Test.YtdbgnbohdplndaaGreatDoorTS
import Derived.Test.YtdbgnbohdplndaaGreatDoorTWy
namespace Go.Proofs.YtdbgnbohdplndaaGreatDoor
open Go.ChangeShapes Go.WideShapes Go.ChangeAt Go.RowKit

def szLand (xs0 : List ByteArray) (xs1 : List Wy) (left : Int) : Int := if szS ByteArray.size xs0 left < 0 then -1 else if clip ((szS ByteArray.size xs0 left) - xs1.length) < 0 then -1 else clip ((szS ByteArray.size xs0 left) - xs1.length)
theorem szLand_ok {xs0 : List ByteArray} {xs1 : List Wy} {left : Int} (h : ¬ szLand xs0 xs1 left < 0) : ¬ szS ByteArray.size xs0 left < 0 ∧ ¬ clip ((szS ByteArray.size xs0 left) - xs1.length) < 0 := by
  unfold szLand at h
  by_cases h0 : szS ByteArray.size xs0 left < 0
  · rw [if_pos h0] at h; omega
  · rw [if_neg h0] at h
    by_cases h1 : clip ((szS ByteArray.size xs0 left) - xs1.length) < 0
    · rw [if_pos h1] at h; omega
    · exact ⟨h0, h1⟩



































































































































end Go.Proofs.YtdbgnbohdplndaaGreatDoor
