/- Walks: the codes of a land and places. -/
import Derived.Test.YtihmacmieofbgaaGreatDoorLandSpec
import Derived.Test.YtihmacmieofbgaaGreatDoorLandImpl
import Derived.Test.YtihmacmieofbgaaGreatDoorFcheckLand1
import Derived.Test.YtihmacmieofbgaaGreatDoorBf
import Derived.Test.YtihmacmieofbgaaGreatDoorFw
namespace Go.Proofs.YtihmacmieofbgaaGreatDoor
open Go.ChangeShapes Go.WideShapes Go.ChangeAt Go.RowKit

def codeL (ps : List ByteArray) (ws : List Wy) (zs : List Int) : Int := if isLandB ps ws then (if zs.all (placeB ps.length) then 0 else 2) else 1
theorem landOk {ps : List ByteArray} {ws : List Wy} (h : isLandB ps ws = true) : OkWs ps.length ws ∧ 1 ≤ ps.length ∧ ps.length ≤ 12 ∧ ws.length ≤ 40 := by
  unfold isLandB at h
  simp only [Bool.and_eq_true, decide_eq_true_eq, List.all_eq_true] at h
  refine ⟨fun m hm => ?_, h.1.1.2, h.1.2, h.2⟩
  have h1 := h.1.1.1.2 m hm
  unfold okWy placeB inB at h1
  simp at h1
  refine ⟨m.a.toNat, m.b.toNat, by omega, by omega, by omega, by omega, by omega, by omega, by omega⟩
theorem place_nat {n : Nat} {z : Int} (h : placeB n z = true) : ∃ a : Nat, z = a ∧ a < n := by
  unfold placeB inB at h
  simp at h
  exact ⟨z.toNat, by omega, by omega⟩
theorem codeL_zero {ps : List ByteArray} {ws : List Wy} {zs : List Int} (h : codeL ps ws zs = 0) : isLandB ps ws = true ∧ zs.all (placeB ps.length) = true := by
  unfold codeL at h
  cases hA : isLandB ps ws
  · rw [hA] at h; simp at h
  · cases hB : zs.all (placeB ps.length)
    · rw [hA, hB] at h; simp at h
    · exact ⟨rfl, rfl⟩









































































theorem any_not_place (n : Nat) (zs : List Int) : (zs.any fun m => !placeB n m) = !zs.all (placeB n) := by
  induction zs with
  | nil => rfl
  | cons x xs ih => simp only [List.any_cons, List.all_cons, Bool.not_and, ih]























































end Go.Proofs.YtihmacmieofbgaaGreatDoor
