/- Walks: lists of int64: rows, sizes, copies, a comparison with itself. Printed by gen_one.py. -/
import Derived.Test.YteajkofgcmfaoaaGreatDoorDays
namespace Go.Proofs.YteajkofgcmfaoaaGreatDoor
open Go.ChangeShapes Go.WideShapes Go.ChangeAt Go.RowKit

def encI (m : Int) : List Value := [.int .i64 m]
theorem encI_len (m : Int) : (encI m).length = 1 := rfl
def goodI (m : Int) : Prop := (-9223372036854775808 ≤ m ∧ m ≤ 9223372036854775807)
theorem Rd.i {w : World} {a : Option Addr} {xs : List Int} (h : Rd encI w a xs) {i : Nat} {m : Int} (hi : xs[i]? = some m) :
    ∃ b off, a = some ⟨b, off, none⟩ ∧ b < w.heap.size ∧ w.cell? ⟨b, off + i, none⟩ = some (.int .i64 m) := by
  obtain ⟨b, off, ha, hb, hc⟩ := h i m hi
  have h0 := hc 0 _ rfl
  rw [encI_len, Nat.mul_one, Nat.add_zero] at h0
  exact ⟨b, off, ha, hb, h0⟩





































end Go.Proofs.YteajkofgcmfaoaaGreatDoor
