/- Walks: Way: rows, sizes, copies, a comparison with itself. Printed by gen_types.py. -/
import Derived.Test.YteajkofgcmfaoaaGreatDoorDays
namespace Go.Proofs.YteajkofgcmfaoaaGreatDoor
open Go.ChangeShapes Go.WideShapes Go.ChangeAt Go.RowKit

structure Wy where
  a : Int
  b : Int
  days : Int
def encWy (m : Wy) : List Value := [.int .i64 m.a, .int .i64 m.b, .int .i64 m.days]
theorem encWy_len (m : Wy) : (encWy m).length = 3 := rfl
theorem Rd.wy {w : World} {a : Option Addr} {xs : List Wy} (h : Rd encWy w a xs) {i : Nat} {m : Wy} (hi : xs[i]? = some m) :
    ∃ b off, a = some ⟨b, off, none⟩ ∧ b < w.heap.size ∧ w.cell? ⟨b, off + i * 3, none⟩ = some (.int .i64 m.a) ∧ w.cell? ⟨b, off + i * 3 + 1, none⟩ = some (.int .i64 m.b) ∧ w.cell? ⟨b, off + i * 3 + 2, none⟩ = some (.int .i64 m.days) := by
  obtain ⟨b, off, ha, hb, hc⟩ := h i m hi
  exact ⟨b, off, ha, hb, hc 0 _ rfl, hc 1 _ rfl, hc 2 _ rfl⟩
def goodWy (m : Wy) : Prop := (-9223372036854775808 ≤ m.a ∧ m.a ≤ 9223372036854775807) ∧ (-9223372036854775808 ≤ m.b ∧ m.b ≤ 9223372036854775807) ∧ (-9223372036854775808 ≤ m.days ∧ m.days ≤ 9223372036854775807)




















































































































end Go.Proofs.YteajkofgcmfaoaaGreatDoor
