/- Walks: Stay: rows, sizes, copies, a comparison with itself. Printed by gen_types.py. -/
import Derived.Test.YtipdcgfdejmjfaaGreatDoorDays
namespace Go.Proofs.YtipdcgfdejmjfaaGreatDoor
open Go.ChangeShapes Go.WideShapes Go.ChangeAt Go.RowKit

structure St where
  place : Int
  fr : Int
  to : Int
def encSt (m : St) : List Value := [.int .i64 m.place, .int .i64 m.fr, .int .i64 m.to]
theorem encSt_len (m : St) : (encSt m).length = 3 := rfl
theorem Rd.st {w : World} {a : Option Addr} {xs : List St} (h : Rd encSt w a xs) {i : Nat} {m : St} (hi : xs[i]? = some m) :
    ∃ b off, a = some ⟨b, off, none⟩ ∧ b < w.heap.size ∧ w.cell? ⟨b, off + i * 3, none⟩ = some (.int .i64 m.place) ∧ w.cell? ⟨b, off + i * 3 + 1, none⟩ = some (.int .i64 m.fr) ∧ w.cell? ⟨b, off + i * 3 + 2, none⟩ = some (.int .i64 m.to) := by
  obtain ⟨b, off, ha, hb, hc⟩ := h i m hi
  exact ⟨b, off, ha, hb, hc 0 _ rfl, hc 1 _ rfl, hc 2 _ rfl⟩
def goodSt (m : St) : Prop := (-9223372036854775808 ≤ m.place ∧ m.place ≤ 9223372036854775807) ∧ (-9223372036854775808 ≤ m.fr ∧ m.fr ≤ 9223372036854775807) ∧ (-9223372036854775808 ≤ m.to ∧ m.to ≤ 9223372036854775807)





























theorem infoSt : (Tryz.prog.info? 49).map (fun i => (i.zero, i.size, i.bytes)) = some (some (.agg #[.int .i64 0, .int .i64 0, .int .i64 0]), 3, 24) := by kernel_rfl






















































































end Go.Proofs.YtipdcgfdejmjfaaGreatDoor
