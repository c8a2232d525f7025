/- Walks: Span: rows, sizes, copies, a comparison with itself. Printed by gen_types.py. -/
import Derived.Test.YteajkofgcmfaoaaGreatDoorDays
namespace Go.Proofs.YteajkofgcmfaoaaGreatDoor
open Go.ChangeShapes Go.WideShapes Go.ChangeAt Go.RowKit

structure Sp where
  fr : Int
  to : Int
def encSp (m : Sp) : List Value := [.int .i64 m.fr, .int .i64 m.to]
theorem encSp_len (m : Sp) : (encSp m).length = 2 := rfl
theorem Rd.sp {w : World} {a : Option Addr} {xs : List Sp} (h : Rd encSp w a xs) {i : Nat} {m : Sp} (hi : xs[i]? = some m) :
    ∃ b off, a = some ⟨b, off, none⟩ ∧ b < w.heap.size ∧ w.cell? ⟨b, off + i * 2, none⟩ = some (.int .i64 m.fr) ∧ w.cell? ⟨b, off + i * 2 + 1, none⟩ = some (.int .i64 m.to) := by
  obtain ⟨b, off, ha, hb, hc⟩ := h i m hi
  exact ⟨b, off, ha, hb, hc 0 _ rfl, hc 1 _ rfl⟩
def goodSp (m : Sp) : Prop := (-9223372036854775808 ≤ m.fr ∧ m.fr ≤ 9223372036854775807) ∧ (-9223372036854775808 ≤ m.to ∧ m.to ≤ 9223372036854775807)





























theorem infoSp : (Tryz.prog.info? 126).map (fun i => (i.zero, i.size, i.bytes)) = some (some (.agg #[.int .i64 0, .int .i64 0]), 2, 16) := by kernel_rfl



















































































end Go.Proofs.YteajkofgcmfaoaaGreatDoor
