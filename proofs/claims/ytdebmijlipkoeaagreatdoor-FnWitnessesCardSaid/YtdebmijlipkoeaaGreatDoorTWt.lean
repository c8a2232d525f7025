/- Walks: Witness: rows, sizes, copies, a comparison with itself. Printed by gen_types.py. -/
import Derived.Test.YtdebmijlipkoeaaGreatDoorDays
namespace Go.Proofs.YtdebmijlipkoeaaGreatDoor
open Go.ChangeShapes Go.WideShapes Go.ChangeAt Go.RowKit

structure Wt where
  person : ByteArray
  office : ByteArray
def encWt (m : Wt) : List Value := [.string m.person, .string m.office]
theorem encWt_len (m : Wt) : (encWt m).length = 2 := rfl
theorem Rd.wt {w : World} {a : Option Addr} {xs : List Wt} (h : Rd encWt w a xs) {i : Nat} {m : Wt} (hi : xs[i]? = some m) :
    ∃ b off, a = some ⟨b, off, none⟩ ∧ b < w.heap.size ∧ w.cell? ⟨b, off + i * 2, none⟩ = some (.string m.person) ∧ w.cell? ⟨b, off + i * 2 + 1, none⟩ = some (.string m.office) := by
  obtain ⟨b, off, ha, hb, hc⟩ := h i m hi
  exact ⟨b, off, ha, hb, hc 0 _ rfl, hc 1 _ rfl⟩
def goodWt (m : Wt) : Prop := m.person.size ≤ maxLen ∧ m.office.size ≤ maxLen
def szWt (m : Wt) : Nat := m.person.size + m.office.size





































































theorem infoWt : (Tryz.prog.info? 110).map (fun i => (i.zero, i.size, i.bytes)) = some (some (.agg #[.string ⟨#[]⟩, .string ⟨#[]⟩]), 2, 32) := by kernel_rfl



















































































end Go.Proofs.YtdebmijlipkoeaaGreatDoor
