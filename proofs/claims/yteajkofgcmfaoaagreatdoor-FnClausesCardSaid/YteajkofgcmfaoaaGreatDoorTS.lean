/- Walks: lists of string: rows, sizes, copies, a comparison with itself. Printed by gen_one.py. -/
import Derived.Test.YteajkofgcmfaoaaGreatDoorDays
namespace Go.Proofs.YteajkofgcmfaoaaGreatDoor
open Go.ChangeShapes Go.WideShapes Go.ChangeAt Go.RowKit

def encS (m : ByteArray) : List Value := [.string m]
theorem encS_len (m : ByteArray) : (encS m).length = 1 := rfl
def goodS (m : ByteArray) : Prop := m.size ≤ maxLen
theorem Rd.s {w : World} {a : Option Addr} {xs : List ByteArray} (h : Rd encS w a xs) {i : Nat} {m : ByteArray} (hi : xs[i]? = some m) :
    ∃ b off, a = some ⟨b, off, none⟩ ∧ b < w.heap.size ∧ w.cell? ⟨b, off + i, none⟩ = some (.string m) := by
  obtain ⟨b, off, ha, hb, hc⟩ := h i m hi
  have h0 := hc 0 _ rfl
  rw [encS_len, Nat.mul_one, Nat.add_zero] at h0
  exact ⟨b, off, ha, hb, h0⟩






































theorem infoS : (Tryz.prog.info? 9).map (fun i => (i.zero, i.size, i.bytes)) = some (some (.string ⟨#[]⟩), 1, 16) := by kernel_rfl












































































end Go.Proofs.YteajkofgcmfaoaaGreatDoor
