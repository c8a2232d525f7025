/- Walks: markStringS and heldStringS. Printed by gen_mark.py. -/
import Derived.Test.YtipdcgfdejmjfaaGreatDoorDays
import Derived.Test.YtipdcgfdejmjfaaGreatDoorMarkText
namespace Go.Proofs.YtipdcgfdejmjfaaGreatDoor
section
open Go.ChangeShapes Go.WideShapes Go.ChangeAt Go.RowKit

def encS (m : ByteArray) : List Value := [.string m]
theorem encS_len (m : ByteArray) : (encS m).length = 1 := rfl
def goodS (m : ByteArray) : Prop := m.size ≤ maxLen
theorem Rd.s {w : World} {a : Option Addr} {xs : List ByteArray} (h : Rd encS w a xs) {i : Nat} {m : ByteArray} (hi : xs[i]? = some m) :
    ∃ b off, a = some ⟨b, off, none⟩ ∧ b < w.heap.size ∧ w.cell? ⟨b, off + i, none⟩ = some (.string m) := by
  obtain ⟨b, off, ha, hb, hc⟩ := h i m hi
  have h0 := hc 0 _ rfl
  rw [encS_len, Nat.mul_one, Nat.add_zero] at h0
  exact ⟨b, off, ha, hb, h0⟩






































theorem infoS : (Tryz.prog.info? 9).map (fun i => (i.zero, i.size, i.bytes)) = some (some (.string ⟨#[]⟩), 1, 16) := by kernel_rfl












































































end

section
open Go.ChangeShapes Go.WideShapes Go.ChangeAt Go.RowKit

def mkS (q : Int) (i : Nat) : ByteArray := mtxt (q + i)
def markedS (n : Nat) (q : Int) : List ByteArray := (List.range n).map (mkS q)
theorem markedS_len (n : Nat) (q : Int) : (markedS n q).length = n := by simp [markedS]
theorem markedS_succ (n : Nat) (q : Int) : markedS (n + 1) q = markedS n q ++ [mkS q n] := by simp [markedS, List.range_succ]
theorem markedS_at {n k : Nat} (q : Int) (h : k < n) : (markedS n q)[k]? = some (mkS q k) := by simp [markedS, h]






























































end
end Go.Proofs.YtipdcgfdejmjfaaGreatDoor
