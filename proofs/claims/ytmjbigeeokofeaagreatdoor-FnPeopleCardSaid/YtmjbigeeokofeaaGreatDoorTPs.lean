/- Walks: markPersonS and heldPersonS. Printed by gen_mark.py. -/
import Derived.Test.YtmjbigeeokofeaaGreatDoorDays
import Derived.Test.YtmjbigeeokofeaaGreatDoorMarkText
namespace Go.Proofs.YtmjbigeeokofeaaGreatDoor
section
open Go.ChangeShapes Go.WideShapes Go.ChangeAt Go.RowKit

structure Ps where
  name : ByteArray
  fr : Int
  to : Int
def encPs (m : Ps) : List Value := [.string m.name, .int .i64 m.fr, .int .i64 m.to]
theorem encPs_len (m : Ps) : (encPs m).length = 3 := rfl
theorem Rd.ps {w : World} {a : Option Addr} {xs : List Ps} (h : Rd encPs w a xs) {i : Nat} {m : Ps} (hi : xs[i]? = some m) :
    ∃ b off, a = some ⟨b, off, none⟩ ∧ b < w.heap.size ∧ w.cell? ⟨b, off + i * 3, none⟩ = some (.string m.name) ∧ w.cell? ⟨b, off + i * 3 + 1, none⟩ = some (.int .i64 m.fr) ∧ w.cell? ⟨b, off + i * 3 + 2, none⟩ = some (.int .i64 m.to) := by
  obtain ⟨b, off, ha, hb, hc⟩ := h i m hi
  exact ⟨b, off, ha, hb, hc 0 _ rfl, hc 1 _ rfl, hc 2 _ rfl⟩
def goodPs (m : Ps) : Prop := m.name.size ≤ maxLen ∧ (-9223372036854775808 ≤ m.fr ∧ m.fr ≤ 9223372036854775807) ∧ (-9223372036854775808 ≤ m.to ∧ m.to ≤ 9223372036854775807)
def szPs (m : Ps) : Nat := m.name.size




































































theorem infoPs : (Tryz.prog.info? 110).map (fun i => (i.zero, i.size, i.bytes)) = some (some (.agg #[.string ⟨#[]⟩, .int .i64 0, .int .i64 0]), 3, 32) := by kernel_rfl






















































































end

section
open Go.ChangeShapes Go.WideShapes Go.ChangeAt Go.RowKit

def mkPs (q : Int) (i : Nat) : Ps := ⟨mtxt (q + i * 3), q + i * 3 + 1, q + i * 3 + 1 + 1⟩
def markedPs (n : Nat) (q : Int) : List Ps := (List.range n).map (mkPs q)
theorem markedPs_len (n : Nat) (q : Int) : (markedPs n q).length = n := by simp [markedPs]
theorem markedPs_succ (n : Nat) (q : Int) : markedPs (n + 1) q = markedPs n q ++ [mkPs q n] := by simp [markedPs, List.range_succ]
theorem markedPs_at {n k : Nat} (q : Int) (h : k < n) : (markedPs n q)[k]? = some (mkPs q k) := by simp [markedPs, h]








































































end
end Go.Proofs.YtmjbigeeokofeaaGreatDoor
