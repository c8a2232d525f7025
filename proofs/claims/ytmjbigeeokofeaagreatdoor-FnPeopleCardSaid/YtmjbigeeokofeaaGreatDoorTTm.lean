/- Walks: markTermS and heldTermS. Printed by gen_mark.py. -/
import Derived.Test.YtmjbigeeokofeaaGreatDoorDays
import Derived.Test.YtmjbigeeokofeaaGreatDoorMarkText
namespace Go.Proofs.YtmjbigeeokofeaaGreatDoor
section
open Go.ChangeShapes Go.WideShapes Go.ChangeAt Go.RowKit

structure Tm where
  office : ByteArray
  person : ByteArray
  fr : Int
  to : Int
def encTm (m : Tm) : List Value := [.string m.office, .string m.person, .int .i64 m.fr, .int .i64 m.to]
theorem encTm_len (m : Tm) : (encTm m).length = 4 := rfl
theorem Rd.tm {w : World} {a : Option Addr} {xs : List Tm} (h : Rd encTm w a xs) {i : Nat} {m : Tm} (hi : xs[i]? = some m) :
    ∃ b off, a = some ⟨b, off, none⟩ ∧ b < w.heap.size ∧ w.cell? ⟨b, off + i * 4, none⟩ = some (.string m.office) ∧ w.cell? ⟨b, off + i * 4 + 1, none⟩ = some (.string m.person) ∧ w.cell? ⟨b, off + i * 4 + 2, none⟩ = some (.int .i64 m.fr) ∧ w.cell? ⟨b, off + i * 4 + 3, none⟩ = some (.int .i64 m.to) := by
  obtain ⟨b, off, ha, hb, hc⟩ := h i m hi
  exact ⟨b, off, ha, hb, hc 0 _ rfl, hc 1 _ rfl, hc 2 _ rfl, hc 3 _ rfl⟩
def goodTm (m : Tm) : Prop := m.office.size ≤ maxLen ∧ m.person.size ≤ maxLen ∧ (-9223372036854775808 ≤ m.fr ∧ m.fr ≤ 9223372036854775807) ∧ (-9223372036854775808 ≤ m.to ∧ m.to ≤ 9223372036854775807)
def szTm (m : Tm) : Nat := m.office.size + m.person.size





































































theorem infoTm : (Tryz.prog.info? 105).map (fun i => (i.zero, i.size, i.bytes)) = some (some (.agg #[.string ⟨#[]⟩, .string ⟨#[]⟩, .int .i64 0, .int .i64 0]), 4, 48) := by kernel_rfl

























































































end

section
open Go.ChangeShapes Go.WideShapes Go.ChangeAt Go.RowKit

def mkTm (q : Int) (i : Nat) : Tm := ⟨mtxt (q + i * 4), mtxt (q + i * 4 + 1), q + i * 4 + 1 + 1, q + i * 4 + 1 + 1 + 1⟩
def markedTm (n : Nat) (q : Int) : List Tm := (List.range n).map (mkTm q)
theorem markedTm_len (n : Nat) (q : Int) : (markedTm n q).length = n := by simp [markedTm]
theorem markedTm_succ (n : Nat) (q : Int) : markedTm (n + 1) q = markedTm n q ++ [mkTm q n] := by simp [markedTm, List.range_succ]
theorem markedTm_at {n k : Nat} (q : Int) (h : k < n) : (markedTm n q)[k]? = some (mkTm q k) := by simp [markedTm, h]


















































































end
end Go.Proofs.YtmjbigeeokofeaaGreatDoor
