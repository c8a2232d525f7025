/- Walks: Reign: rows, sizes, copies, a comparison with itself. Printed by gen_types.py. -/
import Derived.Test.YteajkofgcmfaoaaGreatDoorTWy
import Derived.Test.YteajkofgcmfaoaaGreatDoorMarkText
import Derived.Test.YteajkofgcmfaoaaGreatDoorTS
import Derived.Test.YteajkofgcmfaoaaGreatDoorRowI
import Derived.Test.YteajkofgcmfaoaaGreatDoorDays
namespace Go.Proofs.YteajkofgcmfaoaaGreatDoor
section
open Go.ChangeShapes Go.WideShapes Go.ChangeAt Go.RowKit

def mkWy (q : Int) (i : Nat) : Wy := ⟨q + i * 3, q + i * 3 + 1, q + i * 3 + 1 + 1⟩
def markedWy (n : Nat) (q : Int) : List Wy := (List.range n).map (mkWy q)
theorem markedWy_len (n : Nat) (q : Int) : (markedWy n q).length = n := by simp [markedWy]
theorem markedWy_succ (n : Nat) (q : Int) : markedWy (n + 1) q = markedWy n q ++ [mkWy q n] := by simp [markedWy, List.range_succ]
theorem markedWy_at {n k : Nat} (q : Int) (h : k < n) : (markedWy n q)[k]? = some (mkWy q k) := by simp [markedWy, h]



































































end

section
open Go.ChangeShapes Go.WideShapes Go.ChangeAt Go.RowKit

def mkS (q : Int) (i : Nat) : ByteArray := mtxt (q + i)
def markedS (n : Nat) (q : Int) : List ByteArray := (List.range n).map (mkS q)
theorem markedS_len (n : Nat) (q : Int) : (markedS n q).length = n := by simp [markedS]
theorem markedS_succ (n : Nat) (q : Int) : markedS (n + 1) q = markedS n q ++ [mkS q n] := by simp [markedS, List.range_succ]
theorem markedS_at {n k : Nat} (q : Int) (h : k < n) : (markedS n q)[k]? = some (mkS q k) := by simp [markedS, h]






























































end

section
open Go.ChangeShapes Go.WideShapes Go.ChangeAt Go.RowKit

def szLand (xs0 : List ByteArray) (xs1 : List Wy) (left : Int) : Int := if szS ByteArray.size xs0 left < 0 then -1 else if clip ((szS ByteArray.size xs0 left) - xs1.length) < 0 then -1 else clip ((szS ByteArray.size xs0 left) - xs1.length)
theorem szLand_ok {xs0 : List ByteArray} {xs1 : List Wy} {left : Int} (h : ¬ szLand xs0 xs1 left < 0) : ¬ szS ByteArray.size xs0 left < 0 ∧ ¬ clip ((szS ByteArray.size xs0 left) - xs1.length) < 0 := by
  unfold szLand at h
  by_cases h0 : szS ByteArray.size xs0 left < 0
  · rw [if_pos h0] at h; omega
  · rw [if_neg h0] at h
    by_cases h1 : clip ((szS ByteArray.size xs0 left) - xs1.length) < 0
    · rw [if_pos h1] at h; omega
    · exact ⟨h0, h1⟩



































































































































end

section
open Go.ChangeShapes Go.WideShapes Go.ChangeAt Go.RowKit

theorem own_keepOther {B : Nat} {E : TypeId} {k n g c x : Nat} {xs : List Value} {w w' : World} (h : w.ownsRow B E k (.slice (some ⟨g, 0, none⟩) n c) n xs) (hg : w.grownBy w' (some x)) (hne : g ≠ x) : w'.ownsRow B E k (.slice (some ⟨g, 0, none⟩) n c) n xs :=
  h.kept hg (.inr (by simp [Value.ownBlock]; exact hne))



























end

section
open Go.ChangeShapes Go.WideShapes Go.ChangeAt Go.RowKit

structure Rg where
  king : ByteArray
  fr : Int
  to : Int
def encRg (m : Rg) : List Value := [.string m.king, .int .i64 m.fr, .int .i64 m.to]
theorem encRg_len (m : Rg) : (encRg m).length = 3 := rfl
theorem Rd.rg {w : World} {a : Option Addr} {xs : List Rg} (h : Rd encRg w a xs) {i : Nat} {m : Rg} (hi : xs[i]? = some m) :
    ∃ b off, a = some ⟨b, off, none⟩ ∧ b < w.heap.size ∧ w.cell? ⟨b, off + i * 3, none⟩ = some (.string m.king) ∧ w.cell? ⟨b, off + i * 3 + 1, none⟩ = some (.int .i64 m.fr) ∧ w.cell? ⟨b, off + i * 3 + 2, none⟩ = some (.int .i64 m.to) := by
  obtain ⟨b, off, ha, hb, hc⟩ := h i m hi
  exact ⟨b, off, ha, hb, hc 0 _ rfl, hc 1 _ rfl, hc 2 _ rfl⟩
def goodRg (m : Rg) : Prop := m.king.size ≤ maxLen ∧ (-9223372036854775808 ≤ m.fr ∧ m.fr ≤ 9223372036854775807) ∧ (-9223372036854775808 ≤ m.to ∧ m.to ≤ 9223372036854775807)
def szRg (m : Rg) : Nat := m.king.size




































































theorem infoRg : (Tryz.prog.info? 115).map (fun i => (i.zero, i.size, i.bytes)) = some (some (.agg #[.string ⟨#[]⟩, .int .i64 0, .int .i64 0]), 3, 32) := by kernel_rfl






















































































end
end Go.Proofs.YteajkofgcmfaoaaGreatDoor
