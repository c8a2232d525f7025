/- Walks: Reign: rows, sizes, copies, a comparison with itself. Printed by gen_types.py. -/
import Derived.Test.YteajkofgcmfaoaaGreatDoorTt
import Derived.Test.YteajkofgcmfaoaaGreatDoorDk
import Derived.Test.YteajkofgcmfaoaaGreatDoorRi
namespace Go.Proofs.YteajkofgcmfaoaaGreatDoor
section
open Go.ChangeShapes Go.WideShapes Go.ChangeAt Go.RowKit

theorem own_keepOther {B : Nat} {E : TypeId} {k n g c x : Nat} {xs : List Value} {w w' : World} (h : w.ownsRow B E k (.slice (some ⟨g, 0, none⟩) n c) n xs) (hg : w.grownBy w' (some x)) (hne : g ≠ x) : w'.ownsRow B E k (.slice (some ⟨g, 0, none⟩) n c) n xs :=
  h.kept hg (.inr (by simp [Value.ownBlock]; exact hne))
end

section
open Go.ChangeShapes Go.WideShapes Go.ChangeAt Go.RowKit

structure Rg where
  king : ByteArray
  fr : Int
  to : Int
def encRg (m : Rg) : List Value := [.string m.king, .int .i64 m.fr, .int .i64 m.to]
theorem encRg_len (m : Rg) : (encRg m).length = 3 := rfl
theorem Rd.rg {w : World} {a : Option Addr} {xs : List Rg} (h : Rd encRg w a xs) {i : Nat} {m : Rg} (hi : xs[i]? = some m) :
    ∃ b off, a = some ⟨b, off, none⟩ ∧ b < w.heap.size ∧ w.cell? ⟨b, off + i * 3, none⟩ = some (.string m.king) ∧ w.cell? ⟨b, off + i * 3 + 1, none⟩ = some (.int .i64 m.fr) ∧ w.cell? ⟨b, off + i * 3 + 2, none⟩ = some (.int .i64 m.to) := by
  obtain ⟨b, off, ha, hb, hc⟩ := h i m hi
  exact ⟨b, off, ha, hb, hc 0 _ rfl, hc 1 _ rfl, hc 2 _ rfl⟩
theorem infoRg : (Tryz.prog.info? 115).map (fun i => (i.zero, i.size, i.bytes)) = some (some (.agg #[.string ⟨#[]⟩, .int .i64 0, .int .i64 0]), 3, 32) := by kernel_rfl
end
end Go.Proofs.YteajkofgcmfaoaaGreatDoor
