/- Walks: markWayS and heldWayS. Printed by gen_mark.py. -/
import Derived.Test.YtdbgnbohdplndaaGreatDoorTWy
import Derived.Test.YtdbgnbohdplndaaGreatDoorMarkText
namespace Go.Proofs.YtdbgnbohdplndaaGreatDoor
open Go.ChangeShapes Go.WideShapes Go.ChangeAt Go.RowKit

def mkWy (q : Int) (i : Nat) : Wy := ⟨q + i * 3, q + i * 3 + 1, q + i * 3 + 1 + 1⟩
def markedWy (n : Nat) (q : Int) : List Wy := (List.range n).map (mkWy q)
theorem markedWy_len (n : Nat) (q : Int) : (markedWy n q).length = n := by simp [markedWy]
theorem markedWy_succ (n : Nat) (q : Int) : markedWy (n + 1) q = markedWy n q ++ [mkWy q n] := by simp [markedWy, List.range_succ]
theorem markedWy_at {n k : Nat} (q : Int) (h : k < n) : (markedWy n q)[k]? = some (mkWy q k) := by simp [markedWy, h]



































































end Go.Proofs.YtdbgnbohdplndaaGreatDoor
