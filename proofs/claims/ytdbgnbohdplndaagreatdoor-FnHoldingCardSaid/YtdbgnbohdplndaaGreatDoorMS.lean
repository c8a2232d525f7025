/- Walks: markStringS and heldStringS. Printed by gen_mark.py. -/
import Derived.Test.YtdbgnbohdplndaaGreatDoorTS
import Derived.Test.YtdbgnbohdplndaaGreatDoorMarkText
namespace Go.Proofs.YtdbgnbohdplndaaGreatDoor
open Go.ChangeShapes Go.WideShapes Go.ChangeAt Go.RowKit

def mkS (q : Int) (i : Nat) : ByteArray := mtxt (q + i)
def markedS (n : Nat) (q : Int) : List ByteArray := (List.range n).map (mkS q)
theorem markedS_len (n : Nat) (q : Int) : (markedS n q).length = n := by simp [markedS]
theorem markedS_succ (n : Nat) (q : Int) : markedS (n + 1) q = markedS n q ++ [mkS q n] := by simp [markedS, List.range_succ]
theorem markedS_at {n k : Nat} (q : Int) (h : k < n) : (markedS n q)[k]? = some (mkS q k) := by simp [markedS, h]






























































end Go.Proofs.YtdbgnbohdplndaaGreatDoor
