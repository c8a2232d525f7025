/- Walks: markSpanS and heldSpanS. Printed by gen_mark.py. -/
import Derived.Test.YtddjedbnikhjkaaDoorTSp
import Derived.Test.YtddjedbnikhjkaaDoorMarkText
namespace Go.Proofs.YtddjedbnikhjkaaDoor
open Go.ChangeShapes Go.WideShapes Go.ChangeAt Go.RowKit

def mkSp (q : Int) (i : Nat) : Sp := ⟨q + i * 2, q + i * 2 + 1⟩
def markedSp (n : Nat) (q : Int) : List Sp := (List.range n).map (mkSp q)
theorem markedSp_len (n : Nat) (q : Int) : (markedSp n q).length = n := by simp [markedSp]
theorem markedSp_succ (n : Nat) (q : Int) : markedSp (n + 1) q = markedSp n q ++ [mkSp q n] := by simp [markedSp, List.range_succ]
theorem markedSp_at {n k : Nat} (q : Int) (h : k < n) : (markedSp n q)[k]? = some (mkSp q k) := by simp [markedSp, h]
end Go.Proofs.YtddjedbnikhjkaaDoor
