/- Walks: markTermS and heldTermS. Printed by gen_mark.py. -/
import Derived.Test.YtddjedbnikhjkaaDoorTTm
import Derived.Test.YtddjedbnikhjkaaDoorMarkText
namespace Go.Proofs.YtddjedbnikhjkaaDoor
open Go.ChangeShapes Go.WideShapes Go.ChangeAt Go.RowKit

def mkTm (q : Int) (i : Nat) : Tm := ⟨mtxt (q + i * 4), mtxt (q + i * 4 + 1), q + i * 4 + 1 + 1, q + i * 4 + 1 + 1 + 1⟩
def markedTm (n : Nat) (q : Int) : List Tm := (List.range n).map (mkTm q)
theorem markedTm_len (n : Nat) (q : Int) : (markedTm n q).length = n := by simp [markedTm]
theorem markedTm_succ (n : Nat) (q : Int) : markedTm (n + 1) q = markedTm n q ++ [mkTm q n] := by simp [markedTm, List.range_succ]
theorem markedTm_at {n k : Nat} (q : Int) (h : k < n) : (markedTm n q)[k]? = some (mkTm q k) := by simp [markedTm, h]
end Go.Proofs.YtddjedbnikhjkaaDoor
