/- Walks: markPersonS and heldPersonS. Printed by gen_mark.py. -/
import Derived.Test.YtddjedbnikhjkaaDoorTPs
import Derived.Test.YtddjedbnikhjkaaDoorMarkText
namespace Go.Proofs.YtddjedbnikhjkaaDoor
open Go.ChangeShapes Go.WideShapes Go.ChangeAt Go.RowKit

def mkPs (q : Int) (i : Nat) : Ps := ⟨mtxt (q + i * 3), q + i * 3 + 1, q + i * 3 + 1 + 1⟩
def markedPs (n : Nat) (q : Int) : List Ps := (List.range n).map (mkPs q)
theorem markedPs_len (n : Nat) (q : Int) : (markedPs n q).length = n := by simp [markedPs]
theorem markedPs_succ (n : Nat) (q : Int) : markedPs (n + 1) q = markedPs n q ++ [mkPs q n] := by simp [markedPs, List.range_succ]
theorem markedPs_at {n k : Nat} (q : Int) (h : k < n) : (markedPs n q)[k]? = some (mkPs q k) := by simp [markedPs, h]
end Go.Proofs.YtddjedbnikhjkaaDoor
