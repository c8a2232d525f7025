/- Walks: markInt64S and heldInt64S. Printed by gen_mark.py. -/
import Derived.Test.YtggcpaiogliboaaDoorTI
import Derived.Test.YtggcpaiogliboaaDoorMarkText
namespace Go.Proofs.YtggcpaiogliboaaDoor
open Go.ChangeShapes Go.WideShapes Go.ChangeAt Go.RowKit

def mkI (q : Int) (i : Nat) : Int := (q + i : Int)
def markedI (n : Nat) (q : Int) : List Int := (List.range n).map (mkI q)
theorem markedI_len (n : Nat) (q : Int) : (markedI n q).length = n := by simp [markedI]
theorem markedI_succ (n : Nat) (q : Int) : markedI (n + 1) q = markedI n q ++ [mkI q n] := by simp [markedI, List.range_succ]
theorem markedI_at {n k : Nat} (q : Int) (h : k < n) : (markedI n q)[k]? = some (mkI q k) := by simp [markedI, h]
end Go.Proofs.YtggcpaiogliboaaDoor
