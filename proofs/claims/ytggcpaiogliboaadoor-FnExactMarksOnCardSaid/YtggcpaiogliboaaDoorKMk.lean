/- Walks: markMarkS and heldMarkS. Printed by gen_mark.py. -/
import Derived.Test.YtggcpaiogliboaaDoorTMk
import Derived.Test.YtggcpaiogliboaaDoorMarkText
namespace Go.Proofs.YtggcpaiogliboaaDoor
open Go.ChangeShapes Go.WideShapes Go.ChangeAt Go.RowKit

def mkMk (q : Int) (i : Nat) : Mk := ⟨mtxt (q + i * 3), q + i * 3 + 1, q + i * 3 + 1 + 1⟩
def markedMk (n : Nat) (q : Int) : List Mk := (List.range n).map (mkMk q)
theorem markedMk_len (n : Nat) (q : Int) : (markedMk n q).length = n := by simp [markedMk]
theorem markedMk_succ (n : Nat) (q : Int) : markedMk (n + 1) q = markedMk n q ++ [mkMk q n] := by simp [markedMk, List.range_succ]
theorem markedMk_at {n k : Nat} (q : Int) (h : k < n) : (markedMk n q)[k]? = some (mkMk q k) := by simp [markedMk, h]
end Go.Proofs.YtggcpaiogliboaaDoor
