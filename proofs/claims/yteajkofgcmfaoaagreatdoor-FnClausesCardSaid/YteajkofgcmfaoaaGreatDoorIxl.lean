/- The numbers below a bound that a test takes. -/
import Derived.Test.YteajkofgcmfaoaaGreatDoorRowI
namespace Go.Proofs.YteajkofgcmfaoaaGreatDoor
open Go.ChangeShapes Go.WideShapes Go.ChangeAt Go.RowKit

/-- The numbers below k that a test takes. -/
def jxl (p : Nat → Bool) : Nat → List Int
  | 0 => []
  | k + 1 => if p k then jxl p k ++ [(k : Int)] else jxl p k
theorem jxl_len (p : Nat → Bool) : ∀ k, (jxl p k).length ≤ k
  | 0 => Nat.le_refl _
  | k + 1 => by
    have := jxl_len p k
    unfold jxl
    split
    · simp; exact this
    · omega
theorem jxl_yes {p : Nat → Bool} {k : Nat} (h : p k = true) : jxl p (k + 1) = jxl p k ++ [(k : Int)] := if_pos h
theorem jxl_no {p : Nat → Bool} {k : Nat} (h : p k = false) : jxl p (k + 1) = jxl p k := if_neg (by simp [h])
theorem formJ {w : World} {base : Nat} {e : TypeId} {k n : Nat} {v : Value} {xs : List Value} (h : w.ownsRow base e k v n xs) (hn : 0 < n) : ∃ g c, v = .slice (some ⟨g, 0, none⟩) n c := by
  rcases h.2 with ⟨h1, h2⟩ | ⟨g, c, _, e, _⟩
  · omega
  · exact ⟨_, c, e⟩
end Go.Proofs.YteajkofgcmfaoaaGreatDoor
