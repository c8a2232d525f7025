/- Walk: markPeople. -/
import Derived.Test.YtmjbigeeokofeaaGreatDoorTPs
import Derived.Test.YtmjbigeeokofeaaGreatDoorTTm
import Derived.Test.YtmjbigeeokofeaaGreatDoorRowI
namespace Go.Proofs.YtmjbigeeokofeaaGreatDoor
section
open Go.ChangeShapes Go.WideShapes Go.ChangeAt Go.RowKit

def szPeople (xs0 : List Ps) (xs1 : List Tm) (left : Int) : Int := if szS szPs xs0 left < 0 then -1 else if szS szTm xs1 (szS szPs xs0 left) < 0 then -1 else szS szTm xs1 (szS szPs xs0 left)
theorem szPeople_ok {xs0 : List Ps} {xs1 : List Tm} {left : Int} (h : ¬ szPeople xs0 xs1 left < 0) : ¬ szS szPs xs0 left < 0 ∧ ¬ szS szTm xs1 (szS szPs xs0 left) < 0 := by
  unfold szPeople at h
  by_cases h0 : szS szPs xs0 left < 0
  · rw [if_pos h0] at h; omega
  · rw [if_neg h0] at h
    by_cases h1 : szS szTm xs1 (szS szPs xs0 left) < 0
    · rw [if_pos h1] at h; omega
    · exact ⟨h0, h1⟩



































































































































end

section
open Go.ChangeShapes Go.WideShapes Go.ChangeAt Go.RowKit

theorem own_keepPp {B : Nat} {E : TypeId} {k n g c x : Nat} {xs : List Value} {w w' : World} (h : w.ownsRow B E k (.slice (some ⟨g, 0, none⟩) n c) n xs) (hg : w.grownBy w' (some x)) (hne : g ≠ x) : w'.ownsRow B E k (.slice (some ⟨g, 0, none⟩) n c) n xs :=
  h.kept hg (.inr (by simp [Value.ownBlock]; exact hne))



























end
end Go.Proofs.YtmjbigeeokofeaaGreatDoor
