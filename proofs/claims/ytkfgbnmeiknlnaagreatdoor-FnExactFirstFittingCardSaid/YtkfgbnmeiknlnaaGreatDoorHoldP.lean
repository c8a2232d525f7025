/- When a clause holds on a day, and the next day on which it does; plain. -/
import Derived.Test.YtkfgbnmeiknlnaaGreatDoorCal
import Derived.Test.YtkfgbnmeiknlnaaGreatDoorTCl
import Derived.Test.YtkfgbnmeiknlnaaGreatDoorRgs
import Derived.Test.YtkfgbnmeiknlnaaGreatDoorClauseS
namespace Go.Proofs.YtkfgbnmeiknlnaaGreatDoor

def rgHit (c : Cl) (n : Int) (r : Rg) : Bool := (r.king.toList == c.king.toList) && (inB n r.fr r.to && decide (rgY r.fr n = c.number))
def holdB (rs : List Rg) (c : Cl) (n : Int) : Bool :=
  if c.kind = 0 then decide ((mnO n : Int) = c.month) && decide (dyO n = c.number)
  else if c.kind = 1 then fhO c.feast c.relation c.weekday n
  else if c.kind = 2 then rs.any (rgHit c n)
  else if c.kind = 3 then decide (yoO c.style n = some c.number)
  else if c.kind = 4 then decide (ioO c.style n = c.number)
  else decide ((n + 5) % 7 = c.weekday)
theorem holdB_0 {rs : List Rg} {c : Cl} {n : Int} (h : c.kind = 0) : holdB rs c n = (decide ((mnO n : Int) = c.month) && decide (dyO n = c.number)) := by unfold holdB; rw [if_pos h]
theorem holdB_1 {rs : List Rg} {c : Cl} {n : Int} (h : c.kind = 1) : holdB rs c n = fhO c.feast c.relation c.weekday n := by unfold holdB; rw [h]; rfl
theorem holdB_2 {rs : List Rg} {c : Cl} {n : Int} (h : c.kind = 2) : holdB rs c n = rs.any (rgHit c n) := by unfold holdB; rw [h]; rfl
theorem holdB_3 {rs : List Rg} {c : Cl} {n : Int} (h : c.kind = 3) : holdB rs c n = decide (yoO c.style n = some c.number) := by unfold holdB; rw [h]; rfl
theorem holdB_4 {rs : List Rg} {c : Cl} {n : Int} (h : c.kind = 4) : holdB rs c n = decide (ioO c.style n = c.number) := by unfold holdB; rw [h]; rfl
theorem holdB_5 {rs : List Rg} {c : Cl} {n : Int} (h : c.kind = 5) : holdB rs c n = decide ((n + 5) % 7 = c.weekday) := by unfold holdB; rw [h]; rfl
def nextN (n : Int) : Nat := (min (n + 20000) 730499 - n + 1).toNat
def nextR (rs : List Rg) (c : Cl) (n : Int) : Int × Int :=
  if okCl c = true ∧ areReignsB rs = true then
    if dayB n = true then match fstR (holdB rs c) n (nextN n) with
      | some m => (m, 0)
      | none => (0, 4)
    else (0, 2)
  else (0, 1)
end Go.Proofs.YtkfgbnmeiknlnaaGreatDoor
