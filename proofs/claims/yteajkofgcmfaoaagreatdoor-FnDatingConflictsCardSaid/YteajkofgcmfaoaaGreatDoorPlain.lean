/- Plain facts on numbers, names and lists that the walks of this seat end in. No program in sight. -/
import Derived.Lib.SlTrimSet
import Derived.Lib.Strings
import GoSem.Op.String
namespace Go.Proofs.YteajkofgcmfaoaaGreatDoor

def inB (n lo hi : Int) : Bool := decide (lo ≤ n) && decide (n ≤ hi)
def dayB (n : Int) : Bool := inB n 0 730499
def spanB (f t : Int) : Bool := dayB f && dayB t && decide (f ≤ t)

theorem dayB_bd {n : Int} (h : dayB n = true) : 0 ≤ n ∧ n ≤ 730499 := by simpa [dayB, inB] using h
/-- A small letter. -/
def lowB (c : UInt8) : Bool := decide (97 ≤ (c.toNat : Int)) && decide ((c.toNat : Int) ≤ 122)
def letters : List UInt8 := [97, 98, 99, 100, 101, 102, 103, 104, 105, 106, 107, 108, 109, 110, 111, 112, 113, 114, 115, 116, 117, 118, 119, 120, 121, 122]
def allLow (l : List UInt8) : Bool := l.all lowB
def nameB (l : List UInt8) (most : Int) : Bool := allLow l && decide (1 ≤ (l.length : Int)) && decide ((l.length : Int) ≤ most)

theorem letters_lowB (c : UInt8) : letters.contains c = lowB c := by
  have h : ∀ n : Fin 256, letters.contains (UInt8.ofNat n.val) = (decide (97 ≤ (n.val : Int)) && decide ((n.val : Int) ≤ 122)) := by decide +kernel
  have := h ⟨c.toNat, c.toNat_lt⟩
  simpa [lowB] using this

theorem dropWhile_nil {α : Type} (p : α → Bool) (l : List α) : (l.dropWhile p).isEmpty = l.all p := by
  induction l with
  | nil => rfl
  | cons x l ih => by_cases h : p x = true <;> simp [h, ih]
theorem all_dropWhile {α : Type} (p : α → Bool) (l : List α) : (l.dropWhile p).all p = l.all p := by
  induction l with
  | nil => rfl
  | cons x l ih => by_cases h : p x = true <;> simp [h, ih]
theorem trimS_low (l : List UInt8) : (Lib.trimS l letters).isEmpty = allLow l := by
  unfold Lib.trimS Lib.trimLeftS Lib.trimRightS
  rw [dropWhile_nil, List.all_reverse, all_dropWhile, List.all_reverse]
  unfold allLow
  congr 1
  funext c
  exact letters_lowB c
theorem take_snoc (s : ByteArray) (k : Nat) (h : k < s.size) : s.data.toList.take (k + 1) = s.data.toList.take k ++ [s[k]] := by
  rw [List.take_succ_eq_append_getElem (by simpa using h)]; rfl
theorem allLow_snoc (l : List UInt8) (c : UInt8) : allLow (l ++ [c]) = (allLow l && lowB c) := by simp [allLow]
/-! ### The order of names -/
end Go.Proofs.YteajkofgcmfaoaaGreatDoor
