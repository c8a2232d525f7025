/- The index of the first that a test takes. Printed by gen_fidx.py. -/
import Derived.Test.YtipdcgfdejmjfaaGreatDoorBase
namespace Go.Proofs.YtipdcgfdejmjfaaGreatDoor
def fidx {α : Type} (p : α → Bool) : List α → Nat → Int
  | [], _ => -1
  | x :: xs, i => if p x then i else fidx p xs (i + 1)
theorem fidx_drop {α : Type} (p : α → Bool) {xs : List α} {x : α} (k i : Nat) (h : xs[k]? = some x) : fidx p (xs.drop k) i = if p x then (i : Int) else fidx p (xs.drop (k + 1)) (i + 1) := by
  obtain ⟨hk, rfl⟩ := List.getElem?_eq_some_iff.1 h
  rw [List.drop_eq_getElem_cons hk]
  rfl
theorem fidx_bd {α : Type} (p : α → Bool) : ∀ (xs : List α) (i : Nat), fidx p xs i = -1 ∨ ∃ k x, fidx p xs i = (i + k : Nat) ∧ k < xs.length ∧ xs[k]? = some x ∧ p x = true
  | [], _ => .inl rfl
  | x :: xs, i => by
    unfold fidx
    by_cases h : p x = true
    · rw [if_pos h]; exact .inr ⟨0, x, rfl, by simp, rfl, h⟩
    · rw [if_neg h]
      rcases fidx_bd p xs (i + 1) with e | ⟨k, y, e, hk, hy, hp⟩
      · exact .inl e
      · exact .inr ⟨k + 1, y, by rw [e]; congr 1; omega, by simp; omega, by simpa using hy, hp⟩
theorem fidx_any {α : Type} (p : α → Bool) (xs : List α) : decide (0 ≤ fidx p xs 0) = xs.any p := by
  suffices h : ∀ (xs : List α) (i : Nat), decide (0 ≤ fidx p xs i) = xs.any p from h xs 0
  intro xs
  induction xs with
  | nil => intro i; rfl
  | cons x xs ih =>
    intro i
    unfold fidx
    by_cases h : p x = true
    · rw [if_pos h]; simp [h]
    · rw [if_neg h, ih]; simp [h]
theorem all_drop {α : Type} (p : α → Bool) {xs : List α} {k : Nat} {x : α} (h : xs[k]? = some x) : (xs.drop k).all p = (p x && (xs.drop (k + 1)).all p) := by
  obtain ⟨hk, rfl⟩ := List.getElem?_eq_some_iff.1 h
  rw [List.drop_eq_getElem_cons hk]
  rfl
/-- A function's own box at the bottom of what it made. -/
structure At (w : World) (box : List Value) (wr : World) : Prop where
  below : RowKit.Below w.heap.size w wr
  size : w.heap.size < wr.heap.size
  cell : ∀ j v, box[j]? = some v → wr.cell? ⟨w.heap.size, j, none⟩ = some v
theorem At.start (w : World) (box : List Value) (T : TypeId) : At w box (w.alloc (.cells box.toArray T)) :=
  ⟨(RowKit.Below.refl _ w).alloc (Nat.le_refl _) _, by simp, fun j v h => by rw [World.cell?_alloc_at _ _ _ _ rfl]; simpa using h⟩
theorem At.step {w : World} {box : List Value} {wr w' : World} (h : At w box wr) (hB : RowKit.Below wr.heap.size wr w') : At w box w' :=
  ⟨stepB h.below hB h.below.size, Nat.lt_of_lt_of_le h.size hB.size, fun j v hv => (hB.cell (p := ⟨w.heap.size, j, none⟩) h.size).trans (h.cell j v hv)⟩
end Go.Proofs.YtipdcgfdejmjfaaGreatDoor
