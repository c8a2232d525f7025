/- Boxes of cells that are one's own. -/
import Derived.Test.YtjklileooiepmaaGreatDoorBase
namespace Go.Proofs.YtjklileooiepmaaGreatDoor
section
def fidx {α : Type} (p : α → Bool) : List α → Nat → Int
  | [], _ => -1
  | x :: xs, i => if p x then i else fidx p xs (i + 1)
theorem fidx_drop {α : Type} (p : α → Bool) {xs : List α} {x : α} (k i : Nat) (h : xs[k]? = some x) : fidx p (xs.drop k) i = if p x then (i : Int) else fidx p (xs.drop (k + 1)) (i + 1) := by
  obtain ⟨hk, rfl⟩ := List.getElem?_eq_some_iff.1 h
  rw [List.drop_eq_getElem_cons hk]
  rfl
theorem fidx_bd {α : Type} (p : α → Bool) : ∀ (xs : List α) (i : Nat), fidx p xs i = -1 ∨ ∃ k x, fidx p xs i = (i + k : Nat) ∧ k < xs.length ∧ xs[k]? = some x ∧ p x = true
  | [], _ => .inl rfl
  | x :: xs, i => by
    unfold fidx
    by_cases h : p x = true
    · rw [if_pos h]; exact .inr ⟨0, x, rfl, by simp, rfl, h⟩
    · rw [if_neg h]
      rcases fidx_bd p xs (i + 1) with e | ⟨k, y, e, hk, hy, hp⟩
      · exact .inl e
      · exact .inr ⟨k + 1, y, by rw [e]; congr 1; omega, by simp; omega, by simpa using hy, hp⟩
theorem fidx_any {α : Type} (p : α → Bool) (xs : List α) : decide (0 ≤ fidx p xs 0) = xs.any p := by
  suffices h : ∀ (xs : List α) (i : Nat), decide (0 ≤ fidx p xs i) = xs.any p from h xs 0
  intro xs
  induction xs with
  | nil => intro i; rfl
  | cons x xs ih =>
    intro i
    unfold fidx
    by_cases h : p x = true
    · rw [if_pos h]; simp [h]
    · rw [if_neg h, ih]; simp [h]
theorem all_drop {α : Type} (p : α → Bool) {xs : List α} {k : Nat} {x : α} (h : xs[k]? = some x) : (xs.drop k).all p = (p x && (xs.drop (k + 1)).all p) := by
  obtain ⟨hk, rfl⟩ := List.getElem?_eq_some_iff.1 h
  rw [List.drop_eq_getElem_cons hk]
  rfl
/-- A function's own box at the bottom of what it made. -/
structure At (w : World) (box : List Value) (wr : World) : Prop where
  below : RowKit.Below w.heap.size w wr
  size : w.heap.size < wr.heap.size
  cell : ∀ j v, box[j]? = some v → wr.cell? ⟨w.heap.size, j, none⟩ = some v
theorem At.start (w : World) (box : List Value) (T : TypeId) : At w box (w.alloc (.cells box.toArray T)) :=
  ⟨(RowKit.Below.refl _ w).alloc (Nat.le_refl _) _, by simp, fun j v h => by rw [World.cell?_alloc_at _ _ _ _ rfl]; simpa using h⟩
theorem At.step {w : World} {box : List Value} {wr w' : World} (h : At w box wr) (hB : RowKit.Below wr.heap.size wr w') : At w box w' :=
  ⟨stepB h.below hB h.below.size, Nat.lt_of_lt_of_le h.size hB.size, fun j v hv => (hB.cell (p := ⟨w.heap.size, j, none⟩) h.size).trans (h.cell j v hv)⟩
end

section
open Go.ChangeShapes Go.WideShapes Go.ChangeAt Go.RowKit

/-- The cells of block g, which is one's own, are xs. -/
def Box (B : Nat) (w : World) (T : TypeId) (g : Nat) (xs : List Value) : Prop := w.ownsRow B T 1 (.slice (some ⟨g, 0, none⟩) xs.length xs.length) xs.length xs
theorem Box.lt {B : Nat} {w : World} {T : TypeId} {g : Nat} {xs : List Value} (h : Box B w T g xs) : B ≤ g ∧ g < w.heap.size := own_lt h
theorem Box.cell {B : Nat} {w : World} {T : TypeId} {g : Nat} {xs : List Value} (h : Box B w T g xs) (i : Nat) (v : Value) (hi : xs[i]? = some v) : w.cell? ⟨g, i, none⟩ = some v := by
  have hl := (List.getElem?_eq_some_iff.1 hi).1
  have := World.ownsRow.cellAt h i (by omega)
  rw [this]
  simpa using hi
theorem Box.below {B : Nat} {w w' : World} {T : TypeId} {g : Nat} {xs : List Value} (h : Box B w T g xs) (hB : Below w.heap.size w w') : Box B w' T g xs := own_below h hB
theorem Box.put {B : Nat} {w : World} {T : TypeId} {g i : Nat} {pre post : List Value} {x : Value} (h : Box B w T g (pre ++ x :: post)) (hi : i = pre.length) (v : Value) :
    Box B (w.setCell ⟨g, i, none⟩ v) T g (pre ++ v :: post) ∧ w.grownBy (w.setCell ⟨g, i, none⟩ v) (some g) := by
  have hp := own_put h hi v
  have e : (pre ++ x :: post).length = (pre ++ v :: post).length := by simp
  refine ⟨?_, hp.2⟩
  have := hp.1
  rw [e, List.append_assoc] at this
  exact this
theorem Box.keep {B : Nat} {w w' : World} {T : TypeId} {g x : Nat} {xs : List Value} (h : Box B w T g xs) (hg : w.grownBy w' (some x)) (hne : g ≠ x) : Box B w' T g xs :=
  World.ownsRow.kept h hg (.inr (by simp [Value.ownBlock]; exact hne))
theorem Box.new (w : World) (T : TypeId) (xs : List Value) (B : Nat) (hB : B ≤ w.heap.size) (hl : xs.length ≤ 9223372036854775807) : Box B (w.alloc (.cells xs.toArray T)) T w.heap.size xs :=
  ⟨by simp, .inr ⟨w.heap.size, xs.length, xs.toArray, rfl, hB, heap_alloc_new _ _, Nat.le_refl _, hl, by simp, by simp⟩⟩
theorem Box.put2 {B : Nat} {w : World} {T : TypeId} {g : Nat} {x y : Value} (h : Box B w T g [x, y]) (a b : Value) :
    Box B ((w.setCell ⟨g, 0, none⟩ a).setCell ⟨g, 1, none⟩ b) T g [a, b] ∧ w.grownBy ((w.setCell ⟨g, 0, none⟩ a).setCell ⟨g, 1, none⟩ b) (some g) := by
  have h1 := Box.put (i := 0) (pre := []) (post := [y]) h rfl a
  have h2 := Box.put (i := 1) (pre := [a]) (post := []) h1.1 rfl b
  have G : ∀ {u v s : World}, u.grownBy v (some g) → v.grownBy s (some g) → u.grownBy s (some g) := fun p q =>
    ⟨q.os.trans p.os, q.tape.trans p.tape, q.output.trans p.output, Nat.le_trans p.size q.size, fun j hj hne => (q.block j (Nat.lt_of_lt_of_le hj p.size) hne).trans (p.block j hj hne)⟩
  exact ⟨h2.1, G h1.2 h2.2⟩
theorem Box.put3 {B : Nat} {w : World} {T : TypeId} {g : Nat} {x y z : Value} (h : Box B w T g [x, y, z]) (a b c : Value) :
    Box B (((w.setCell ⟨g, 0, none⟩ a).setCell ⟨g, 1, none⟩ b).setCell ⟨g, 2, none⟩ c) T g [a, b, c] ∧ w.grownBy (((w.setCell ⟨g, 0, none⟩ a).setCell ⟨g, 1, none⟩ b).setCell ⟨g, 2, none⟩ c) (some g) := by
  have h1 := Box.put (i := 0) (pre := []) (post := [y, z]) h rfl a
  have h2 := Box.put (i := 1) (pre := [a]) (post := [z]) h1.1 rfl b
  have h3 := Box.put (i := 2) (pre := [a, b]) (post := []) h2.1 rfl c
  have G : ∀ {u v s : World}, u.grownBy v (some g) → v.grownBy s (some g) → u.grownBy s (some g) := fun p q =>
    ⟨q.os.trans p.os, q.tape.trans p.tape, q.output.trans p.output, Nat.le_trans p.size q.size, fun j hj hne => (q.block j (Nat.lt_of_lt_of_le hj p.size) hne).trans (p.block j hj hne)⟩
  exact ⟨h3.1, G (G h1.2 h2.2) h3.2⟩
end
end Go.Proofs.YtjklileooiepmaaGreatDoor
