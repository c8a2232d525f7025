/- Boxes of cells that are one's own. -/
import Derived.Test.YtipdcgfdejmjfaaGreatDoorBase
namespace Go.Proofs.YtipdcgfdejmjfaaGreatDoor
open Go.ChangeShapes Go.WideShapes Go.ChangeAt Go.RowKit

/-- The cells of block g, which is one's own, are xs. -/
def Box (B : Nat) (w : World) (T : TypeId) (g : Nat) (xs : List Value) : Prop := w.ownsRow B T 1 (.slice (some ⟨g, 0, none⟩) xs.length xs.length) xs.length xs
theorem Box.lt {B : Nat} {w : World} {T : TypeId} {g : Nat} {xs : List Value} (h : Box B w T g xs) : B ≤ g ∧ g < w.heap.size := own_lt h
theorem Box.cell {B : Nat} {w : World} {T : TypeId} {g : Nat} {xs : List Value} (h : Box B w T g xs) (i : Nat) (v : Value) (hi : xs[i]? = some v) : w.cell? ⟨g, i, none⟩ = some v := by
  have hl := (List.getElem?_eq_some_iff.1 hi).1
  have := World.ownsRow.cellAt h i (by omega)
  rw [this]
  simpa using hi
theorem Box.below {B : Nat} {w w' : World} {T : TypeId} {g : Nat} {xs : List Value} (h : Box B w T g xs) (hB : Below w.heap.size w w') : Box B w' T g xs := own_below h hB
theorem Box.put {B : Nat} {w : World} {T : TypeId} {g i : Nat} {pre post : List Value} {x : Value} (h : Box B w T g (pre ++ x :: post)) (hi : i = pre.length) (v : Value) :
    Box B (w.setCell ⟨g, i, none⟩ v) T g (pre ++ v :: post) ∧ w.grownBy (w.setCell ⟨g, i, none⟩ v) (some g) := by
  have hp := own_put h hi v
  have e : (pre ++ x :: post).length = (pre ++ v :: post).length := by simp
  refine ⟨?_, hp.2⟩
  have := hp.1
  rw [e, List.append_assoc] at this
  exact this
theorem Box.keep {B : Nat} {w w' : World} {T : TypeId} {g x : Nat} {xs : List Value} (h : Box B w T g xs) (hg : w.grownBy w' (some x)) (hne : g ≠ x) : Box B w' T g xs :=
  World.ownsRow.kept h hg (.inr (by simp [Value.ownBlock]; exact hne))
theorem Box.new (w : World) (T : TypeId) (xs : List Value) (B : Nat) (hB : B ≤ w.heap.size) (hl : xs.length ≤ 9223372036854775807) : Box B (w.alloc (.cells xs.toArray T)) T w.heap.size xs :=
  ⟨by simp, .inr ⟨w.heap.size, xs.length, xs.toArray, rfl, hB, heap_alloc_new _ _, Nat.le_refl _, hl, by simp, by simp⟩⟩
theorem Box.put2 {B : Nat} {w : World} {T : TypeId} {g : Nat} {x y : Value} (h : Box B w T g [x, y]) (a b : Value) :
    Box B ((w.setCell ⟨g, 0, none⟩ a).setCell ⟨g, 1, none⟩ b) T g [a, b] ∧ w.grownBy ((w.setCell ⟨g, 0, none⟩ a).setCell ⟨g, 1, none⟩ b) (some g) := by
  have h1 := Box.put (i := 0) (pre := []) (post := [y]) h rfl a
  have h2 := Box.put (i := 1) (pre := [a]) (post := []) h1.1 rfl b
  have G : ∀ {u v s : World}, u.grownBy v (some g) → v.grownBy s (some g) → u.grownBy s (some g) := fun p q =>
    ⟨q.os.trans p.os, q.tape.trans p.tape, q.output.trans p.output, Nat.le_trans p.size q.size, fun j hj hne => (q.block j (Nat.lt_of_lt_of_le hj p.size) hne).trans (p.block j hj hne)⟩
  exact ⟨h2.1, G h1.2 h2.2⟩
theorem Box.put3 {B : Nat} {w : World} {T : TypeId} {g : Nat} {x y z : Value} (h : Box B w T g [x, y, z]) (a b c : Value) :
    Box B (((w.setCell ⟨g, 0, none⟩ a).setCell ⟨g, 1, none⟩ b).setCell ⟨g, 2, none⟩ c) T g [a, b, c] ∧ w.grownBy (((w.setCell ⟨g, 0, none⟩ a).setCell ⟨g, 1, none⟩ b).setCell ⟨g, 2, none⟩ c) (some g) := by
  have h1 := Box.put (i := 0) (pre := []) (post := [y, z]) h rfl a
  have h2 := Box.put (i := 1) (pre := [a]) (post := [z]) h1.1 rfl b
  have h3 := Box.put (i := 2) (pre := [a, b]) (post := []) h2.1 rfl c
  have G : ∀ {u v s : World}, u.grownBy v (some g) → v.grownBy s (some g) → u.grownBy s (some g) := fun p q =>
    ⟨q.os.trans p.os, q.tape.trans p.tape, q.output.trans p.output, Nat.le_trans p.size q.size, fun j hj hne => (q.block j (Nat.lt_of_lt_of_le hj p.size) hne).trans (p.block j hj hne)⟩
  exact ⟨h3.1, G (G h1.2 h2.2) h3.2⟩
end Go.Proofs.YtipdcgfdejmjfaaGreatDoor
