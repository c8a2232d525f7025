/- General lemmas for the walks of this seat: worlds that agree below a block number, regions that draw their order while callees make memory, rows of structs. -/
import Derived.WalkKit
import Derived.ProofKit
import Derived.OpenShut
import Derived.Handy
import Derived.BigQuiet
import Derived.Lib.Hide
import Derived.Deep.Slices
import Derived.Deep.Fields
import Derived.ChangeSame
import Derived.WalkLawsBesides
import Derived.WalkSpells
import Derived.Deep.RegionHeld3
import Derived.Deep.Cut
import Derived.Test.YteajkofgcmfaoaaGreatDoorRows
namespace Go.Proofs.YteajkofgcmfaoaaGreatDoor
open Go.ChangeShapes Go.WideShapes Go.ChangeAt Go.RowKit Go.Deep

theorem stepB {B : Nat} {w W w1 : World} (h : Below B w W) (k : Below W.heap.size W w1) (hB : B ≤ W.heap.size) : Below B w w1 := h.trans (k.mono hB)

/-- A world that agrees with w below B. -/
structure Later (B : Nat) (w : World) where
  val : World
  prop : Below B w val
instance {B : Nat} {w : World} : Nonempty (Later B w) := ⟨⟨w, Below.refl _ _⟩⟩
theorem Later.cell {B : Nat} {w : World} {b o : Nat} {v : Value} (h : w.cell? ⟨b, o, none⟩ = some v) (hb : b < B) (z : Later B w) : z.val.cell? ⟨b, o, none⟩ = some v :=
  (z.prop.cell (p := ⟨b, o, none⟩) hb).trans h

/-- At a call inside such a region. -/
theorem Later.call {P : Program} {f : FuncId} {args : Array Value} {B : Nat} {w : World} {v : Value} {z : Later B w} (hB : B ≤ w.heap.size)
    (h : Calls P f args z.val fun e w' => e = .returned v ∧ Below z.val.heap.size z.val w') :
    Calls P f args z.val fun e w' => e = .returned v ∧ ∃ z' : Later B w, w' = z'.val :=
  h.mono fun _ w' ⟨he, hb⟩ => ⟨he, ⟨w', stepB z.prop hb (Nat.le_trans hB z.prop.size)⟩, rfl⟩

theorem Later.same {P : Program} {f : FuncId} {args : Array Value} {B : Nat} {w : World} {v : Value} {z : Later B w}
    (h : Calls P f args z.val fun e w' => e = .returned v ∧ z.val = w') : Calls P f args z.val fun e w' => e = .returned v ∧ ∃ z' : Later B w, w' = z'.val :=
  h.mono fun _ _ ⟨he, hb⟩ => ⟨he, z, hb.symm⟩

/-- A region that draws its order, whose own operations only read, and whose callees may make memory: one walk in the order of the text. -/
theorem wp_region_later {P : Program} {id : Nat} {Q : Exit → Act → World → Prop} {a : Act} {l : List Oper} (w : World) (hm : P.follows .mixedOrders = true) (hB : Region.lexB .any l.toArray = true)
    (h : wpQuiet P l.toArray (fun w' => ∃ z : Later w.heap.size w, w' = z.val) (fun a' => ∀ z : Later w.heap.size w, Q .normal a' z.val) l a) : (Code.region id l.toArray true).wp P Q a w :=
  wp_region_quiet (C := fun w' => ∃ z : Later w.heap.size w, w' = z.val) hm hB ⟨⟨_, (Below.refl _ w).drew⟩, rfl⟩ (by
    refine Eq.mp ?_ h
    congr 1
    funext a'
    apply propext
    exact ⟨fun h w' ⟨z, e⟩ => e ▸ h z, fun h z => h _ ⟨z, rfl⟩⟩)

/-! ### Slices as lists of rows -/

/-- A slice at 'a' reads as the rows 'enc x' of the list. -/
def Rd {α : Type} (enc : α → List Value) (w : World) (a : Option Addr) (xs : List α) : Prop :=
  ∀ i x, xs[i]? = some x → ∃ b off, a = some ⟨b, off, none⟩ ∧ b < w.heap.size ∧ ∀ j v, (enc x)[j]? = some v → w.cell? ⟨b, off + i * (enc x).length + j, none⟩ = some v
theorem Rd.nil {α : Type} (enc : α → List Value) (w : World) (a : Option Addr) : Rd enc w a [] := fun _ _ h => by cases h
theorem Rd.below {α : Type} {enc : α → List Value} {w w' : World} {a : Option Addr} {xs : List α} (h : Rd enc w a xs) (hB : Below w.heap.size w w') : Rd enc w' a xs := by
  intro i x hx
  obtain ⟨b, off, ha, hb, hc⟩ := h i x hx
  exact ⟨b, off, ha, Nat.lt_of_lt_of_le hb hB.size, fun j v hv => (hB.cell (p := ⟨b, off + i * (enc x).length + j, none⟩) hb).trans (hc j v hv)⟩
theorem flatMap_at {α : Type} (enc : α → List Value) (k : Nat) (hk : ∀ x, (enc x).length = k) : ∀ (xs : List α) (i : Nat) (x : α) (j : Nat) (v : Value), xs[i]? = some x → (enc x)[j]? = some v → (xs.flatMap enc)[i * k + j]? = some v
  | [], _, _, _, _, h, _ => by cases h
  | y :: ys, 0, x, j, v, h, hv => by
    obtain rfl : y = x := by simpa using h
    have hj : j < (enc y).length := (List.getElem?_eq_some_iff.1 hv).1
    simp only [List.flatMap_cons, Nat.zero_mul, Nat.zero_add]
    rw [List.getElem?_append_left hj]
    exact hv
  | y :: ys, i + 1, x, j, v, h, hv => by
    have ih := flatMap_at enc k hk ys i x j v (by simpa using h) hv
    simp only [List.flatMap_cons]
    rw [List.getElem?_append_right (by rw [hk]; rw [Nat.add_mul]; omega), hk, ← ih]
    congr 1
    rw [Nat.add_mul]; omega
theorem length_flatMap_enc {α : Type} (enc : α → List Value) (k : Nat) (hk : ∀ x, (enc x).length = k) (xs : List α) : (xs.flatMap enc).length = xs.length * k := by
  induction xs with
  | nil => simp
  | cons x xs ih => simp [List.flatMap_cons, hk, ih, Nat.add_mul]; omega
theorem Rd.of_own {α : Type} {enc : α → List Value} {k : Nat} (hk : ∀ x, (enc x).length = k) (hk0 : 0 < k) {w : World} {base : Nat} {E : TypeId} {a : Option Addr} {cap : Nat} {xs : List α} {n : Nat}
    (h : w.ownsRow base E k (.slice a n cap) n (xs.flatMap enc)) : Rd enc w a xs := by
  intro i x hx
  have hi : i < xs.length := (List.getElem?_eq_some_iff.1 hx).1
  have hl := length_flatMap_enc enc k hk xs
  have hlen := h.1
  rw [hl] at hlen
  rcases h.2 with ⟨e, h0⟩ | ⟨g, cap', cur, e, hb, hg, _⟩
  · rw [h0, Nat.zero_mul] at hlen
    have := Nat.mul_pos (by omega : 0 < xs.length) hk0
    omega
  · obtain ⟨rfl, _, _⟩ : a = some ⟨g, 0, none⟩ ∧ n = n ∧ cap = cap' := by simpa using e
    refine ⟨g, 0, rfl, (Array.getElem?_eq_some_iff.1 hg).1, fun j v hv => ?_⟩
    have hat := flatMap_at enc k hk xs i x j v hx hv
    have hc := h.cells (g := g) rfl (i * k + j) v hat
    rw [hk]
    unfold Addr.add at hc
    split at hc
    · rename_i h0
      simpa [h0] using hc
    · simpa [Nat.add_assoc] using hc

theorem ret_int {k : IntKind} {a b : Int} (h : a = b) : Ending.returned (.int k a) = .returned (.int k b) := by rw [h]
theorem ret_bool {a b : Bool} (h : a = b) : Ending.returned (.bool a) = .returned (.bool b) := by rw [h]

/-! ### Sizes -/
/-! ### Own rows, written row by row -/
theorem set_mid {α : Type} (pre : List α) (x y : α) (post : List α) : (pre ++ x :: post).set pre.length y = pre ++ y :: post := by
  induction pre with
  | nil => rfl
  | cons a pre ih => simp [ih]
/-- A row of an own slice is written, cell by cell. -/
theorem own_setCells {base : Nat} {E : TypeId} {k g n cap : Nat} : ∀ (vs old pre post : List Value) (w : World), old.length = vs.length →
    w.ownsRow base E k (.slice (some ⟨g, 0, none⟩) n cap) n (pre ++ old ++ post) →
    (w.setCells g pre.length vs).ownsRow base E k (.slice (some ⟨g, 0, none⟩) n cap) n (pre ++ vs ++ post) ∧ w.grownBy (w.setCells g pre.length vs) (some g)
  | [], [], pre, post, w, _, h => ⟨by simpa [World.setCells] using h, World.grownBy.refl w _⟩
  | v :: vs, o :: old, pre, post, w, hl, h => by
    have h0 : w.ownsRow base E k (.slice (some ⟨g, 0, none⟩) n cap) n (pre ++ o :: (old ++ post)) := by simpa using h
    have h1 := h0.stored pre.length v
    rw [set_mid] at h1
    have h2 := own_setCells vs old (pre ++ [v]) post (w.setCell ⟨g, pre.length, none⟩ v) (by simpa using hl) (by simpa using h1.1)
    have e : w.setCells g pre.length (v :: vs) = (w.setCell ⟨g, pre.length, none⟩ v).setCells g (pre ++ [v]).length vs := by simp [World.setCells]
    rw [e]
    refine ⟨by simpa using h2.1, ⟨h2.2.os.trans h1.2.os, h2.2.tape.trans h1.2.tape, h2.2.output.trans h1.2.output, Nat.le_trans h1.2.size h2.2.size, fun j hj hne => ?_⟩⟩
    exact (h2.2.block j (Nat.lt_of_lt_of_le hj h1.2.size) hne).trans (h1.2.block j hj hne)
theorem own_cell {base : Nat} {E : TypeId} {k g n cap : Nat} {xs : List Value} {w : World} (h : w.ownsRow base E k (.slice (some ⟨g, 0, none⟩) n cap) n xs) (j : Nat) (hj : j < n * k) : ∃ v, w.cell? ⟨g, j, none⟩ = some v ∧ w.frozen? ⟨g, j, none⟩ = false :=
  ⟨xs[j]'(by rw [h.1]; exact hj), (h.cellAt j hj).trans (List.getElem?_eq_getElem _), h.frozenAt j⟩
theorem own_below {base : Nat} {E : TypeId} {k n : Nat} {v : Value} {xs : List Value} {w w' : World} (h : w.ownsRow base E k v n xs) (hB : Below w.heap.size w w') : w'.ownsRow base E k v n xs :=
  h.kept (row := none) ⟨hB.os, hB.tape, hB.output, hB.size, fun j hj _ => hB.block j hj⟩ (by cases v.ownBlock <;> simp)
theorem own_base {base base' : Nat} {E : TypeId} {k n : Nat} {v : Value} {xs : List Value} {w : World} (h : w.ownsRow base' E k v n xs) (hb : base ≤ base') : w.ownsRow base E k v n xs := by
  refine ⟨h.1, ?_⟩
  rcases h.2 with h0 | ⟨g, cap, cur, e, hg, rest⟩
  · exact .inl h0
  · exact .inr ⟨g, cap, cur, e, Nat.le_trans hb hg, rest⟩
theorem own_lt {base : Nat} {E : TypeId} {k n g cap : Nat} {xs : List Value} {w : World} (h : w.ownsRow base E k (.slice (some ⟨g, 0, none⟩) n cap) n xs) : base ≤ g ∧ g < w.heap.size := h.lt g rfl
/-! ### Lists whose neighbours are in order -/
def prevOf {α : Type} (xs : List α) : Nat → Option α
  | 0 => none
  | k + 1 => xs[k]?
def upGo {α : Type} (ok : α → Bool) (lt : α → α → Bool) : Option α → List α → Bool
  | _, [] => true
  | none, x :: xs => ok x && upGo ok lt (some x) xs
  | some y, x :: xs => ok x && lt y x && upGo ok lt (some x) xs
theorem upGo_first {α : Type} {ok : α → Bool} {lt : α → α → Bool} {xs : List α} {x : α} (h : xs[0]? = some x) : upGo ok lt (prevOf xs 0) (xs.drop 0) = (ok x && upGo ok lt (prevOf xs 1) (xs.drop 1)) := by
  cases xs with
  | nil => cases h
  | cons y ys =>
    obtain rfl : y = x := by simpa using h
    simp [prevOf, upGo]
theorem upGo_next {α : Type} {ok : α → Bool} {lt : α → α → Bool} {xs : List α} {k : Nat} {p x : α} (hp : xs[k]? = some p) (h : xs[k + 1]? = some x) :
    upGo ok lt (prevOf xs (k + 1)) (xs.drop (k + 1)) = (ok x && lt p x && upGo ok lt (prevOf xs (k + 2)) (xs.drop (k + 2))) := by
  obtain ⟨hk, rfl⟩ := List.getElem?_eq_some_iff.1 h
  rw [List.drop_eq_getElem_cons hk]
  simp only [prevOf, hp, h, upGo]
theorem upGo_end {α : Type} {ok : α → Bool} {lt : α → α → Bool} {xs : List α} {k : Nat} (h : xs.length ≤ k) : upGo ok lt (prevOf xs k) (xs.drop k) = true := by
  rw [List.drop_eq_nil_of_le h]
  cases prevOf xs k <;> rfl
theorem upGo_bad {α : Type} {ok : α → Bool} {lt : α → α → Bool} {xs : List α} {k : Nat} {x : α} (h : xs[k]? = some x) (ho : ok x = false) : upGo ok lt (prevOf xs k) (xs.drop k) = false := by
  obtain ⟨hk, rfl⟩ := List.getElem?_eq_some_iff.1 h
  rw [List.drop_eq_getElem_cons hk]
  cases prevOf xs k <;> simp [upGo, ho]
theorem upGo_at0 {α : Type} {ok : α → Bool} {lt : α → α → Bool} {xs : List α} {k : Nat} {x : α} (hk : k = 0) (h : xs[k]? = some x) : upGo ok lt (prevOf xs k) (xs.drop k) = (ok x && upGo ok lt (prevOf xs (k + 1)) (xs.drop (k + 1))) := by
  subst hk; exact upGo_first h
theorem upGo_at {α : Type} {ok : α → Bool} {lt : α → α → Bool} {xs : List α} {k : Nat} {p x : α} (hk : 0 < k) (hp : xs[k - 1]? = some p) (h : xs[k]? = some x) :
    upGo ok lt (prevOf xs k) (xs.drop k) = (ok x && lt p x && upGo ok lt (prevOf xs (k + 1)) (xs.drop (k + 1))) := by
  obtain ⟨j, rfl⟩ : ∃ j, k = j + 1 := ⟨k - 1, by omega⟩
  exact upGo_next (by simpa using hp) h

/-- One cell of an own row is written. -/
theorem own_put {base : Nat} {E : TypeId} {k g n cap i : Nat} {pre post : List Value} {x : Value} {w : World} (h : w.ownsRow base E k (.slice (some ⟨g, 0, none⟩) n cap) n (pre ++ x :: post)) (hi : i = pre.length) (v : Value) :
    (w.setCell ⟨g, i, none⟩ v).ownsRow base E k (.slice (some ⟨g, 0, none⟩) n cap) n ((pre ++ [v]) ++ post) ∧ w.grownBy (w.setCell ⟨g, i, none⟩ v) (some g) := by
  subst hi
  have h1 := h.stored pre.length v
  rw [set_mid] at h1
  exact ⟨by simpa using h1.1, h1.2⟩
theorem gT {w w1 w2 : World} {r : Option Nat} (h : w.grownBy w1 r) (k : w1.grownBy w2 r) : w.grownBy w2 r :=
  ⟨k.os.trans h.os, k.tape.trans h.tape, k.output.trans h.output, Nat.le_trans h.size k.size, fun j hj hne => (k.block j (Nat.lt_of_lt_of_le hj h.size) hne).trans (h.block j hj hne)⟩
theorem gB {w w1 w2 : World} {r : Option Nat} (h : w.grownBy w1 r) (k : Below w1.heap.size w1 w2) : w.grownBy w2 r :=
  gT h ⟨k.os, k.tape, k.output, k.size, fun j hj _ => k.block j hj⟩

/-- An own row whose block lies in [B, C). -/
structure Own (B C : Nat) (w : World) (E : TypeId) (k : Nat) (v : Value) (n : Nat) (xs : List Value) : Prop where
  row : w.ownsRow B E k v n xs
  hi : ∀ g, v.ownBlock = some g → g < C
theorem Own.of {B : Nat} {w : World} {E : TypeId} {k : Nat} {v : Value} {n : Nat} {xs : List Value} (h : w.ownsRow B E k v n xs) : Own B w.heap.size w E k v n xs := ⟨h, fun g e => (h.lt g e).2⟩
theorem Own.below {B C : Nat} {w w' : World} {E : TypeId} {k : Nat} {v : Value} {n : Nat} {xs : List Value} (h : Own B C w E k v n xs) (hB : Below w.heap.size w w') : Own B C w' E k v n xs := ⟨own_below h.row hB, h.hi⟩
theorem Own.kept {B C : Nat} {w w' : World} {E : TypeId} {k : Nat} {v : Value} {n : Nat} {xs : List Value} {r : Option Nat} (h : Own B C w E k v n xs) (hg : w.grownBy w' r) (hr : ∀ g, r = some g → g < B ∨ C ≤ g) : Own B C w' E k v n xs := by
  refine ⟨h.row.kept hg ?_, h.hi⟩
  cases hv : v.ownBlock with
  | none => exact .inl rfl
  | some g =>
    refine .inr fun e => ?_
    have h1 := h.hi g hv
    have h2 := (h.row.lt g hv).1
    rcases hr g e.symm with h3 | h3 <;> omega
theorem Own.new {B C : Nat} {w w' : World} {E : TypeId} {k : Nat} {v : Value} {n : Nat} {xs ys : List Value} (h : Own B C w E k v n xs) (h2 : w'.ownsRow B E k v n ys) : Own B C w' E k v n ys := ⟨h2, h.hi⟩

/-! ### A struct copied field by field: its box, the result's cell, the local one -/
structure Loc3 (n : Nat) (box res loc : List Value) (W : World) : Prop where
  box : ∀ j v, box[j]? = some v → W.cell? ⟨n, j, none⟩ = some v
  res : ∀ j v, res[j]? = some v → W.cell? ⟨n + 1, j, none⟩ = some v
  loc : ∀ j v, loc[j]? = some v → W.cell? ⟨n + 1 + 1, j, none⟩ = some v
  fres : ∀ j, W.frozen? ⟨n + 1, j, none⟩ = false
  floc : ∀ j, W.frozen? ⟨n + 1 + 1, j, none⟩ = false
  size : n + 1 + 1 < W.heap.size
theorem Loc3.start (w : World) (box res loc : List Value) (t0 t1 t2 : TypeId) : Loc3 w.heap.size box res loc (((w.alloc (.cells box.toArray t0)).alloc (.cells res.toArray t1)).alloc (.cells loc.toArray t2)) where
  box := fun j v h => by rw [World.cell?_alloc_past _ _ _ (by simp; omega), World.cell?_alloc_past _ _ _ (by simp), World.cell?_alloc_at _ _ _ _ rfl]; simpa using h
  res := fun j v h => by rw [World.cell?_alloc_past _ _ _ (by simp), World.cell?_alloc_at _ _ _ _ (by simp)]; simpa using h
  loc := fun j v h => by rw [World.cell?_alloc_at _ _ _ _ (by simp)]; simpa using h
  fres := fun j => by rw [World.frozen?_alloc_past _ _ _ (by simp), World.frozen?_alloc_at _ _ _ _ (by simp)]
  floc := fun j => World.frozen?_alloc_at _ _ _ _ (by simp)
  size := by simp
theorem Loc3.below {n : Nat} {box res loc : List Value} {W W' : World} (h : Loc3 n box res loc W) (hB : Below W.heap.size W W') : Loc3 n box res loc W' where
  box := fun j v hv => (hB.cell (p := ⟨n, j, none⟩) (by have := h.size; simp; omega)).trans (h.box j v hv)
  res := fun j v hv => (hB.cell (p := ⟨n + 1, j, none⟩) (by have := h.size; simp; omega)).trans (h.res j v hv)
  loc := fun j v hv => (hB.cell (p := ⟨n + 1 + 1, j, none⟩) (by have := h.size; simp; omega)).trans (h.loc j v hv)
  fres := fun j => (hB.frozen (p := ⟨n + 1, j, none⟩) (by have := h.size; simp; omega)).trans (h.fres j)
  floc := fun j => (hB.frozen (p := ⟨n + 1 + 1, j, none⟩) (by have := h.size; simp; omega)).trans (h.floc j)
  size := Nat.lt_of_lt_of_le h.size hB.size
theorem upGo_all {α : Type} {ok : α → Bool} {lt : α → α → Bool} : ∀ {xs : List α} {p : Option α}, upGo ok lt p xs = true → ∀ x ∈ xs, ok x = true
  | [], _, _, _, hx => by cases hx
  | y :: ys, p, h, x, hx => by
    have h' : ok y = true ∧ upGo ok lt (some y) ys = true := by
      cases p <;> simp [upGo] at h <;> simp [h]
    rcases List.mem_cons.1 hx with rfl | hx
    · exact h'.1
    · exact upGo_all h'.2 x hx
end Go.Proofs.YteajkofgcmfaoaaGreatDoor
