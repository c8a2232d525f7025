/- General lemmas for the walks of this seat: worlds that agree below a block number, regions that draw their order while callees make memory, rows of structs. -/
import Derived.Test.YteajkofgcmfaoaaGreatDoorRows
import Derived.WalkKit
import Derived.ProofKit
import Derived.OpenShut
import Derived.Handy
import Derived.BigQuiet
import Derived.Lib.Hide
import Derived.Deep.Slices
import Derived.Deep.Fields
import Derived.ChangeSame
import Derived.WalkLawsBesides
import Derived.WalkSpells
import Derived.Deep.RegionHeld3
import Derived.Deep.Cut
namespace Go.Proofs.YteajkofgcmfaoaaGreatDoor
open Go.ChangeShapes Go.WideShapes Go.ChangeAt Go.RowKit Go.Deep

/-- What 'Below' says of cells and marks, as two rules. -/
theorem bcell {B : Nat} {W w1 : World} (hb : Below B W w1) : (∀ b o, b < B → w1.cell? ⟨b, o, none⟩ = W.cell? ⟨b, o, none⟩) ∧ (∀ b o, b < B → w1.frozen? ⟨b, o, none⟩ = W.frozen? ⟨b, o, none⟩) :=
  ⟨fun b o h => hb.cell (p := ⟨b, o, none⟩) h, fun b o h => hb.frozen (p := ⟨b, o, none⟩) h⟩

theorem stepB {B : Nat} {w W w1 : World} (h : Below B w W) (k : Below W.heap.size W w1) (hB : B ≤ W.heap.size) : Below B w w1 := h.trans (k.mono hB)

theorem drewB {B : Nat} {a w : World} (h : Below B a w) (n : Nat) : Below B a (w.drewN n) := ⟨h.os, h.tape, h.output, h.size, h.block⟩

/-- A world that agrees with w below B. -/
structure Later (B : Nat) (w : World) where
  val : World
  prop : Below B w val
instance {B : Nat} {w : World} : Nonempty (Later B w) := ⟨⟨w, Below.refl _ _⟩⟩
theorem Later.cell {B : Nat} {w : World} {b o : Nat} {v : Value} (h : w.cell? ⟨b, o, none⟩ = some v) (hb : b < B) (z : Later B w) : z.val.cell? ⟨b, o, none⟩ = some v :=
  (z.prop.cell (p := ⟨b, o, none⟩) hb).trans h

/-- At a call inside such a region. -/
theorem Later.call {P : Program} {f : FuncId} {args : Array Value} {B : Nat} {w : World} {v : Value} {z : Later B w} (hB : B ≤ w.heap.size)
    (h : Calls P f args z.val fun e w' => e = .returned v ∧ Below z.val.heap.size z.val w') :
    Calls P f args z.val fun e w' => e = .returned v ∧ ∃ z' : Later B w, w' = z'.val :=
  h.mono fun _ w' ⟨he, hb⟩ => ⟨he, ⟨w', stepB z.prop hb (Nat.le_trans hB z.prop.size)⟩, rfl⟩

theorem Later.same {P : Program} {f : FuncId} {args : Array Value} {B : Nat} {w : World} {v : Value} {z : Later B w}
    (h : Calls P f args z.val fun e w' => e = .returned v ∧ z.val = w') : Calls P f args z.val fun e w' => e = .returned v ∧ ∃ z' : Later B w, w' = z'.val :=
  h.mono fun _ _ ⟨he, hb⟩ => ⟨he, z, hb.symm⟩

/-- A region that draws its order, whose own operations only read, and whose callees may make memory: one walk in the order of the text. -/
theorem wp_region_later {P : Program} {id : Nat} {Q : Exit → Act → World → Prop} {a : Act} {l : List Oper} (w : World) (hm : P.follows .mixedOrders = true) (hB : Region.lexB .any l.toArray = true)
    (h : wpQuiet P l.toArray (fun w' => ∃ z : Later w.heap.size w, w' = z.val) (fun a' => ∀ z : Later w.heap.size w, Q .normal a' z.val) l a) : (Code.region id l.toArray true).wp P Q a w :=
  wp_region_quiet (C := fun w' => ∃ z : Later w.heap.size w, w' = z.val) hm hB ⟨⟨_, (Below.refl _ w).drew⟩, rfl⟩ (by
    refine Eq.mp ?_ h
    congr 1
    funext a'
    apply propext
    exact ⟨fun h w' ⟨z, e⟩ => e ▸ h z, fun h z => h _ ⟨z, rfl⟩⟩)

theorem wpList_of_quiet {P : Program} {ops : Array Oper} {C : World → Prop} {Q : Exit → Act → World → Prop} : ∀ (l : List Oper) (a : Act) (w : World), C w → wpQuiet P ops C (fun a' => ∀ w', C w' → Q .normal a' w') l a → wpList P ops Q l a w
  | [], _, w, hC, h => h w hC
  | o :: l, a, w, hC, h => by
    simp only [wpQuiet] at h
    simp only [wpList]
    by_cases hw : Region.wanted o (yielded ops a.tmps) = true
    · rw [if_pos hw] at h ⊢
      exact .inl (Oper.wp_of_quiet hC (fun a' w' hw' hK => wpList_of_quiet l a' w' hw' hK) h)
    · rw [if_neg hw] at h ⊢
      exact wpList_of_quiet l _ w hC h
/-- The same for a region that draws no order. -/
theorem wp_region_later0 {P : Program} {id : Nat} {Q : Exit → Act → World → Prop} {a : Act} {l : List Oper} (w : World)
    (h : wpQuiet P l.toArray (fun w' => ∃ z : Later w.heap.size w, w' = z.val) (fun a' => ∀ z : Later w.heap.size w, Q .normal a' z.val) l a) : (Code.region id l.toArray false).wp P Q a w :=
  wp_region_lit (wpList_of_quiet (C := fun w' => ∃ z : Later w.heap.size w, w' = z.val) l a w ⟨⟨_, Below.refl _ w⟩, rfl⟩ (by
    refine Eq.mp ?_ h
    congr 1
    funext a'
    apply propext
    exact ⟨fun h w' ⟨z, e⟩ => e ▸ h z, fun h z => h _ ⟨z, rfl⟩⟩))

/-! ### Slices as lists of rows -/

/-- A slice at 'a' reads as the rows 'enc x' of the list. -/
def Rd {α : Type} (enc : α → List Value) (w : World) (a : Option Addr) (xs : List α) : Prop :=
  ∀ i x, xs[i]? = some x → ∃ b off, a = some ⟨b, off, none⟩ ∧ b < w.heap.size ∧ ∀ j v, (enc x)[j]? = some v → w.cell? ⟨b, off + i * (enc x).length + j, none⟩ = some v
theorem Rd.nil {α : Type} (enc : α → List Value) (w : World) (a : Option Addr) : Rd enc w a [] := fun _ _ h => by cases h
theorem Rd.below {α : Type} {enc : α → List Value} {w w' : World} {a : Option Addr} {xs : List α} (h : Rd enc w a xs) (hB : Below w.heap.size w w') : Rd enc w' a xs := by
  intro i x hx
  obtain ⟨b, off, ha, hb, hc⟩ := h i x hx
  exact ⟨b, off, ha, Nat.lt_of_lt_of_le hb hB.size, fun j v hv => (hB.cell (p := ⟨b, off + i * (enc x).length + j, none⟩) hb).trans (hc j v hv)⟩
theorem flatMap_at {α : Type} (enc : α → List Value) (k : Nat) (hk : ∀ x, (enc x).length = k) : ∀ (xs : List α) (i : Nat) (x : α) (j : Nat) (v : Value), xs[i]? = some x → (enc x)[j]? = some v → (xs.flatMap enc)[i * k + j]? = some v
  | [], _, _, _, _, h, _ => by cases h
  | y :: ys, 0, x, j, v, h, hv => by
    obtain rfl : y = x := by simpa using h
    have hj : j < (enc y).length := (List.getElem?_eq_some_iff.1 hv).1
    simp only [List.flatMap_cons, Nat.zero_mul, Nat.zero_add]
    rw [List.getElem?_append_left hj]
    exact hv
  | y :: ys, i + 1, x, j, v, h, hv => by
    have ih := flatMap_at enc k hk ys i x j v (by simpa using h) hv
    simp only [List.flatMap_cons]
    rw [List.getElem?_append_right (by rw [hk]; rw [Nat.add_mul]; omega), hk, ← ih]
    congr 1
    rw [Nat.add_mul]; omega
theorem length_flatMap_enc {α : Type} (enc : α → List Value) (k : Nat) (hk : ∀ x, (enc x).length = k) (xs : List α) : (xs.flatMap enc).length = xs.length * k := by
  induction xs with
  | nil => simp
  | cons x xs ih => simp [List.flatMap_cons, hk, ih, Nat.add_mul]; omega
theorem Rd.of_own {α : Type} {enc : α → List Value} {k : Nat} (hk : ∀ x, (enc x).length = k) (hk0 : 0 < k) {w : World} {base : Nat} {E : TypeId} {a : Option Addr} {cap : Nat} {xs : List α} {n : Nat}
    (h : w.ownsRow base E k (.slice a n cap) n (xs.flatMap enc)) : Rd enc w a xs := by
  intro i x hx
  have hi : i < xs.length := (List.getElem?_eq_some_iff.1 hx).1
  have hl := length_flatMap_enc enc k hk xs
  have hlen := h.1
  rw [hl] at hlen
  rcases h.2 with ⟨e, h0⟩ | ⟨g, cap', cur, e, hb, hg, _⟩
  · rw [h0, Nat.zero_mul] at hlen
    have := Nat.mul_pos (by omega : 0 < xs.length) hk0
    omega
  · obtain ⟨rfl, _, _⟩ : a = some ⟨g, 0, none⟩ ∧ n = n ∧ cap = cap' := by simpa using e
    refine ⟨g, 0, rfl, (Array.getElem?_eq_some_iff.1 hg).1, fun j v hv => ?_⟩
    have hat := flatMap_at enc k hk xs i x j v hx hv
    have hc := h.cells (g := g) rfl (i * k + j) v hat
    rw [hk]
    unfold Addr.add at hc
    split at hc
    · rename_i h0
      simpa [h0] using hc
    · simpa [Nat.add_assoc] using hc

theorem ret_int {k : IntKind} {a b : Int} (h : a = b) : Ending.returned (.int k a) = .returned (.int k b) := by rw [h]
theorem ret_two {a b c d : Int} (h1 : a = c) (h2 : b = d) : Ending.returned (.tuple #[.int .i64 a, .int .i64 b]) = .returned (.tuple #[.int .i64 c, .int .i64 d]) := by rw [h1, h2]
theorem ret_bool {a b : Bool} (h : a = b) : Ending.returned (.bool a) = .returned (.bool b) := by rw [h]

/-! ### Sizes -/
def clip (q : Int) : Int := if q < 0 then -1 else q
theorem clip_neg {q : Int} (h : q < 0) : clip q = -1 := if_pos h
theorem clip_nn {q : Int} (h : 0 ≤ q) : clip q = q := if_neg (by omega)
def szGo {α : Type} (f : α → Nat) : List α → Int → Int
  | [], l => l
  | x :: xs, l => if l - f x < 0 then -1 else szGo f xs (l - f x)
def szS {α : Type} (f : α → Nat) (xs : List α) (left : Int) : Int := if left - xs.length < 0 then -1 else szGo f xs (left - xs.length)
theorem szS_neg {α : Type} {f : α → Nat} {xs : List α} {left : Int} (h : left - xs.length < 0) : szS f xs left = -1 := if_pos h
theorem szS_nn {α : Type} {f : α → Nat} {xs : List α} {left : Int} (h : 0 ≤ left - xs.length) : szS f xs left = szGo f xs (left - xs.length) := if_neg (by omega)
def sumS {α : Type} (f : α → Nat) (xs : List α) : Nat := (xs.map f).sum
theorem szGo_drop {α : Type} (f : α → Nat) (xs : List α) (k : Nat) (x : α) (q : Int) (h : xs[k]? = some x) : szGo f (xs.drop k) q = if q - f x < 0 then -1 else szGo f (xs.drop (k + 1)) (q - f x) := by
  obtain ⟨hk, rfl⟩ := List.getElem?_eq_some_iff.1 h
  rw [List.drop_eq_getElem_cons hk]
  rfl
theorem szGo_ok {α : Type} (f : α → Nat) : ∀ (xs : List α) (l : Int), 0 ≤ l → 0 ≤ szGo f xs l → szGo f xs l = l - sumS f xs
  | [], l, _, _ => by simp [szGo, sumS]
  | x :: xs, l, h0, h => by
    unfold szGo at *
    by_cases hc : l - f x < 0
    · rw [if_pos hc] at h; omega
    · rw [if_neg hc] at h ⊢
      rw [szGo_ok f xs _ (by omega) h]
      simp [sumS]; omega
theorem szS_ok {α : Type} {f : α → Nat} {xs : List α} {left : Int} (h : 0 ≤ szS f xs left) : szS f xs left = left - xs.length - sumS f xs ∧ 0 ≤ left - xs.length := by
  unfold szS at *
  by_cases hc : left - xs.length < 0
  · rw [if_pos hc] at h; omega
  · rw [if_neg hc] at h ⊢
    exact ⟨szGo_ok f xs _ (by omega) h, by omega⟩
theorem le_sumS {α : Type} (f : α → Nat) {xs : List α} {x : α} (h : x ∈ xs) : f x ≤ sumS f xs := by
  unfold sumS
  induction xs with
  | nil => cases h
  | cons y ys ih =>
    simp only [List.map_cons, List.sum_cons]
    rcases List.mem_cons.1 h with rfl | h
    · omega
    · have := ih h; omega

/-! ### Own rows, written row by row -/
theorem set_mid {α : Type} (pre : List α) (x y : α) (post : List α) : (pre ++ x :: post).set pre.length y = pre ++ y :: post := by
  induction pre with
  | nil => rfl
  | cons a pre ih => simp [ih]
/-- A row of an own slice is written, cell by cell. -/
theorem own_setCells {base : Nat} {E : TypeId} {k g n cap : Nat} : ∀ (vs old pre post : List Value) (w : World), old.length = vs.length →
    w.ownsRow base E k (.slice (some ⟨g, 0, none⟩) n cap) n (pre ++ old ++ post) →
    (w.setCells g pre.length vs).ownsRow base E k (.slice (some ⟨g, 0, none⟩) n cap) n (pre ++ vs ++ post) ∧ w.grownBy (w.setCells g pre.length vs) (some g)
  | [], [], pre, post, w, _, h => ⟨by simpa [World.setCells] using h, World.grownBy.refl w _⟩
  | v :: vs, o :: old, pre, post, w, hl, h => by
    have h0 : w.ownsRow base E k (.slice (some ⟨g, 0, none⟩) n cap) n (pre ++ o :: (old ++ post)) := by simpa using h
    have h1 := h0.stored pre.length v
    rw [set_mid] at h1
    have h2 := own_setCells vs old (pre ++ [v]) post (w.setCell ⟨g, pre.length, none⟩ v) (by simpa using hl) (by simpa using h1.1)
    have e : w.setCells g pre.length (v :: vs) = (w.setCell ⟨g, pre.length, none⟩ v).setCells g (pre ++ [v]).length vs := by simp [World.setCells]
    rw [e]
    refine ⟨by simpa using h2.1, ⟨h2.2.os.trans h1.2.os, h2.2.tape.trans h1.2.tape, h2.2.output.trans h1.2.output, Nat.le_trans h1.2.size h2.2.size, fun j hj hne => ?_⟩⟩
    exact (h2.2.block j (Nat.lt_of_lt_of_le hj h1.2.size) hne).trans (h1.2.block j hj hne)
theorem own_cell {base : Nat} {E : TypeId} {k g n cap : Nat} {xs : List Value} {w : World} (h : w.ownsRow base E k (.slice (some ⟨g, 0, none⟩) n cap) n xs) (j : Nat) (hj : j < n * k) : ∃ v, w.cell? ⟨g, j, none⟩ = some v ∧ w.frozen? ⟨g, j, none⟩ = false :=
  ⟨xs[j]'(by rw [h.1]; exact hj), (h.cellAt j hj).trans (List.getElem?_eq_getElem _), h.frozenAt j⟩
theorem own_below {base : Nat} {E : TypeId} {k n : Nat} {v : Value} {xs : List Value} {w w' : World} (h : w.ownsRow base E k v n xs) (hB : Below w.heap.size w w') : w'.ownsRow base E k v n xs :=
  h.kept (row := none) ⟨hB.os, hB.tape, hB.output, hB.size, fun j hj _ => hB.block j hj⟩ (by cases v.ownBlock <;> simp)
theorem own_base {base base' : Nat} {E : TypeId} {k n : Nat} {v : Value} {xs : List Value} {w : World} (h : w.ownsRow base' E k v n xs) (hb : base ≤ base') : w.ownsRow base E k v n xs := by
  refine ⟨h.1, ?_⟩
  rcases h.2 with h0 | ⟨g, cap, cur, e, hg, rest⟩
  · exact .inl h0
  · exact .inr ⟨g, cap, cur, e, Nat.le_trans hb hg, rest⟩
theorem own_setOther {base : Nat} {E : TypeId} {k n g cap : Nat} {xs : List Value} {w : World} (h : w.ownsRow base E k (.slice (some ⟨g, 0, none⟩) n cap) n xs) {p : Addr} (hne : p.block ≠ g) (u : Value) :
    (w.setCell p u).ownsRow base E k (.slice (some ⟨g, 0, none⟩) n cap) n xs :=
  h.kept (row := some p.block) ⟨rfl, rfl, rfl, by simp, fun j _ hj => heap_setCell_other w p j u (fun e => hj (by rw [e]))⟩ (.inr (by simp [Value.ownBlock]; exact fun e => hne e.symm))
theorem own_lt {base : Nat} {E : TypeId} {k n g cap : Nat} {xs : List Value} {w : World} (h : w.ownsRow base E k (.slice (some ⟨g, 0, none⟩) n cap) n xs) : base ≤ g ∧ g < w.heap.size := h.lt g rfl
theorem split_row {α : Type} (l : List α) (k : Nat) (h : k ≤ l.length) : ∃ a b, l = a ++ b ∧ a.length = k := ⟨l.take k, l.drop k, (List.take_append_drop k l).symm, by simp; omega⟩
/-- The next row of a slice that is filled from the front. -/
theorem own_fill {α : Type} {enc : α → List Value} {k : Nat} (hk : ∀ x, (enc x).length = k) {base : Nat} {E : TypeId} {g cap : Nat} {xs : List α} {old : List Value} {w : World} {i : Nat} {x : α} (hx : xs[i]? = some x)
    (h : w.ownsRow base E k (.slice (some ⟨g, 0, none⟩) xs.length cap) xs.length ((xs.take i).flatMap enc ++ old)) :
    ∃ old', (w.setCells g (i * k) (enc x)).ownsRow base E k (.slice (some ⟨g, 0, none⟩) xs.length cap) xs.length ((xs.take (i + 1)).flatMap enc ++ old') ∧ w.grownBy (w.setCells g (i * k) (enc x)) (some g) := by
  obtain ⟨hi, rfl⟩ := List.getElem?_eq_some_iff.1 hx
  have hl := h.1
  have hp := length_flatMap_enc enc k hk (xs.take i)
  rw [List.length_append, hp, List.length_take, Nat.min_eq_left (by omega)] at hl
  have h3 : i * k + k ≤ xs.length * k := by
    have := Nat.mul_le_mul_right k (show i + 1 ≤ xs.length by omega)
    rw [Nat.add_mul] at this; omega
  obtain ⟨a, b, rfl, ha⟩ := split_row old k (by omega)
  have := own_setCells (enc xs[i]) a ((xs.take i).flatMap enc) b w (by rw [ha, hk]) (by simpa using h)
  rw [hp, List.length_take, Nat.min_eq_left (by omega)] at this
  refine ⟨b, ?_, this.2⟩
  rw [List.take_succ_eq_append_getElem hi, List.flatMap_append]
  simpa using this.1

/-! ### Lists whose neighbours are in order -/
def prevOf {α : Type} (xs : List α) : Nat → Option α
  | 0 => none
  | k + 1 => xs[k]?
def upGo {α : Type} (ok : α → Bool) (lt : α → α → Bool) : Option α → List α → Bool
  | _, [] => true
  | none, x :: xs => ok x && upGo ok lt (some x) xs
  | some y, x :: xs => ok x && lt y x && upGo ok lt (some x) xs
theorem upGo_first {α : Type} {ok : α → Bool} {lt : α → α → Bool} {xs : List α} {x : α} (h : xs[0]? = some x) : upGo ok lt (prevOf xs 0) (xs.drop 0) = (ok x && upGo ok lt (prevOf xs 1) (xs.drop 1)) := by
  cases xs with
  | nil => cases h
  | cons y ys =>
    obtain rfl : y = x := by simpa using h
    simp [prevOf, upGo]
theorem upGo_next {α : Type} {ok : α → Bool} {lt : α → α → Bool} {xs : List α} {k : Nat} {p x : α} (hp : xs[k]? = some p) (h : xs[k + 1]? = some x) :
    upGo ok lt (prevOf xs (k + 1)) (xs.drop (k + 1)) = (ok x && lt p x && upGo ok lt (prevOf xs (k + 2)) (xs.drop (k + 2))) := by
  obtain ⟨hk, rfl⟩ := List.getElem?_eq_some_iff.1 h
  rw [List.drop_eq_getElem_cons hk]
  simp only [prevOf, hp, h, upGo]
theorem upGo_end {α : Type} {ok : α → Bool} {lt : α → α → Bool} {xs : List α} {k : Nat} (h : xs.length ≤ k) : upGo ok lt (prevOf xs k) (xs.drop k) = true := by
  rw [List.drop_eq_nil_of_le h]
  cases prevOf xs k <;> rfl
theorem upGo_bad {α : Type} {ok : α → Bool} {lt : α → α → Bool} {xs : List α} {k : Nat} {x : α} (h : xs[k]? = some x) (ho : ok x = false) : upGo ok lt (prevOf xs k) (xs.drop k) = false := by
  obtain ⟨hk, rfl⟩ := List.getElem?_eq_some_iff.1 h
  rw [List.drop_eq_getElem_cons hk]
  cases prevOf xs k <;> simp [upGo, ho]
theorem upGo_at0 {α : Type} {ok : α → Bool} {lt : α → α → Bool} {xs : List α} {k : Nat} {x : α} (hk : k = 0) (h : xs[k]? = some x) : upGo ok lt (prevOf xs k) (xs.drop k) = (ok x && upGo ok lt (prevOf xs (k + 1)) (xs.drop (k + 1))) := by
  subst hk; exact upGo_first h
theorem upGo_at {α : Type} {ok : α → Bool} {lt : α → α → Bool} {xs : List α} {k : Nat} {p x : α} (hk : 0 < k) (hp : xs[k - 1]? = some p) (h : xs[k]? = some x) :
    upGo ok lt (prevOf xs k) (xs.drop k) = (ok x && lt p x && upGo ok lt (prevOf xs (k + 1)) (xs.drop (k + 1))) := by
  obtain ⟨j, rfl⟩ : ∃ j, k = j + 1 := ⟨k - 1, by omega⟩
  exact upGo_next (by simpa using hp) h

/-- One cell of an own row is written. -/
theorem own_put {base : Nat} {E : TypeId} {k g n cap i : Nat} {pre post : List Value} {x : Value} {w : World} (h : w.ownsRow base E k (.slice (some ⟨g, 0, none⟩) n cap) n (pre ++ x :: post)) (hi : i = pre.length) (v : Value) :
    (w.setCell ⟨g, i, none⟩ v).ownsRow base E k (.slice (some ⟨g, 0, none⟩) n cap) n ((pre ++ [v]) ++ post) ∧ w.grownBy (w.setCell ⟨g, i, none⟩ v) (some g) := by
  subst hi
  have h1 := h.stored pre.length v
  rw [set_mid] at h1
  exact ⟨by simpa using h1.1, h1.2⟩
theorem gT {w w1 w2 : World} {r : Option Nat} (h : w.grownBy w1 r) (k : w1.grownBy w2 r) : w.grownBy w2 r :=
  ⟨k.os.trans h.os, k.tape.trans h.tape, k.output.trans h.output, Nat.le_trans h.size k.size, fun j hj hne => (k.block j (Nat.lt_of_lt_of_le hj h.size) hne).trans (h.block j hj hne)⟩
theorem gB {w w1 w2 : World} {r : Option Nat} (h : w.grownBy w1 r) (k : Below w1.heap.size w1 w2) : w.grownBy w2 r :=
  gT h ⟨k.os, k.tape, k.output, k.size, fun j hj _ => k.block j hj⟩

/-- An own row whose block lies in [B, C). -/
structure Own (B C : Nat) (w : World) (E : TypeId) (k : Nat) (v : Value) (n : Nat) (xs : List Value) : Prop where
  row : w.ownsRow B E k v n xs
  hi : ∀ g, v.ownBlock = some g → g < C
theorem Own.of {B : Nat} {w : World} {E : TypeId} {k : Nat} {v : Value} {n : Nat} {xs : List Value} (h : w.ownsRow B E k v n xs) : Own B w.heap.size w E k v n xs := ⟨h, fun g e => (h.lt g e).2⟩
theorem Own.below {B C : Nat} {w w' : World} {E : TypeId} {k : Nat} {v : Value} {n : Nat} {xs : List Value} (h : Own B C w E k v n xs) (hB : Below w.heap.size w w') : Own B C w' E k v n xs := ⟨own_below h.row hB, h.hi⟩
theorem Own.kept {B C : Nat} {w w' : World} {E : TypeId} {k : Nat} {v : Value} {n : Nat} {xs : List Value} {r : Option Nat} (h : Own B C w E k v n xs) (hg : w.grownBy w' r) (hr : ∀ g, r = some g → g < B ∨ C ≤ g) : Own B C w' E k v n xs := by
  refine ⟨h.row.kept hg ?_, h.hi⟩
  cases hv : v.ownBlock with
  | none => exact .inl rfl
  | some g =>
    refine .inr fun e => ?_
    have h1 := h.hi g hv
    have h2 := (h.row.lt g hv).1
    rcases hr g e.symm with h3 | h3 <;> omega
theorem Own.new {B C : Nat} {w w' : World} {E : TypeId} {k : Nat} {v : Value} {n : Nat} {xs ys : List Value} (h : Own B C w E k v n xs) (h2 : w'.ownsRow B E k v n ys) : Own B C w' E k v n ys := ⟨h2, h.hi⟩

/-! ### A struct copied field by field: its box, the result's cell, the local one -/
structure Loc3 (n : Nat) (box res loc : List Value) (W : World) : Prop where
  box : ∀ j v, box[j]? = some v → W.cell? ⟨n, j, none⟩ = some v
  res : ∀ j v, res[j]? = some v → W.cell? ⟨n + 1, j, none⟩ = some v
  loc : ∀ j v, loc[j]? = some v → W.cell? ⟨n + 1 + 1, j, none⟩ = some v
  fres : ∀ j, W.frozen? ⟨n + 1, j, none⟩ = false
  floc : ∀ j, W.frozen? ⟨n + 1 + 1, j, none⟩ = false
  size : n + 1 + 1 < W.heap.size
theorem Loc3.start (w : World) (box res loc : List Value) (t0 t1 t2 : TypeId) : Loc3 w.heap.size box res loc (((w.alloc (.cells box.toArray t0)).alloc (.cells res.toArray t1)).alloc (.cells loc.toArray t2)) where
  box := fun j v h => by rw [World.cell?_alloc_past _ _ _ (by simp; omega), World.cell?_alloc_past _ _ _ (by simp), World.cell?_alloc_at _ _ _ _ rfl]; simpa using h
  res := fun j v h => by rw [World.cell?_alloc_past _ _ _ (by simp), World.cell?_alloc_at _ _ _ _ (by simp)]; simpa using h
  loc := fun j v h => by rw [World.cell?_alloc_at _ _ _ _ (by simp)]; simpa using h
  fres := fun j => by rw [World.frozen?_alloc_past _ _ _ (by simp), World.frozen?_alloc_at _ _ _ _ (by simp)]
  floc := fun j => World.frozen?_alloc_at _ _ _ _ (by simp)
  size := by simp
theorem Loc3.below {n : Nat} {box res loc : List Value} {W W' : World} (h : Loc3 n box res loc W) (hB : Below W.heap.size W W') : Loc3 n box res loc W' where
  box := fun j v hv => (hB.cell (p := ⟨n, j, none⟩) (by have := h.size; simp; omega)).trans (h.box j v hv)
  res := fun j v hv => (hB.cell (p := ⟨n + 1, j, none⟩) (by have := h.size; simp; omega)).trans (h.res j v hv)
  loc := fun j v hv => (hB.cell (p := ⟨n + 1 + 1, j, none⟩) (by have := h.size; simp; omega)).trans (h.loc j v hv)
  fres := fun j => (hB.frozen (p := ⟨n + 1, j, none⟩) (by have := h.size; simp; omega)).trans (h.fres j)
  floc := fun j => (hB.frozen (p := ⟨n + 1 + 1, j, none⟩) (by have := h.size; simp; omega)).trans (h.floc j)
  size := Nat.lt_of_lt_of_le h.size hB.size
theorem cell_set_other {W : World} {p q : Addr} {u : Value} (h : q ≠ p) : (W.setCell p u).cell? q = W.cell? q := World.cell?_setCell_other _ _ _ _ (Ne.symm h)
theorem Loc3.setLoc {n : Nat} {box res loc : List Value} {W : World} (h : Loc3 n box res loc W) {i : Nat} {v0 : Value} (hi : loc[i]? = some v0) (u : Value) : Loc3 n box res (loc.set i u) (W.setCell ⟨n + 1 + 1, i, none⟩ u) where
  box := fun j v hv => (cell_set_other (by intro e; injection e; omega)).trans (h.box j v hv)
  res := fun j v hv => (cell_set_other (by intro e; injection e; omega)).trans (h.res j v hv)
  loc := fun j v hv => by
    by_cases e : j = i
    · subst e
      have hl : j < loc.length := (List.getElem?_eq_some_iff.1 hi).1
      rw [List.getElem?_set_self hl] at hv
      cases hv
      exact World.cell?_setCell_same _ _ _ (h.loc j v0 hi)
    · rw [List.getElem?_set_ne (fun e' => e e'.symm)] at hv
      exact (cell_set_other (by intro e'; injection e' with _ e2; exact e e2)).trans (h.loc j v hv)
  fres := fun j => (World.frozen?_setCell _ _ _ _).trans (h.fres j)
  floc := fun j => (World.frozen?_setCell _ _ _ _).trans (h.floc j)
  size := by simpa using h.size
theorem upGo_all {α : Type} {ok : α → Bool} {lt : α → α → Bool} : ∀ {xs : List α} {p : Option α}, upGo ok lt p xs = true → ∀ x ∈ xs, ok x = true
  | [], _, _, _, hx => by cases hx
  | y :: ys, p, h, x, hx => by
    have h' : ok y = true ∧ upGo ok lt (some y) ys = true := by
      cases p <;> simp [upGo] at h <;> simp [h]
    rcases List.mem_cons.1 hx with rfl | hx
    · exact h'.1
    · exact upGo_all h'.2 x hx
end Go.Proofs.YteajkofgcmfaoaaGreatDoor
