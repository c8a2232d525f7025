/- A box of eight cells is written. -/
import Derived.Test.YteajkofgcmfaoaaGreatDoorBase
import Derived.OrdersHeld
import Derived.StillTail
import Derived.Deep.RegionHeld
namespace Go.Proofs.YteajkofgcmfaoaaGreatDoor
section
def fidx {α : Type} (p : α → Bool) : List α → Nat → Int
  | [], _ => -1
  | x :: xs, i => if p x then i else fidx p xs (i + 1)
theorem fidx_drop {α : Type} (p : α → Bool) {xs : List α} {x : α} (k i : Nat) (h : xs[k]? = some x) : fidx p (xs.drop k) i = if p x then (i : Int) else fidx p (xs.drop (k + 1)) (i + 1) := by
  obtain ⟨hk, rfl⟩ := List.getElem?_eq_some_iff.1 h
  rw [List.drop_eq_getElem_cons hk]
  rfl
theorem fidx_bd {α : Type} (p : α → Bool) : ∀ (xs : List α) (i : Nat), fidx p xs i = -1 ∨ ∃ k x, fidx p xs i = (i + k : Nat) ∧ k < xs.length ∧ xs[k]? = some x ∧ p x = true
  | [], _ => .inl rfl
  | x :: xs, i => by
    unfold fidx
    by_cases h : p x = true
    · rw [if_pos h]; exact .inr ⟨0, x, rfl, by simp, rfl, h⟩
    · rw [if_neg h]
      rcases fidx_bd p xs (i + 1) with e | ⟨k, y, e, hk, hy, hp⟩
      · exact .inl e
      · exact .inr ⟨k + 1, y, by rw [e]; congr 1; omega, by simp; omega, by simpa using hy, hp⟩
theorem fidx_any {α : Type} (p : α → Bool) (xs : List α) : decide (0 ≤ fidx p xs 0) = xs.any p := by
  suffices h : ∀ (xs : List α) (i : Nat), decide (0 ≤ fidx p xs i) = xs.any p from h xs 0
  intro xs
  induction xs with
  | nil => intro i; rfl
  | cons x xs ih =>
    intro i
    unfold fidx
    by_cases h : p x = true
    · rw [if_pos h]; simp [h]
    · rw [if_neg h, ih]; simp [h]
theorem all_drop {α : Type} (p : α → Bool) {xs : List α} {k : Nat} {x : α} (h : xs[k]? = some x) : (xs.drop k).all p = (p x && (xs.drop (k + 1)).all p) := by
  obtain ⟨hk, rfl⟩ := List.getElem?_eq_some_iff.1 h
  rw [List.drop_eq_getElem_cons hk]
  rfl
/-- A function's own box at the bottom of what it made. -/
structure At (w : World) (box : List Value) (wr : World) : Prop where
  below : RowKit.Below w.heap.size w wr
  size : w.heap.size < wr.heap.size
  cell : ∀ j v, box[j]? = some v → wr.cell? ⟨w.heap.size, j, none⟩ = some v
theorem At.start (w : World) (box : List Value) (T : TypeId) : At w box (w.alloc (.cells box.toArray T)) :=
  ⟨(RowKit.Below.refl _ w).alloc (Nat.le_refl _) _, by simp, fun j v h => by rw [World.cell?_alloc_at _ _ _ _ rfl]; simpa using h⟩
theorem At.step {w : World} {box : List Value} {wr w' : World} (h : At w box wr) (hB : RowKit.Below wr.heap.size wr w') : At w box w' :=
  ⟨stepB h.below hB h.below.size, Nat.lt_of_lt_of_le h.size hB.size, fun j v hv => (hB.cell (p := ⟨w.heap.size, j, none⟩) h.size).trans (h.cell j v hv)⟩
end

section
open Go

section
variable {P : Program} {ops : Array Oper} {Q : Exit → Act → World → Prop} {md : Region.Mode} {S : World → Prop} {last : Nat}

def MAny (P : Program) (md : Region.Mode) (ops : Array Oper) (Q : Exit → Act → World → Prop) (S : World → Prop) (last : Nat) : Nat → Array Bool → Act → World → Prop
  | 0, listed, a, w => Region.ready md ops listed = [] ∧ Q .normal a w
  | f + 1, listed, a, w => (Region.ready md ops listed = [] → Q .normal a w) ∧
      ∀ i ∈ Region.ready md ops listed, wpOp P ops Q i (fun a' w' => (i = last ∨ S w') ∧ MAny P md ops Q S last f (listed.setIfInBounds i true) a' w') a w

theorem MAny.any : ∀ (f : Nat) (listed : Array Bool) (a : Act) (w : World), MAny P md ops Q S last f listed a w → wpAny P md ops Q f listed a w
  | 0, _, _, _, h => h
  | f + 1, _, _, _, h => ⟨h.1, fun i hi => wpOp_mono (fun a' w' k => MAny.any f _ a' w' k.2) (h.2 i hi)⟩

theorem MAny.first {i : Nat} {oi : Oper} {v : Value} (hi : ops[i]? = some oi) (hsel : ∀ (j : Nat) (o : Oper) cs b, ops[j]? = some o → o.op ≠ .select cs b)
    (hQ : ∀ c a w, Q (.panic c) (a.put oi.dst v) w → Q (.panic c) a w) (hw : Region.waitsFor md ops last i = true) :
    ∀ (f : Nat) (listed : Array Bool) (a : Act) (w : World),
      (∀ j oj, ops[j]? = some oj → j ≠ i → listed.getD j true = false → (∀ e ∈ oj.after, Region.binds md e = true → e.on ≠ i) → oi.apart ops oj = true) →
      i ∈ Region.ready md ops listed → YieldsIf P ops S oi v a → S w →
      MAny P md ops Q S last f (listed.setIfInBounds i true) (a.put oi.dst v) w → MAny P md ops Q S last (f + 1) listed a w := by
  intro f
  induction f with
  | zero =>
    intro listed a w _ hr hy hS H
    refine ⟨fun h => absurd hr (by rw [h]; simp), fun j hj => ?_⟩
    by_cases e : j = i
    · rw [e]; exact hy.wpOp hi hS ⟨.inr hS, H⟩
    · have h1 := ready_mono hj e
      rw [H.1] at h1
      exact absurd h1 (by simp)
  | succ f ih =>
    intro listed a w hfree hr hy hS H
    refine ⟨fun h => absurd hr (by rw [h]; simp), fun j hj => ?_⟩
    by_cases e : j = i
    · rw [e]; exact hy.wpOp hi hS ⟨.inr hS, H⟩
    · obtain ⟨hu, oj, hoj, hall⟩ := mem_ready.1 hj
      have hui := (mem_ready.1 hr).1
      have hno : ∀ x ∈ oj.after, Region.binds md x = true → x.on ≠ i := fun x hx hb he => by
        have h2 := hall x hx hb
        rw [he, getD_both hui] at h2
        cases h2
      have hjl : j ≠ last := fun he => by
        obtain ⟨ol, hol, x, hx, hb, hon⟩ := Region.waitsFor_spec hw
        rw [he, hol] at hoj
        injection hoj with hoj
        exact hno x (hoj ▸ hx) hb hon
      have h2 := wpOp_putIf hoj (hfree j oj hoj e hu hno) (fun cs b => hsel i oi cs b hi) (fun cs b => hsel j oj cs b hoj) hQ hy (H.2 j (ready_mono hj e))
      refine wpOp_mono (fun a' w' k => ?_) h2
      have hS' : S w' := k.2.1.resolve_left hjl
      refine ⟨.inr hS', ih (listed.setIfInBounds j true) a' w' (fun k' ok hk hki hun hn => hfree k' ok hk hki ?_ hn) (ready_mono hr (Ne.symm e)) k.1 hS' ?_⟩
      · by_cases h : j = k'
        · rw [← h]; exact hu
        · rw [getD_set_ne true h] at hun; exact hun
      · rw [Array.setIfInBounds_comm _ _ e]
        exact k.2.2

theorem MAny.take {i : Nat} {oi : Oper} {v : Value} {f : Nat} {listed : Array Bool} {a : Act} {w : World} (hi : ops[i]? = some oi)
    (hs : Region.noSelect ops = true) (hf : Region.free md ops listed i = true) (hr : (Region.ready md ops listed).contains i = true)
    (hQ : ∀ c a w, Q (.panic c) (a.put oi.dst v) w → Q (.panic c) a w) (hw : Region.waitsFor md ops last i = true) (hy : YieldsIf P ops S oi v a) (hS : S w)
    (h : MAny P md ops Q S last f (listed.setIfInBounds i true) (a.put oi.dst v) w) : MAny P md ops Q S last (f + 1) listed a w :=
  MAny.first hi (Region.noSelect_spec hs) hQ hw f listed a w (Region.free_spec hi hf) (by simpa using hr) hy hS h

def MReady (P : Program) (md : Region.Mode) (ops : Array Oper) (Q : Exit → Act → World → Prop) (S : World → Prop) (last : Nat) (f : Nat) (listed : Array Bool) (a : Act) (w : World) (rs : List Nat) : Prop :=
  ∀ i ∈ rs, wpOp P ops Q i (fun a' w' => (i = last ∨ S w') ∧ MAny P md ops Q S last f (listed.setIfInBounds i true) a' w') a w
theorem MReady.nil {f : Nat} {listed : Array Bool} {a : Act} {w : World} : MReady P md ops Q S last f listed a w [] := fun _ h => by cases h
theorem MReady.cons {f : Nat} {listed : Array Bool} {a : Act} {w : World} {i : Nat} {o : Oper} {rs : List Nat} (ho : ops[i]? = some o)
    (h : ∀ K' : Act → World → Prop, Shut (∀ a w, (i = last ∨ S w) → MAny P md ops Q S last f (listed.setIfInBounds i true) a w → K' a w) → if Region.wanted o (yielded ops a.tmps) = true then Oper.wp P o a w K' Q else K' (a.put o.dst undef) w)
    (hs : MReady P md ops Q S last f listed a w rs) : MReady P md ops Q S last f listed a w (i :: rs) := fun j hj => by
  rcases List.mem_cons.1 hj with e | hj
  · rw [e]; exact wpOp_step ho (fun K' hK => h K' (fun a w hS hW => hK a w ⟨hS, hW⟩))
  · exact hs j hj
theorem MAny.ready {rs : List Nat} {f : Nat} {listed : Array Bool} {a : Act} {w : World} (hr : Region.ready md ops listed = rs) (hne : rs ≠ [])
    (h : MReady P md ops Q S last f listed a w rs) : MAny P md ops Q S last (f + 1) listed a w :=
  ⟨fun h0 => absurd (hr ▸ h0) hne, hr ▸ h⟩
theorem MAny.done {listed : Array Bool} {a : Act} {w : World} (hr : Region.ready md ops listed = []) (h : Q .normal a w) : ∀ f, MAny P md ops Q S last f listed a w
  | 0 => ⟨hr, h⟩
  | _ + 1 => ⟨fun _ => h, by rw [hr]; simp⟩
theorem MAny.region {id : Nat} {a : Act} {w : World} (hm : P.follows .mixedOrders = true)
    (h : MAny P .any ops Q S last ops.size (Array.replicate ops.size false) a w.drew) : (Code.region id ops true).wp P Q a w :=
  wp_region_any hm (MAny.any _ _ _ _ h)
end
end

section
open Go.ChangeShapes Go.WideShapes Go.ChangeAt Go.RowKit

/-- The cells of block g, which is one's own, are xs. -/
def Box (B : Nat) (w : World) (T : TypeId) (g : Nat) (xs : List Value) : Prop := w.ownsRow B T 1 (.slice (some ⟨g, 0, none⟩) xs.length xs.length) xs.length xs
theorem Box.lt {B : Nat} {w : World} {T : TypeId} {g : Nat} {xs : List Value} (h : Box B w T g xs) : B ≤ g ∧ g < w.heap.size := own_lt h
theorem Box.cell {B : Nat} {w : World} {T : TypeId} {g : Nat} {xs : List Value} (h : Box B w T g xs) (i : Nat) (v : Value) (hi : xs[i]? = some v) : w.cell? ⟨g, i, none⟩ = some v := by
  have hl := (List.getElem?_eq_some_iff.1 hi).1
  have := World.ownsRow.cellAt h i (by omega)
  rw [this]
  simpa using hi
theorem Box.below {B : Nat} {w w' : World} {T : TypeId} {g : Nat} {xs : List Value} (h : Box B w T g xs) (hB : Below w.heap.size w w') : Box B w' T g xs := own_below h hB
theorem Box.put {B : Nat} {w : World} {T : TypeId} {g i : Nat} {pre post : List Value} {x : Value} (h : Box B w T g (pre ++ x :: post)) (hi : i = pre.length) (v : Value) :
    Box B (w.setCell ⟨g, i, none⟩ v) T g (pre ++ v :: post) ∧ w.grownBy (w.setCell ⟨g, i, none⟩ v) (some g) := by
  have hp := own_put h hi v
  have e : (pre ++ x :: post).length = (pre ++ v :: post).length := by simp
  refine ⟨?_, hp.2⟩
  have := hp.1
  rw [e, List.append_assoc] at this
  exact this
theorem Box.keep {B : Nat} {w w' : World} {T : TypeId} {g x : Nat} {xs : List Value} (h : Box B w T g xs) (hg : w.grownBy w' (some x)) (hne : g ≠ x) : Box B w' T g xs :=
  World.ownsRow.kept h hg (.inr (by simp [Value.ownBlock]; exact hne))
theorem Box.new (w : World) (T : TypeId) (xs : List Value) (B : Nat) (hB : B ≤ w.heap.size) (hl : xs.length ≤ 9223372036854775807) : Box B (w.alloc (.cells xs.toArray T)) T w.heap.size xs :=
  ⟨by simp, .inr ⟨w.heap.size, xs.length, xs.toArray, rfl, hB, heap_alloc_new _ _, Nat.le_refl _, hl, by simp, by simp⟩⟩
theorem Box.put2 {B : Nat} {w : World} {T : TypeId} {g : Nat} {x y : Value} (h : Box B w T g [x, y]) (a b : Value) :
    Box B ((w.setCell ⟨g, 0, none⟩ a).setCell ⟨g, 1, none⟩ b) T g [a, b] ∧ w.grownBy ((w.setCell ⟨g, 0, none⟩ a).setCell ⟨g, 1, none⟩ b) (some g) := by
  have h1 := Box.put (i := 0) (pre := []) (post := [y]) h rfl a
  have h2 := Box.put (i := 1) (pre := [a]) (post := []) h1.1 rfl b
  have G : ∀ {u v s : World}, u.grownBy v (some g) → v.grownBy s (some g) → u.grownBy s (some g) := fun p q =>
    ⟨q.os.trans p.os, q.tape.trans p.tape, q.output.trans p.output, Nat.le_trans p.size q.size, fun j hj hne => (q.block j (Nat.lt_of_lt_of_le hj p.size) hne).trans (p.block j hj hne)⟩
  exact ⟨h2.1, G h1.2 h2.2⟩
theorem Box.put3 {B : Nat} {w : World} {T : TypeId} {g : Nat} {x y z : Value} (h : Box B w T g [x, y, z]) (a b c : Value) :
    Box B (((w.setCell ⟨g, 0, none⟩ a).setCell ⟨g, 1, none⟩ b).setCell ⟨g, 2, none⟩ c) T g [a, b, c] ∧ w.grownBy (((w.setCell ⟨g, 0, none⟩ a).setCell ⟨g, 1, none⟩ b).setCell ⟨g, 2, none⟩ c) (some g) := by
  have h1 := Box.put (i := 0) (pre := []) (post := [y, z]) h rfl a
  have h2 := Box.put (i := 1) (pre := [a]) (post := [z]) h1.1 rfl b
  have h3 := Box.put (i := 2) (pre := [a, b]) (post := []) h2.1 rfl c
  have G : ∀ {u v s : World}, u.grownBy v (some g) → v.grownBy s (some g) → u.grownBy s (some g) := fun p q =>
    ⟨q.os.trans p.os, q.tape.trans p.tape, q.output.trans p.output, Nat.le_trans p.size q.size, fun j hj hne => (q.block j (Nat.lt_of_lt_of_le hj p.size) hne).trans (p.block j hj hne)⟩
  exact ⟨h3.1, G (G h1.2 h2.2) h3.2⟩
end

section
open Go.ChangeShapes Go.WideShapes Go.ChangeAt Go.RowKit Go.IntWalk

theorem Box.put8 {B : Nat} {w : World} {T : TypeId} {g : Nat} {x0 x1 x2 x3 x4 x5 x6 x7 : Value} (h : Box B w T g [x0, x1, x2, x3, x4, x5, x6, x7]) (a0 a1 a2 a3 a4 a5 a6 a7 : Value) :
    Box B ((((((((w.setCell ⟨g, 0, none⟩ (a0)).setCell ⟨g, 1, none⟩ (a1)).setCell ⟨g, 2, none⟩ (a2)).setCell ⟨g, 3, none⟩ (a3)).setCell ⟨g, 4, none⟩ (a4)).setCell ⟨g, 5, none⟩ (a5)).setCell ⟨g, 6, none⟩ (a6)).setCell ⟨g, 7, none⟩ (a7)) T g [a0, a1, a2, a3, a4, a5, a6, a7] ∧ w.grownBy ((((((((w.setCell ⟨g, 0, none⟩ (a0)).setCell ⟨g, 1, none⟩ (a1)).setCell ⟨g, 2, none⟩ (a2)).setCell ⟨g, 3, none⟩ (a3)).setCell ⟨g, 4, none⟩ (a4)).setCell ⟨g, 5, none⟩ (a5)).setCell ⟨g, 6, none⟩ (a6)).setCell ⟨g, 7, none⟩ (a7)) (some g) := by
  have h0 := Box.put (i := 0) (pre := []) (post := [x1, x2, x3, x4, x5, x6, x7]) h rfl a0
  have h1 := Box.put (i := 1) (pre := [a0]) (post := [x2, x3, x4, x5, x6, x7]) h0.1 rfl a1
  have h2 := Box.put (i := 2) (pre := [a0, a1]) (post := [x3, x4, x5, x6, x7]) h1.1 rfl a2
  have h3 := Box.put (i := 3) (pre := [a0, a1, a2]) (post := [x4, x5, x6, x7]) h2.1 rfl a3
  have h4 := Box.put (i := 4) (pre := [a0, a1, a2, a3]) (post := [x5, x6, x7]) h3.1 rfl a4
  have h5 := Box.put (i := 5) (pre := [a0, a1, a2, a3, a4]) (post := [x6, x7]) h4.1 rfl a5
  have h6 := Box.put (i := 6) (pre := [a0, a1, a2, a3, a4, a5]) (post := [x7]) h5.1 rfl a6
  have h7 := Box.put (i := 7) (pre := [a0, a1, a2, a3, a4, a5, a6]) (post := []) h6.1 rfl a7
  exact ⟨h7.1, gT (gT (gT (gT (gT (gT (gT (h0.2) h1.2) h2.2) h3.2) h4.2) h5.2) h6.2) h7.2⟩
end
end Go.Proofs.YteajkofgcmfaoaaGreatDoor
