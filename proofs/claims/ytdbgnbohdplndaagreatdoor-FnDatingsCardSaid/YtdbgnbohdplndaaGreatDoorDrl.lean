/- Walks: a list of reigns is drawn. Printed by gen_drl.py. -/
import Derived.Test.YtdbgnbohdplndaaGreatDoorBase
import Derived.OrdersHeld
import Derived.StillTail
import Derived.Deep.RegionHeld
import Derived.Test.YtdbgnbohdplndaaGreatDoorDraw
import Derived.Test.YtdbgnbohdplndaaGreatDoorDateS
import Derived.Test.YtdbgnbohdplndaaGreatDoorTRg
import Derived.Test.YtdbgnbohdplndaaGreatDoorFix
import Derived.Deep.AppendLies
import Derived.Deep.CutRange
import Derived.Deep.CutBlock
import Derived.Test.YtdbgnbohdplndaaGreatDoorSpRow
import Derived.Deep.RegionHeldLaw
namespace Go.Proofs.YtdbgnbohdplndaaGreatDoor
section
open Go

section
variable {P : Program} {ops : Array Oper} {Q : Exit → Act → World → Prop} {md : Region.Mode} {S : World → Prop} {last : Nat}

def MAny (P : Program) (md : Region.Mode) (ops : Array Oper) (Q : Exit → Act → World → Prop) (S : World → Prop) (last : Nat) : Nat → Array Bool → Act → World → Prop
  | 0, listed, a, w => Region.ready md ops listed = [] ∧ Q .normal a w
  | f + 1, listed, a, w => (Region.ready md ops listed = [] → Q .normal a w) ∧
      ∀ i ∈ Region.ready md ops listed, wpOp P ops Q i (fun a' w' => (i = last ∨ S w') ∧ MAny P md ops Q S last f (listed.setIfInBounds i true) a' w') a w

theorem MAny.any : ∀ (f : Nat) (listed : Array Bool) (a : Act) (w : World), MAny P md ops Q S last f listed a w → wpAny P md ops Q f listed a w
  | 0, _, _, _, h => h
  | f + 1, _, _, _, h => ⟨h.1, fun i hi => wpOp_mono (fun a' w' k => MAny.any f _ a' w' k.2) (h.2 i hi)⟩

theorem MAny.first {i : Nat} {oi : Oper} {v : Value} (hi : ops[i]? = some oi) (hsel : ∀ (j : Nat) (o : Oper) cs b, ops[j]? = some o → o.op ≠ .select cs b)
    (hQ : ∀ c a w, Q (.panic c) (a.put oi.dst v) w → Q (.panic c) a w) (hw : Region.waitsFor md ops last i = true) :
    ∀ (f : Nat) (listed : Array Bool) (a : Act) (w : World),
      (∀ j oj, ops[j]? = some oj → j ≠ i → listed.getD j true = false → (∀ e ∈ oj.after, Region.binds md e = true → e.on ≠ i) → oi.apart ops oj = true) →
      i ∈ Region.ready md ops listed → YieldsIf P ops S oi v a → S w →
      MAny P md ops Q S last f (listed.setIfInBounds i true) (a.put oi.dst v) w → MAny P md ops Q S last (f + 1) listed a w := by
  intro f
  induction f with
  | zero =>
    intro listed a w _ hr hy hS H
    refine ⟨fun h => absurd hr (by rw [h]; simp), fun j hj => ?_⟩
    by_cases e : j = i
    · rw [e]; exact hy.wpOp hi hS ⟨.inr hS, H⟩
    · have h1 := ready_mono hj e
      rw [H.1] at h1
      exact absurd h1 (by simp)
  | succ f ih =>
    intro listed a w hfree hr hy hS H
    refine ⟨fun h => absurd hr (by rw [h]; simp), fun j hj => ?_⟩
    by_cases e : j = i
    · rw [e]; exact hy.wpOp hi hS ⟨.inr hS, H⟩
    · obtain ⟨hu, oj, hoj, hall⟩ := mem_ready.1 hj
      have hui := (mem_ready.1 hr).1
      have hno : ∀ x ∈ oj.after, Region.binds md x = true → x.on ≠ i := fun x hx hb he => by
        have h2 := hall x hx hb
        rw [he, getD_both hui] at h2
        cases h2
      have hjl : j ≠ last := fun he => by
        obtain ⟨ol, hol, x, hx, hb, hon⟩ := Region.waitsFor_spec hw
        rw [he, hol] at hoj
        injection hoj with hoj
        exact hno x (hoj ▸ hx) hb hon
      have h2 := wpOp_putIf hoj (hfree j oj hoj e hu hno) (fun cs b => hsel i oi cs b hi) (fun cs b => hsel j oj cs b hoj) hQ hy (H.2 j (ready_mono hj e))
      refine wpOp_mono (fun a' w' k => ?_) h2
      have hS' : S w' := k.2.1.resolve_left hjl
      refine ⟨.inr hS', ih (listed.setIfInBounds j true) a' w' (fun k' ok hk hki hun hn => hfree k' ok hk hki ?_ hn) (ready_mono hr (Ne.symm e)) k.1 hS' ?_⟩
      · by_cases h : j = k'
        · rw [← h]; exact hu
        · rw [getD_set_ne true h] at hun; exact hun
      · rw [Array.setIfInBounds_comm _ _ e]
        exact k.2.2

theorem MAny.take {i : Nat} {oi : Oper} {v : Value} {f : Nat} {listed : Array Bool} {a : Act} {w : World} (hi : ops[i]? = some oi)
    (hs : Region.noSelect ops = true) (hf : Region.free md ops listed i = true) (hr : (Region.ready md ops listed).contains i = true)
    (hQ : ∀ c a w, Q (.panic c) (a.put oi.dst v) w → Q (.panic c) a w) (hw : Region.waitsFor md ops last i = true) (hy : YieldsIf P ops S oi v a) (hS : S w)
    (h : MAny P md ops Q S last f (listed.setIfInBounds i true) (a.put oi.dst v) w) : MAny P md ops Q S last (f + 1) listed a w :=
  MAny.first hi (Region.noSelect_spec hs) hQ hw f listed a w (Region.free_spec hi hf) (by simpa using hr) hy hS h

def MReady (P : Program) (md : Region.Mode) (ops : Array Oper) (Q : Exit → Act → World → Prop) (S : World → Prop) (last : Nat) (f : Nat) (listed : Array Bool) (a : Act) (w : World) (rs : List Nat) : Prop :=
  ∀ i ∈ rs, wpOp P ops Q i (fun a' w' => (i = last ∨ S w') ∧ MAny P md ops Q S last f (listed.setIfInBounds i true) a' w') a w
theorem MReady.nil {f : Nat} {listed : Array Bool} {a : Act} {w : World} : MReady P md ops Q S last f listed a w [] := fun _ h => by cases h
theorem MReady.cons {f : Nat} {listed : Array Bool} {a : Act} {w : World} {i : Nat} {o : Oper} {rs : List Nat} (ho : ops[i]? = some o)
    (h : ∀ K' : Act → World → Prop, Shut (∀ a w, (i = last ∨ S w) → MAny P md ops Q S last f (listed.setIfInBounds i true) a w → K' a w) → if Region.wanted o (yielded ops a.tmps) = true then Oper.wp P o a w K' Q else K' (a.put o.dst undef) w)
    (hs : MReady P md ops Q S last f listed a w rs) : MReady P md ops Q S last f listed a w (i :: rs) := fun j hj => by
  rcases List.mem_cons.1 hj with e | hj
  · rw [e]; exact wpOp_step ho (fun K' hK => h K' (fun a w hS hW => hK a w ⟨hS, hW⟩))
  · exact hs j hj
theorem MAny.ready {rs : List Nat} {f : Nat} {listed : Array Bool} {a : Act} {w : World} (hr : Region.ready md ops listed = rs) (hne : rs ≠ [])
    (h : MReady P md ops Q S last f listed a w rs) : MAny P md ops Q S last (f + 1) listed a w :=
  ⟨fun h0 => absurd (hr ▸ h0) hne, hr ▸ h⟩
theorem MAny.done {listed : Array Bool} {a : Act} {w : World} (hr : Region.ready md ops listed = []) (h : Q .normal a w) : ∀ f, MAny P md ops Q S last f listed a w
  | 0 => ⟨hr, h⟩
  | _ + 1 => ⟨fun _ => h, by rw [hr]; simp⟩
theorem MAny.region {id : Nat} {a : Act} {w : World} (hm : P.follows .mixedOrders = true)
    (h : MAny P .any ops Q S last ops.size (Array.replicate ops.size false) a w.drew) : (Code.region id ops true).wp P Q a w :=
  wp_region_any hm (MAny.any _ _ _ _ h)
end
end

section
open Go.ChangeShapes Go.WideShapes Go.ChangeAt Go.RowKit Go.IntWalk

theorem grR (w : World) (r : Option Nat) : w.grownBy w r := ⟨rfl, rfl, rfl, Nat.le_refl _, fun _ _ _ => rfl⟩
theorem grB {w w' : World} (h : Below w.heap.size w w') (r : Option Nat) : w.grownBy w' r := gB (grR w r) h
theorem gN {w w1 w2 : World} {p g : Nat} (h : w.grownBy w1 (some p)) (k : w1.grownBy w2 (some g)) (hg : w.heap.size ≤ g) : w.grownBy w2 (some p) :=
  ⟨k.os.trans h.os, k.tape.trans h.tape, k.output.trans h.output, Nat.le_trans h.size k.size, fun j hj hne => (k.block j (Nat.lt_of_lt_of_le hj h.size) (fun e => by injection e with e; omega)).trans (h.block j hj hne)⟩
theorem own_keepV {B : Nat} {E : TypeId} {k n : Nat} {x : Option Nat} {v : Value} {xs : List Value} {w w' : World} (h : w.ownsRow B E k v n xs) (hg : w.grownBy w' x) (hx : ∀ g, v.ownBlock = some g → x ≠ some g) : w'.ownsRow B E k v n xs := by
  rcases h.2 with ⟨rfl, rfl⟩ | ⟨g, c, cur, rfl, hb, hh, h4⟩
  · exact ⟨h.1, .inl ⟨rfl, rfl⟩⟩
  · refine ⟨h.1, .inr ⟨g, c, cur, rfl, hb, ?_, h4⟩⟩
    rw [hg.block g (h.lt g rfl).2 (fun e => hx g rfl e.symm)]
    exact hh
theorem own_keepA {B : Nat} {E : TypeId} {k n x : Nat} {v : Value} {xs : List Value} {w w' : World} (h : w.ownsRow B E k v n xs) (hg : w.grownBy w' (some x)) (hx : x < B) : w'.ownsRow B E k v n xs :=
  own_keepV h hg (fun g e e2 => by injection e2 with e2; have := (h.lt g e).1; omega)
theorem Box.keepA {B : Nat} {w w' : World} {T : TypeId} {g x : Nat} {xs : List Value} (h : Box B w T g xs) (hg : w.grownBy w' (some x)) (hx : x < B) : Box B w' T g xs := own_keepA h hg hx
/-- A draw goes on since world w: the source lies at p; all else that lay in w lies. -/
structure Drw (w0 : World) (cs : Option Addr) (cap : Nat) (bs : List Int) (p : Nat) (w W : World) : Prop where
  src : Src w0 cs cap bs p W
  gr : w.grownBy W (some p)
  hp : p < w.heap.size
section
variable {w0 : World} {cs : Option Addr} {cap : Nat} {bs : List Int} {p : Nat} {w W W' : World}
theorem Drw.start (h : Src w0 cs cap bs p w) : Drw w0 cs cap bs p w w := ⟨h, grR _ _, h.lt.2⟩
theorem Drw.below (h : Drw w0 cs cap bs p w W) (hB : Below W.heap.size W W') : Drw w0 cs cap bs p w W' := ⟨h.src.below hB, gB h.gr hB, h.hp⟩
theorem Drw.call (h : Drw w0 cs cap bs p w W) (hs : Src w0 cs cap bs p W') (hG : W.grownBy W' (some p)) : Drw w0 cs cap bs p w W' := ⟨hs, gT h.gr hG, h.hp⟩
theorem Drw.store {g : Nat} (h : Drw w0 cs cap bs p w W) (hG : W.grownBy W' (some g)) (hg : w.heap.size ≤ g) : Drw w0 cs cap bs p w W' :=
  ⟨h.src.other hG (by have := h.hp; omega) (by have := h.hp; have := h.src.lt; omega), gN h.gr hG hg, h.hp⟩
theorem Drw.grown {r : Option Nat} (h : Drw w0 cs cap bs p w W) (hG : W.grownBy W' r) (hg : ∀ g, r = some g → w.heap.size ≤ g) : Drw w0 cs cap bs p w W' := by
  cases r with
  | none => exact h.below ⟨hG.os, hG.tape, hG.output, hG.size, fun j hj => hG.block j hj (by simp)⟩
  | some g => exact h.store hG (hg g rfl)
theorem Drw.size (h : Drw w0 cs cap bs p w W) : w.heap.size ≤ W.heap.size := h.gr.size
theorem Drw.base (h : Drw w0 cs cap bs p w W) : Below w0.heap.size w0 W := h.src.base
theorem Drw.cell {b j : Nat} {v : Value} (_h : Drw w0 cs cap bs p w W) (hG : W.grownBy W' (some p)) (c : W.cell? ⟨b, j, none⟩ = some v) (hb : b < W.heap.size) (hne : b ≠ p) : W'.cell? ⟨b, j, none⟩ = some v :=
  (gcell hG (p := ⟨b, j, none⟩) hb (fun g e => by cases e; exact hne)).trans c
end
/-- A row of numbers that an array literal has made. -/
theorem rd_lit {w : World} {c : Array Value} {xs : List Int} {p : Nat} (hc : c = (xs.map fun m => Value.int .i64 m).toArray) (hp : p < w.heap.size) (W' : World) (hG : (w.alloc (.cells c 2)).grownBy W' (some p)) : Rd encI W' (some ⟨w.heap.size, 0, none⟩) xs := by
  intro i x hi
  have hlt : w.heap.size < (w.alloc (.cells c 2)).heap.size := by simp
  refine ⟨w.heap.size, 0, rfl, Nat.lt_of_lt_of_le hlt hG.size, fun j v hv => ?_⟩
  rw [gcell hG (p := ⟨w.heap.size, _, none⟩) hlt (fun g e => by cases e; exact Nat.ne_of_gt hp), World.cell?_alloc_at _ _ _ _ rfl]
  subst hc
  match j, hv with
  | 0, hv => cases hv; simp [encI, hi]
theorem belowA (w : World) (o : Obj) : Below w.heap.size w (w.alloc o) := (Below.refl _ _).alloc (Nat.le_refl _) _

set_option maxRecDepth 100000 in
set_option maxHeartbeats 1000000 in
theorem l07DrawKing_any (w0 : World) (cs : Option Addr) (cap : Nat) (bs : List Int) (p : Nat) (w : World) (hx : Rd encB w0 cs bs) (hb : ∀ m ∈ bs, goodB m) (hl : bs.length ≤ 4096) (hs : Src w0 cs cap bs p w) :
    Calls Tryz.prog 176 #[.pointer (some ⟨p, 0, none⟩)] w fun e w' => ∃ k : ByteArray, e = .returned (.string k) ∧ k.size ≤ 13 ∧ Src w0 cs cap bs p w' ∧ w.grownBy w' (some p) := by
  have D := Drw.start hs
  have HN := Lib.hid (fun n W hn1 hn2 hs => l01Next_any w0 cs cap bs p n W hx hb hl hn1 hn2 hs)
  go_enter Tryz.func176, Tryz.ntmps176
  go_wp2_with fail
  generalize hW : w.alloc (.cells #[.string ⟨#[97, 100, 97, 109]⟩, .string ⟨#[98, 101, 114, 116, 97]⟩, .string ⟨#[99, 97, 114, 108]⟩, .string ⟨#[100, 111, 114, 97]⟩] 9) = W
  have D : Drw w0 cs cap bs p w W := hW ▸ D.below (belowA _ _)
  have hlt : w.heap.size < W.heap.size := by rw [← hW]; simp
  have c0 : W.cell? ⟨w.heap.size, 0, none⟩ = some (.string ⟨#[97, 100, 97, 109]⟩) := by rw [← hW]; exact World.cell?_alloc_at _ _ _ _ rfl
  have c1 : W.cell? ⟨w.heap.size, 1, none⟩ = some (.string ⟨#[98, 101, 114, 116, 97]⟩) := by rw [← hW]; exact World.cell?_alloc_at _ _ _ _ rfl
  have c2 : W.cell? ⟨w.heap.size, 2, none⟩ = some (.string ⟨#[99, 97, 114, 108]⟩) := by rw [← hW]; exact World.cell?_alloc_at _ _ _ _ rfl
  have c3 : W.cell? ⟨w.heap.size, 3, none⟩ = some (.string ⟨#[100, 111, 114, 97]⟩) := by rw [← hW]; exact World.cell?_alloc_at _ _ _ _ rfl
  clear hW
  have hne : w.heap.size ≠ p := Nat.ne_of_gt D.hp
  refine (HN.out 4 _ (by decide) (by decide) D.src).mono ?_
  rintro e W2 ⟨r, rfl, hr0, hr1, hs2, hG⟩
  have c0 := D.cell hG c0 hlt hne
  have c1 := D.cell hG c1 hlt hne
  have c2 := D.cell hG c2 hlt hne
  have c3 := D.cell hG c3 hlt hne
  have D := D.call hs2 hG
  clear hs2 hG hs HN
  obtain rfl | rfl | rfl | rfl : r = 0 ∨ r = 1 ∨ r = 2 ∨ r = 3 := by omega
  all_goals
    go_wp2
    go_ret
    exact ⟨_, rfl, by decide, D.src, D.gr⟩
set_option maxRecDepth 100000 in
set_option maxHeartbeats 1000000 in
theorem l01DrawDay_any (w0 : World) (cs : Option Addr) (cap : Nat) (bs : List Int) (p : Nat) (w : World) (hx : Rd encB w0 cs bs) (hb : ∀ m ∈ bs, goodB m) (hl : bs.length ≤ 4096) (hs : Src w0 cs cap bs p w) :
    Calls Tryz.prog 144 #[.pointer (some ⟨p, 0, none⟩)] w fun e w' => ∃ r : Int, e = .returned (.int .i64 r) ∧ (-1 ≤ r ∧ r ≤ 730500) ∧ Src w0 cs cap bs p w' ∧ w.grownBy w' (some p) := by
  have D := Drw.start hs
  have HN := Lib.hid (fun n W hn1 hn2 hs => l01Next_any w0 cs cap bs p n W hx hb hl hn1 hn2 hs)
  have HP := Lib.hid (fun a ca xs W hs hxs h1 h2 => l01Pick_any w0 cs cap bs p a ca xs W hx hb hl hs hxs h1 h2)
  go_enter Tryz.func144, Tryz.ntmps144
  go_wp2_with fail
  refine (HN.out 16 _ (by decide) (by decide) D.src).mono ?_
  rintro e w1 ⟨r, rfl, hr0, hr1, hs, hG⟩
  have D := D.call hs hG
  clear hs hG
  by_cases h0 : r = 0
  · subst h0
    go_wp2_with fail
    have hrd := rd_lit (w := w1) (c := #[.int .i64 (-1), .int .i64 0, .int .i64 1, .int .i64 2, .int .i64 730498, .int .i64 730499, .int .i64 730500]) (xs := [(-1), 0, 1, 2, 730498, 730499, 730500]) (p := p) rfl D.src.lt.2
    have D := D.below (belowA _ (.cells #[.int .i64 (-1), .int .i64 0, .int .i64 1, .int .i64 2, .int .i64 730498, .int .i64 730499, .int .i64 730500] 2))
    refine (HP.out _ 7 [(-1), 0, 1, 2, 730498, 730499, 730500] _ D.src hrd (by simp) (by simp)).mono ?_
    rintro e w2 ⟨v, rfl, hv, hs, hG⟩
    have D := D.call hs hG
    clear hs hG
    go_wp2
    go_ret
    exact ⟨_, rfl, by simp at hv; omega, D.src, D.gr⟩
  · have h0' : (r == 0) = false := by simpa using h0
    go_wp2_with fail
    refine (HN.out 730499 _ (by decide) (by decide) D.src).mono ?_
    rintro e w3 ⟨v, rfl, hv0, hv1, hs, hG⟩
    have D := D.call hs hG
    clear hs hG
    go_wp2
    go_ret
    exact ⟨_, rfl, by omega, D.src, D.gr⟩
set_option maxRecDepth 100000 in
set_option maxHeartbeats 1000000 in
theorem l07DrawDay_any (w0 : World) (cs : Option Addr) (cap : Nat) (bs : List Int) (p : Nat) (w : World) (hx : Rd encB w0 cs bs) (hb : ∀ m ∈ bs, goodB m) (hl : bs.length ≤ 4096) (hs : Src w0 cs cap bs p w) :
    Calls Tryz.prog 105 #[.pointer (some ⟨p, 0, none⟩)] w fun e w' => ∃ r : Int, e = .returned (.int .i64 r) ∧ (-1 ≤ r ∧ r ≤ 730500) ∧ Src w0 cs cap bs p w' ∧ w.grownBy w' (some p) := by
  have D := Drw.start hs
  have HN := Lib.hid (fun n W hn1 hn2 hs => l01Next_any w0 cs cap bs p n W hx hb hl hn1 hn2 hs)
  go_enter Tryz.func105, Tryz.ntmps105
  go_wp2_with fail
  refine (HN.out 24 _ (by decide) (by decide) D.src).mono ?_
  rintro e w4 ⟨r, rfl, hr0, hr1, hs, hG⟩
  have D := D.call hs hG
  clear hs hG
  by_cases h0 : r = 0
  · subst h0
    go_wp2_with fail
    refine (l01DrawDay_any w0 cs cap bs p _ hx hb hl D.src).mono ?_
    rintro e w5 ⟨v, rfl, hv, hs, hG⟩
    have D := D.call hs hG
    clear hs hG
    go_wp2
    go_ret
    exact ⟨_, rfl, hv, D.src, D.gr⟩
  · have h0' : (r == 0) = false := by simpa using h0
    go_wp2_with fail
    refine (HN.out 12000 _ (by decide) (by decide) D.src).mono ?_
    rintro e w6 ⟨v, rfl, hv0, hv1, hs, hG⟩
    have D := D.call hs hG
    clear hs hG
    have v1 := i64_in (420000 + v) (by omega)
    go_wp2
    go_ret
    exact ⟨_, rfl, by omega, D.src, D.gr⟩
end

section
open Go.ChangeShapes Go.WideShapes Go.ChangeAt Go.RowKit Go.IntWalk

/-- A drawn reign's bounds. -/
def okD (m : Rg) : Prop := m.king.size ≤ 13 ∧ (-2000 ≤ m.fr ∧ m.fr ≤ 3000000) ∧ (-2000 ≤ m.to ∧ m.to ≤ 3000000)
theorem okD_mk {k : ByteArray} {f t : Int} (h1 : k.size ≤ 13) (h2 : -2000 ≤ f ∧ f ≤ 3000000) (h3 : -2000 ≤ t ∧ t ≤ 3000000) : okD ⟨k, f, t⟩ := ⟨h1, h2, h3⟩

set_option maxRecDepth 100000 in
set_option maxHeartbeats 4000000 in
theorem l07DrawReign_any (w0 : World) (cs : Option Addr) (cap : Nat) (bs : List Int) (p : Nat) (w : World) (hx : Rd encB w0 cs bs) (hb : ∀ m ∈ bs, goodB m) (hl : bs.length ≤ 4096) (hs : Src w0 cs cap bs p w) :
    Calls Tryz.prog 143 #[.pointer (some ⟨p, 0, none⟩)] w fun e w' => ∃ m : Rg, e = .returned (.agg #[.string m.king, .int .i64 m.fr, .int .i64 m.to]) ∧ okD m ∧ Src w0 cs cap bs p w' ∧ w.grownBy w' (some p) := by
  have D := Drw.start hs
  have res := Box.new w 119 [.string ⟨#[]⟩, .int .i64 0, .int .i64 0] w.heap.size (Nat.le_refl _) (by simp)
  have D := D.below (belowA w (.cells #[.string ⟨#[]⟩, .int .i64 0, .int .i64 0] 119))
  have HN := Lib.hid (fun n W hn1 hn2 hs => l01Next_any w0 cs cap bs p n W hx hb hl hn1 hn2 hs)
  have HP := Lib.hid (fun a ca xs W hs hxs h1 h2 => l01Pick_any w0 cs cap bs p a ca xs W hx hb hl hs hxs h1 h2)
  have HK := Lib.hid (fun W hs => l07DrawKing_any w0 cs cap bs p W hx hb hl hs)
  clear hs
  go_enter Tryz.func143, Tryz.ntmps143
  go_wp2_with fail
  refine (HN.out 6000 _ (by decide) (by decide) D.src).mono ?_
  rintro e w7 ⟨r, rfl, hr0, hr1, hs, hG⟩
  have res := Box.keepA res hG D.hp
  have D := D.call hs hG
  clear hs hG
  have v1 := i64_in (420000 + r) (by omega)
  go_wp2_with fail
  refine (HN.out 6 _ (by decide) (by decide) D.src).mono ?_
  rintro e w8 ⟨q, rfl, hq0, hq1, hs, hG⟩
  have res := Box.keepA res hG D.hp
  have D := D.call hs hG
  clear hs hG
  by_cases q0 : q = 0
  · subst q0
    go_wp2_with fail
    refine (HN.out 6 _ (by decide) (by decide) D.src).mono ?_
    rintro e w9 ⟨a, rfl, ha0, ha1, hs, hG⟩
    have res := Box.keepA res hG D.hp
    have D := D.call hs hG
    clear hs hG
    have v5 := i64_in (4 * a) (by omega)
    have v6 := i64_in (1160 + 4 * a) (by omega)
    have hnb := numO_bd (1160 + 4 * a) 2 29 (by omega) (by omega) (by decide) (by decide) (by decide)
    have HD := Lib.hid (fun W => l01Number_any (1160 + 4 * a) 2 29 W (by omega) (by omega) (by decide) (by decide) (by decide) (by decide))
    generalize numO (1160 + 4 * a) 2 29 = f at hnb HD
    go_wp2_with fail
    refine (HD.out _).mono ?_
    rintro e WN ⟨rfl, hBN⟩
    have res := Box.below res hBN
    have D := D.below hBN
    clear hBN HD
    go_wp2_with fail
    refine (HK.out _ D.src).mono ?_
    rintro e w10 ⟨k, rfl, hk, hs, hG⟩
    have res := Box.keepA res hG D.hp
    have D := D.call hs hG
    clear hs hG
    go_wp2_with fail
    have hrd := rd_lit (w := w10) (c := #[.int .i64 (100), .int .i64 (3000), .int .i64 (9000)]) (xs := [100, 3000, 9000]) (p := p) rfl D.src.lt.2
    have res := Box.below res (belowA w10 (.cells #[.int .i64 (100), .int .i64 (3000), .int .i64 (9000)] 2))
    have D := D.below (belowA w10 (.cells #[.int .i64 (100), .int .i64 (3000), .int .i64 (9000)] 2))
    refine (HP.out _ 3 [100, 3000, 9000] _ D.src hrd (by simp) (by simp)).mono ?_
    rintro e w11 ⟨v, rfl, hv, hs, hG⟩
    have res := Box.keepA res hG D.hp
    have D := D.call hs hG
    clear hs hG
    clear hrd
    have hv2 : 0 ≤ v ∧ v ≤ 9000 := by simp at hv; omega
    clear hv
    go_wp2_with fail
    refine (HN.out v _ (by omega) (by omega) D.src).mono ?_
    rintro e w12 ⟨u, rfl, hu0, hu1, hs, hG⟩
    have res := Box.keepA res hG D.hp
    have D := D.call hs hG
    clear hs hG
    have v3 := i64_in (f + u) (by omega)
    have loc := Box.new w12 119 [.string k, .int .i64 f, .int .i64 (f + u)] w.heap.size D.size (by simp)
    have hlr : w12.heap.size ≠ w.heap.size := by have := res.lt; omega
    have res := Box.below res (belowA w12 (.cells #[.string k, .int .i64 f, .int .i64 (f + u)] 119))
    have D := D.below (belowA w12 (.cells #[.string k, .int .i64 f, .int .i64 (f + u)] 119))
    go_wp2_with fail
    refine (HN.out 60 _ (by decide) (by decide) D.src).mono ?_
    rintro e w13 ⟨x, rfl, hx0, hx1, hs, hG⟩
    have res := Box.keepA res hG D.hp
    have loc := Box.keepA loc hG D.hp
    have D := D.call hs hG
    clear hs hG
    by_cases x0 : x = 0
    · subst x0
      have m1 := loc.cell 1 _ rfl
      have v4 := i64_in (f - 1) (by omega)
      go_wp2_with fail
      have hrd := rd_lit (w := w13) (c := #[.int .i64 (f - 1), .int .i64 (730499), .int .i64 (730500)]) (xs := [f - 1, 730499, 730500]) (p := p) rfl D.src.lt.2
      have res := Box.below res (belowA w13 (.cells #[.int .i64 (f - 1), .int .i64 (730499), .int .i64 (730500)] 2))
      have loc := Box.below loc (belowA w13 (.cells #[.int .i64 (f - 1), .int .i64 (730499), .int .i64 (730500)] 2))
      have D := D.below (belowA w13 (.cells #[.int .i64 (f - 1), .int .i64 (730499), .int .i64 (730500)] 2))
      refine (HP.out _ 3 [f - 1, 730499, 730500] _ D.src hrd (by simp) (by simp)).mono ?_
      rintro e w14 ⟨y, rfl, hy, hs, hG⟩
      have res := Box.keepA res hG D.hp
      have loc := Box.keepA loc hG D.hp
      have D := D.call hs hG
      clear hs hG
      clear hrd
      have hy2 : -2000 ≤ y ∧ y ≤ 3000000 := by simp at hy; omega
      clear hy m1
      have m2 := loc.cell 2 _ rfl
      have g2 := World.ownsRow.frozenAt loc 2
      have HL := Lib.hid (Box.put (i := 2) (pre := [.string k, .int .i64 f]) (post := []) loc rfl (.int .i64 y))
      go_upto_region 10 with (fail)
      have hl2 := HL.out
      have res := Box.keep res hl2.2 (Ne.symm hlr)
      have D := D.store hl2.2 hl2.1.lt.1
      have loc := hl2.1
      clear m2 g2 hl2 HL
      generalize w14.setCell ⟨w12.heap.size, 2, none⟩ (.int .i64 y) = w15 at res D loc ⊢
      have m0 := loc.cell 0 _ rfl
      have m1 := loc.cell 1 _ rfl
      have m2 := loc.cell 2 _ rfl
      have r0 := res.cell 0 _ rfl
      have r1 := res.cell 1 _ rfl
      have r2 := res.cell 2 _ rfl
      have f0 := World.ownsRow.frozenAt res 0
      have f1 := World.ownsRow.frozenAt res 1
      have f2 := World.ownsRow.frozenAt res 2
      have HP3 := Lib.hid (Box.put3 res (.string k) (.int .i64 f) (.int .i64 y))
      go_wp2
      have hp := HP3.out
      have D := D.store hp.2 (Nat.le_refl _)
      generalize ((w15.setCell ⟨w.heap.size, 0, none⟩ (.string k)).setCell ⟨w.heap.size, 1, none⟩ (.int .i64 f)).setCell ⟨w.heap.size, 2, none⟩ (.int .i64 y) = Wf at hp D ⊢
      have z0 := hp.1.cell 0 _ rfl
      have z1 := hp.1.cell 1 _ rfl
      have z2 := hp.1.cell 2 _ rfl
      refine bodyPost_ret_by (v := .agg #[.string k, .int .i64 f, .int .i64 y]) ?_ rfl ⟨⟨k, f, y⟩, rfl, okD_mk hk (by omega) (by omega), D.src, D.gr⟩
      simp [results, go_sem, z0, z1, z2]
    · have x0' : (x == 0) = false := by simpa using x0
      by_cases x1 : x = 1
      · subst x1
        go_wp2_with fail
        generalize hWs : w13.alloc (.cells #[.string ⟨#[]⟩, .string ⟨#[65, 100, 97, 109]⟩, .string ⟨#[97, 98, 99, 100, 101, 102, 103, 104, 105, 106, 107, 108, 109]⟩] 9) = Ws
        have hBs : Below w13.heap.size w13 Ws := by rw [← hWs]; exact belowA _ _
        have hlt : w13.heap.size < Ws.heap.size := by rw [← hWs]; simp
        have c0 : Ws.cell? ⟨w13.heap.size, 0, none⟩ = some (.string ⟨#[]⟩) := by rw [← hWs]; exact World.cell?_alloc_at _ _ _ _ rfl
        have c1 : Ws.cell? ⟨w13.heap.size, 1, none⟩ = some (.string ⟨#[65, 100, 97, 109]⟩) := by rw [← hWs]; exact World.cell?_alloc_at _ _ _ _ rfl
        have c2 : Ws.cell? ⟨w13.heap.size, 2, none⟩ = some (.string ⟨#[97, 98, 99, 100, 101, 102, 103, 104, 105, 106, 107, 108, 109]⟩) := by rw [← hWs]; exact World.cell?_alloc_at _ _ _ _ rfl
        clear hWs
        have hne : w13.heap.size ≠ p := Nat.ne_of_gt D.src.lt.2
        have res := Box.below res hBs
        have loc := Box.below loc hBs
        have D := D.below hBs
        refine (HN.out 3 _ (by decide) (by decide) D.src).mono ?_
        rintro e w16 ⟨y, rfl, hy0, hy1, hs, hG⟩
        have c0 := D.cell hG c0 hlt hne
        have c1 := D.cell hG c1 hlt hne
        have c2 := D.cell hG c2 hlt hne
        have res := Box.keepA res hG D.hp
        have loc := Box.keepA loc hG D.hp
        have D := D.call hs hG
        clear hs hG hBs
        obtain rfl | rfl | rfl : y = 0 ∨ y = 1 ∨ y = 2 := by omega
        · have m0 := loc.cell 0 _ rfl
          have g0 := World.ownsRow.frozenAt loc 0
          have HL := Lib.hid (Box.put (i := 0) (pre := []) (post := [.int .i64 f, .int .i64 (f + u)]) loc rfl (.string ⟨#[]⟩))
          go_upto_region 10 with (fail)
          have hl2 := HL.out
          have res := Box.keep res hl2.2 (Ne.symm hlr)
          have D := D.store hl2.2 hl2.1.lt.1
          have loc := hl2.1
          clear m0 g0 hl2 HL c0 c1 c2
          generalize w16.setCell ⟨w12.heap.size, 0, none⟩ (.string ⟨#[]⟩) = WW at res D loc ⊢
          have m0 := loc.cell 0 _ rfl
          have m1 := loc.cell 1 _ rfl
          have m2 := loc.cell 2 _ rfl
          have r0 := res.cell 0 _ rfl
          have r1 := res.cell 1 _ rfl
          have r2 := res.cell 2 _ rfl
          have f0 := World.ownsRow.frozenAt res 0
          have f1 := World.ownsRow.frozenAt res 1
          have f2 := World.ownsRow.frozenAt res 2
          have HP3 := Lib.hid (Box.put3 res (.string ⟨#[]⟩) (.int .i64 f) (.int .i64 (f + u)))
          go_wp2
          have hp := HP3.out
          have D := D.store hp.2 (Nat.le_refl _)
          generalize ((WW.setCell ⟨w.heap.size, 0, none⟩ (.string ⟨#[]⟩)).setCell ⟨w.heap.size, 1, none⟩ (.int .i64 f)).setCell ⟨w.heap.size, 2, none⟩ (.int .i64 (f + u)) = Wf at hp D ⊢
          have z0 := hp.1.cell 0 _ rfl
          have z1 := hp.1.cell 1 _ rfl
          have z2 := hp.1.cell 2 _ rfl
          refine bodyPost_ret_by (v := .agg #[.string ⟨#[]⟩, .int .i64 f, .int .i64 (f + u)]) ?_ rfl ⟨⟨⟨#[]⟩, f, (f + u)⟩, rfl, okD_mk (by decide) (by omega) (by omega), D.src, D.gr⟩
          simp [results, go_sem, z0, z1, z2]
        · have m0 := loc.cell 0 _ rfl
          have g0 := World.ownsRow.frozenAt loc 0
          have HL := Lib.hid (Box.put (i := 0) (pre := []) (post := [.int .i64 f, .int .i64 (f + u)]) loc rfl (.string ⟨#[65, 100, 97, 109]⟩))
          go_upto_region 10 with (fail)
          have hl2 := HL.out
          have res := Box.keep res hl2.2 (Ne.symm hlr)
          have D := D.store hl2.2 hl2.1.lt.1
          have loc := hl2.1
          clear m0 g0 hl2 HL c0 c1 c2
          generalize w16.setCell ⟨w12.heap.size, 0, none⟩ (.string ⟨#[65, 100, 97, 109]⟩) = WW at res D loc ⊢
          have m0 := loc.cell 0 _ rfl
          have m1 := loc.cell 1 _ rfl
          have m2 := loc.cell 2 _ rfl
          have r0 := res.cell 0 _ rfl
          have r1 := res.cell 1 _ rfl
          have r2 := res.cell 2 _ rfl
          have f0 := World.ownsRow.frozenAt res 0
          have f1 := World.ownsRow.frozenAt res 1
          have f2 := World.ownsRow.frozenAt res 2
          have HP3 := Lib.hid (Box.put3 res (.string ⟨#[65, 100, 97, 109]⟩) (.int .i64 f) (.int .i64 (f + u)))
          go_wp2
          have hp := HP3.out
          have D := D.store hp.2 (Nat.le_refl _)
          generalize ((WW.setCell ⟨w.heap.size, 0, none⟩ (.string ⟨#[65, 100, 97, 109]⟩)).setCell ⟨w.heap.size, 1, none⟩ (.int .i64 f)).setCell ⟨w.heap.size, 2, none⟩ (.int .i64 (f + u)) = Wf at hp D ⊢
          have z0 := hp.1.cell 0 _ rfl
          have z1 := hp.1.cell 1 _ rfl
          have z2 := hp.1.cell 2 _ rfl
          refine bodyPost_ret_by (v := .agg #[.string ⟨#[65, 100, 97, 109]⟩, .int .i64 f, .int .i64 (f + u)]) ?_ rfl ⟨⟨⟨#[65, 100, 97, 109]⟩, f, (f + u)⟩, rfl, okD_mk (by decide) (by omega) (by omega), D.src, D.gr⟩
          simp [results, go_sem, z0, z1, z2]
        · have m0 := loc.cell 0 _ rfl
          have g0 := World.ownsRow.frozenAt loc 0
          have HL := Lib.hid (Box.put (i := 0) (pre := []) (post := [.int .i64 f, .int .i64 (f + u)]) loc rfl (.string ⟨#[97, 98, 99, 100, 101, 102, 103, 104, 105, 106, 107, 108, 109]⟩))
          go_upto_region 10 with (fail)
          have hl2 := HL.out
          have res := Box.keep res hl2.2 (Ne.symm hlr)
          have D := D.store hl2.2 hl2.1.lt.1
          have loc := hl2.1
          clear m0 g0 hl2 HL c0 c1 c2
          generalize w16.setCell ⟨w12.heap.size, 0, none⟩ (.string ⟨#[97, 98, 99, 100, 101, 102, 103, 104, 105, 106, 107, 108, 109]⟩) = WW at res D loc ⊢
          have m0 := loc.cell 0 _ rfl
          have m1 := loc.cell 1 _ rfl
          have m2 := loc.cell 2 _ rfl
          have r0 := res.cell 0 _ rfl
          have r1 := res.cell 1 _ rfl
          have r2 := res.cell 2 _ rfl
          have f0 := World.ownsRow.frozenAt res 0
          have f1 := World.ownsRow.frozenAt res 1
          have f2 := World.ownsRow.frozenAt res 2
          have HP3 := Lib.hid (Box.put3 res (.string ⟨#[97, 98, 99, 100, 101, 102, 103, 104, 105, 106, 107, 108, 109]⟩) (.int .i64 f) (.int .i64 (f + u)))
          go_wp2
          have hp := HP3.out
          have D := D.store hp.2 (Nat.le_refl _)
          generalize ((WW.setCell ⟨w.heap.size, 0, none⟩ (.string ⟨#[97, 98, 99, 100, 101, 102, 103, 104, 105, 106, 107, 108, 109]⟩)).setCell ⟨w.heap.size, 1, none⟩ (.int .i64 f)).setCell ⟨w.heap.size, 2, none⟩ (.int .i64 (f + u)) = Wf at hp D ⊢
          have z0 := hp.1.cell 0 _ rfl
          have z1 := hp.1.cell 1 _ rfl
          have z2 := hp.1.cell 2 _ rfl
          refine bodyPost_ret_by (v := .agg #[.string ⟨#[97, 98, 99, 100, 101, 102, 103, 104, 105, 106, 107, 108, 109]⟩, .int .i64 f, .int .i64 (f + u)]) ?_ rfl ⟨⟨⟨#[97, 98, 99, 100, 101, 102, 103, 104, 105, 106, 107, 108, 109]⟩, f, (f + u)⟩, rfl, okD_mk (by decide) (by omega) (by omega), D.src, D.gr⟩
          simp [results, go_sem, z0, z1, z2]
      · have x1' : (x == 1) = false := by simpa using x1
        have m0 := loc.cell 0 _ rfl
        have m1 := loc.cell 1 _ rfl
        have m2 := loc.cell 2 _ rfl
        have r0 := res.cell 0 _ rfl
        have r1 := res.cell 1 _ rfl
        have r2 := res.cell 2 _ rfl
        have f0 := World.ownsRow.frozenAt res 0
        have f1 := World.ownsRow.frozenAt res 1
        have f2 := World.ownsRow.frozenAt res 2
        have HP3 := Lib.hid (Box.put3 res (.string k) (.int .i64 f) (.int .i64 (f + u)))
        go_wp2
        have hp := HP3.out
        have D := D.store hp.2 (Nat.le_refl _)
        generalize ((w13.setCell ⟨w.heap.size, 0, none⟩ (.string k)).setCell ⟨w.heap.size, 1, none⟩ (.int .i64 f)).setCell ⟨w.heap.size, 2, none⟩ (.int .i64 (f + u)) = Wf at hp D ⊢
        have z0 := hp.1.cell 0 _ rfl
        have z1 := hp.1.cell 1 _ rfl
        have z2 := hp.1.cell 2 _ rfl
        refine bodyPost_ret_by (v := .agg #[.string k, .int .i64 f, .int .i64 (f + u)]) ?_ rfl ⟨⟨k, f, (f + u)⟩, rfl, okD_mk hk (by omega) (by omega), D.src, D.gr⟩
        simp [results, go_sem, z0, z1, z2]
  · have q0' : (q == 0) = false := by simpa using q0
    go_wp2_with fail
    refine (HK.out _ D.src).mono ?_
    rintro e w17 ⟨k, rfl, hk, hs, hG⟩
    have res := Box.keepA res hG D.hp
    have D := D.call hs hG
    clear hs hG
    go_wp2_with fail
    have hrd := rd_lit (w := w17) (c := #[.int .i64 (100), .int .i64 (3000), .int .i64 (9000)]) (xs := [100, 3000, 9000]) (p := p) rfl D.src.lt.2
    have res := Box.below res (belowA w17 (.cells #[.int .i64 (100), .int .i64 (3000), .int .i64 (9000)] 2))
    have D := D.below (belowA w17 (.cells #[.int .i64 (100), .int .i64 (3000), .int .i64 (9000)] 2))
    refine (HP.out _ 3 [100, 3000, 9000] _ D.src hrd (by simp) (by simp)).mono ?_
    rintro e w18 ⟨v, rfl, hv, hs, hG⟩
    have res := Box.keepA res hG D.hp
    have D := D.call hs hG
    clear hs hG
    clear hrd
    have hv2 : 0 ≤ v ∧ v ≤ 9000 := by simp at hv; omega
    clear hv
    go_wp2_with fail
    refine (HN.out v _ (by omega) (by omega) D.src).mono ?_
    rintro e w19 ⟨u, rfl, hu0, hu1, hs, hG⟩
    have res := Box.keepA res hG D.hp
    have D := D.call hs hG
    clear hs hG
    have v3 := i64_in ((420000 + r) + u) (by omega)
    have loc := Box.new w19 119 [.string k, .int .i64 (420000 + r), .int .i64 ((420000 + r) + u)] w.heap.size D.size (by simp)
    have hlr : w19.heap.size ≠ w.heap.size := by have := res.lt; omega
    have res := Box.below res (belowA w19 (.cells #[.string k, .int .i64 (420000 + r), .int .i64 ((420000 + r) + u)] 119))
    have D := D.below (belowA w19 (.cells #[.string k, .int .i64 (420000 + r), .int .i64 ((420000 + r) + u)] 119))
    go_wp2_with fail
    refine (HN.out 60 _ (by decide) (by decide) D.src).mono ?_
    rintro e w20 ⟨x, rfl, hx0, hx1, hs, hG⟩
    have res := Box.keepA res hG D.hp
    have loc := Box.keepA loc hG D.hp
    have D := D.call hs hG
    clear hs hG
    by_cases x0 : x = 0
    · subst x0
      have m1 := loc.cell 1 _ rfl
      have v4 := i64_in ((420000 + r) - 1) (by omega)
      go_wp2_with fail
      have hrd := rd_lit (w := w20) (c := #[.int .i64 ((420000 + r) - 1), .int .i64 (730499), .int .i64 (730500)]) (xs := [(420000 + r) - 1, 730499, 730500]) (p := p) rfl D.src.lt.2
      have res := Box.below res (belowA w20 (.cells #[.int .i64 ((420000 + r) - 1), .int .i64 (730499), .int .i64 (730500)] 2))
      have loc := Box.below loc (belowA w20 (.cells #[.int .i64 ((420000 + r) - 1), .int .i64 (730499), .int .i64 (730500)] 2))
      have D := D.below (belowA w20 (.cells #[.int .i64 ((420000 + r) - 1), .int .i64 (730499), .int .i64 (730500)] 2))
      refine (HP.out _ 3 [(420000 + r) - 1, 730499, 730500] _ D.src hrd (by simp) (by simp)).mono ?_
      rintro e w21 ⟨y, rfl, hy, hs, hG⟩
      have res := Box.keepA res hG D.hp
      have loc := Box.keepA loc hG D.hp
      have D := D.call hs hG
      clear hs hG
      clear hrd
      have hy2 : -2000 ≤ y ∧ y ≤ 3000000 := by simp at hy; omega
      clear hy m1
      have m2 := loc.cell 2 _ rfl
      have g2 := World.ownsRow.frozenAt loc 2
      have HL := Lib.hid (Box.put (i := 2) (pre := [.string k, .int .i64 (420000 + r)]) (post := []) loc rfl (.int .i64 y))
      go_upto_region 10 with (fail)
      have hl2 := HL.out
      have res := Box.keep res hl2.2 (Ne.symm hlr)
      have D := D.store hl2.2 hl2.1.lt.1
      have loc := hl2.1
      clear m2 g2 hl2 HL
      generalize w21.setCell ⟨w19.heap.size, 2, none⟩ (.int .i64 y) = w22 at res D loc ⊢
      have m0 := loc.cell 0 _ rfl
      have m1 := loc.cell 1 _ rfl
      have m2 := loc.cell 2 _ rfl
      have r0 := res.cell 0 _ rfl
      have r1 := res.cell 1 _ rfl
      have r2 := res.cell 2 _ rfl
      have f0 := World.ownsRow.frozenAt res 0
      have f1 := World.ownsRow.frozenAt res 1
      have f2 := World.ownsRow.frozenAt res 2
      have HP3 := Lib.hid (Box.put3 res (.string k) (.int .i64 (420000 + r)) (.int .i64 y))
      go_wp2
      have hp := HP3.out
      have D := D.store hp.2 (Nat.le_refl _)
      generalize ((w22.setCell ⟨w.heap.size, 0, none⟩ (.string k)).setCell ⟨w.heap.size, 1, none⟩ (.int .i64 (420000 + r))).setCell ⟨w.heap.size, 2, none⟩ (.int .i64 y) = Wf at hp D ⊢
      have z0 := hp.1.cell 0 _ rfl
      have z1 := hp.1.cell 1 _ rfl
      have z2 := hp.1.cell 2 _ rfl
      refine bodyPost_ret_by (v := .agg #[.string k, .int .i64 (420000 + r), .int .i64 y]) ?_ rfl ⟨⟨k, (420000 + r), y⟩, rfl, okD_mk hk (by omega) (by omega), D.src, D.gr⟩
      simp [results, go_sem, z0, z1, z2]
    · have x0' : (x == 0) = false := by simpa using x0
      by_cases x1 : x = 1
      · subst x1
        go_wp2_with fail
        generalize hWs : w20.alloc (.cells #[.string ⟨#[]⟩, .string ⟨#[65, 100, 97, 109]⟩, .string ⟨#[97, 98, 99, 100, 101, 102, 103, 104, 105, 106, 107, 108, 109]⟩] 9) = Ws
        have hBs : Below w20.heap.size w20 Ws := by rw [← hWs]; exact belowA _ _
        have hlt : w20.heap.size < Ws.heap.size := by rw [← hWs]; simp
        have c0 : Ws.cell? ⟨w20.heap.size, 0, none⟩ = some (.string ⟨#[]⟩) := by rw [← hWs]; exact World.cell?_alloc_at _ _ _ _ rfl
        have c1 : Ws.cell? ⟨w20.heap.size, 1, none⟩ = some (.string ⟨#[65, 100, 97, 109]⟩) := by rw [← hWs]; exact World.cell?_alloc_at _ _ _ _ rfl
        have c2 : Ws.cell? ⟨w20.heap.size, 2, none⟩ = some (.string ⟨#[97, 98, 99, 100, 101, 102, 103, 104, 105, 106, 107, 108, 109]⟩) := by rw [← hWs]; exact World.cell?_alloc_at _ _ _ _ rfl
        clear hWs
        have hne : w20.heap.size ≠ p := Nat.ne_of_gt D.src.lt.2
        have res := Box.below res hBs
        have loc := Box.below loc hBs
        have D := D.below hBs
        refine (HN.out 3 _ (by decide) (by decide) D.src).mono ?_
        rintro e w23 ⟨y, rfl, hy0, hy1, hs, hG⟩
        have c0 := D.cell hG c0 hlt hne
        have c1 := D.cell hG c1 hlt hne
        have c2 := D.cell hG c2 hlt hne
        have res := Box.keepA res hG D.hp
        have loc := Box.keepA loc hG D.hp
        have D := D.call hs hG
        clear hs hG hBs
        obtain rfl | rfl | rfl : y = 0 ∨ y = 1 ∨ y = 2 := by omega
        · have m0 := loc.cell 0 _ rfl
          have g0 := World.ownsRow.frozenAt loc 0
          have HL := Lib.hid (Box.put (i := 0) (pre := []) (post := [.int .i64 (420000 + r), .int .i64 ((420000 + r) + u)]) loc rfl (.string ⟨#[]⟩))
          go_upto_region 10 with (fail)
          have hl2 := HL.out
          have res := Box.keep res hl2.2 (Ne.symm hlr)
          have D := D.store hl2.2 hl2.1.lt.1
          have loc := hl2.1
          clear m0 g0 hl2 HL c0 c1 c2
          generalize w23.setCell ⟨w19.heap.size, 0, none⟩ (.string ⟨#[]⟩) = WW at res D loc ⊢
          have m0 := loc.cell 0 _ rfl
          have m1 := loc.cell 1 _ rfl
          have m2 := loc.cell 2 _ rfl
          have r0 := res.cell 0 _ rfl
          have r1 := res.cell 1 _ rfl
          have r2 := res.cell 2 _ rfl
          have f0 := World.ownsRow.frozenAt res 0
          have f1 := World.ownsRow.frozenAt res 1
          have f2 := World.ownsRow.frozenAt res 2
          have HP3 := Lib.hid (Box.put3 res (.string ⟨#[]⟩) (.int .i64 (420000 + r)) (.int .i64 ((420000 + r) + u)))
          go_wp2
          have hp := HP3.out
          have D := D.store hp.2 (Nat.le_refl _)
          generalize ((WW.setCell ⟨w.heap.size, 0, none⟩ (.string ⟨#[]⟩)).setCell ⟨w.heap.size, 1, none⟩ (.int .i64 (420000 + r))).setCell ⟨w.heap.size, 2, none⟩ (.int .i64 ((420000 + r) + u)) = Wf at hp D ⊢
          have z0 := hp.1.cell 0 _ rfl
          have z1 := hp.1.cell 1 _ rfl
          have z2 := hp.1.cell 2 _ rfl
          refine bodyPost_ret_by (v := .agg #[.string ⟨#[]⟩, .int .i64 (420000 + r), .int .i64 ((420000 + r) + u)]) ?_ rfl ⟨⟨⟨#[]⟩, (420000 + r), ((420000 + r) + u)⟩, rfl, okD_mk (by decide) (by omega) (by omega), D.src, D.gr⟩
          simp [results, go_sem, z0, z1, z2]
        · have m0 := loc.cell 0 _ rfl
          have g0 := World.ownsRow.frozenAt loc 0
          have HL := Lib.hid (Box.put (i := 0) (pre := []) (post := [.int .i64 (420000 + r), .int .i64 ((420000 + r) + u)]) loc rfl (.string ⟨#[65, 100, 97, 109]⟩))
          go_upto_region 10 with (fail)
          have hl2 := HL.out
          have res := Box.keep res hl2.2 (Ne.symm hlr)
          have D := D.store hl2.2 hl2.1.lt.1
          have loc := hl2.1
          clear m0 g0 hl2 HL c0 c1 c2
          generalize w23.setCell ⟨w19.heap.size, 0, none⟩ (.string ⟨#[65, 100, 97, 109]⟩) = WW at res D loc ⊢
          have m0 := loc.cell 0 _ rfl
          have m1 := loc.cell 1 _ rfl
          have m2 := loc.cell 2 _ rfl
          have r0 := res.cell 0 _ rfl
          have r1 := res.cell 1 _ rfl
          have r2 := res.cell 2 _ rfl
          have f0 := World.ownsRow.frozenAt res 0
          have f1 := World.ownsRow.frozenAt res 1
          have f2 := World.ownsRow.frozenAt res 2
          have HP3 := Lib.hid (Box.put3 res (.string ⟨#[65, 100, 97, 109]⟩) (.int .i64 (420000 + r)) (.int .i64 ((420000 + r) + u)))
          go_wp2
          have hp := HP3.out
          have D := D.store hp.2 (Nat.le_refl _)
          generalize ((WW.setCell ⟨w.heap.size, 0, none⟩ (.string ⟨#[65, 100, 97, 109]⟩)).setCell ⟨w.heap.size, 1, none⟩ (.int .i64 (420000 + r))).setCell ⟨w.heap.size, 2, none⟩ (.int .i64 ((420000 + r) + u)) = Wf at hp D ⊢
          have z0 := hp.1.cell 0 _ rfl
          have z1 := hp.1.cell 1 _ rfl
          have z2 := hp.1.cell 2 _ rfl
          refine bodyPost_ret_by (v := .agg #[.string ⟨#[65, 100, 97, 109]⟩, .int .i64 (420000 + r), .int .i64 ((420000 + r) + u)]) ?_ rfl ⟨⟨⟨#[65, 100, 97, 109]⟩, (420000 + r), ((420000 + r) + u)⟩, rfl, okD_mk (by decide) (by omega) (by omega), D.src, D.gr⟩
          simp [results, go_sem, z0, z1, z2]
        · have m0 := loc.cell 0 _ rfl
          have g0 := World.ownsRow.frozenAt loc 0
          have HL := Lib.hid (Box.put (i := 0) (pre := []) (post := [.int .i64 (420000 + r), .int .i64 ((420000 + r) + u)]) loc rfl (.string ⟨#[97, 98, 99, 100, 101, 102, 103, 104, 105, 106, 107, 108, 109]⟩))
          go_upto_region 10 with (fail)
          have hl2 := HL.out
          have res := Box.keep res hl2.2 (Ne.symm hlr)
          have D := D.store hl2.2 hl2.1.lt.1
          have loc := hl2.1
          clear m0 g0 hl2 HL c0 c1 c2
          generalize w23.setCell ⟨w19.heap.size, 0, none⟩ (.string ⟨#[97, 98, 99, 100, 101, 102, 103, 104, 105, 106, 107, 108, 109]⟩) = WW at res D loc ⊢
          have m0 := loc.cell 0 _ rfl
          have m1 := loc.cell 1 _ rfl
          have m2 := loc.cell 2 _ rfl
          have r0 := res.cell 0 _ rfl
          have r1 := res.cell 1 _ rfl
          have r2 := res.cell 2 _ rfl
          have f0 := World.ownsRow.frozenAt res 0
          have f1 := World.ownsRow.frozenAt res 1
          have f2 := World.ownsRow.frozenAt res 2
          have HP3 := Lib.hid (Box.put3 res (.string ⟨#[97, 98, 99, 100, 101, 102, 103, 104, 105, 106, 107, 108, 109]⟩) (.int .i64 (420000 + r)) (.int .i64 ((420000 + r) + u)))
          go_wp2
          have hp := HP3.out
          have D := D.store hp.2 (Nat.le_refl _)
          generalize ((WW.setCell ⟨w.heap.size, 0, none⟩ (.string ⟨#[97, 98, 99, 100, 101, 102, 103, 104, 105, 106, 107, 108, 109]⟩)).setCell ⟨w.heap.size, 1, none⟩ (.int .i64 (420000 + r))).setCell ⟨w.heap.size, 2, none⟩ (.int .i64 ((420000 + r) + u)) = Wf at hp D ⊢
          have z0 := hp.1.cell 0 _ rfl
          have z1 := hp.1.cell 1 _ rfl
          have z2 := hp.1.cell 2 _ rfl
          refine bodyPost_ret_by (v := .agg #[.string ⟨#[97, 98, 99, 100, 101, 102, 103, 104, 105, 106, 107, 108, 109]⟩, .int .i64 (420000 + r), .int .i64 ((420000 + r) + u)]) ?_ rfl ⟨⟨⟨#[97, 98, 99, 100, 101, 102, 103, 104, 105, 106, 107, 108, 109]⟩, (420000 + r), ((420000 + r) + u)⟩, rfl, okD_mk (by decide) (by omega) (by omega), D.src, D.gr⟩
          simp [results, go_sem, z0, z1, z2]
      · have x1' : (x == 1) = false := by simpa using x1
        have m0 := loc.cell 0 _ rfl
        have m1 := loc.cell 1 _ rfl
        have m2 := loc.cell 2 _ rfl
        have r0 := res.cell 0 _ rfl
        have r1 := res.cell 1 _ rfl
        have r2 := res.cell 2 _ rfl
        have f0 := World.ownsRow.frozenAt res 0
        have f1 := World.ownsRow.frozenAt res 1
        have f2 := World.ownsRow.frozenAt res 2
        have HP3 := Lib.hid (Box.put3 res (.string k) (.int .i64 (420000 + r)) (.int .i64 ((420000 + r) + u)))
        go_wp2
        have hp := HP3.out
        have D := D.store hp.2 (Nat.le_refl _)
        generalize ((w20.setCell ⟨w.heap.size, 0, none⟩ (.string k)).setCell ⟨w.heap.size, 1, none⟩ (.int .i64 (420000 + r))).setCell ⟨w.heap.size, 2, none⟩ (.int .i64 ((420000 + r) + u)) = Wf at hp D ⊢
        have z0 := hp.1.cell 0 _ rfl
        have z1 := hp.1.cell 1 _ rfl
        have z2 := hp.1.cell 2 _ rfl
        refine bodyPost_ret_by (v := .agg #[.string k, .int .i64 (420000 + r), .int .i64 ((420000 + r) + u)]) ?_ rfl ⟨⟨k, (420000 + r), ((420000 + r) + u)⟩, rfl, okD_mk hk (by omega) (by omega), D.src, D.gr⟩
        simp [results, go_sem, z0, z1, z2]
end

section
open Go.ChangeShapes Go.WideShapes Go.ChangeAt Go.RowKit Go.IntWalk

theorem swap_split {α : Type} {ys : List α} {b : Nat} (h : b + 1 < ys.length) : ∃ pre q m post, ys = pre ++ q :: m :: post ∧ pre.length = b := by
  refine ⟨ys.take b, ys[b], ys[b + 1], ys.drop (b + 2), ?_, by simp; omega⟩
  rw [← List.drop_eq_getElem_cons, ← List.drop_eq_getElem_cons, List.take_append_drop]
theorem own_swap {w : World} {B g n c b : Nat} {pre post : List Rg} {q m : Rg} (h : w.ownsRow B 119 3 (.slice (some ⟨g, 0, none⟩) n c) n ((pre ++ q :: m :: post).flatMap encRg)) (hb : pre.length = b) :
    ((w.setCells g (b * 3) (encRg m)).setCells g ((b + 1) * 3) (encRg q)).ownsRow B 119 3 (.slice (some ⟨g, 0, none⟩) n c) n ((pre ++ m :: q :: post).flatMap encRg) ∧ w.grownBy ((w.setCells g (b * 3) (encRg m)).setCells g ((b + 1) * 3) (encRg q)) (some g) ∧
    (w.setCells g (b * 3) (encRg m)).ownsRow B 119 3 (.slice (some ⟨g, 0, none⟩) n c) n ((pre ++ m :: m :: post).flatMap encRg) := by
  have h1 := own_putRow encRg_len h hb.symm m
  have h2 := own_putRow (pre := pre ++ [m]) (x := m) (post := post) encRg_len (by simpa using h1.1) (i := b + 1) (by simp [hb]) q
  exact ⟨by simpa using h2.1, gT h1.2 h2.2, h1.1⟩
set_option maxRecDepth 100000 in
set_option maxHeartbeats 8000000 in
theorem l07Draw_any (w0 : World) (cs : Option Addr) (cap : Nat) (bs : List Int) (p : Nat) (w : World) (hx : Rd encB w0 cs bs) (hb : ∀ m ∈ bs, goodB m) (hl : bs.length ≤ 4096) (hs : Src w0 cs cap bs p w) :
    Calls Tryz.prog 104 #[.pointer (some ⟨p, 0, none⟩)] w fun e w' => ∃ (g c : Nat) (rs : List Rg), e = .returned (.slice (some ⟨g, 0, none⟩) rs.length c) ∧ rs.length ≤ 31 ∧ (∀ m ∈ rs, okD m) ∧ w'.ownsRow w.heap.size 119 3 (.slice (some ⟨g, 0, none⟩) rs.length c) rs.length (rs.flatMap encRg) ∧ Src w0 cs cap bs p w' ∧ w.grownBy w' (some p) := by
  obtain ⟨ir, hir, hr0, hr1, hr2⟩ := info_parts infoRg
  have D := Drw.start hs
  have hown : (w.alloc (.cells #[] 119)).ownsRow w.heap.size 119 3 (.slice (some ⟨w.heap.size, 0, none⟩) 0 0) 0 [] := World.ownsRow_made w #[] 0 (Nat.le_refl _) (by decide) rfl
  have D := D.below (belowA w (.cells #[] 119))
  have HN := Lib.hid (fun n W hn1 hn2 hs => l01Next_any w0 cs cap bs p n W hx hb hl hn1 hn2 hs)
  have HK := Lib.hid (fun W hs => l07DrawReign_any w0 cs cap bs p W hx hb hl hs)
  clear hs
  go_enter Tryz.func104, Tryz.ntmps104
  go_wp2_with fail
  refine (HN.out 5 _ (by decide) (by decide) D.src).mono ?_
  rintro e w1 ⟨r, rfl, hr0', hr1', hs, hG⟩
  have hown := own_keepA hown hG D.hp
  have D := D.call hs hG
  clear hs hG
  obtain ⟨k, rfl⟩ : ∃ k : Nat, r = k := ⟨r.toNat, by omega⟩
  have hk : k ≤ 4 := by omega
  clear hr0' hr1'
  go_wp2
  go_loopw [3, 4] (fun s i wr => ∃ (k g c : Nat) (out : List Rg), i = .int .i64 k ∧ out.length + k ≤ 4 ∧ s = .slice (some ⟨g, 0, none⟩) out.length c ∧ (∀ m ∈ out, okD m) ∧ wr.ownsRow w.heap.size 119 3 (.slice (some ⟨g, 0, none⟩) out.length c) out.length (out.flatMap encRg) ∧ Drw w0 cs cap bs p w wr) (fun _ i _ => (intOf i).toNat)
  case atStart => exact ⟨k, _, _, [], rfl, by simpa using hk, rfl, by simp, hown, D⟩
  case round =>
    clear hown D hk
    obtain ⟨k, g, c, out, rfl, hlen, rfl, hall, hown, D⟩ := hrel
    by_cases hk : k = 0
    · subst hk
      go_wp2_with fail
      refine (HN.out 60 _ (by decide) (by decide) D.src).mono ?_
      rintro e w2 ⟨x, rfl, hx0, hx1, hs, hG⟩
      have hown := own_keepA hown hG D.hp
      have D := D.call hs hG
      clear hs hG
      by_cases x0 : x = 0
      · subst x0
        have hown : (w2.alloc (.cells #[] 119)).ownsRow w.heap.size 119 3 (.slice (some ⟨w2.heap.size, 0, none⟩) 0 0) 0 [] := World.ownsRow_made w2 #[] 0 D.size (by decide) rfl
        have D := D.below (belowA w2 (.cells #[] 119))
        go_wp2_with fail
        refine (HN.out 2 _ (by decide) (by decide) D.src).mono ?_
        rintro e w3 ⟨y, rfl, hy0, hy1, hs, hG⟩
        have hown := own_keepA hown hG D.hp
        have D := D.call hs hG
        clear hs hG
        have v1 := i64_in (30 + y) (by omega)
        obtain ⟨k, hk⟩ : ∃ k : Nat, 30 + y = k := ⟨(30 + y).toNat, by omega⟩
        have hk31 : k ≤ 31 := by omega
        rw [hk] at v1
        clear hall
        go_wp2
        try rw [hk]
        go_loopw [3, 8] (fun s i wr => ∃ (k g c : Nat) (out : List Rg), i = .int .i64 k ∧ out.length + k ≤ 31 ∧ s = .slice (some ⟨g, 0, none⟩) out.length c ∧ (∀ m ∈ out, okD m) ∧ wr.ownsRow w.heap.size 119 3 (.slice (some ⟨g, 0, none⟩) out.length c) out.length (out.flatMap encRg) ∧ Drw w0 cs cap bs p w wr) (fun _ i _ => (intOf i).toNat)
        case atStart => exact ⟨k, _, _, [], rfl, by simpa using hk31, rfl, by simp, hown, D⟩
        case round =>
          clear hown D hk31 hk v1
          obtain ⟨k, g, c, out, rfl, hlen, rfl, hall, hown, D⟩ := hrel
          by_cases hk : k = 0
          · subst hk
            go_wp2
            go_ret
            exact ⟨g, c, out, rfl, by omega, hall, hown, D.src, D.gr⟩
          · have hk1 : (0 : Int) < (k : Int) := by omega
            have v1 := i64_in (1000 + (k : Int)) (by omega)
            have v2 := i64_in ((k : Int) - 1) (by omega)
            have v3 : ((k - 1 : Nat) : Int) = (k : Int) - 1 := by omega
            go_wp2_with (at_builtin; refine wpList_append_own _ rfl _ _ 30 rfl w.heap.size 119 ir (.agg #[.string ⟨#[]⟩, .int .i64 0, .int .i64 0]) 3 32 Tryz.underlying30 hir hr0 hr1 hr2 rfl (by decide) _ _ _ rfl (hown.alloc _) ⟨wr.heap.size, 0, none⟩ 1 1 [.string ⟨#[120]⟩, .int .i64 1000, .int .i64 (1000 + (k : Int))] rfl rfl (World.news_of_block (heap_alloc_new _ _)) ?c2 ?c3 ?c4 ?c5 ?_)
            case c2 => intro u hu; simp at hu; rcases hu with rfl | rfl | rfl <;> rfl
            case c3 => unfold maxLen; omega
            case c4 => omega
            case c5 => have := D.size; simp; omega
            intro v' w4 hown' hgr _
            have D' := (D.below (belowA wr (.cells #[.string ⟨#[120]⟩, .int .i64 1000, .int .i64 (1000 + (k : Int))] 119))).grown hgr (fun g e => (hown.lt g e).1)
            obtain ⟨g', c', rfl⟩ := formJ hown' (by omega)
            clear hgr hown D
            go_wp2
            go_roundw
            case rel => exact ⟨k - 1, g', c', out ++ [⟨⟨#[120]⟩, 1000, 1000 + (k : Int)⟩], by rw [v3], by simp; omega, by rw [List.length_append]; rfl, fun m hm => by rcases List.mem_append.1 hm with hm | hm; exact hall m hm; simp at hm; subst hm; exact okD_mk (by decide) (by decide) (by omega), by rw [List.length_append, List.flatMap_append]; exact hown', D'⟩
            case measure => simp [intOf]; omega
      · have x0' : (x == 0) = false := by simpa using x0
        go_wp2
        go_ret
        exact ⟨g, c, out, rfl, by omega, hall, hown, D.src, D.gr⟩
    · have hk1 : (0 : Int) < (k : Int) := by omega
      have v2 := i64_in ((k : Int) - 1) (by omega)
      have v3 : ((k - 1 : Nat) : Int) = (k : Int) - 1 := by omega
      go_wp2_with fail
      refine (HK.out _ D.src).mono ?_
      rintro e w4 ⟨m, rfl, hm, hs, hG⟩
      have hown := own_keepA hown hG D.hp
      have D := D.call hs hG
      clear hs hG
      have loc := Box.new w4 119 [.string m.king, .int .i64 m.fr, .int .i64 m.to] w.heap.size D.size (by simp)
      have hlr : w4.heap.size ≠ g := by have := (own_lt hown).2; omega
      have hown := own_below hown (belowA w4 (.cells #[.string m.king, .int .i64 m.fr, .int .i64 m.to] 119))
      have D := D.below (belowA w4 (.cells #[.string m.king, .int .i64 m.fr, .int .i64 m.to] 119))
      go_upto_region 7 with (fail)
      generalize w4.alloc (.cells #[.string m.king, .int .i64 m.fr, .int .i64 m.to] 119) = w4a at hown D loc ⊢
      have m0 := Box.cell loc 0 _ rfl
      have m1 := Box.cell loc 1 _ rfl
      have m2 := Box.cell loc 2 _ rfl
      go_wp2_with (at_builtin; refine wpList_append_own _ rfl _ _ 30 rfl w.heap.size 119 ir (.agg #[.string ⟨#[]⟩, .int .i64 0, .int .i64 0]) 3 32 Tryz.underlying30 hir hr0 hr1 hr2 rfl (by decide) _ _ _ rfl (hown.alloc _) ⟨w4a.heap.size, 0, none⟩ 1 1 [.string m.king, .int .i64 m.fr, .int .i64 m.to] rfl rfl (World.news_of_block (heap_alloc_new _ _)) ?c2 ?c3 ?c4 ?c5 ?_)
      case c2 => intro u hu; simp at hu; rcases hu with rfl | rfl | rfl <;> rfl
      case c3 => unfold maxLen; omega
      case c4 => omega
      case c5 => have := D.size; simp; omega
      intro v' w4 hown' hgr _
      have D' := (D.below (belowA w4a (.cells #[.string m.king, .int .i64 m.fr, .int .i64 m.to] 119))).grown hgr (fun g e => (hown.lt g e).1)
      obtain ⟨g', c', rfl⟩ := formJ hown' (by omega)
      have hown' : w4.ownsRow w.heap.size 119 3 (.slice (some ⟨g', 0, none⟩) (out.length + 1) c') (out.length + 1) ((out ++ [m]).flatMap encRg) := by rw [List.flatMap_append]; exact hown'
      have hall' : ∀ x ∈ out ++ [m], okD x := fun x hx => by
        rcases List.mem_append.1 hx with hx | hx
        · exact hall x hx
        · simp at hx; subst hx; exact hm
      have hl1 : (out ++ [m]).length = out.length + 1 := by simp
      generalize out ++ [m] = ys at hown' hall' hl1
      clear hgr hown D loc m0 m1 m2 hlr hall hm
      generalize hN : out.length = N at hown' hl1 hlen ⊢
      clear hN
      go_wp2
      go_loopw [6] (fun i wr => ∃ (a : Nat) (z : Int) (ys : List Rg), i = .int .i64 z ∧ z = a ∧ a < ys.length ∧ ys.length = N + 1 ∧ (∀ m ∈ ys, okD m) ∧ wr.ownsRow w.heap.size 119 3 (.slice (some ⟨g', 0, none⟩) (N + 1) c') (N + 1) (ys.flatMap encRg) ∧ Drw w0 cs cap bs p w wr) (fun i _ => (intOf i).toNat)
      case atStart => exact ⟨N, _, ys, rfl, rfl, by omega, hl1, hall', hown', D'⟩
      case round =>
        clear hown' D' hall' hl1
        obtain ⟨a, z, ys, rfl, hz, ha, hl1, hall', hown, D⟩ := hrel
        rcases Nat.eq_zero_or_pos a with rfl | ha0
        · obtain rfl : z = 0 := hz
          go_wp2_with fail
          refine wp_region_later _ (by kernel_rfl) (by kernel_rfl) ?_
          repeat (go_big_quiet_step (fail))
          refine wpQuiet_nil ?_
          intro zz
          have hzz := zz.prop
          generalize zz.val = w5 at hzz
          have hown := own_below hown hzz
          have D := D.below hzz
          clear hzz
          go_wp2
          go_roundw
          case rel => exact ⟨k - 1, g', c', ys, by rw [v3], by omega, by rw [hl1], hall', by rw [hl1]; exact hown, D⟩
          case measure => simp [intOf]; omega
        · obtain ⟨b, rfl⟩ : ∃ b, a = b + 1 := ⟨a - 1, by omega⟩
          obtain rfl : z = (b : Int) + 1 := by omega
          clear hz
          have hb1 : (0 : Int) < (b : Int) + 1 := by omega
          have hb2 : (b : Int) < (N : Int) + 1 := by omega
          have hb3 : (b : Int) < (N : Int) := by omega
          have v4 := i64_in (b : Int) (by omega)
          obtain ⟨pre, q, m, post, rfl, hpl⟩ := swap_split ha
          have hq := own_at encRg_len hown (i := b) (x := q) (by simp [← hpl]) (j := 1) rfl
          have hm := own_at encRg_len hown (i := b + 1) (x := m) (by simp [← hpl]) (j := 1) rfl
          have hgl := own_lt hown
          by_cases hls : m.fr < q.fr
          · have D0 := D.below (Below.refl _ wr).drew
            have hown0 := own_below hown (Below.refl _ wr).drew
            have hgp : g' ≠ p := by have := D.hp; omega
            go_wp2_with fail
            go_region_held_law (fun w' => w'.cell? ⟨g', b * 3 + 1, none⟩ = some (.int .i64 q.fr) ∧ w'.cell? ⟨g', (b + 1) * 3 + 1, none⟩ = some (.int .i64 m.fr)) (first | exact ⟨hq, hm⟩ | exact ⟨D0.cell hG hq hgl.2 hgp, D0.cell hG hm hgl.2 hgp⟩) (first | (go_at_call 76; refine (HN.out 60 _ (by decide) (by decide) D0.src).mono ?_; rintro e w5 ⟨x, rfl, hx0, hx1, hs, hG⟩) | fail)
            have hown := own_keepA hown0 hG D0.hp
            have D := D0.call hs hG
            clear hs hG D0 hown0 hq hm
            by_cases hx : x = 0
            · have hx' : decide (0 < x) = false := by simp; omega
              go_wp2
              go_roundw
              case rel => exact ⟨k - 1, g', c', _, by rw [v3], by omega, by rw [hl1], hall', by rw [hl1]; exact hown, D⟩
              case measure => simp [intOf]; omega
            · have hx' : 0 < x := by omega
              have e0 : w5.cell? ⟨g', b * 3, none⟩ = some (.string q.king) := own_at encRg_len hown (i := b) (x := q) (by simp [← hpl]) (j := 0) rfl
              have e1 : w5.cell? ⟨g', b * 3 + 1, none⟩ = some (.int .i64 q.fr) := own_at encRg_len hown (i := b) (x := q) (by simp [← hpl]) (j := 1) rfl
              have e2 : w5.cell? ⟨g', b * 3 + 2, none⟩ = some (.int .i64 q.to) := own_at encRg_len hown (i := b) (x := q) (by simp [← hpl]) (j := 2) rfl
              have loc := Box.new w5 119 [.string q.king, .int .i64 q.fr, .int .i64 q.to] w.heap.size D.size (by simp)
              have hne : g' ≠ w5.heap.size := by have := (own_lt hown).2; omega
              have hBA := belowA w5 (.cells #[.string q.king, .int .i64 q.fr, .int .i64 q.to] 119)
              go_upto_region 10 with (fail)
              have hown := own_below hown hBA
              have D := D.below hBA
              generalize w5.alloc (.cells #[.string q.king, .int .i64 q.fr, .int .i64 q.to] 119) = w6 at hown D loc ⊢
              generalize w5.heap.size = lb at loc hne ⊢
              clear e0 e1 e2 hBA
              have m0 : w6.cell? ⟨g', (b + 1) * 3, none⟩ = some (.string m.king) := own_at encRg_len hown (i := b + 1) (x := m) (by simp [← hpl]) (j := 0) rfl
              have m1 : w6.cell? ⟨g', (b + 1) * 3 + 1, none⟩ = some (.int .i64 m.fr) := own_at encRg_len hown (i := b + 1) (x := m) (by simp [← hpl]) (j := 1) rfl
              have m2 : w6.cell? ⟨g', (b + 1) * 3 + 2, none⟩ = some (.int .i64 m.to) := own_at encRg_len hown (i := b + 1) (x := m) (by simp [← hpl]) (j := 2) rfl
              have q0 : w6.cell? ⟨g', b * 3, none⟩ = some (.string q.king) := own_at encRg_len hown (i := b) (x := q) (by simp [← hpl]) (j := 0) rfl
              have q1 : w6.cell? ⟨g', b * 3 + 1, none⟩ = some (.int .i64 q.fr) := own_at encRg_len hown (i := b) (x := q) (by simp [← hpl]) (j := 1) rfl
              have q2 : w6.cell? ⟨g', b * 3 + 2, none⟩ = some (.int .i64 q.to) := own_at encRg_len hown (i := b) (x := q) (by simp [← hpl]) (j := 2) rfl
              have f0 := hown.frozenAt (b * 3)
              have f1 := hown.frozenAt (b * 3 + 1)
              have f2 := hown.frozenAt (b * 3 + 2)
              have hput := own_putRow encRg_len hown hpl.symm m
              have hpu : (((w6.setCell ⟨g', b * 3, none⟩ (.string m.king)).setCell ⟨g', b * 3 + 1, none⟩ (.int .i64 m.fr)).setCell ⟨g', b * 3 + 2, none⟩ (.int .i64 m.to)).ownsRow w.heap.size 119 3 (.slice (some ⟨g', 0, none⟩) (N + 1) c') (N + 1) ((pre ++ m :: m :: post).flatMap encRg) := hput.1
              have hpg : w6.grownBy (((w6.setCell ⟨g', b * 3, none⟩ (.string m.king)).setCell ⟨g', b * 3 + 1, none⟩ (.int .i64 m.fr)).setCell ⟨g', b * 3 + 2, none⟩ (.int .i64 m.to)) (some g') := hput.2
              clear hput
              go_upto_region 11 with (fail)
              have D := D.store hpg (own_lt hown).1
              have loc := Box.keep loc hpg (Ne.symm hne)
              clear m0 m1 m2 q0 q1 q2 f0 f1 f2 hown hpg
              generalize ((w6.setCell ⟨g', b * 3, none⟩ (.string m.king)).setCell ⟨g', b * 3 + 1, none⟩ (.int .i64 m.fr)).setCell ⟨g', b * 3 + 2, none⟩ (.int .i64 m.to) = w7 at hpu D loc ⊢
              have hpu : w7.ownsRow w.heap.size 119 3 (.slice (some ⟨g', 0, none⟩) (N + 1) c') (N + 1) (((pre ++ [m]) ++ m :: post).flatMap encRg) := by simpa using hpu
              have hpl2 : b + 1 = (pre ++ [m]).length := by simp [hpl]
              have m0 : w7.cell? ⟨g', (b + 1) * 3, none⟩ = some (.string m.king) := own_at encRg_len hpu (i := b + 1) (x := m) (by rw [hpl2]; simp) (j := 0) rfl
              have m1 : w7.cell? ⟨g', (b + 1) * 3 + 1, none⟩ = some (.int .i64 m.fr) := own_at encRg_len hpu (i := b + 1) (x := m) (by rw [hpl2]; simp) (j := 1) rfl
              have m2 : w7.cell? ⟨g', (b + 1) * 3 + 2, none⟩ = some (.int .i64 m.to) := own_at encRg_len hpu (i := b + 1) (x := m) (by rw [hpl2]; simp) (j := 2) rfl
              have f0 := hpu.frozenAt ((b + 1) * 3)
              have f1 := hpu.frozenAt ((b + 1) * 3 + 1)
              have f2 := hpu.frozenAt ((b + 1) * 3 + 2)
              have l0 := Box.cell loc 0 _ rfl
              have l1 := Box.cell loc 1 _ rfl
              have l2 := Box.cell loc 2 _ rfl
              have hput := own_putRow encRg_len hpu hpl2 q
              have HPU : Hid ((((w7.setCell ⟨g', (b + 1) * 3, none⟩ (.string q.king)).setCell ⟨g', (b + 1) * 3 + 1, none⟩ (.int .i64 q.fr)).setCell ⟨g', (b + 1) * 3 + 2, none⟩ (.int .i64 q.to)).ownsRow w.heap.size 119 3 (.slice (some ⟨g', 0, none⟩) (N + 1) c') (N + 1) (((pre ++ [m]) ++ q :: post).flatMap encRg)) := hput.1
              have HPG : Hid (w7.grownBy (((w7.setCell ⟨g', (b + 1) * 3, none⟩ (.string q.king)).setCell ⟨g', (b + 1) * 3 + 1, none⟩ (.int .i64 q.fr)).setCell ⟨g', (b + 1) * 3 + 2, none⟩ (.int .i64 q.to)) (some g')) := hput.2
              have v5 : IntKind.i64.wrap ((b : Int) + 1 - 1) = b := by rw [show (b : Int) + 1 - 1 = b by omega]; exact v4
              clear hput loc hne hpl2
              go_wp2

              go_roundw
              case rel => exact ⟨b, b, (pre ++ [m]) ++ q :: post, rfl, rfl, by simp; omega, by simpa using hl1, fun x hx => hall' x (by simp at hx ⊢; rcases hx with hx | hx | hx | hx <;> simp [hx]), HPU.out, D.store HPG.out (own_lt hpu).1⟩
              case measure => simp [intOf]
          · have hls' : decide (m.fr < q.fr) = false := by simpa using hls
            have Q := Later.cell hq hgl.2
            have M := Later.cell hm hgl.2
            go_wp2_with fail
            refine wp_region_later _ (by kernel_rfl) (by kernel_rfl) ?_
            repeat (go_big_quiet_step (fail))
            refine wpQuiet_nil ?_
            intro zz
            have hzz := zz.prop
            generalize zz.val = w5 at hzz
            clear Q M hq hm
            have hown := own_below hown hzz
            have D := D.below hzz
            clear hzz
            go_wp2
            go_roundw
            case rel => exact ⟨k - 1, g', c', _, by rw [v3], by omega, by rw [hl1], hall', by rw [hl1]; exact hown, D⟩
            case measure => simp [intOf]; omega
end
end Go.Proofs.YtdbgnbohdplndaaGreatDoor
