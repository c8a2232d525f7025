/- Walks: what stands while numbers are drawn; kings, reigns and days are drawn. Printed by gen_drw.py. -/
import Derived.Test.YtdbgnbohdplndaaGreatDoorDraw
import Derived.Test.YtdbgnbohdplndaaGreatDoorRegM
import Derived.Test.YtdbgnbohdplndaaGreatDoorDateS
import Derived.Test.YtdbgnbohdplndaaGreatDoorTRg
import Derived.Test.YtdbgnbohdplndaaGreatDoorFix
import Derived.Deep.AppendLies
import Derived.Deep.CutRange
import Derived.Deep.CutBlock
namespace Go.Proofs.YtdbgnbohdplndaaGreatDoor
open Go.ChangeShapes Go.WideShapes Go.ChangeAt Go.RowKit Go.IntWalk

theorem grR (w : World) (r : Option Nat) : w.grownBy w r := ⟨rfl, rfl, rfl, Nat.le_refl _, fun _ _ _ => rfl⟩
theorem grB {w w' : World} (h : Below w.heap.size w w') (r : Option Nat) : w.grownBy w' r := gB (grR w r) h
theorem gN {w w1 w2 : World} {p g : Nat} (h : w.grownBy w1 (some p)) (k : w1.grownBy w2 (some g)) (hg : w.heap.size ≤ g) : w.grownBy w2 (some p) :=
  ⟨k.os.trans h.os, k.tape.trans h.tape, k.output.trans h.output, Nat.le_trans h.size k.size, fun j hj hne => (k.block j (Nat.lt_of_lt_of_le hj h.size) (fun e => by injection e with e; omega)).trans (h.block j hj hne)⟩
theorem own_keepV {B : Nat} {E : TypeId} {k n : Nat} {x : Option Nat} {v : Value} {xs : List Value} {w w' : World} (h : w.ownsRow B E k v n xs) (hg : w.grownBy w' x) (hx : ∀ g, v.ownBlock = some g → x ≠ some g) : w'.ownsRow B E k v n xs := by
  rcases h.2 with ⟨rfl, rfl⟩ | ⟨g, c, cur, rfl, hb, hh, h4⟩
  · exact ⟨h.1, .inl ⟨rfl, rfl⟩⟩
  · refine ⟨h.1, .inr ⟨g, c, cur, rfl, hb, ?_, h4⟩⟩
    rw [hg.block g (h.lt g rfl).2 (fun e => hx g rfl e.symm)]
    exact hh
theorem own_keepA {B : Nat} {E : TypeId} {k n x : Nat} {v : Value} {xs : List Value} {w w' : World} (h : w.ownsRow B E k v n xs) (hg : w.grownBy w' (some x)) (hx : x < B) : w'.ownsRow B E k v n xs :=
  own_keepV h hg (fun g e e2 => by injection e2 with e2; have := (h.lt g e).1; omega)
theorem Box.keepA {B : Nat} {w w' : World} {T : TypeId} {g x : Nat} {xs : List Value} (h : Box B w T g xs) (hg : w.grownBy w' (some x)) (hx : x < B) : Box B w' T g xs := own_keepA h hg hx
/-- A draw goes on since world w: the source lies at p; all else that lay in w lies. -/
structure Drw (w0 : World) (cs : Option Addr) (cap : Nat) (bs : List Int) (p : Nat) (w W : World) : Prop where
  src : Src w0 cs cap bs p W
  gr : w.grownBy W (some p)
  hp : p < w.heap.size
section
variable {w0 : World} {cs : Option Addr} {cap : Nat} {bs : List Int} {p : Nat} {w W W' : World}
theorem Drw.start (h : Src w0 cs cap bs p w) : Drw w0 cs cap bs p w w := ⟨h, grR _ _, h.lt.2⟩
theorem Drw.below (h : Drw w0 cs cap bs p w W) (hB : Below W.heap.size W W') : Drw w0 cs cap bs p w W' := ⟨h.src.below hB, gB h.gr hB, h.hp⟩
theorem Drw.call (h : Drw w0 cs cap bs p w W) (hs : Src w0 cs cap bs p W') (hG : W.grownBy W' (some p)) : Drw w0 cs cap bs p w W' := ⟨hs, gT h.gr hG, h.hp⟩
theorem Drw.store {g : Nat} (h : Drw w0 cs cap bs p w W) (hG : W.grownBy W' (some g)) (hg : w.heap.size ≤ g) : Drw w0 cs cap bs p w W' :=
  ⟨h.src.other hG (by have := h.hp; omega) (by have := h.hp; have := h.src.lt; omega), gN h.gr hG hg, h.hp⟩
theorem Drw.grown {r : Option Nat} (h : Drw w0 cs cap bs p w W) (hG : W.grownBy W' r) (hg : ∀ g, r = some g → w.heap.size ≤ g) : Drw w0 cs cap bs p w W' := by
  cases r with
  | none => exact h.below ⟨hG.os, hG.tape, hG.output, hG.size, fun j hj => hG.block j hj (by simp)⟩
  | some g => exact h.store hG (hg g rfl)
theorem Drw.size (h : Drw w0 cs cap bs p w W) : w.heap.size ≤ W.heap.size := h.gr.size
theorem Drw.base (h : Drw w0 cs cap bs p w W) : Below w0.heap.size w0 W := h.src.base
theorem Drw.cell {b j : Nat} {v : Value} (_h : Drw w0 cs cap bs p w W) (hG : W.grownBy W' (some p)) (c : W.cell? ⟨b, j, none⟩ = some v) (hb : b < W.heap.size) (hne : b ≠ p) : W'.cell? ⟨b, j, none⟩ = some v :=
  (gcell hG (p := ⟨b, j, none⟩) hb (fun g e => by cases e; exact hne)).trans c
end
/-- A row of numbers that an array literal has made. -/
theorem rd_lit {w : World} {c : Array Value} {xs : List Int} {p : Nat} (hc : c = (xs.map fun m => Value.int .i64 m).toArray) (hp : p < w.heap.size) (W' : World) (hG : (w.alloc (.cells c 2)).grownBy W' (some p)) : Rd encI W' (some ⟨w.heap.size, 0, none⟩) xs := by
  intro i x hi
  have hlt : w.heap.size < (w.alloc (.cells c 2)).heap.size := by simp
  refine ⟨w.heap.size, 0, rfl, Nat.lt_of_lt_of_le hlt hG.size, fun j v hv => ?_⟩
  rw [gcell hG (p := ⟨w.heap.size, _, none⟩) hlt (fun g e => by cases e; exact Nat.ne_of_gt hp), World.cell?_alloc_at _ _ _ _ rfl]
  subst hc
  match j, hv with
  | 0, hv => cases hv; simp [encI, hi]
theorem belowA (w : World) (o : Obj) : Below w.heap.size w (w.alloc o) := (Below.refl _ _).alloc (Nat.le_refl _) _

set_option maxRecDepth 100000 in
set_option maxHeartbeats 1000000 in
theorem l07DrawKing_any (w0 : World) (cs : Option Addr) (cap : Nat) (bs : List Int) (p : Nat) (w : World) (hx : Rd encB w0 cs bs) (hb : ∀ m ∈ bs, goodB m) (hl : bs.length ≤ 4096) (hs : Src w0 cs cap bs p w) :
    Calls Tryz.prog 176 #[.pointer (some ⟨p, 0, none⟩)] w fun e w' => ∃ k : ByteArray, e = .returned (.string k) ∧ k.size ≤ 13 ∧ Src w0 cs cap bs p w' ∧ w.grownBy w' (some p) := by
  have D := Drw.start hs
  have HN := Lib.hid (fun n W hn1 hn2 hs => l01Next_any w0 cs cap bs p n W hx hb hl hn1 hn2 hs)
  go_enter Tryz.func176, Tryz.ntmps176
  go_wp2_with fail
  generalize hW : w.alloc (.cells #[.string ⟨#[97, 100, 97, 109]⟩, .string ⟨#[98, 101, 114, 116, 97]⟩, .string ⟨#[99, 97, 114, 108]⟩, .string ⟨#[100, 111, 114, 97]⟩] 9) = W
  have D : Drw w0 cs cap bs p w W := hW ▸ D.below (belowA _ _)
  have hlt : w.heap.size < W.heap.size := by rw [← hW]; simp
  have c0 : W.cell? ⟨w.heap.size, 0, none⟩ = some (.string ⟨#[97, 100, 97, 109]⟩) := by rw [← hW]; exact World.cell?_alloc_at _ _ _ _ rfl
  have c1 : W.cell? ⟨w.heap.size, 1, none⟩ = some (.string ⟨#[98, 101, 114, 116, 97]⟩) := by rw [← hW]; exact World.cell?_alloc_at _ _ _ _ rfl
  have c2 : W.cell? ⟨w.heap.size, 2, none⟩ = some (.string ⟨#[99, 97, 114, 108]⟩) := by rw [← hW]; exact World.cell?_alloc_at _ _ _ _ rfl
  have c3 : W.cell? ⟨w.heap.size, 3, none⟩ = some (.string ⟨#[100, 111, 114, 97]⟩) := by rw [← hW]; exact World.cell?_alloc_at _ _ _ _ rfl
  clear hW
  have hne : w.heap.size ≠ p := Nat.ne_of_gt D.hp
  refine (HN.out 4 _ (by decide) (by decide) D.src).mono ?_
  rintro e W2 ⟨r, rfl, hr0, hr1, hs2, hG⟩
  have c0 := D.cell hG c0 hlt hne
  have c1 := D.cell hG c1 hlt hne
  have c2 := D.cell hG c2 hlt hne
  have c3 := D.cell hG c3 hlt hne
  have D := D.call hs2 hG
  clear hs2 hG hs HN
  obtain rfl | rfl | rfl | rfl : r = 0 ∨ r = 1 ∨ r = 2 ∨ r = 3 := by omega
  all_goals
    go_wp2
    go_ret
    exact ⟨_, rfl, by decide, D.src, D.gr⟩
set_option maxRecDepth 100000 in
set_option maxHeartbeats 1000000 in
theorem l01DrawDay_any (w0 : World) (cs : Option Addr) (cap : Nat) (bs : List Int) (p : Nat) (w : World) (hx : Rd encB w0 cs bs) (hb : ∀ m ∈ bs, goodB m) (hl : bs.length ≤ 4096) (hs : Src w0 cs cap bs p w) :
    Calls Tryz.prog 144 #[.pointer (some ⟨p, 0, none⟩)] w fun e w' => ∃ r : Int, e = .returned (.int .i64 r) ∧ (-1 ≤ r ∧ r ≤ 730500) ∧ Src w0 cs cap bs p w' ∧ w.grownBy w' (some p) := by
  have D := Drw.start hs
  have HN := Lib.hid (fun n W hn1 hn2 hs => l01Next_any w0 cs cap bs p n W hx hb hl hn1 hn2 hs)
  have HP := Lib.hid (fun a ca xs W hs hxs h1 h2 => l01Pick_any w0 cs cap bs p a ca xs W hx hb hl hs hxs h1 h2)
  go_enter Tryz.func144, Tryz.ntmps144
  go_wp2_with fail
  refine (HN.out 16 _ (by decide) (by decide) D.src).mono ?_
  rintro e w1 ⟨r, rfl, hr0, hr1, hs, hG⟩
  have D := D.call hs hG
  clear hs hG
  by_cases h0 : r = 0
  · subst h0
    go_wp2_with fail
    have hrd := rd_lit (w := w1) (c := #[.int .i64 (-1), .int .i64 0, .int .i64 1, .int .i64 2, .int .i64 730498, .int .i64 730499, .int .i64 730500]) (xs := [(-1), 0, 1, 2, 730498, 730499, 730500]) (p := p) rfl D.src.lt.2
    have D := D.below (belowA _ (.cells #[.int .i64 (-1), .int .i64 0, .int .i64 1, .int .i64 2, .int .i64 730498, .int .i64 730499, .int .i64 730500] 2))
    refine (HP.out _ 7 [(-1), 0, 1, 2, 730498, 730499, 730500] _ D.src hrd (by simp) (by simp)).mono ?_
    rintro e w2 ⟨v, rfl, hv, hs, hG⟩
    have D := D.call hs hG
    clear hs hG
    go_wp2
    go_ret
    exact ⟨_, rfl, by simp at hv; omega, D.src, D.gr⟩
  · have h0' : (r == 0) = false := by simpa using h0
    go_wp2_with fail
    refine (HN.out 730499 _ (by decide) (by decide) D.src).mono ?_
    rintro e w3 ⟨v, rfl, hv0, hv1, hs, hG⟩
    have D := D.call hs hG
    clear hs hG
    go_wp2
    go_ret
    exact ⟨_, rfl, by omega, D.src, D.gr⟩
set_option maxRecDepth 100000 in
set_option maxHeartbeats 1000000 in
theorem l07DrawDay_any (w0 : World) (cs : Option Addr) (cap : Nat) (bs : List Int) (p : Nat) (w : World) (hx : Rd encB w0 cs bs) (hb : ∀ m ∈ bs, goodB m) (hl : bs.length ≤ 4096) (hs : Src w0 cs cap bs p w) :
    Calls Tryz.prog 105 #[.pointer (some ⟨p, 0, none⟩)] w fun e w' => ∃ r : Int, e = .returned (.int .i64 r) ∧ (-1 ≤ r ∧ r ≤ 730500) ∧ Src w0 cs cap bs p w' ∧ w.grownBy w' (some p) := by
  have D := Drw.start hs
  have HN := Lib.hid (fun n W hn1 hn2 hs => l01Next_any w0 cs cap bs p n W hx hb hl hn1 hn2 hs)
  go_enter Tryz.func105, Tryz.ntmps105
  go_wp2_with fail
  refine (HN.out 24 _ (by decide) (by decide) D.src).mono ?_
  rintro e w4 ⟨r, rfl, hr0, hr1, hs, hG⟩
  have D := D.call hs hG
  clear hs hG
  by_cases h0 : r = 0
  · subst h0
    go_wp2_with fail
    refine (l01DrawDay_any w0 cs cap bs p _ hx hb hl D.src).mono ?_
    rintro e w5 ⟨v, rfl, hv, hs, hG⟩
    have D := D.call hs hG
    clear hs hG
    go_wp2
    go_ret
    exact ⟨_, rfl, hv, D.src, D.gr⟩
  · have h0' : (r == 0) = false := by simpa using h0
    go_wp2_with fail
    refine (HN.out 12000 _ (by decide) (by decide) D.src).mono ?_
    rintro e w6 ⟨v, rfl, hv0, hv1, hs, hG⟩
    have D := D.call hs hG
    clear hs hG
    have v1 := i64_in (420000 + v) (by omega)
    go_wp2
    go_ret
    exact ⟨_, rfl, by omega, D.src, D.gr⟩
end Go.Proofs.YtdbgnbohdplndaaGreatDoor
