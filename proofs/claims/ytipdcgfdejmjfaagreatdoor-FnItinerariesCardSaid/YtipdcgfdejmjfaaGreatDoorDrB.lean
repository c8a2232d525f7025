/- Walks: what stands while numbers are drawn; days are drawn. Split from XDrw and XDrawL. -/
import Derived.Test.YtipdcgfdejmjfaaGreatDoorTI
import Derived.Test.YtipdcgfdejmjfaaGreatDoorRowI
import Derived.Test.YtipdcgfdejmjfaaGreatDoorCLand
import Derived.StillTailTactics
import Derived.BigQuiet
import Derived.Test.YtipdcgfdejmjfaaGreatDoorBase
import Derived.OrdersHeld
import Derived.StillTail
import Derived.Deep.RegionHeld
import Derived.Test.YtipdcgfdejmjfaaGreatDoorBox
import Derived.Deep.AppendLies
import Derived.Deep.CutRange
import Derived.Deep.CutBlock
namespace Go.Proofs.YtipdcgfdejmjfaaGreatDoor
section
open Go.ChangeShapes Go.WideShapes Go.ChangeAt Go.RowKit Go.IntWalk

def encB (m : Int) : List Value := [.int .u8 m]
theorem encB_len (m : Int) : (encB m).length = 1 := rfl
def goodB (m : Int) : Prop := 0 ≤ m ∧ m ≤ 255
theorem Rd.bb {w : World} {a : Option Addr} {xs : List Int} (h : Rd encB w a xs) {i : Nat} {m : Int} (hi : xs[i]? = some m) :
    ∃ b off, a = some ⟨b, off, none⟩ ∧ b < w.heap.size ∧ w.cell? ⟨b, off + i, none⟩ = some (.int .u8 m) := by
  obtain ⟨b, off, ha, hb, hc⟩ := h i m hi
  have h0 := hc 0 _ rfl
  rw [encB_len, Nat.mul_one, Nat.add_zero] at h0
  exact ⟨b, off, ha, hb, h0⟩

/-- A source of numbers lies at block p; all that lay in w0 lies. -/
def Src (w0 : World) (cs : Option Addr) (cap : Nat) (bs : List Int) (p : Nat) (w : World) : Prop :=
  ∃ (i : Nat) (seed : Int), i ≤ bs.length ∧ 0 ≤ seed ∧ seed ≤ 2147483646 ∧
    w.ownsRow w0.heap.size 106 1 (.slice (some ⟨p, 0, none⟩) 3 3) 3 [.slice cs bs.length cap, .int .i64 i, .int .i64 seed] ∧ Below w0.heap.size w0 w
theorem Src.lt {w0 : World} {cs : Option Addr} {cap : Nat} {bs : List Int} {p : Nat} {w : World} (h : Src w0 cs cap bs p w) : w0.heap.size ≤ p ∧ p < w.heap.size := by
  obtain ⟨_, _, _, _, _, ho, _⟩ := h
  exact own_lt ho
theorem Src.base {w0 : World} {cs : Option Addr} {cap : Nat} {bs : List Int} {p : Nat} {w : World} (h : Src w0 cs cap bs p w) : Below w0.heap.size w0 w := by
  obtain ⟨_, _, _, _, _, _, hB⟩ := h
  exact hB
theorem Src.below {w0 : World} {cs : Option Addr} {cap : Nat} {bs : List Int} {p : Nat} {w w' : World} (h : Src w0 cs cap bs p w) (hB : Below w.heap.size w w') : Src w0 cs cap bs p w' := by
  obtain ⟨i, s, h1, h2, h3, ho, hb⟩ := h
  exact ⟨i, s, h1, h2, h3, own_below ho hB, stepB hb hB hb.size⟩
theorem Src.other {w0 : World} {cs : Option Addr} {cap : Nat} {bs : List Int} {p g : Nat} {w w' : World} (h : Src w0 cs cap bs p w) (hG : w.grownBy w' (some g)) (hne : p ≠ g) (hg : w0.heap.size ≤ g) : Src w0 cs cap bs p w' := by
  obtain ⟨i, s, h1, h2, h3, ho, hb⟩ := h
  exact ⟨i, s, h1, h2, h3, own_keepOther ho hG hne, hb.grown hG hb.size (fun x e => by cases e; exact hg)⟩
theorem tmod_bd {x y : Int} (hx : 0 ≤ x) (hy : 0 < y) : 0 ≤ x.tmod y ∧ x.tmod y ≤ y - 1 := by
  rw [Int.tmod_eq_emod_of_nonneg hx]
  have := Int.emod_nonneg x (Int.ne_of_gt hy)
  have := Int.emod_lt_of_pos x hy
  omega
theorem emod_bd {x y : Int} (hy : 0 < y) : 0 ≤ x % y ∧ x % y ≤ y - 1 := by
  have := Int.emod_nonneg x (Int.ne_of_gt hy)
  have := Int.emod_lt_of_pos x hy
  omega
theorem tdiv_bd {x y : Int} (hx : 0 ≤ x) (hy : 0 < y) : 0 ≤ x.tdiv y ∧ x.tdiv y ≤ x := by
  rw [Int.tdiv_eq_ediv_of_nonneg hx]
  exact ⟨Int.ediv_nonneg hx (by omega), Int.ediv_le_self _ hx⟩

set_option maxRecDepth 100000 in
set_option maxHeartbeats 4000000 in
theorem l01From_any (cs : Option Addr) (cap : Nat) (bs : List Int) (w : World) (hx : Rd encB w cs bs) (hb : ∀ m ∈ bs, goodB m) :
    Calls Tryz.prog 35 #[.slice cs bs.length cap] w fun e w' => ∃ p, e = .returned (.pointer (some ⟨p, 0, none⟩)) ∧ Src w cs cap bs p w' := by
  have hown0 : (w.alloc (.cells #[.slice cs bs.length cap, .int .i64 0, .int .i64 34001] 106)).ownsRow w.heap.size 106 1 (.slice (some ⟨w.heap.size, 0, none⟩) 3 3) 3 [.slice cs bs.length cap, .int .i64 (0 : Nat), .int .i64 34001] :=
    ⟨rfl, .inr ⟨w.heap.size, 3, #[.slice cs bs.length cap, .int .i64 0, .int .i64 34001], rfl, Nat.le_refl _, heap_alloc_new w _, by decide, by decide, rfl, rfl⟩⟩
  have hB0 : Below w.heap.size w (w.alloc (.cells #[.slice cs bs.length cap, .int .i64 0, .int .i64 34001] 106)) := (Below.refl _ _).alloc (Nat.le_refl _) _
  go_enter Tryz.func35, Tryz.ntmps35
  go_wp2
  go_loopw [4] (fun i wr => ∃ (k : Nat) (s : Int), k ≤ bs.length ∧ k ≤ 64 ∧ i = .int .i64 k ∧ 0 ≤ s ∧ s ≤ 2147483646 ∧ wr.ownsRow w.heap.size 106 1 (.slice (some ⟨w.heap.size, 0, none⟩) 3 3) 3 [.slice cs bs.length cap, .int .i64 (0 : Nat), .int .i64 s] ∧ Below w.heap.size w wr) (fun i _ => 64 - (intOf i).toNat)
  case atStart => exact ⟨0, 34001, Nat.zero_le _, Nat.zero_le _, rfl, by decide, by decide, hown0, hB0⟩
  case round =>
    clear hown0 hB0
    obtain ⟨k, s, hk, hk64, rfl, hs0, hs1, hown, hB⟩ := hrel
    by_cases hlt : k < bs.length
    · have hk1 : (k : Int) < (bs.length : Int) := by omega
      by_cases h64 : k < 64
      · have hk2 : (k : Int) < 64 := by omega
        have hm := List.getElem?_eq_getElem hlt
        generalize bs[k] = m at hm
        have hmb := hb m (List.mem_of_getElem? hm)
        obtain ⟨hm0, hm1⟩ := hmb
        obtain ⟨b, off, rfl, hbb, c0⟩ := (hx.below hB).bb hm
        have c2 := hown.cellAt 2 (by decide)
        have c2 : wr.cell? ⟨w.heap.size, 2, none⟩ = some (.int .i64 s) := c2
        have v1 := i64_in (s * 67) (by omega)
        have v2 := i64_in m (by omega)
        have v3 := i64_in (s * 67 + m) (by omega)
        have tb := tmod_bd (x := s * 67 + m) (y := 2147483647) (by omega) (by decide)
        generalize ht : (s * 67 + m).tmod 2147483647 = t at tb
        obtain ⟨tb0, tb1⟩ := tb
        clear hm
        go_wp2_with fail
        go_still_tail 15, (by kernel_rfl)
        clear c0 c2
        change wpList _ _ _ _ _ wr.drew
        have hzz : Below wr.heap.size wr wr.drew := (Below.refl _ wr).drew
        generalize wr.drew = V at hzz ⊢
        have hown := own_below hown hzz
        have hB := stepB hB hzz hB.size
        have hgl := own_lt hown
        have c2 : V.cell? ⟨w.heap.size, 2, none⟩ = some (.int .i64 s) := hown.cellAt 2 (by decide)
        have f2 := hown.frozenAt 2
        have hp := own_put (i := 2) (pre := [.slice (some ⟨b, off, none⟩) bs.length cap, .int .i64 (0 : Nat)]) (post := []) hown rfl (.int .i64 t)
        have HP := Lib.hid hp.1
        have HG := Lib.hid hp.2
        clear hp hzz
        go_wp2
        go_roundw
        case rel => exact ⟨k + 1, t, by omega, by omega, by go_num, by omega, by omega, HP.out, hB.grown HG.out hB.size (fun g e => by cases e; exact Nat.le_refl _)⟩
        case measure => simp [intOf]; omega
      · have h64' : decide ((k : Int) < 64) = false := by simp; omega
        go_wp2
        go_ret
        exact ⟨_, rfl, 0, s, Nat.zero_le _, hs0, hs1, hown, hB⟩
    · have hk' : decide ((k : Int) < (bs.length : Int)) = false := by simp; omega
      go_wp2
      go_ret
      exact ⟨_, rfl, 0, s, Nat.zero_le _, hs0, hs1, hown, hB⟩

set_option maxRecDepth 100000 in
set_option maxHeartbeats 4000000 in
theorem l01Next_any (w0 : World) (cs : Option Addr) (cap : Nat) (bs : List Int) (p : Nat) (n : Int) (w : World) (hx : Rd encB w0 cs bs) (hb : ∀ m ∈ bs, goodB m) (hl : bs.length ≤ 4096) (hn : n ≤ 1000000) (hn0 : 0 ≤ n) (hs : Src w0 cs cap bs p w) :
    Calls Tryz.prog 54 #[.pointer (some ⟨p, 0, none⟩), .int .i64 n] w fun e w' => ∃ r : Int, e = .returned (.int .i64 r) ∧ 0 ≤ r ∧ (r = 0 ∨ r < n) ∧ Src w0 cs cap bs p w' ∧ w.grownBy w' (some p) := by
  by_cases hn1 : n ≤ 1
  · go_enter Tryz.func54, Tryz.ntmps54
    go_wp2
    go_ret
    exact ⟨0, rfl, Int.le_refl _, .inl rfl, hs, ⟨rfl, rfl, rfl, Nat.le_refl _, fun _ _ _ => rfl⟩⟩
  · obtain ⟨i, s, hi, hs0, hs1, hown, hB⟩ := hs
    have hn1' : decide (n ≤ 1) = false := by simpa using hn1
    have hgl := own_lt hown
    have c0 : w.cell? ⟨p, 0, none⟩ = some (.slice cs bs.length cap) := hown.cellAt 0 (by decide)
    have c1 : w.cell? ⟨p, 1, none⟩ = some (.int .i64 i) := hown.cellAt 1 (by decide)
    have c2 : w.cell? ⟨p, 2, none⟩ = some (.int .i64 s) := hown.cellAt 2 (by decide)
    have f2 := hown.frozenAt 2
    have v1 := i64_in (s * 48271) (by omega)
    have v2 := i64_in (s * 48271 + 67) (by omega)
    have tb := tmod_bd (x := s * 48271 + 67) (y := 2147483647) (by omega) (by decide)
    generalize ht : (s * 48271 + 67).tmod 2147483647 = t at tb
    obtain ⟨tb0, tb1⟩ := tb
    have hp := own_put (i := 2) (pre := [.slice cs bs.length cap, .int .i64 i]) (post := []) hown rfl (.int .i64 t)
    have HP := Lib.hid hp.1
    have HG := Lib.hid hp.2
    clear hp
    go_enter Tryz.func54, Tryz.ntmps54
    go_upto_region 4 with (fail)
    have hown := HP.out
    have hG := HG.out
    have hB := hB.grown hG hB.size (fun g e => by cases e; exact hgl.1)
    clear HP HG c0 c1 c2 f2 v1 v2 ht
    generalize w.setCell ⟨p, 2, none⟩ (.int .i64 t) = w1 at hown hG hB ⊢
    have hgl := own_lt hown
    have c0 : w1.cell? ⟨p, 0, none⟩ = some (.slice cs bs.length cap) := hown.cellAt 0 (by decide)
    have c1 : w1.cell? ⟨p, 1, none⟩ = some (.int .i64 i) := hown.cellAt 1 (by decide)
    have c2 : w1.cell? ⟨p, 2, none⟩ = some (.int .i64 t) := hown.cellAt 2 (by decide)
    have v1 := i64_quo' t 43 (by omega)
    have db := tdiv_bd (x := t) (y := 43) (by omega) (by decide)
    generalize hq : t.tdiv 43 = q at db v1
    obtain ⟨db0, db1⟩ := db
    by_cases hlt : i < bs.length
    · have hlt' : (i : Int) < (bs.length : Int) := by omega
      have hm := List.getElem?_eq_getElem hlt
      generalize bs[i] = m at hm
      obtain ⟨hm0, hm1⟩ := hb m (List.mem_of_getElem? hm)
      have C0 := Later.cell c0 hgl.2
      have C1 := Later.cell c1 hgl.2
      have C2 := Later.cell c2 hgl.2
      go_wp2_with fail
      refine wp_region_later _ (by kernel_rfl) (by kernel_rfl) ?_
      repeat (go_big_quiet_step (fail))
      refine wpQuiet_nil ?_
      intro z
      have hz := z.prop
      generalize z.val = U at hz
      clear C0 C1 C2 c0 c1 c2
      have hown := own_below hown hz
      have hG := gB hG hz
      have hB := stepB hB hz hB.size
      have hgl := own_lt hown
      have c0 : U.cell? ⟨p, 0, none⟩ = some (.slice cs bs.length cap) := hown.cellAt 0 (by decide)
      have c1 : U.cell? ⟨p, 1, none⟩ = some (.int .i64 i) := hown.cellAt 1 (by decide)
      have c2 : U.cell? ⟨p, 2, none⟩ = some (.int .i64 t) := hown.cellAt 2 (by decide)
      obtain ⟨b, off, hcs, hbb, cb⟩ := (hx.below hB).bb hm
      subst hcs
      have v2 := i64_in m (by omega)
      have v3 := i64_in (q + m) (by omega)
      have C0 := Later.cell c0 hgl.2
      have C1 := Later.cell c1 hgl.2
      have C2 := Later.cell c2 hgl.2
      have CB := Later.cell cb hbb
      go_wp2_with fail
      refine wp_region_later _ (by kernel_rfl) (by kernel_rfl) ?_
      repeat (go_big_quiet_step (fail))
      refine wpQuiet_nil ?_
      intro z
      have hz := z.prop
      generalize z.val = U2 at hz
      clear C0 C1 C2 c0 c1 c2 cb CB
      have hown := own_below hown hz
      have hG := gB hG hz
      have hB := stepB hB hz hB.size
      have hgl := own_lt hown
      have c0 : U2.cell? ⟨p, 0, none⟩ = some (.slice (some ⟨b, off, none⟩) bs.length cap) := hown.cellAt 0 (by decide)
      have c1 : U2.cell? ⟨p, 1, none⟩ = some (.int .i64 i) := hown.cellAt 1 (by decide)
      have c2 : U2.cell? ⟨p, 2, none⟩ = some (.int .i64 t) := hown.cellAt 2 (by decide)
      have f1 := hown.frozenAt 1
      have v4 := i64_in ((i : Int) + 1) (by omega)
      have hp := own_put (i := 1) (pre := [.slice (some ⟨b, off, none⟩) bs.length cap]) (post := [.int .i64 t]) hown rfl (.int .i64 ((i : Int) + 1))
      have HP := Lib.hid hp.1
      have HG := Lib.hid hp.2
      clear hp v2 v3
      go_upto_region 8 with (fail)
      have hown := HP.out
      have hG := gT hG HG.out
      have hB := hB.grown HG.out hB.size (fun g e => by cases e; exact hgl.1)
      clear HP HG c0 c1 c2 f1 v4
      generalize U2.setCell ⟨p, 1, none⟩ (.int .i64 ((i : Int) + 1)) = w3 at hown hG hB ⊢
      have hgl := own_lt hown
      have hown : w3.ownsRow w0.heap.size 106 1 (.slice (some ⟨p, 0, none⟩) 3 3) 3 [.slice (some ⟨b, off, none⟩) bs.length cap, .int .i64 ((i + 1 : Nat) : Int), .int .i64 t] := hown
      have c0 : w3.cell? ⟨p, 0, none⟩ = some (.slice (some ⟨b, off, none⟩) bs.length cap) := hown.cellAt 0 (by decide)
      have c1 : w3.cell? ⟨p, 1, none⟩ = some (.int .i64 ((i : Int) + 1)) := hown.cellAt 1 (by decide)
      have c2 : w3.cell? ⟨p, 2, none⟩ = some (.int .i64 t) := hown.cellAt 2 (by decide)
      generalize hr2 : ((i : Int) + 1).tmod 2 = r2
      by_cases hn2 : n ≤ 256
      · have hn2' : decide (n ≤ 256) = true := by simpa using hn2
        by_cases hr0 : r2 = 0
        · have hr0' : (r2 == 0) = true := by simpa using hr0
          have v2 := i64_in m (by omega)
          have v5 := i64_in ((i : Int) + 1 - 1) (by omega)
          have v6 : (i : Int) + 1 - 1 = i := by omega
          obtain ⟨b', off', hcs, hbb, cb⟩ := (hx.below hB).bb hm
          obtain ⟨rfl, rfl⟩ : b = b' ∧ off = off' := by injection hcs with e1; injection e1 with e1 e2; exact ⟨e1, e2⟩
          clear hcs
          have C0 := Later.cell c0 hgl.2
          have C1 := Later.cell c1 hgl.2
          have C2 := Later.cell c2 hgl.2
          have CB := Later.cell cb hbb
          go_wp2_with fail
          refine wp_region_later _ (by kernel_rfl) (by kernel_rfl) ?_
          repeat (go_big_quiet_step (fail))
          refine wpQuiet_nil ?_
          intro z
          have hz := z.prop
          generalize z.val = U3 at hz
          clear C0 C1 C2 c0 c1 c2 cb CB
          have hown := own_below hown hz
          have hG := gB hG hz
          have hB := stepB hB hz hB.size
          have hgl := own_lt hown
          have xb := emod_bd (x := m) (y := n) (by omega)
          go_wp2
          go_ret
          exact ⟨_, rfl, xb.1, .inr (by omega), ⟨i + 1, t, by omega, tb0, by omega, hown, hB⟩, hG⟩
        · have hr0' : (r2 == 0) = false := by simpa using hr0
          have xb := emod_bd (x := q + m) (y := n) (by omega)
          go_wp2
          go_ret
          exact ⟨_, rfl, xb.1, .inr (by omega), ⟨i + 1, t, by omega, tb0, by omega, hown, hB⟩, hG⟩
      · have hn2' : decide (n ≤ 256) = false := by simpa using hn2
        have xb := emod_bd (x := q + m) (y := n) (by omega)
        go_wp2
        go_ret
        exact ⟨_, rfl, xb.1, .inr (by omega), ⟨i + 1, t, by omega, tb0, by omega, hown, hB⟩, hG⟩
    · have hlt' : decide ((i : Int) < (bs.length : Int)) = false := by simp; omega
      have C0 := Later.cell c0 hgl.2
      have C1 := Later.cell c1 hgl.2
      have C2 := Later.cell c2 hgl.2
      go_wp2_with fail
      refine wp_region_later _ (by kernel_rfl) (by kernel_rfl) ?_
      repeat (go_big_quiet_step (fail))
      refine wpQuiet_nil ?_
      intro z
      have hz := z.prop
      generalize z.val = U at hz
      clear C0 C1 C2 c0 c1 c2
      have hown := own_below hown hz
      have hG := gB hG hz
      have hB := stepB hB hz hB.size
      have hgl := own_lt hown
      have xb := emod_bd (x := q) (y := n) (by omega)
      go_wp2
      go_ret
      exact ⟨_, rfl, xb.1, .inr (by omega), ⟨i, t, hi, tb0, by omega, hown, hB⟩, hG⟩

set_option maxRecDepth 100000 in
set_option maxHeartbeats 4000000 in
theorem l01Pick_any (w0 : World) (cs : Option Addr) (cap : Nat) (bs : List Int) (p : Nat) (a : Option Addr) (ca : Nat) (xs : List Int) (w : World) (hx : Rd encB w0 cs bs) (hb : ∀ m ∈ bs, goodB m) (hl : bs.length ≤ 4096) (hs : Src w0 cs cap bs p w) (hxs : ∀ W, w.grownBy W (some p) → Rd encI W a xs) (h1 : 1 ≤ xs.length) (h2 : xs.length ≤ 100) :
    Calls Tryz.prog 55 #[.pointer (some ⟨p, 0, none⟩), .slice a xs.length ca] w fun e w' => ∃ r : Int, e = .returned (.int .i64 r) ∧ r ∈ xs ∧ Src w0 cs cap bs p w' ∧ w.grownBy w' (some p) := by
  have HN := Lib.hid (l01Next_any w0 cs cap bs p xs.length w hx hb hl (by omega) (by omega) hs)
  go_enter Tryz.func55, Tryz.ntmps55
  go_wp2_with fail
  refine HN.out.mono ?_
  rintro e w1 ⟨r, rfl, hr0, hr1, hs1, hG⟩
  obtain ⟨k, rfl⟩ : ∃ k : Nat, r = k := ⟨r.toNat, by omega⟩
  have hk : k < xs.length := by omega
  have hm := List.getElem?_eq_getElem hk
  have hmem := List.getElem_mem hk
  generalize xs[k] = m at hm hmem
  obtain ⟨b, off, rfl, hbb, c0⟩ := (hxs w1 hG).i hm
  have hk1 : (k : Int) < (xs.length : Int) := by omega
  clear hm hr1
  go_wp2
  go_ret
  exact ⟨_, rfl, hmem, hs1, hG⟩
end

section
open Go

section
variable {P : Program} {ops : Array Oper} {Q : Exit → Act → World → Prop} {md : Region.Mode} {S : World → Prop} {last : Nat}

def MAny (P : Program) (md : Region.Mode) (ops : Array Oper) (Q : Exit → Act → World → Prop) (S : World → Prop) (last : Nat) : Nat → Array Bool → Act → World → Prop
  | 0, listed, a, w => Region.ready md ops listed = [] ∧ Q .normal a w
  | f + 1, listed, a, w => (Region.ready md ops listed = [] → Q .normal a w) ∧
      ∀ i ∈ Region.ready md ops listed, wpOp P ops Q i (fun a' w' => (i = last ∨ S w') ∧ MAny P md ops Q S last f (listed.setIfInBounds i true) a' w') a w

theorem MAny.any : ∀ (f : Nat) (listed : Array Bool) (a : Act) (w : World), MAny P md ops Q S last f listed a w → wpAny P md ops Q f listed a w
  | 0, _, _, _, h => h
  | f + 1, _, _, _, h => ⟨h.1, fun i hi => wpOp_mono (fun a' w' k => MAny.any f _ a' w' k.2) (h.2 i hi)⟩

theorem MAny.first {i : Nat} {oi : Oper} {v : Value} (hi : ops[i]? = some oi) (hsel : ∀ (j : Nat) (o : Oper) cs b, ops[j]? = some o → o.op ≠ .select cs b)
    (hQ : ∀ c a w, Q (.panic c) (a.put oi.dst v) w → Q (.panic c) a w) (hw : Region.waitsFor md ops last i = true) :
    ∀ (f : Nat) (listed : Array Bool) (a : Act) (w : World),
      (∀ j oj, ops[j]? = some oj → j ≠ i → listed.getD j true = false → (∀ e ∈ oj.after, Region.binds md e = true → e.on ≠ i) → oi.apart ops oj = true) →
      i ∈ Region.ready md ops listed → YieldsIf P ops S oi v a → S w →
      MAny P md ops Q S last f (listed.setIfInBounds i true) (a.put oi.dst v) w → MAny P md ops Q S last (f + 1) listed a w := by
  intro f
  induction f with
  | zero =>
    intro listed a w _ hr hy hS H
    refine ⟨fun h => absurd hr (by rw [h]; simp), fun j hj => ?_⟩
    by_cases e : j = i
    · rw [e]; exact hy.wpOp hi hS ⟨.inr hS, H⟩
    · have h1 := ready_mono hj e
      rw [H.1] at h1
      exact absurd h1 (by simp)
  | succ f ih =>
    intro listed a w hfree hr hy hS H
    refine ⟨fun h => absurd hr (by rw [h]; simp), fun j hj => ?_⟩
    by_cases e : j = i
    · rw [e]; exact hy.wpOp hi hS ⟨.inr hS, H⟩
    · obtain ⟨hu, oj, hoj, hall⟩ := mem_ready.1 hj
      have hui := (mem_ready.1 hr).1
      have hno : ∀ x ∈ oj.after, Region.binds md x = true → x.on ≠ i := fun x hx hb he => by
        have h2 := hall x hx hb
        rw [he, getD_both hui] at h2
        cases h2
      have hjl : j ≠ last := fun he => by
        obtain ⟨ol, hol, x, hx, hb, hon⟩ := Region.waitsFor_spec hw
        rw [he, hol] at hoj
        injection hoj with hoj
        exact hno x (hoj ▸ hx) hb hon
      have h2 := wpOp_putIf hoj (hfree j oj hoj e hu hno) (fun cs b => hsel i oi cs b hi) (fun cs b => hsel j oj cs b hoj) hQ hy (H.2 j (ready_mono hj e))
      refine wpOp_mono (fun a' w' k => ?_) h2
      have hS' : S w' := k.2.1.resolve_left hjl
      refine ⟨.inr hS', ih (listed.setIfInBounds j true) a' w' (fun k' ok hk hki hun hn => hfree k' ok hk hki ?_ hn) (ready_mono hr (Ne.symm e)) k.1 hS' ?_⟩
      · by_cases h : j = k'
        · rw [← h]; exact hu
        · rw [getD_set_ne true h] at hun; exact hun
      · rw [Array.setIfInBounds_comm _ _ e]
        exact k.2.2

theorem MAny.take {i : Nat} {oi : Oper} {v : Value} {f : Nat} {listed : Array Bool} {a : Act} {w : World} (hi : ops[i]? = some oi)
    (hs : Region.noSelect ops = true) (hf : Region.free md ops listed i = true) (hr : (Region.ready md ops listed).contains i = true)
    (hQ : ∀ c a w, Q (.panic c) (a.put oi.dst v) w → Q (.panic c) a w) (hw : Region.waitsFor md ops last i = true) (hy : YieldsIf P ops S oi v a) (hS : S w)
    (h : MAny P md ops Q S last f (listed.setIfInBounds i true) (a.put oi.dst v) w) : MAny P md ops Q S last (f + 1) listed a w :=
  MAny.first hi (Region.noSelect_spec hs) hQ hw f listed a w (Region.free_spec hi hf) (by simpa using hr) hy hS h

def MReady (P : Program) (md : Region.Mode) (ops : Array Oper) (Q : Exit → Act → World → Prop) (S : World → Prop) (last : Nat) (f : Nat) (listed : Array Bool) (a : Act) (w : World) (rs : List Nat) : Prop :=
  ∀ i ∈ rs, wpOp P ops Q i (fun a' w' => (i = last ∨ S w') ∧ MAny P md ops Q S last f (listed.setIfInBounds i true) a' w') a w
theorem MReady.nil {f : Nat} {listed : Array Bool} {a : Act} {w : World} : MReady P md ops Q S last f listed a w [] := fun _ h => by cases h
theorem MReady.cons {f : Nat} {listed : Array Bool} {a : Act} {w : World} {i : Nat} {o : Oper} {rs : List Nat} (ho : ops[i]? = some o)
    (h : ∀ K' : Act → World → Prop, Shut (∀ a w, (i = last ∨ S w) → MAny P md ops Q S last f (listed.setIfInBounds i true) a w → K' a w) → if Region.wanted o (yielded ops a.tmps) = true then Oper.wp P o a w K' Q else K' (a.put o.dst undef) w)
    (hs : MReady P md ops Q S last f listed a w rs) : MReady P md ops Q S last f listed a w (i :: rs) := fun j hj => by
  rcases List.mem_cons.1 hj with e | hj
  · rw [e]; exact wpOp_step ho (fun K' hK => h K' (fun a w hS hW => hK a w ⟨hS, hW⟩))
  · exact hs j hj
theorem MAny.ready {rs : List Nat} {f : Nat} {listed : Array Bool} {a : Act} {w : World} (hr : Region.ready md ops listed = rs) (hne : rs ≠ [])
    (h : MReady P md ops Q S last f listed a w rs) : MAny P md ops Q S last (f + 1) listed a w :=
  ⟨fun h0 => absurd (hr ▸ h0) hne, hr ▸ h⟩
theorem MAny.done {listed : Array Bool} {a : Act} {w : World} (hr : Region.ready md ops listed = []) (h : Q .normal a w) : ∀ f, MAny P md ops Q S last f listed a w
  | 0 => ⟨hr, h⟩
  | _ + 1 => ⟨fun _ => h, by rw [hr]; simp⟩
theorem MAny.region {id : Nat} {a : Act} {w : World} (hm : P.follows .mixedOrders = true)
    (h : MAny P .any ops Q S last ops.size (Array.replicate ops.size false) a w.drew) : (Code.region id ops true).wp P Q a w :=
  wp_region_any hm (MAny.any _ _ _ _ h)
end
end

section
open Go.ChangeShapes Go.WideShapes Go.ChangeAt Go.RowKit Go.IntWalk

theorem grR (w : World) (r : Option Nat) : w.grownBy w r := ⟨rfl, rfl, rfl, Nat.le_refl _, fun _ _ _ => rfl⟩
theorem grB {w w' : World} (h : Below w.heap.size w w') (r : Option Nat) : w.grownBy w' r := gB (grR w r) h
theorem grA (w : World) (o : Obj) (r : Option Nat) : w.grownBy (w.alloc o) r := grB ((Below.refl _ _).alloc (Nat.le_refl _) _) r
theorem gN {w w1 w2 : World} {p g : Nat} (h : w.grownBy w1 (some p)) (k : w1.grownBy w2 (some g)) (hg : w.heap.size ≤ g) : w.grownBy w2 (some p) :=
  ⟨k.os.trans h.os, k.tape.trans h.tape, k.output.trans h.output, Nat.le_trans h.size k.size, fun j hj hne => (k.block j (Nat.lt_of_lt_of_le hj h.size) (fun e => by injection e with e; omega)).trans (h.block j hj hne)⟩
theorem own_keepV {B : Nat} {E : TypeId} {k n : Nat} {x : Option Nat} {v : Value} {xs : List Value} {w w' : World} (h : w.ownsRow B E k v n xs) (hg : w.grownBy w' x) (hx : ∀ g, v.ownBlock = some g → x ≠ some g) : w'.ownsRow B E k v n xs := by
  rcases h.2 with ⟨rfl, rfl⟩ | ⟨g, c, cur, rfl, hb, hh, h4⟩
  · exact ⟨h.1, .inl ⟨rfl, rfl⟩⟩
  · refine ⟨h.1, .inr ⟨g, c, cur, rfl, hb, ?_, h4⟩⟩
    rw [hg.block g (h.lt g rfl).2 (fun e => hx g rfl e.symm)]
    exact hh
theorem own_keepA {B : Nat} {E : TypeId} {k n x : Nat} {v : Value} {xs : List Value} {w w' : World} (h : w.ownsRow B E k v n xs) (hg : w.grownBy w' (some x)) (hx : x < B) : w'.ownsRow B E k v n xs :=
  own_keepV h hg (fun g e e2 => by injection e2 with e2; have := (h.lt g e).1; omega)
theorem Box.keepA {B : Nat} {w w' : World} {T : TypeId} {g x : Nat} {xs : List Value} (h : Box B w T g xs) (hg : w.grownBy w' (some x)) (hx : x < B) : Box B w' T g xs := own_keepA h hg hx
/-- A draw goes on since world w: the source lies at p; all else that lay in w lies. -/
structure Drw (w0 : World) (cs : Option Addr) (cap : Nat) (bs : List Int) (p : Nat) (w W : World) : Prop where
  src : Src w0 cs cap bs p W
  gr : w.grownBy W (some p)
  hp : p < w.heap.size
section
variable {w0 : World} {cs : Option Addr} {cap : Nat} {bs : List Int} {p : Nat} {w W W' : World}
theorem Drw.start (h : Src w0 cs cap bs p w) : Drw w0 cs cap bs p w w := ⟨h, grR _ _, h.lt.2⟩
theorem Drw.below (h : Drw w0 cs cap bs p w W) (hB : Below W.heap.size W W') : Drw w0 cs cap bs p w W' := ⟨h.src.below hB, gB h.gr hB, h.hp⟩
theorem Drw.call (h : Drw w0 cs cap bs p w W) (hs : Src w0 cs cap bs p W') (hG : W.grownBy W' (some p)) : Drw w0 cs cap bs p w W' := ⟨hs, gT h.gr hG, h.hp⟩
theorem Drw.store {g : Nat} (h : Drw w0 cs cap bs p w W) (hG : W.grownBy W' (some g)) (hg : w.heap.size ≤ g) : Drw w0 cs cap bs p w W' :=
  ⟨h.src.other hG (by have := h.hp; omega) (by have := h.hp; have := h.src.lt; omega), gN h.gr hG hg, h.hp⟩
theorem Drw.grown {r : Option Nat} (h : Drw w0 cs cap bs p w W) (hG : W.grownBy W' r) (hg : ∀ g, r = some g → w.heap.size ≤ g) : Drw w0 cs cap bs p w W' := by
  cases r with
  | none => exact h.below ⟨hG.os, hG.tape, hG.output, hG.size, fun j hj => hG.block j hj (by simp)⟩
  | some g => exact h.store hG (hg g rfl)
theorem Drw.size (h : Drw w0 cs cap bs p w W) : w.heap.size ≤ W.heap.size := h.gr.size
theorem Drw.base (h : Drw w0 cs cap bs p w W) : Below w0.heap.size w0 W := h.src.base
theorem Drw.cell {b j : Nat} {v : Value} (_h : Drw w0 cs cap bs p w W) (hG : W.grownBy W' (some p)) (c : W.cell? ⟨b, j, none⟩ = some v) (hb : b < W.heap.size) (hne : b ≠ p) : W'.cell? ⟨b, j, none⟩ = some v :=
  (gcell hG (p := ⟨b, j, none⟩) hb (fun g e => by cases e; exact hne)).trans c
end
/-- A row of numbers that an array literal has made. -/
theorem rd_lit {w : World} {c : Array Value} {xs : List Int} {p : Nat} (hc : c = (xs.map fun m => Value.int .i64 m).toArray) (hp : p < w.heap.size) (W' : World) (hG : (w.alloc (.cells c 2)).grownBy W' (some p)) : Rd encI W' (some ⟨w.heap.size, 0, none⟩) xs := by
  intro i x hi
  have hlt : w.heap.size < (w.alloc (.cells c 2)).heap.size := by simp
  refine ⟨w.heap.size, 0, rfl, Nat.lt_of_lt_of_le hlt hG.size, fun j v hv => ?_⟩
  rw [gcell hG (p := ⟨w.heap.size, _, none⟩) hlt (fun g e => by cases e; exact Nat.ne_of_gt hp), World.cell?_alloc_at _ _ _ _ rfl]
  subst hc
  match j, hv with
  | 0, hv => cases hv; simp [encI, hi]
theorem belowA (w : World) (o : Obj) : Below w.heap.size w (w.alloc o) := (Below.refl _ _).alloc (Nat.le_refl _) _

theorem own_keepP {B : Nat} {E : TypeId} {k n x : Nat} {v : Value} {xs : List Value} {w w' : World} (h : w.ownsRow B E k v n xs) (hg : w.grownBy w' (some x)) (hx : x < B) : w'.ownsRow B E k v n xs :=
  own_keepV h hg (fun g e e2 => by injection e2 with e2; have := (h.lt g e).1; omega)
theorem own_apartV {B1 B2 : Nat} {E1 E2 : TypeId} {k1 k2 n1 n2 : Nat} {v1 v2 : Value} {xs1 xs2 : List Value} {w : World} (h1 : w.ownsRow B1 E1 k1 v1 n1 xs1) (h2 : w.ownsRow B2 E2 k2 v2 n2 xs2) (hE : E1 ≠ E2) : ∀ g, v1.ownBlock = some g → v2.ownBlock ≠ some g := by
  intro g e1 e2
  rcases h1.2 with ⟨rfl, _⟩ | ⟨g1, c1, cur1, rfl, _, hh1, _⟩
  · cases e1
  · rcases h2.2 with ⟨rfl, _⟩ | ⟨g2, c2, cur2, rfl, _, hh2, _⟩
    · cases e2
    · injection e1 with e1
      injection e2 with e2
      subst e1
      subst e2
      rw [hh1] at hh2
      injection hh2 with hh2
      injection hh2 with _ hh2
      exact hE hh2
set_option maxRecDepth 100000 in
set_option maxHeartbeats 1000000 in
theorem l01DrawDay_any (w0 : World) (cs : Option Addr) (cap : Nat) (bs : List Int) (p : Nat) (w : World) (hx : Rd encB w0 cs bs) (hb : ∀ m ∈ bs, goodB m) (hl : bs.length ≤ 4096) (hs : Src w0 cs cap bs p w) :
    Calls Tryz.prog 82 #[.pointer (some ⟨p, 0, none⟩)] w fun e w' => ∃ r : Int, e = .returned (.int .i64 r) ∧ (-1 ≤ r ∧ r ≤ 730500) ∧ Src w0 cs cap bs p w' ∧ w.grownBy w' (some p) := by
  have D := Drw.start hs
  have HN := Lib.hid (fun n W hn1 hn2 hs => l01Next_any w0 cs cap bs p n W hx hb hl hn1 hn2 hs)
  have HP := Lib.hid (fun a ca xs W hs hxs h1 h2 => l01Pick_any w0 cs cap bs p a ca xs W hx hb hl hs hxs h1 h2)
  go_enter Tryz.func82, Tryz.ntmps82
  go_wp2_with fail
  refine (HN.out 16 _ (by decide) (by decide) D.src).mono ?_
  rintro e w1 ⟨r, rfl, hr0, hr1, hs, hG⟩
  have D := D.call hs hG
  clear hs hG
  by_cases h0 : r = 0
  · subst h0
    go_wp2_with fail
    have hrd := rd_lit (w := w1) (c := #[.int .i64 (-1), .int .i64 0, .int .i64 1, .int .i64 2, .int .i64 730498, .int .i64 730499, .int .i64 730500]) (xs := [(-1), 0, 1, 2, 730498, 730499, 730500]) (p := p) rfl D.src.lt.2
    have D := D.below (belowA _ (.cells #[.int .i64 (-1), .int .i64 0, .int .i64 1, .int .i64 2, .int .i64 730498, .int .i64 730499, .int .i64 730500] 2))
    refine (HP.out _ 7 [(-1), 0, 1, 2, 730498, 730499, 730500] _ D.src hrd (by simp) (by simp)).mono ?_
    rintro e w2 ⟨v, rfl, hv, hs, hG⟩
    have D := D.call hs hG
    clear hs hG
    go_wp2
    go_ret
    exact ⟨_, rfl, by simp at hv; omega, D.src, D.gr⟩
  · have h0' : (r == 0) = false := by simpa using h0
    go_wp2_with fail
    refine (HN.out 730499 _ (by decide) (by decide) D.src).mono ?_
    rintro e w3 ⟨v, rfl, hv0, hv1, hs, hG⟩
    have D := D.call hs hG
    clear hs hG
    go_wp2
    go_ret
    exact ⟨_, rfl, by omega, D.src, D.gr⟩
































end
end Go.Proofs.YtipdcgfdejmjfaaGreatDoor
