/- How a row of a list of bytes reads. -/
import Derived.Test.YteajkofgcmfaoaaGreatDoorTI
import Derived.Test.YteajkofgcmfaoaaGreatDoorRowI
import Derived.Test.YteajkofgcmfaoaaGreatDoorQL
import Derived.StillTailTactics
import Derived.BigQuiet
import Derived.Test.YteajkofgcmfaoaaGreatDoorBB
import Derived.Deep.AppendLies
import Derived.Deep.CutRange
import Derived.Deep.CutBlock
import Derived.Test.YteajkofgcmfaoaaGreatDoorOpen
namespace Go.Proofs.YteajkofgcmfaoaaGreatDoor
section
open Go.ChangeShapes Go.WideShapes Go.ChangeAt Go.RowKit Go.IntWalk

def encB (m : Int) : List Value := [.int .u8 m]
theorem encB_len (m : Int) : (encB m).length = 1 := rfl
def goodB (m : Int) : Prop := 0 ≤ m ∧ m ≤ 255
theorem Rd.bb {w : World} {a : Option Addr} {xs : List Int} (h : Rd encB w a xs) {i : Nat} {m : Int} (hi : xs[i]? = some m) :
    ∃ b off, a = some ⟨b, off, none⟩ ∧ b < w.heap.size ∧ w.cell? ⟨b, off + i, none⟩ = some (.int .u8 m) := by
  obtain ⟨b, off, ha, hb, hc⟩ := h i m hi
  have h0 := hc 0 _ rfl
  rw [encB_len, Nat.mul_one, Nat.add_zero] at h0
  exact ⟨b, off, ha, hb, h0⟩

/-- A source of numbers lies at block p; all that lay in w0 lies. -/
def Src (w0 : World) (cs : Option Addr) (cap : Nat) (bs : List Int) (p : Nat) (w : World) : Prop :=
  ∃ (i : Nat) (seed : Int), i ≤ bs.length ∧ 0 ≤ seed ∧ seed ≤ 2147483646 ∧
    w.ownsRow w0.heap.size 101 1 (.slice (some ⟨p, 0, none⟩) 3 3) 3 [.slice cs bs.length cap, .int .i64 i, .int .i64 seed] ∧ Below w0.heap.size w0 w
theorem Src.lt {w0 : World} {cs : Option Addr} {cap : Nat} {bs : List Int} {p : Nat} {w : World} (h : Src w0 cs cap bs p w) : w0.heap.size ≤ p ∧ p < w.heap.size := by
  obtain ⟨_, _, _, _, _, ho, _⟩ := h
  exact own_lt ho
theorem Src.base {w0 : World} {cs : Option Addr} {cap : Nat} {bs : List Int} {p : Nat} {w : World} (h : Src w0 cs cap bs p w) : Below w0.heap.size w0 w := by
  obtain ⟨_, _, _, _, _, _, hB⟩ := h
  exact hB
theorem Src.below {w0 : World} {cs : Option Addr} {cap : Nat} {bs : List Int} {p : Nat} {w w' : World} (h : Src w0 cs cap bs p w) (hB : Below w.heap.size w w') : Src w0 cs cap bs p w' := by
  obtain ⟨i, s, h1, h2, h3, ho, hb⟩ := h
  exact ⟨i, s, h1, h2, h3, own_below ho hB, stepB hb hB hb.size⟩
theorem Src.other {w0 : World} {cs : Option Addr} {cap : Nat} {bs : List Int} {p g : Nat} {w w' : World} (h : Src w0 cs cap bs p w) (hG : w.grownBy w' (some g)) (hne : p ≠ g) (hg : w0.heap.size ≤ g) : Src w0 cs cap bs p w' := by
  obtain ⟨i, s, h1, h2, h3, ho, hb⟩ := h
  exact ⟨i, s, h1, h2, h3, own_keepOther ho hG hne, hb.grown hG hb.size (fun x e => by cases e; exact hg)⟩
theorem tmod_bd {x y : Int} (hx : 0 ≤ x) (hy : 0 < y) : 0 ≤ x.tmod y ∧ x.tmod y ≤ y - 1 := by
  rw [Int.tmod_eq_emod_of_nonneg hx]
  have := Int.emod_nonneg x (Int.ne_of_gt hy)
  have := Int.emod_lt_of_pos x hy
  omega
theorem emod_bd {x y : Int} (hy : 0 < y) : 0 ≤ x % y ∧ x % y ≤ y - 1 := by
  have := Int.emod_nonneg x (Int.ne_of_gt hy)
  have := Int.emod_lt_of_pos x hy
  omega
theorem tdiv_bd {x y : Int} (hx : 0 ≤ x) (hy : 0 < y) : 0 ≤ x.tdiv y ∧ x.tdiv y ≤ x := by
  rw [Int.tdiv_eq_ediv_of_nonneg hx]
  exact ⟨Int.ediv_nonneg hx (by omega), Int.ediv_le_self _ hx⟩

set_option maxRecDepth 100000 in
set_option maxHeartbeats 4000000 in
theorem l01From_any (cs : Option Addr) (cap : Nat) (bs : List Int) (w : World) (hx : Rd encB w cs bs) (hb : ∀ m ∈ bs, goodB m) :
    Calls Tryz.prog 43 #[.slice cs bs.length cap] w fun e w' => ∃ p, e = .returned (.pointer (some ⟨p, 0, none⟩)) ∧ Src w cs cap bs p w' := by
  have hown0 : (w.alloc (.cells #[.slice cs bs.length cap, .int .i64 0, .int .i64 34001] 101)).ownsRow w.heap.size 101 1 (.slice (some ⟨w.heap.size, 0, none⟩) 3 3) 3 [.slice cs bs.length cap, .int .i64 (0 : Nat), .int .i64 34001] :=
    ⟨rfl, .inr ⟨w.heap.size, 3, #[.slice cs bs.length cap, .int .i64 0, .int .i64 34001], rfl, Nat.le_refl _, heap_alloc_new w _, by decide, by decide, rfl, rfl⟩⟩
  have hB0 : Below w.heap.size w (w.alloc (.cells #[.slice cs bs.length cap, .int .i64 0, .int .i64 34001] 101)) := (Below.refl _ _).alloc (Nat.le_refl _) _
  go_enter Tryz.func43, Tryz.ntmps43
  go_wp2
  go_loopw [4] (fun i wr => ∃ (k : Nat) (s : Int), k ≤ bs.length ∧ k ≤ 64 ∧ i = .int .i64 k ∧ 0 ≤ s ∧ s ≤ 2147483646 ∧ wr.ownsRow w.heap.size 101 1 (.slice (some ⟨w.heap.size, 0, none⟩) 3 3) 3 [.slice cs bs.length cap, .int .i64 (0 : Nat), .int .i64 s] ∧ Below w.heap.size w wr) (fun i _ => 64 - (intOf i).toNat)
  case atStart => exact ⟨0, 34001, Nat.zero_le _, Nat.zero_le _, rfl, by decide, by decide, hown0, hB0⟩
  case round =>
    clear hown0 hB0
    obtain ⟨k, s, hk, hk64, rfl, hs0, hs1, hown, hB⟩ := hrel
    by_cases hlt : k < bs.length
    · have hk1 : (k : Int) < (bs.length : Int) := by omega
      by_cases h64 : k < 64
      · have hk2 : (k : Int) < 64 := by omega
        have hm := List.getElem?_eq_getElem hlt
        generalize bs[k] = m at hm
        have hmb := hb m (List.mem_of_getElem? hm)
        obtain ⟨hm0, hm1⟩ := hmb
        obtain ⟨b, off, rfl, hbb, c0⟩ := (hx.below hB).bb hm
        have c2 := hown.cellAt 2 (by decide)
        have c2 : wr.cell? ⟨w.heap.size, 2, none⟩ = some (.int .i64 s) := c2
        have v1 := i64_in (s * 67) (by omega)
        have v2 := i64_in m (by omega)
        have v3 := i64_in (s * 67 + m) (by omega)
        have tb := tmod_bd (x := s * 67 + m) (y := 2147483647) (by omega) (by decide)
        generalize ht : (s * 67 + m).tmod 2147483647 = t at tb
        obtain ⟨tb0, tb1⟩ := tb
        clear hm
        go_wp2_with fail
        go_still_tail 15, (by kernel_rfl)
        clear c0 c2
        change wpList _ _ _ _ _ wr.drew
        have hzz : Below wr.heap.size wr wr.drew := (Below.refl _ wr).drew
        generalize wr.drew = V at hzz ⊢
        have hown := own_below hown hzz
        have hB := stepB hB hzz hB.size
        have hgl := own_lt hown
        have c2 : V.cell? ⟨w.heap.size, 2, none⟩ = some (.int .i64 s) := hown.cellAt 2 (by decide)
        have f2 := hown.frozenAt 2
        have hp := own_put (i := 2) (pre := [.slice (some ⟨b, off, none⟩) bs.length cap, .int .i64 (0 : Nat)]) (post := []) hown rfl (.int .i64 t)
        have HP := Lib.hid hp.1
        have HG := Lib.hid hp.2
        clear hp hzz
        go_wp2
        go_roundw
        case rel => exact ⟨k + 1, t, by omega, by omega, by go_num, by omega, by omega, HP.out, hB.grown HG.out hB.size (fun g e => by cases e; exact Nat.le_refl _)⟩
        case measure => simp [intOf]; omega
      · have h64' : decide ((k : Int) < 64) = false := by simp; omega
        go_wp2
        go_ret
        exact ⟨_, rfl, 0, s, Nat.zero_le _, hs0, hs1, hown, hB⟩
    · have hk' : decide ((k : Int) < (bs.length : Int)) = false := by simp; omega
      go_wp2
      go_ret
      exact ⟨_, rfl, 0, s, Nat.zero_le _, hs0, hs1, hown, hB⟩

set_option maxRecDepth 100000 in
set_option maxHeartbeats 4000000 in
theorem l01Next_any (w0 : World) (cs : Option Addr) (cap : Nat) (bs : List Int) (p : Nat) (n : Int) (w : World) (hx : Rd encB w0 cs bs) (hb : ∀ m ∈ bs, goodB m) (hl : bs.length ≤ 4096) (hn : n ≤ 1000000) (hn0 : 0 ≤ n) (hs : Src w0 cs cap bs p w) :
    Calls Tryz.prog 47 #[.pointer (some ⟨p, 0, none⟩), .int .i64 n] w fun e w' => ∃ r : Int, e = .returned (.int .i64 r) ∧ 0 ≤ r ∧ (r = 0 ∨ r < n) ∧ Src w0 cs cap bs p w' ∧ w.grownBy w' (some p) := by
  by_cases hn1 : n ≤ 1
  · go_enter Tryz.func47, Tryz.ntmps47
    go_wp2
    go_ret
    exact ⟨0, rfl, Int.le_refl _, .inl rfl, hs, ⟨rfl, rfl, rfl, Nat.le_refl _, fun _ _ _ => rfl⟩⟩
  · obtain ⟨i, s, hi, hs0, hs1, hown, hB⟩ := hs
    have hn1' : decide (n ≤ 1) = false := by simpa using hn1
    have hgl := own_lt hown
    have c0 : w.cell? ⟨p, 0, none⟩ = some (.slice cs bs.length cap) := hown.cellAt 0 (by decide)
    have c1 : w.cell? ⟨p, 1, none⟩ = some (.int .i64 i) := hown.cellAt 1 (by decide)
    have c2 : w.cell? ⟨p, 2, none⟩ = some (.int .i64 s) := hown.cellAt 2 (by decide)
    have f2 := hown.frozenAt 2
    have v1 := i64_in (s * 48271) (by omega)
    have v2 := i64_in (s * 48271 + 67) (by omega)
    have tb := tmod_bd (x := s * 48271 + 67) (y := 2147483647) (by omega) (by decide)
    generalize ht : (s * 48271 + 67).tmod 2147483647 = t at tb
    obtain ⟨tb0, tb1⟩ := tb
    have hp := own_put (i := 2) (pre := [.slice cs bs.length cap, .int .i64 i]) (post := []) hown rfl (.int .i64 t)
    have HP := Lib.hid hp.1
    have HG := Lib.hid hp.2
    clear hp
    go_enter Tryz.func47, Tryz.ntmps47
    go_upto_region 4 with (fail)
    have hown := HP.out
    have hG := HG.out
    have hB := hB.grown hG hB.size (fun g e => by cases e; exact hgl.1)
    clear HP HG c0 c1 c2 f2 v1 v2 ht
    generalize w.setCell ⟨p, 2, none⟩ (.int .i64 t) = w1 at hown hG hB ⊢
    have hgl := own_lt hown
    have c0 : w1.cell? ⟨p, 0, none⟩ = some (.slice cs bs.length cap) := hown.cellAt 0 (by decide)
    have c1 : w1.cell? ⟨p, 1, none⟩ = some (.int .i64 i) := hown.cellAt 1 (by decide)
    have c2 : w1.cell? ⟨p, 2, none⟩ = some (.int .i64 t) := hown.cellAt 2 (by decide)
    have v1 := i64_quo' t 43 (by omega)
    have db := tdiv_bd (x := t) (y := 43) (by omega) (by decide)
    generalize hq : t.tdiv 43 = q at db v1
    obtain ⟨db0, db1⟩ := db
    by_cases hlt : i < bs.length
    · have hlt' : (i : Int) < (bs.length : Int) := by omega
      have hm := List.getElem?_eq_getElem hlt
      generalize bs[i] = m at hm
      obtain ⟨hm0, hm1⟩ := hb m (List.mem_of_getElem? hm)
      have C0 := Later.cell c0 hgl.2
      have C1 := Later.cell c1 hgl.2
      have C2 := Later.cell c2 hgl.2
      go_wp2_with fail
      refine wp_region_later _ (by kernel_rfl) (by kernel_rfl) ?_
      repeat (go_big_quiet_step (fail))
      refine wpQuiet_nil ?_
      intro z
      have hz := z.prop
      generalize z.val = U at hz
      clear C0 C1 C2 c0 c1 c2
      have hown := own_below hown hz
      have hG := gB hG hz
      have hB := stepB hB hz hB.size
      have hgl := own_lt hown
      have c0 : U.cell? ⟨p, 0, none⟩ = some (.slice cs bs.length cap) := hown.cellAt 0 (by decide)
      have c1 : U.cell? ⟨p, 1, none⟩ = some (.int .i64 i) := hown.cellAt 1 (by decide)
      have c2 : U.cell? ⟨p, 2, none⟩ = some (.int .i64 t) := hown.cellAt 2 (by decide)
      obtain ⟨b, off, hcs, hbb, cb⟩ := (hx.below hB).bb hm
      subst hcs
      have v2 := i64_in m (by omega)
      have v3 := i64_in (q + m) (by omega)
      have C0 := Later.cell c0 hgl.2
      have C1 := Later.cell c1 hgl.2
      have C2 := Later.cell c2 hgl.2
      have CB := Later.cell cb hbb
      go_wp2_with fail
      refine wp_region_later _ (by kernel_rfl) (by kernel_rfl) ?_
      repeat (go_big_quiet_step (fail))
      refine wpQuiet_nil ?_
      intro z
      have hz := z.prop
      generalize z.val = U2 at hz
      clear C0 C1 C2 c0 c1 c2 cb CB
      have hown := own_below hown hz
      have hG := gB hG hz
      have hB := stepB hB hz hB.size
      have hgl := own_lt hown
      have c0 : U2.cell? ⟨p, 0, none⟩ = some (.slice (some ⟨b, off, none⟩) bs.length cap) := hown.cellAt 0 (by decide)
      have c1 : U2.cell? ⟨p, 1, none⟩ = some (.int .i64 i) := hown.cellAt 1 (by decide)
      have c2 : U2.cell? ⟨p, 2, none⟩ = some (.int .i64 t) := hown.cellAt 2 (by decide)
      have f1 := hown.frozenAt 1
      have v4 := i64_in ((i : Int) + 1) (by omega)
      have hp := own_put (i := 1) (pre := [.slice (some ⟨b, off, none⟩) bs.length cap]) (post := [.int .i64 t]) hown rfl (.int .i64 ((i : Int) + 1))
      have HP := Lib.hid hp.1
      have HG := Lib.hid hp.2
      clear hp v2 v3
      go_upto_region 8 with (fail)
      have hown := HP.out
      have hG := gT hG HG.out
      have hB := hB.grown HG.out hB.size (fun g e => by cases e; exact hgl.1)
      clear HP HG c0 c1 c2 f1 v4
      generalize U2.setCell ⟨p, 1, none⟩ (.int .i64 ((i : Int) + 1)) = w3 at hown hG hB ⊢
      have hgl := own_lt hown
      have hown : w3.ownsRow w0.heap.size 101 1 (.slice (some ⟨p, 0, none⟩) 3 3) 3 [.slice (some ⟨b, off, none⟩) bs.length cap, .int .i64 ((i + 1 : Nat) : Int), .int .i64 t] := hown
      have c0 : w3.cell? ⟨p, 0, none⟩ = some (.slice (some ⟨b, off, none⟩) bs.length cap) := hown.cellAt 0 (by decide)
      have c1 : w3.cell? ⟨p, 1, none⟩ = some (.int .i64 ((i : Int) + 1)) := hown.cellAt 1 (by decide)
      have c2 : w3.cell? ⟨p, 2, none⟩ = some (.int .i64 t) := hown.cellAt 2 (by decide)
      generalize hr2 : ((i : Int) + 1).tmod 2 = r2
      by_cases hn2 : n ≤ 256
      · have hn2' : decide (n ≤ 256) = true := by simpa using hn2
        by_cases hr0 : r2 = 0
        · have hr0' : (r2 == 0) = true := by simpa using hr0
          have v2 := i64_in m (by omega)
          have v5 := i64_in ((i : Int) + 1 - 1) (by omega)
          have v6 : (i : Int) + 1 - 1 = i := by omega
          obtain ⟨b', off', hcs, hbb, cb⟩ := (hx.below hB).bb hm
          obtain ⟨rfl, rfl⟩ : b = b' ∧ off = off' := by injection hcs with e1; injection e1 with e1 e2; exact ⟨e1, e2⟩
          clear hcs
          have C0 := Later.cell c0 hgl.2
          have C1 := Later.cell c1 hgl.2
          have C2 := Later.cell c2 hgl.2
          have CB := Later.cell cb hbb
          go_wp2_with fail
          refine wp_region_later _ (by kernel_rfl) (by kernel_rfl) ?_
          repeat (go_big_quiet_step (fail))
          refine wpQuiet_nil ?_
          intro z
          have hz := z.prop
          generalize z.val = U3 at hz
          clear C0 C1 C2 c0 c1 c2 cb CB
          have hown := own_below hown hz
          have hG := gB hG hz
          have hB := stepB hB hz hB.size
          have hgl := own_lt hown
          have xb := emod_bd (x := m) (y := n) (by omega)
          go_wp2
          go_ret
          exact ⟨_, rfl, xb.1, .inr (by omega), ⟨i + 1, t, by omega, tb0, by omega, hown, hB⟩, hG⟩
        · have hr0' : (r2 == 0) = false := by simpa using hr0
          have xb := emod_bd (x := q + m) (y := n) (by omega)
          go_wp2
          go_ret
          exact ⟨_, rfl, xb.1, .inr (by omega), ⟨i + 1, t, by omega, tb0, by omega, hown, hB⟩, hG⟩
      · have hn2' : decide (n ≤ 256) = false := by simpa using hn2
        have xb := emod_bd (x := q + m) (y := n) (by omega)
        go_wp2
        go_ret
        exact ⟨_, rfl, xb.1, .inr (by omega), ⟨i + 1, t, by omega, tb0, by omega, hown, hB⟩, hG⟩
    · have hlt' : decide ((i : Int) < (bs.length : Int)) = false := by simp; omega
      have C0 := Later.cell c0 hgl.2
      have C1 := Later.cell c1 hgl.2
      have C2 := Later.cell c2 hgl.2
      go_wp2_with fail
      refine wp_region_later _ (by kernel_rfl) (by kernel_rfl) ?_
      repeat (go_big_quiet_step (fail))
      refine wpQuiet_nil ?_
      intro z
      have hz := z.prop
      generalize z.val = U at hz
      clear C0 C1 C2 c0 c1 c2
      have hown := own_below hown hz
      have hG := gB hG hz
      have hB := stepB hB hz hB.size
      have hgl := own_lt hown
      have xb := emod_bd (x := q) (y := n) (by omega)
      go_wp2
      go_ret
      exact ⟨_, rfl, xb.1, .inr (by omega), ⟨i, t, hi, tb0, by omega, hown, hB⟩, hG⟩

set_option maxRecDepth 100000 in
set_option maxHeartbeats 4000000 in
theorem l01Pick_any (w0 : World) (cs : Option Addr) (cap : Nat) (bs : List Int) (p : Nat) (a : Option Addr) (ca : Nat) (xs : List Int) (w : World) (hx : Rd encB w0 cs bs) (hb : ∀ m ∈ bs, goodB m) (hl : bs.length ≤ 4096) (hs : Src w0 cs cap bs p w) (hxs : ∀ W, w.grownBy W (some p) → Rd encI W a xs) (h1 : 1 ≤ xs.length) (h2 : xs.length ≤ 100) :
    Calls Tryz.prog 94 #[.pointer (some ⟨p, 0, none⟩), .slice a xs.length ca] w fun e w' => ∃ r : Int, e = .returned (.int .i64 r) ∧ r ∈ xs ∧ Src w0 cs cap bs p w' ∧ w.grownBy w' (some p) := by
  have HN := Lib.hid (l01Next_any w0 cs cap bs p xs.length w hx hb hl (by omega) (by omega) hs)
  go_enter Tryz.func94, Tryz.ntmps94
  go_wp2_with fail
  refine HN.out.mono ?_
  rintro e w1 ⟨r, rfl, hr0, hr1, hs1, hG⟩
  obtain ⟨k, rfl⟩ : ∃ k : Nat, r = k := ⟨r.toNat, by omega⟩
  have hk : k < xs.length := by omega
  have hm := List.getElem?_eq_getElem hk
  have hmem := List.getElem_mem hk
  generalize xs[k] = m at hm hmem
  obtain ⟨b, off, rfl, hbb, c0⟩ := (hxs w1 hG).i hm
  have hk1 : (k : Int) < (xs.length : Int) := by omega
  clear hm hr1
  go_wp2
  go_ret
  exact ⟨_, rfl, hmem, hs1, hG⟩
end

section
open Go.ChangeShapes Go.WideShapes Go.ChangeAt Go.RowKit Go.IntWalk

theorem grR (w : World) (r : Option Nat) : w.grownBy w r := ⟨rfl, rfl, rfl, Nat.le_refl _, fun _ _ _ => rfl⟩
theorem grB {w w' : World} (h : Below w.heap.size w w') (r : Option Nat) : w.grownBy w' r := gB (grR w r) h
theorem grA (w : World) (o : Obj) (r : Option Nat) : w.grownBy (w.alloc o) r := grB ((Below.refl _ _).alloc (Nat.le_refl _) _) r
theorem gN {w w1 w2 : World} {p g : Nat} (h : w.grownBy w1 (some p)) (k : w1.grownBy w2 (some g)) (hg : w.heap.size ≤ g) : w.grownBy w2 (some p) :=
  ⟨k.os.trans h.os, k.tape.trans h.tape, k.output.trans h.output, Nat.le_trans h.size k.size, fun j hj hne => (k.block j (Nat.lt_of_lt_of_le hj h.size) (fun e => by injection e with e; omega)).trans (h.block j hj hne)⟩
theorem own_keepV {B : Nat} {E : TypeId} {k n : Nat} {x : Option Nat} {v : Value} {xs : List Value} {w w' : World} (h : w.ownsRow B E k v n xs) (hg : w.grownBy w' x) (hx : ∀ g, v.ownBlock = some g → x ≠ some g) : w'.ownsRow B E k v n xs := by
  rcases h.2 with ⟨rfl, rfl⟩ | ⟨g, c, cur, rfl, hb, hh, h4⟩
  · exact ⟨h.1, .inl ⟨rfl, rfl⟩⟩
  · refine ⟨h.1, .inr ⟨g, c, cur, rfl, hb, ?_, h4⟩⟩
    rw [hg.block g (h.lt g rfl).2 (fun e => hx g rfl e.symm)]
    exact hh
theorem own_keepA {B : Nat} {E : TypeId} {k n x : Nat} {v : Value} {xs : List Value} {w w' : World} (h : w.ownsRow B E k v n xs) (hg : w.grownBy w' (some x)) (hx : x < B) : w'.ownsRow B E k v n xs :=
  own_keepV h hg (fun g e e2 => by injection e2 with e2; have := (h.lt g e).1; omega)
theorem Box.keepA {B : Nat} {w w' : World} {T : TypeId} {g x : Nat} {xs : List Value} (h : Box B w T g xs) (hg : w.grownBy w' (some x)) (hx : x < B) : Box B w' T g xs := own_keepA h hg hx
/-- A draw goes on since world w: the source lies at p; all else that lay in w lies. -/
structure Drw (w0 : World) (cs : Option Addr) (cap : Nat) (bs : List Int) (p : Nat) (w W : World) : Prop where
  src : Src w0 cs cap bs p W
  gr : w.grownBy W (some p)
  hp : p < w.heap.size
section
variable {w0 : World} {cs : Option Addr} {cap : Nat} {bs : List Int} {p : Nat} {w W W' : World}
theorem Drw.start (h : Src w0 cs cap bs p w) : Drw w0 cs cap bs p w w := ⟨h, grR _ _, h.lt.2⟩
theorem Drw.below (h : Drw w0 cs cap bs p w W) (hB : Below W.heap.size W W') : Drw w0 cs cap bs p w W' := ⟨h.src.below hB, gB h.gr hB, h.hp⟩
theorem Drw.call (h : Drw w0 cs cap bs p w W) (hs : Src w0 cs cap bs p W') (hG : W.grownBy W' (some p)) : Drw w0 cs cap bs p w W' := ⟨hs, gT h.gr hG, h.hp⟩
theorem Drw.store {g : Nat} (h : Drw w0 cs cap bs p w W) (hG : W.grownBy W' (some g)) (hg : w.heap.size ≤ g) : Drw w0 cs cap bs p w W' :=
  ⟨h.src.other hG (by have := h.hp; omega) (by have := h.hp; have := h.src.lt; omega), gN h.gr hG hg, h.hp⟩
theorem Drw.grown {r : Option Nat} (h : Drw w0 cs cap bs p w W) (hG : W.grownBy W' r) (hg : ∀ g, r = some g → w.heap.size ≤ g) : Drw w0 cs cap bs p w W' := by
  cases r with
  | none => exact h.below ⟨hG.os, hG.tape, hG.output, hG.size, fun j hj => hG.block j hj (by simp)⟩
  | some g => exact h.store hG (hg g rfl)
theorem Drw.size (h : Drw w0 cs cap bs p w W) : w.heap.size ≤ W.heap.size := h.gr.size
theorem Drw.base (h : Drw w0 cs cap bs p w W) : Below w0.heap.size w0 W := h.src.base
theorem Drw.cell {b j : Nat} {v : Value} (_h : Drw w0 cs cap bs p w W) (hG : W.grownBy W' (some p)) (c : W.cell? ⟨b, j, none⟩ = some v) (hb : b < W.heap.size) (hne : b ≠ p) : W'.cell? ⟨b, j, none⟩ = some v :=
  (gcell hG (p := ⟨b, j, none⟩) hb (fun g e => by cases e; exact hne)).trans c
end
/-- A row of numbers that an array literal has made. -/
theorem rd_lit {w : World} {c : Array Value} {xs : List Int} {p : Nat} (hc : c = (xs.map fun m => Value.int .i64 m).toArray) (hp : p < w.heap.size) (W' : World) (hG : (w.alloc (.cells c 2)).grownBy W' (some p)) : Rd encI W' (some ⟨w.heap.size, 0, none⟩) xs := by
  intro i x hi
  have hlt : w.heap.size < (w.alloc (.cells c 2)).heap.size := by simp
  refine ⟨w.heap.size, 0, rfl, Nat.lt_of_lt_of_le hlt hG.size, fun j v hv => ?_⟩
  rw [gcell hG (p := ⟨w.heap.size, _, none⟩) hlt (fun g e => by cases e; exact Nat.ne_of_gt hp), World.cell?_alloc_at _ _ _ _ rfl]
  subst hc
  match j, hv with
  | 0, hv => cases hv; simp [encI, hi]
theorem belowA (w : World) (o : Obj) : Below w.heap.size w (w.alloc o) := (Below.refl _ _).alloc (Nat.le_refl _) _

theorem own_keepP {B : Nat} {E : TypeId} {k n x : Nat} {v : Value} {xs : List Value} {w w' : World} (h : w.ownsRow B E k v n xs) (hg : w.grownBy w' (some x)) (hx : x < B) : w'.ownsRow B E k v n xs :=
  own_keepV h hg (fun g e e2 => by injection e2 with e2; have := (h.lt g e).1; omega)
theorem own_apartV {B1 B2 : Nat} {E1 E2 : TypeId} {k1 k2 n1 n2 : Nat} {v1 v2 : Value} {xs1 xs2 : List Value} {w : World} (h1 : w.ownsRow B1 E1 k1 v1 n1 xs1) (h2 : w.ownsRow B2 E2 k2 v2 n2 xs2) (hE : E1 ≠ E2) : ∀ g, v1.ownBlock = some g → v2.ownBlock ≠ some g := by
  intro g e1 e2
  rcases h1.2 with ⟨rfl, _⟩ | ⟨g1, c1, cur1, rfl, _, hh1, _⟩
  · cases e1
  · rcases h2.2 with ⟨rfl, _⟩ | ⟨g2, c2, cur2, rfl, _, hh2, _⟩
    · cases e2
    · injection e1 with e1
      injection e2 with e2
      subst e1
      subst e2
      rw [hh1] at hh2
      injection hh2 with hh2
      injection hh2 with _ hh2
      exact hE hh2


































































end

section
open Go.ChangeShapes Go.WideShapes Go.ChangeAt Go.RowKit Go.Deep
set_option maxRecDepth 100000
theorem row_B {H : Type} {enc0 : TypeId × Value → H} {w : World} {base : Nat} {spare : Nat → Bool} {held : Bool} (n : Nat) (cs : List Value) (y : DataW H × List MemPlace) (_ : cs.length = 1)
    (h : DataW.trod enc0 Tryz.prog w base spare held n 5 cs = some y) : ∃ x, goodB x ∧ cs = encB x := by
  obtain ⟨s, e, _, g⟩ := DataW.trod_int Tryz.underlying5 h
  exact ⟨s, by simpa [goodB, Lit.wf, IntKind.min, IntKind.max, IntKind.signed, IntKind.bits] using g, e⟩
end
end Go.Proofs.YteajkofgcmfaoaaGreatDoor
