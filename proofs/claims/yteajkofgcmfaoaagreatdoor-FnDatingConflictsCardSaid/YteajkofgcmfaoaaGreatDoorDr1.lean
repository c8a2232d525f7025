/- Walk: a clause is drawn (l11Draw). Split from XDrh (gen_drh.py). -/
import Derived.StillTailTactics
import Derived.BigQuiet
import Derived.Test.YteajkofgcmfaoaaGreatDoorTt
import Derived.Test.YteajkofgcmfaoaaGreatDoorRi
import Derived.Test.YteajkofgcmfaoaaGreatDoorQL
import Derived.Deep.AppendLies
import Derived.Deep.CutRange
import Derived.Deep.CutBlock
import Derived.Test.YteajkofgcmfaoaaGreatDoorBB
import Derived.Test.YteajkofgcmfaoaaGreatDoorOpen
import Derived.Test.YteajkofgcmfaoaaGreatDoorFe
import Derived.Deep.RegionHeldLaw
import Derived.Test.YteajkofgcmfaoaaGreatDoorSq
import Derived.Test.YteajkofgcmfaoaaGreatDoorRg
namespace Go.Proofs.YteajkofgcmfaoaaGreatDoor
section
open Go.ChangeShapes Go.WideShapes Go.ChangeAt Go.RowKit Go.IntWalk

def encB (m : Int) : List Value := [.int .u8 m]
theorem encB_len (m : Int) : (encB m).length = 1 := rfl
def goodB (m : Int) : Prop := 0 ≤ m ∧ m ≤ 255
theorem Rd.bb {w : World} {a : Option Addr} {xs : List Int} (h : Rd encB w a xs) {i : Nat} {m : Int} (hi : xs[i]? = some m) :
    ∃ b off, a = some ⟨b, off, none⟩ ∧ b < w.heap.size ∧ w.cell? ⟨b, off + i, none⟩ = some (.int .u8 m) := by
  obtain ⟨b, off, ha, hb, hc⟩ := h i m hi
  have h0 := hc 0 _ rfl
  rw [encB_len, Nat.mul_one, Nat.add_zero] at h0
  exact ⟨b, off, ha, hb, h0⟩

/-- A source of numbers lies at block p; all that lay in w0 lies. -/
def Src (w0 : World) (cs : Option Addr) (cap : Nat) (bs : List Int) (p : Nat) (w : World) : Prop :=
  ∃ (i : Nat) (seed : Int), i ≤ bs.length ∧ 0 ≤ seed ∧ seed ≤ 2147483646 ∧
    w.ownsRow w0.heap.size 101 1 (.slice (some ⟨p, 0, none⟩) 3 3) 3 [.slice cs bs.length cap, .int .i64 i, .int .i64 seed] ∧ Below w0.heap.size w0 w
theorem Src.lt {w0 : World} {cs : Option Addr} {cap : Nat} {bs : List Int} {p : Nat} {w : World} (h : Src w0 cs cap bs p w) : w0.heap.size ≤ p ∧ p < w.heap.size := by
  obtain ⟨_, _, _, _, _, ho, _⟩ := h
  exact own_lt ho
theorem Src.base {w0 : World} {cs : Option Addr} {cap : Nat} {bs : List Int} {p : Nat} {w : World} (h : Src w0 cs cap bs p w) : Below w0.heap.size w0 w := by
  obtain ⟨_, _, _, _, _, _, hB⟩ := h
  exact hB
theorem Src.below {w0 : World} {cs : Option Addr} {cap : Nat} {bs : List Int} {p : Nat} {w w' : World} (h : Src w0 cs cap bs p w) (hB : Below w.heap.size w w') : Src w0 cs cap bs p w' := by
  obtain ⟨i, s, h1, h2, h3, ho, hb⟩ := h
  exact ⟨i, s, h1, h2, h3, own_below ho hB, stepB hb hB hb.size⟩
theorem Src.other {w0 : World} {cs : Option Addr} {cap : Nat} {bs : List Int} {p g : Nat} {w w' : World} (h : Src w0 cs cap bs p w) (hG : w.grownBy w' (some g)) (hne : p ≠ g) (hg : w0.heap.size ≤ g) : Src w0 cs cap bs p w' := by
  obtain ⟨i, s, h1, h2, h3, ho, hb⟩ := h
  exact ⟨i, s, h1, h2, h3, own_keepOther ho hG hne, hb.grown hG hb.size (fun x e => by cases e; exact hg)⟩
theorem tmod_bd {x y : Int} (hx : 0 ≤ x) (hy : 0 < y) : 0 ≤ x.tmod y ∧ x.tmod y ≤ y - 1 := by
  rw [Int.tmod_eq_emod_of_nonneg hx]
  have := Int.emod_nonneg x (Int.ne_of_gt hy)
  have := Int.emod_lt_of_pos x hy
  omega
theorem emod_bd {x y : Int} (hy : 0 < y) : 0 ≤ x % y ∧ x % y ≤ y - 1 := by
  have := Int.emod_nonneg x (Int.ne_of_gt hy)
  have := Int.emod_lt_of_pos x hy
  omega
theorem tdiv_bd {x y : Int} (hx : 0 ≤ x) (hy : 0 < y) : 0 ≤ x.tdiv y ∧ x.tdiv y ≤ x := by
  rw [Int.tdiv_eq_ediv_of_nonneg hx]
  exact ⟨Int.ediv_nonneg hx (by omega), Int.ediv_le_self _ hx⟩

set_option maxRecDepth 100000 in
set_option maxHeartbeats 4000000 in
theorem l01From_any (cs : Option Addr) (cap : Nat) (bs : List Int) (w : World) (hx : Rd encB w cs bs) (hb : ∀ m ∈ bs, goodB m) :
    Calls Tryz.prog 43 #[.slice cs bs.length cap] w fun e w' => ∃ p, e = .returned (.pointer (some ⟨p, 0, none⟩)) ∧ Src w cs cap bs p w' := by
  have hown0 : (w.alloc (.cells #[.slice cs bs.length cap, .int .i64 0, .int .i64 34001] 101)).ownsRow w.heap.size 101 1 (.slice (some ⟨w.heap.size, 0, none⟩) 3 3) 3 [.slice cs bs.length cap, .int .i64 (0 : Nat), .int .i64 34001] :=
    ⟨rfl, .inr ⟨w.heap.size, 3, #[.slice cs bs.length cap, .int .i64 0, .int .i64 34001], rfl, Nat.le_refl _, heap_alloc_new w _, by decide, by decide, rfl, rfl⟩⟩
  have hB0 : Below w.heap.size w (w.alloc (.cells #[.slice cs bs.length cap, .int .i64 0, .int .i64 34001] 101)) := (Below.refl _ _).alloc (Nat.le_refl _) _
  go_enter Tryz.func43, Tryz.ntmps43
  go_wp2
  go_loopw [4] (fun i wr => ∃ (k : Nat) (s : Int), k ≤ bs.length ∧ k ≤ 64 ∧ i = .int .i64 k ∧ 0 ≤ s ∧ s ≤ 2147483646 ∧ wr.ownsRow w.heap.size 101 1 (.slice (some ⟨w.heap.size, 0, none⟩) 3 3) 3 [.slice cs bs.length cap, .int .i64 (0 : Nat), .int .i64 s] ∧ Below w.heap.size w wr) (fun i _ => 64 - (intOf i).toNat)
  case atStart => exact ⟨0, 34001, Nat.zero_le _, Nat.zero_le _, rfl, by decide, by decide, hown0, hB0⟩
  case round =>
    clear hown0 hB0
    obtain ⟨k, s, hk, hk64, rfl, hs0, hs1, hown, hB⟩ := hrel
    by_cases hlt : k < bs.length
    · have hk1 : (k : Int) < (bs.length : Int) := by omega
      by_cases h64 : k < 64
      · have hk2 : (k : Int) < 64 := by omega
        have hm := List.getElem?_eq_getElem hlt
        generalize bs[k] = m at hm
        have hmb := hb m (List.mem_of_getElem? hm)
        obtain ⟨hm0, hm1⟩ := hmb
        obtain ⟨b, off, rfl, hbb, c0⟩ := (hx.below hB).bb hm
        have c2 := hown.cellAt 2 (by decide)
        have c2 : wr.cell? ⟨w.heap.size, 2, none⟩ = some (.int .i64 s) := c2
        have v1 := i64_in (s * 67) (by omega)
        have v2 := i64_in m (by omega)
        have v3 := i64_in (s * 67 + m) (by omega)
        have tb := tmod_bd (x := s * 67 + m) (y := 2147483647) (by omega) (by decide)
        generalize ht : (s * 67 + m).tmod 2147483647 = t at tb
        obtain ⟨tb0, tb1⟩ := tb
        clear hm
        go_wp2_with fail
        go_still_tail 15, (by kernel_rfl)
        clear c0 c2
        change wpList _ _ _ _ _ wr.drew
        have hzz : Below wr.heap.size wr wr.drew := (Below.refl _ wr).drew
        generalize wr.drew = V at hzz ⊢
        have hown := own_below hown hzz
        have hB := stepB hB hzz hB.size
        have hgl := own_lt hown
        have c2 : V.cell? ⟨w.heap.size, 2, none⟩ = some (.int .i64 s) := hown.cellAt 2 (by decide)
        have f2 := hown.frozenAt 2
        have hp := own_put (i := 2) (pre := [.slice (some ⟨b, off, none⟩) bs.length cap, .int .i64 (0 : Nat)]) (post := []) hown rfl (.int .i64 t)
        have HP := Lib.hid hp.1
        have HG := Lib.hid hp.2
        clear hp hzz
        go_wp2
        go_roundw
        case rel => exact ⟨k + 1, t, by omega, by omega, by go_num, by omega, by omega, HP.out, hB.grown HG.out hB.size (fun g e => by cases e; exact Nat.le_refl _)⟩
        case measure => simp [intOf]; omega
      · have h64' : decide ((k : Int) < 64) = false := by simp; omega
        go_wp2
        go_ret
        exact ⟨_, rfl, 0, s, Nat.zero_le _, hs0, hs1, hown, hB⟩
    · have hk' : decide ((k : Int) < (bs.length : Int)) = false := by simp; omega
      go_wp2
      go_ret
      exact ⟨_, rfl, 0, s, Nat.zero_le _, hs0, hs1, hown, hB⟩

set_option maxRecDepth 100000 in
set_option maxHeartbeats 4000000 in
theorem l01Next_any (w0 : World) (cs : Option Addr) (cap : Nat) (bs : List Int) (p : Nat) (n : Int) (w : World) (hx : Rd encB w0 cs bs) (hb : ∀ m ∈ bs, goodB m) (hl : bs.length ≤ 4096) (hn : n ≤ 1000000) (hn0 : 0 ≤ n) (hs : Src w0 cs cap bs p w) :
    Calls Tryz.prog 47 #[.pointer (some ⟨p, 0, none⟩), .int .i64 n] w fun e w' => ∃ r : Int, e = .returned (.int .i64 r) ∧ 0 ≤ r ∧ (r = 0 ∨ r < n) ∧ Src w0 cs cap bs p w' ∧ w.grownBy w' (some p) := by
  by_cases hn1 : n ≤ 1
  · go_enter Tryz.func47, Tryz.ntmps47
    go_wp2
    go_ret
    exact ⟨0, rfl, Int.le_refl _, .inl rfl, hs, ⟨rfl, rfl, rfl, Nat.le_refl _, fun _ _ _ => rfl⟩⟩
  · obtain ⟨i, s, hi, hs0, hs1, hown, hB⟩ := hs
    have hn1' : decide (n ≤ 1) = false := by simpa using hn1
    have hgl := own_lt hown
    have c0 : w.cell? ⟨p, 0, none⟩ = some (.slice cs bs.length cap) := hown.cellAt 0 (by decide)
    have c1 : w.cell? ⟨p, 1, none⟩ = some (.int .i64 i) := hown.cellAt 1 (by decide)
    have c2 : w.cell? ⟨p, 2, none⟩ = some (.int .i64 s) := hown.cellAt 2 (by decide)
    have f2 := hown.frozenAt 2
    have v1 := i64_in (s * 48271) (by omega)
    have v2 := i64_in (s * 48271 + 67) (by omega)
    have tb := tmod_bd (x := s * 48271 + 67) (y := 2147483647) (by omega) (by decide)
    generalize ht : (s * 48271 + 67).tmod 2147483647 = t at tb
    obtain ⟨tb0, tb1⟩ := tb
    have hp := own_put (i := 2) (pre := [.slice cs bs.length cap, .int .i64 i]) (post := []) hown rfl (.int .i64 t)
    have HP := Lib.hid hp.1
    have HG := Lib.hid hp.2
    clear hp
    go_enter Tryz.func47, Tryz.ntmps47
    go_upto_region 4 with (fail)
    have hown := HP.out
    have hG := HG.out
    have hB := hB.grown hG hB.size (fun g e => by cases e; exact hgl.1)
    clear HP HG c0 c1 c2 f2 v1 v2 ht
    generalize w.setCell ⟨p, 2, none⟩ (.int .i64 t) = w1 at hown hG hB ⊢
    have hgl := own_lt hown
    have c0 : w1.cell? ⟨p, 0, none⟩ = some (.slice cs bs.length cap) := hown.cellAt 0 (by decide)
    have c1 : w1.cell? ⟨p, 1, none⟩ = some (.int .i64 i) := hown.cellAt 1 (by decide)
    have c2 : w1.cell? ⟨p, 2, none⟩ = some (.int .i64 t) := hown.cellAt 2 (by decide)
    have v1 := i64_quo' t 43 (by omega)
    have db := tdiv_bd (x := t) (y := 43) (by omega) (by decide)
    generalize hq : t.tdiv 43 = q at db v1
    obtain ⟨db0, db1⟩ := db
    by_cases hlt : i < bs.length
    · have hlt' : (i : Int) < (bs.length : Int) := by omega
      have hm := List.getElem?_eq_getElem hlt
      generalize bs[i] = m at hm
      obtain ⟨hm0, hm1⟩ := hb m (List.mem_of_getElem? hm)
      have C0 := Later.cell c0 hgl.2
      have C1 := Later.cell c1 hgl.2
      have C2 := Later.cell c2 hgl.2
      go_wp2_with fail
      refine wp_region_later _ (by kernel_rfl) (by kernel_rfl) ?_
      repeat (go_big_quiet_step (fail))
      refine wpQuiet_nil ?_
      intro z
      have hz := z.prop
      generalize z.val = U at hz
      clear C0 C1 C2 c0 c1 c2
      have hown := own_below hown hz
      have hG := gB hG hz
      have hB := stepB hB hz hB.size
      have hgl := own_lt hown
      have c0 : U.cell? ⟨p, 0, none⟩ = some (.slice cs bs.length cap) := hown.cellAt 0 (by decide)
      have c1 : U.cell? ⟨p, 1, none⟩ = some (.int .i64 i) := hown.cellAt 1 (by decide)
      have c2 : U.cell? ⟨p, 2, none⟩ = some (.int .i64 t) := hown.cellAt 2 (by decide)
      obtain ⟨b, off, hcs, hbb, cb⟩ := (hx.below hB).bb hm
      subst hcs
      have v2 := i64_in m (by omega)
      have v3 := i64_in (q + m) (by omega)
      have C0 := Later.cell c0 hgl.2
      have C1 := Later.cell c1 hgl.2
      have C2 := Later.cell c2 hgl.2
      have CB := Later.cell cb hbb
      go_wp2_with fail
      refine wp_region_later _ (by kernel_rfl) (by kernel_rfl) ?_
      repeat (go_big_quiet_step (fail))
      refine wpQuiet_nil ?_
      intro z
      have hz := z.prop
      generalize z.val = U2 at hz
      clear C0 C1 C2 c0 c1 c2 cb CB
      have hown := own_below hown hz
      have hG := gB hG hz
      have hB := stepB hB hz hB.size
      have hgl := own_lt hown
      have c0 : U2.cell? ⟨p, 0, none⟩ = some (.slice (some ⟨b, off, none⟩) bs.length cap) := hown.cellAt 0 (by decide)
      have c1 : U2.cell? ⟨p, 1, none⟩ = some (.int .i64 i) := hown.cellAt 1 (by decide)
      have c2 : U2.cell? ⟨p, 2, none⟩ = some (.int .i64 t) := hown.cellAt 2 (by decide)
      have f1 := hown.frozenAt 1
      have v4 := i64_in ((i : Int) + 1) (by omega)
      have hp := own_put (i := 1) (pre := [.slice (some ⟨b, off, none⟩) bs.length cap]) (post := [.int .i64 t]) hown rfl (.int .i64 ((i : Int) + 1))
      have HP := Lib.hid hp.1
      have HG := Lib.hid hp.2
      clear hp v2 v3
      go_upto_region 8 with (fail)
      have hown := HP.out
      have hG := gT hG HG.out
      have hB := hB.grown HG.out hB.size (fun g e => by cases e; exact hgl.1)
      clear HP HG c0 c1 c2 f1 v4
      generalize U2.setCell ⟨p, 1, none⟩ (.int .i64 ((i : Int) + 1)) = w3 at hown hG hB ⊢
      have hgl := own_lt hown
      have hown : w3.ownsRow w0.heap.size 101 1 (.slice (some ⟨p, 0, none⟩) 3 3) 3 [.slice (some ⟨b, off, none⟩) bs.length cap, .int .i64 ((i + 1 : Nat) : Int), .int .i64 t] := hown
      have c0 : w3.cell? ⟨p, 0, none⟩ = some (.slice (some ⟨b, off, none⟩) bs.length cap) := hown.cellAt 0 (by decide)
      have c1 : w3.cell? ⟨p, 1, none⟩ = some (.int .i64 ((i : Int) + 1)) := hown.cellAt 1 (by decide)
      have c2 : w3.cell? ⟨p, 2, none⟩ = some (.int .i64 t) := hown.cellAt 2 (by decide)
      generalize hr2 : ((i : Int) + 1).tmod 2 = r2
      by_cases hn2 : n ≤ 256
      · have hn2' : decide (n ≤ 256) = true := by simpa using hn2
        by_cases hr0 : r2 = 0
        · have hr0' : (r2 == 0) = true := by simpa using hr0
          have v2 := i64_in m (by omega)
          have v5 := i64_in ((i : Int) + 1 - 1) (by omega)
          have v6 : (i : Int) + 1 - 1 = i := by omega
          obtain ⟨b', off', hcs, hbb, cb⟩ := (hx.below hB).bb hm
          obtain ⟨rfl, rfl⟩ : b = b' ∧ off = off' := by injection hcs with e1; injection e1 with e1 e2; exact ⟨e1, e2⟩
          clear hcs
          have C0 := Later.cell c0 hgl.2
          have C1 := Later.cell c1 hgl.2
          have C2 := Later.cell c2 hgl.2
          have CB := Later.cell cb hbb
          go_wp2_with fail
          refine wp_region_later _ (by kernel_rfl) (by kernel_rfl) ?_
          repeat (go_big_quiet_step (fail))
          refine wpQuiet_nil ?_
          intro z
          have hz := z.prop
          generalize z.val = U3 at hz
          clear C0 C1 C2 c0 c1 c2 cb CB
          have hown := own_below hown hz
          have hG := gB hG hz
          have hB := stepB hB hz hB.size
          have hgl := own_lt hown
          have xb := emod_bd (x := m) (y := n) (by omega)
          go_wp2
          go_ret
          exact ⟨_, rfl, xb.1, .inr (by omega), ⟨i + 1, t, by omega, tb0, by omega, hown, hB⟩, hG⟩
        · have hr0' : (r2 == 0) = false := by simpa using hr0
          have xb := emod_bd (x := q + m) (y := n) (by omega)
          go_wp2
          go_ret
          exact ⟨_, rfl, xb.1, .inr (by omega), ⟨i + 1, t, by omega, tb0, by omega, hown, hB⟩, hG⟩
      · have hn2' : decide (n ≤ 256) = false := by simpa using hn2
        have xb := emod_bd (x := q + m) (y := n) (by omega)
        go_wp2
        go_ret
        exact ⟨_, rfl, xb.1, .inr (by omega), ⟨i + 1, t, by omega, tb0, by omega, hown, hB⟩, hG⟩
    · have hlt' : decide ((i : Int) < (bs.length : Int)) = false := by simp; omega
      have C0 := Later.cell c0 hgl.2
      have C1 := Later.cell c1 hgl.2
      have C2 := Later.cell c2 hgl.2
      go_wp2_with fail
      refine wp_region_later _ (by kernel_rfl) (by kernel_rfl) ?_
      repeat (go_big_quiet_step (fail))
      refine wpQuiet_nil ?_
      intro z
      have hz := z.prop
      generalize z.val = U at hz
      clear C0 C1 C2 c0 c1 c2
      have hown := own_below hown hz
      have hG := gB hG hz
      have hB := stepB hB hz hB.size
      have hgl := own_lt hown
      have xb := emod_bd (x := q) (y := n) (by omega)
      go_wp2
      go_ret
      exact ⟨_, rfl, xb.1, .inr (by omega), ⟨i, t, hi, tb0, by omega, hown, hB⟩, hG⟩

set_option maxRecDepth 100000 in
set_option maxHeartbeats 4000000 in
theorem l01Pick_any (w0 : World) (cs : Option Addr) (cap : Nat) (bs : List Int) (p : Nat) (a : Option Addr) (ca : Nat) (xs : List Int) (w : World) (hx : Rd encB w0 cs bs) (hb : ∀ m ∈ bs, goodB m) (hl : bs.length ≤ 4096) (hs : Src w0 cs cap bs p w) (hxs : ∀ W, w.grownBy W (some p) → Rd encI W a xs) (h1 : 1 ≤ xs.length) (h2 : xs.length ≤ 100) :
    Calls Tryz.prog 94 #[.pointer (some ⟨p, 0, none⟩), .slice a xs.length ca] w fun e w' => ∃ r : Int, e = .returned (.int .i64 r) ∧ r ∈ xs ∧ Src w0 cs cap bs p w' ∧ w.grownBy w' (some p) := by
  have HN := Lib.hid (l01Next_any w0 cs cap bs p xs.length w hx hb hl (by omega) (by omega) hs)
  go_enter Tryz.func94, Tryz.ntmps94
  go_wp2_with fail
  refine HN.out.mono ?_
  rintro e w1 ⟨r, rfl, hr0, hr1, hs1, hG⟩
  obtain ⟨k, rfl⟩ : ∃ k : Nat, r = k := ⟨r.toNat, by omega⟩
  have hk : k < xs.length := by omega
  have hm := List.getElem?_eq_getElem hk
  have hmem := List.getElem_mem hk
  generalize xs[k] = m at hm hmem
  obtain ⟨b, off, rfl, hbb, c0⟩ := (hxs w1 hG).i hm
  have hk1 : (k : Int) < (xs.length : Int) := by omega
  clear hm hr1
  go_wp2
  go_ret
  exact ⟨_, rfl, hmem, hs1, hG⟩
end

section
open Go.ChangeShapes Go.WideShapes Go.ChangeAt Go.RowKit Go.IntWalk

theorem grR (w : World) (r : Option Nat) : w.grownBy w r := ⟨rfl, rfl, rfl, Nat.le_refl _, fun _ _ _ => rfl⟩
theorem gN {w w1 w2 : World} {p g : Nat} (h : w.grownBy w1 (some p)) (k : w1.grownBy w2 (some g)) (hg : w.heap.size ≤ g) : w.grownBy w2 (some p) :=
  ⟨k.os.trans h.os, k.tape.trans h.tape, k.output.trans h.output, Nat.le_trans h.size k.size, fun j hj hne => (k.block j (Nat.lt_of_lt_of_le hj h.size) (fun e => by injection e with e; omega)).trans (h.block j hj hne)⟩
theorem own_keepV {B : Nat} {E : TypeId} {k n : Nat} {x : Option Nat} {v : Value} {xs : List Value} {w w' : World} (h : w.ownsRow B E k v n xs) (hg : w.grownBy w' x) (hx : ∀ g, v.ownBlock = some g → x ≠ some g) : w'.ownsRow B E k v n xs := by
  rcases h.2 with ⟨rfl, rfl⟩ | ⟨g, c, cur, rfl, hb, hh, h4⟩
  · exact ⟨h.1, .inl ⟨rfl, rfl⟩⟩
  · refine ⟨h.1, .inr ⟨g, c, cur, rfl, hb, ?_, h4⟩⟩
    rw [hg.block g (h.lt g rfl).2 (fun e => hx g rfl e.symm)]
    exact hh
theorem own_keepA {B : Nat} {E : TypeId} {k n x : Nat} {v : Value} {xs : List Value} {w w' : World} (h : w.ownsRow B E k v n xs) (hg : w.grownBy w' (some x)) (hx : x < B) : w'.ownsRow B E k v n xs :=
  own_keepV h hg (fun g e e2 => by injection e2 with e2; have := (h.lt g e).1; omega)
theorem Box.keepA {B : Nat} {w w' : World} {T : TypeId} {g x : Nat} {xs : List Value} (h : Box B w T g xs) (hg : w.grownBy w' (some x)) (hx : x < B) : Box B w' T g xs := own_keepA h hg hx
/-- A draw goes on since world w: the source lies at p; all else that lay in w lies. -/
structure Drw (w0 : World) (cs : Option Addr) (cap : Nat) (bs : List Int) (p : Nat) (w W : World) : Prop where
  src : Src w0 cs cap bs p W
  gr : w.grownBy W (some p)
  hp : p < w.heap.size
section
variable {w0 : World} {cs : Option Addr} {cap : Nat} {bs : List Int} {p : Nat} {w W W' : World}
theorem Drw.start (h : Src w0 cs cap bs p w) : Drw w0 cs cap bs p w w := ⟨h, grR _ _, h.lt.2⟩
theorem Drw.below (h : Drw w0 cs cap bs p w W) (hB : Below W.heap.size W W') : Drw w0 cs cap bs p w W' := ⟨h.src.below hB, gB h.gr hB, h.hp⟩
theorem Drw.call (h : Drw w0 cs cap bs p w W) (hs : Src w0 cs cap bs p W') (hG : W.grownBy W' (some p)) : Drw w0 cs cap bs p w W' := ⟨hs, gT h.gr hG, h.hp⟩
theorem Drw.store {g : Nat} (h : Drw w0 cs cap bs p w W) (hG : W.grownBy W' (some g)) (hg : w.heap.size ≤ g) : Drw w0 cs cap bs p w W' :=
  ⟨h.src.other hG (by have := h.hp; omega) (by have := h.hp; have := h.src.lt; omega), gN h.gr hG hg, h.hp⟩
theorem Drw.grown {r : Option Nat} (h : Drw w0 cs cap bs p w W) (hG : W.grownBy W' r) (hg : ∀ g, r = some g → w.heap.size ≤ g) : Drw w0 cs cap bs p w W' := by
  cases r with
  | none => exact h.below ⟨hG.os, hG.tape, hG.output, hG.size, fun j hj => hG.block j hj (by simp)⟩
  | some g => exact h.store hG (hg g rfl)
theorem Drw.size (h : Drw w0 cs cap bs p w W) : w.heap.size ≤ W.heap.size := h.gr.size
theorem Drw.base (h : Drw w0 cs cap bs p w W) : Below w0.heap.size w0 W := h.src.base
theorem Drw.cell {b j : Nat} {v : Value} (_h : Drw w0 cs cap bs p w W) (hG : W.grownBy W' (some p)) (c : W.cell? ⟨b, j, none⟩ = some v) (hb : b < W.heap.size) (hne : b ≠ p) : W'.cell? ⟨b, j, none⟩ = some v :=
  (gcell hG (p := ⟨b, j, none⟩) hb (fun g e => by cases e; exact hne)).trans c
end
/-- A row of numbers that an array literal has made. -/
theorem rd_lit {w : World} {c : Array Value} {xs : List Int} {p : Nat} (hc : c = (xs.map fun m => Value.int .i64 m).toArray) (hp : p < w.heap.size) (W' : World) (hG : (w.alloc (.cells c 2)).grownBy W' (some p)) : Rd encI W' (some ⟨w.heap.size, 0, none⟩) xs := by
  intro i x hi
  have hlt : w.heap.size < (w.alloc (.cells c 2)).heap.size := by simp
  refine ⟨w.heap.size, 0, rfl, Nat.lt_of_lt_of_le hlt hG.size, fun j v hv => ?_⟩
  rw [gcell hG (p := ⟨w.heap.size, _, none⟩) hlt (fun g e => by cases e; exact Nat.ne_of_gt hp), World.cell?_alloc_at _ _ _ _ rfl]
  subst hc
  match j, hv with
  | 0, hv => cases hv; simp [encI, hi]
theorem belowA (w : World) (o : Obj) : Below w.heap.size w (w.alloc o) := (Below.refl _ _).alloc (Nat.le_refl _) _
end

section
open Go.ChangeShapes Go.WideShapes Go.ChangeAt Go.RowKit Go.Deep
set_option maxRecDepth 100000
theorem row_B {H : Type} {enc0 : TypeId × Value → H} {w : World} {base : Nat} {spare : Nat → Bool} {held : Bool} (n : Nat) (cs : List Value) (y : DataW H × List MemPlace) (_ : cs.length = 1)
    (h : DataW.trod enc0 Tryz.prog w base spare held n 5 cs = some y) : ∃ x, goodB x ∧ cs = encB x := by
  obtain ⟨s, e, _, g⟩ := DataW.trod_int Tryz.underlying5 h
  exact ⟨s, by simpa [goodB, Lit.wf, IntKind.min, IntKind.max, IntKind.signed, IntKind.bits] using g, e⟩
end

section
open Go.ChangeShapes Go.WideShapes Go.ChangeAt Go.RowKit

def okRg (m : Rg) : Bool := nameB m.king.data.toList 12 && spanB m.fr m.to
def leRg (p m : Rg) : Bool := !decide (m.fr < p.fr)
def areReignsB (xs : List Rg) : Bool := upGo okRg leRg none xs && decide (xs.length ≤ 30)

set_option maxHeartbeats 400000 in
theorem l07Reign_any (m : Rg) (w : World) (hs : m.king.size ≤ 9223372036854775807) :
    Calls Tryz.prog 151 #[.agg #[.string m.king, .int .i64 m.fr, .int .i64 m.to]] w fun e w' => e = .returned (.bool (okRg m)) ∧ Below w.heap.size w w' := by
  cases h0 : nameB m.king.data.toList 12 <;> cases h1 : dayB m.fr <;> cases h2 : dayB m.to
  all_goals
    go_enter Tryz.func151, Tryz.ntmps151
    go_wp2_with fail
    refine (l01Name_any _ _ _ hs).mono ?_
    rintro e w1 ⟨rfl, hB1⟩
    have e1 := (hB1.cell (p := ⟨w.heap.size, 1, none⟩) (by simp)).trans (World.cell?_alloc_at _ _ _ _ rfl)
    have e2 := (hB1.cell (p := ⟨w.heap.size, 2, none⟩) (by simp)).trans (World.cell?_alloc_at _ _ _ _ rfl)
    go_wp2_with (go_at_call 121; refine (l01Day_any _ _).mono ?_; rintro e w' ⟨rfl, rfl⟩)
    all_goals go_ret
    all_goals exact ⟨ret_bool (by unfold okRg spanB; simp [*]), stepB ((Below.refl _ w).alloc (Nat.le_refl _) _) hB1 (by simp)⟩

set_option maxHeartbeats 400000 in
theorem isReign_any (m : Rg) (w : World) (hs : m.king.size ≤ 9223372036854775807) :
    Calls Tryz.prog 212 #[.agg #[.string m.king, .int .i64 m.fr, .int .i64 m.to]] w fun e w' => e = .returned (.bool (okRg m)) ∧ Below w.heap.size w w' := by
  cases h0 : nameB m.king.data.toList 12 <;> cases h1 : dayB m.fr <;> cases h2 : dayB m.to
  all_goals
    go_enter Tryz.func212, Tryz.ntmps212
    go_wp2_with fail
    refine (isSmall_any _ _ _ hs).mono ?_
    rintro e w1 ⟨rfl, hB1⟩
    have e1 := (hB1.cell (p := ⟨w.heap.size, 1, none⟩) (by simp)).trans (World.cell?_alloc_at _ _ _ _ rfl)
    have e2 := (hB1.cell (p := ⟨w.heap.size, 2, none⟩) (by simp)).trans (World.cell?_alloc_at _ _ _ _ rfl)
    go_wp2_with (go_at_call 175; refine (isDay_any _ _).mono ?_; rintro e w' ⟨rfl, rfl⟩)
    all_goals go_ret
    all_goals exact ⟨ret_bool (by unfold okRg spanB; simp [*]), stepB ((Below.refl _ w).alloc (Nat.le_refl _) _) hB1 (by simp)⟩

set_option maxHeartbeats 1000000 in
theorem specAreReigns_any (a : Option Addr) (cap : Nat) (xs : List Rg) (w : World) (hl : xs.length ≤ 1048576) (hx : Rd encRg w a xs) (hs : ∀ m ∈ xs, m.king.size ≤ 1048576) :
    Calls Tryz.prog 93 #[.slice a xs.length cap] w fun e w' => e = .returned (.bool (areReignsB xs)) ∧ Below w.heap.size w w' := by
  go_enter Tryz.func93, Tryz.ntmps93
  go_wp2
  go_loopw [3] (fun i wr => ∃ (k : Nat), k ≤ xs.length ∧ i = .int .i64 k ∧ Hid (upGo okRg leRg none xs = upGo okRg leRg (prevOf xs k) (xs.drop k)) ∧ Below w.heap.size w wr) (fun i _ => xs.length - (intOf i).toNat)
  case atStart => exact ⟨0, Nat.zero_le _, rfl, rfl, Below.refl _ _⟩
  case round =>
    obtain ⟨k, hk, rfl, hH, hB⟩ := hrel
    by_cases hlt : k < xs.length
    · have hm := List.getElem?_eq_getElem hlt
      generalize xs[k] = m at hm
      obtain ⟨b, off, rfl, hb, c0, c1, c2⟩ := (hx.below hB).rg hm
      have hsm : m.king.size ≤ 9223372036854775807 := by have := hs m (List.mem_of_getElem? hm); omega
      have bad : Hid (okRg m = false → areReignsB xs = false) := fun h => by unfold areReignsB; rw [hH.out, upGo_bad hm h]; rfl
      have hcn := fun W => l07Reign_any m W hsm
      go_wp2_with fail
      have C0 := Later.cell c0 hb
      have C1 := Later.cell c1 hb
      have C2 := Later.cell c2 hb
      have hBW := hB
      clear c0 c1 c2
      cases hok : okRg m
      · simp only [hok] at hcn
        have HCN := Lib.hid hcn
        have hbd := Lib.hid (bad.out hok)
        clear hcn hm hok
        refine wp_region_later wr (by kernel_rfl) (by kernel_rfl) ?_
        repeat (go_big_quiet_step ((first | (go_at_call 151; exact Later.call (Nat.le_refl _) (HCN.out _)))))
        refine wpQuiet_nil ?_
        intro z
        have hz := z.prop
        generalize z.val = w2 at hz
        clear C0 C1 C2
        go_wp2
        go_ret
        exact ⟨ret_bool hbd.out.symm, stepB hBW hz hBW.size⟩
      simp only [hok] at hcn
      have HCN := Lib.hid hcn
      have HOK := Lib.hid hok
      clear bad hcn hok
      by_cases hk0 : 0 < k
      · have hpl : k - 1 < xs.length := by omega
        have hp := List.getElem?_eq_getElem hpl
        generalize xs[k - 1] = p at hp
        obtain ⟨_, _, e', _, p0, p1, p2⟩ := (hx.below hB).rg hp
        simp only [Option.some.injEq, Addr.mk.injEq, and_true] at e'
        obtain ⟨rfl, rfl⟩ := e'
        have hN := Lib.hid (upGo_at (ok := okRg) (lt := leRg) hk0 hp hm)
        have P0 := Later.cell p0 hb
        have P1 := Later.cell p1 hb
        have P2 := Later.cell p2 hb
        clear hm hp p0 p1 p2
        have hk1 : (0 : Int) < (k : Int) := by omega
        by_cases hlm : m.fr < p.fr
        · have HLM : Hid (leRg p m = false) := by unfold Hid leRg; simp; omega
          refine wp_region_later wr (by kernel_rfl) (by kernel_rfl) ?_
          repeat (go_big_quiet_step ((first | (go_at_call 151; exact Later.call (Nat.le_refl _) (HCN.out _)))))
          refine wpQuiet_nil ?_
          intro z
          have hz := z.prop
          generalize z.val = w2 at hz
          clear C0 C1 C2 P0 P1 P2
          go_wp2
          go_ret
          exact ⟨ret_bool (by unfold areReignsB; rw [hH.out, hN.out, HOK.out, HLM.out]; rfl), stepB hBW hz hBW.size⟩
        · have HLM : Hid (leRg p m = true) := by unfold Hid leRg; simp; omega
          have hlm2 : decide (m.fr < p.fr) = false := by simpa using hlm
          refine wp_region_later wr (by kernel_rfl) (by kernel_rfl) ?_
          repeat (go_big_quiet_step ((first | (go_at_call 151; exact Later.call (Nat.le_refl _) (HCN.out _)))))
          refine wpQuiet_nil ?_
          intro z
          have hz := z.prop
          generalize z.val = w2 at hz
          clear C0 C1 C2 P0 P1 P2
          go_wp2
          go_roundw
          case rel => exact ⟨k + 1, by omega, by go_num, by unfold Hid; rw [hH.out, hN.out, HOK.out, HLM.out]; rfl, stepB hBW hz hBW.size⟩
          case measure => simp [intOf]; omega
      · have hk1 : k = 0 := by omega
        have hN := Lib.hid (upGo_at0 (ok := okRg) (lt := leRg) hk1 hm)
        have hk2 : decide ((0 : Int) < (k : Int)) = false := by simp; omega
        clear hm hk1
        refine wp_region_later wr (by kernel_rfl) (by kernel_rfl) ?_
        repeat (go_big_quiet_step ((first | (go_at_call 151; exact Later.call (Nat.le_refl _) (HCN.out _)))))
        refine wpQuiet_nil ?_
        intro z
        have hz := z.prop
        generalize z.val = w2 at hz
        clear C0 C1 C2
        go_wp2
        go_roundw
        case rel => exact ⟨k + 1, by omega, by go_num, by unfold Hid; rw [hH.out, hN.out, HOK.out]; rfl, stepB hBW hz hBW.size⟩
        case measure => simp [intOf]; omega
    · go_wp2
      go_ret
      exact ⟨ret_bool (by unfold areReignsB; rw [hH.out, upGo_end (by omega)]; simp; omega), hB⟩

set_option maxHeartbeats 1000000 in
theorem implAreReigns_any (a : Option Addr) (cap : Nat) (xs : List Rg) (w : World) (hl : xs.length ≤ 1048576) (hx : Rd encRg w a xs) (hs : ∀ m ∈ xs, m.king.size ≤ 1048576) :
    Calls Tryz.prog 174 #[.slice a xs.length cap] w fun e w' => e = .returned (.bool (areReignsB xs)) ∧ Below w.heap.size w w' := by
  go_enter Tryz.func174, Tryz.ntmps174
  go_wp2
  go_loopw [7] (fun i wr => ∃ (k : Nat), k ≤ xs.length ∧ i = .int .i64 k ∧ Hid (upGo okRg leRg none xs = upGo okRg leRg (prevOf xs k) (xs.drop k)) ∧ Below w.heap.size w wr) (fun i _ => xs.length - (intOf i).toNat)
  case atStart => exact ⟨0, Nat.zero_le _, rfl, rfl, Below.refl _ _⟩
  case round =>
    obtain ⟨k, hk, rfl, hH, hB⟩ := hrel
    by_cases hlt : k < xs.length
    · have hm := List.getElem?_eq_getElem hlt
      generalize xs[k] = m at hm
      obtain ⟨b, off, rfl, hb, c0, c1, c2⟩ := (hx.below hB).rg hm
      have hsm : m.king.size ≤ 9223372036854775807 := by have := hs m (List.mem_of_getElem? hm); omega
      have bad : Hid (okRg m = false → areReignsB xs = false) := fun h => by unfold areReignsB; rw [hH.out, upGo_bad hm h]; rfl
      have hcn := fun W => isReign_any m W hsm
      go_wp2_with fail
      generalize hW : wr.alloc (.cells #[.string m.king, .int .i64 m.fr, .int .i64 m.to] 115) = W
      have hBW : Below w.heap.size w W := hW ▸ hB.alloc hB.size _
      have hlW : wr.heap.size < W.heap.size := by rw [← hW]; simp
      have C0 := Later.cell (w := W) (by rw [← hW]; exact World.cell?_alloc_at _ _ _ _ rfl : W.cell? ⟨wr.heap.size, 0, none⟩ = some (.string m.king)) hlW
      have C1 := Later.cell (w := W) (by rw [← hW]; exact World.cell?_alloc_at _ _ _ _ rfl : W.cell? ⟨wr.heap.size, 1, none⟩ = some (.int .i64 m.fr)) hlW
      have C2 := Later.cell (w := W) (by rw [← hW]; exact World.cell?_alloc_at _ _ _ _ rfl : W.cell? ⟨wr.heap.size, 2, none⟩ = some (.int .i64 m.to)) hlW
      clear c0 c1 c2
      cases hok : okRg m
      · simp only [hok] at hcn
        have HCN := Lib.hid hcn
        have hbd := Lib.hid (bad.out hok)
        clear hcn hm hok
        refine wp_region_later W (by kernel_rfl) (by kernel_rfl) ?_
        repeat (go_big_quiet_step ((first | (go_at_call 212; exact Later.call (Nat.le_refl _) (HCN.out _)))))
        refine wpQuiet_nil ?_
        intro z
        have hz := z.prop
        generalize z.val = w2 at hz
        clear C0 C1 C2
        go_wp2
        go_ret
        exact ⟨ret_bool hbd.out.symm, stepB hBW hz hBW.size⟩
      simp only [hok] at hcn
      have HCN := Lib.hid hcn
      have HOK := Lib.hid hok
      clear bad hcn hok
      by_cases hk0 : 0 < k
      · have hpl : k - 1 < xs.length := by omega
        have hp := List.getElem?_eq_getElem hpl
        generalize xs[k - 1] = p at hp
        obtain ⟨_, _, e', _, p0, p1, p2⟩ := (hx.below hB).rg hp
        simp only [Option.some.injEq, Addr.mk.injEq, and_true] at e'
        obtain ⟨rfl, rfl⟩ := e'
        have hN := Lib.hid (upGo_at (ok := okRg) (lt := leRg) hk0 hp hm)
        have P0 := Later.cell (B := W.heap.size) (w := W) ((hW ▸ World.cell?_alloc_past _ _ _ hb : W.cell? _ = _).trans p0) (by omega)
        have P1 := Later.cell (B := W.heap.size) (w := W) ((hW ▸ World.cell?_alloc_past _ _ _ hb : W.cell? _ = _).trans p1) (by omega)
        have P2 := Later.cell (B := W.heap.size) (w := W) ((hW ▸ World.cell?_alloc_past _ _ _ hb : W.cell? _ = _).trans p2) (by omega)
        clear hm hp p0 p1 p2
        have hk1 : (0 : Int) < (k : Int) := by omega
        by_cases hlm : m.fr < p.fr
        · have HLM : Hid (leRg p m = false) := by unfold Hid leRg; simp; omega
          refine wp_region_later W (by kernel_rfl) (by kernel_rfl) ?_
          repeat (go_big_quiet_step ((first | (go_at_call 212; exact Later.call (Nat.le_refl _) (HCN.out _)))))
          refine wpQuiet_nil ?_
          intro z
          have hz := z.prop
          generalize z.val = w2 at hz
          clear C0 C1 C2 P0 P1 P2
          go_wp2
          go_ret
          exact ⟨ret_bool (by unfold areReignsB; rw [hH.out, hN.out, HOK.out, HLM.out]; rfl), stepB hBW hz hBW.size⟩
        · have HLM : Hid (leRg p m = true) := by unfold Hid leRg; simp; omega
          have hlm2 : decide (m.fr < p.fr) = false := by simpa using hlm
          refine wp_region_later W (by kernel_rfl) (by kernel_rfl) ?_
          repeat (go_big_quiet_step ((first | (go_at_call 212; exact Later.call (Nat.le_refl _) (HCN.out _)))))
          refine wpQuiet_nil ?_
          intro z
          have hz := z.prop
          generalize z.val = w2 at hz
          clear C0 C1 C2 P0 P1 P2
          go_wp2
          go_roundw
          case rel => exact ⟨k + 1, by omega, by go_num, by unfold Hid; rw [hH.out, hN.out, HOK.out, HLM.out]; rfl, stepB hBW hz hBW.size⟩
          case measure => simp [intOf]; omega
      · have hk1 : k = 0 := by omega
        have hN := Lib.hid (upGo_at0 (ok := okRg) (lt := leRg) hk1 hm)
        have hk2 : decide ((0 : Int) < (k : Int)) = false := by simp; omega
        clear hm hk1
        refine wp_region_later W (by kernel_rfl) (by kernel_rfl) ?_
        repeat (go_big_quiet_step ((first | (go_at_call 212; exact Later.call (Nat.le_refl _) (HCN.out _)))))
        refine wpQuiet_nil ?_
        intro z
        have hz := z.prop
        generalize z.val = w2 at hz
        clear C0 C1 C2
        go_wp2
        go_roundw
        case rel => exact ⟨k + 1, by omega, by go_num, by unfold Hid; rw [hH.out, hN.out, HOK.out]; rfl, stepB hBW hz hBW.size⟩
        case measure => simp [intOf]; omega
    · go_wp2
      go_ret
      exact ⟨ret_bool (by unfold areReignsB; rw [hH.out, upGo_end (by omega)]; simp; omega), hB⟩
end

section
open Go.ChangeShapes Go.WideShapes Go.ChangeAt Go.RowKit Go.IntWalk

set_option maxRecDepth 100000 in
set_option maxHeartbeats 1000000 in
theorem l07DrawKing_any (w0 : World) (cs : Option Addr) (cap : Nat) (bs : List Int) (p : Nat) (w : World) (hx : Rd encB w0 cs bs) (hb : ∀ m ∈ bs, goodB m) (hl : bs.length ≤ 4096) (hs : Src w0 cs cap bs p w) :
    Calls Tryz.prog 201 #[.pointer (some ⟨p, 0, none⟩)] w fun e w' => ∃ k : ByteArray, e = .returned (.string k) ∧ k.size ≤ 13 ∧ Src w0 cs cap bs p w' ∧ w.grownBy w' (some p) := by
  have D := Drw.start hs
  have HN := Lib.hid (fun n W hn1 hn2 hs => l01Next_any w0 cs cap bs p n W hx hb hl hn1 hn2 hs)
  go_enter Tryz.func201, Tryz.ntmps201
  go_wp2_with fail
  generalize hW : w.alloc (.cells #[.string ⟨#[97, 100, 97, 109]⟩, .string ⟨#[98, 101, 114, 116, 97]⟩, .string ⟨#[99, 97, 114, 108]⟩, .string ⟨#[100, 111, 114, 97]⟩] 9) = W
  have D : Drw w0 cs cap bs p w W := hW ▸ D.below (belowA _ _)
  have hlt : w.heap.size < W.heap.size := by rw [← hW]; simp
  have c0 : W.cell? ⟨w.heap.size, 0, none⟩ = some (.string ⟨#[97, 100, 97, 109]⟩) := by rw [← hW]; exact World.cell?_alloc_at _ _ _ _ rfl
  have c1 : W.cell? ⟨w.heap.size, 1, none⟩ = some (.string ⟨#[98, 101, 114, 116, 97]⟩) := by rw [← hW]; exact World.cell?_alloc_at _ _ _ _ rfl
  have c2 : W.cell? ⟨w.heap.size, 2, none⟩ = some (.string ⟨#[99, 97, 114, 108]⟩) := by rw [← hW]; exact World.cell?_alloc_at _ _ _ _ rfl
  have c3 : W.cell? ⟨w.heap.size, 3, none⟩ = some (.string ⟨#[100, 111, 114, 97]⟩) := by rw [← hW]; exact World.cell?_alloc_at _ _ _ _ rfl
  clear hW
  have hne : w.heap.size ≠ p := Nat.ne_of_gt D.hp
  refine (HN.out 4 _ (by decide) (by decide) D.src).mono ?_
  rintro e W2 ⟨r, rfl, hr0, hr1, hs2, hG⟩
  have c0 := D.cell hG c0 hlt hne
  have c1 := D.cell hG c1 hlt hne
  have c2 := D.cell hG c2 hlt hne
  have c3 := D.cell hG c3 hlt hne
  have D := D.call hs2 hG
  clear hs2 hG hs HN
  obtain rfl | rfl | rfl | rfl : r = 0 ∨ r = 1 ∨ r = 2 ∨ r = 3 := by omega
  all_goals
    go_wp2
    go_ret
    exact ⟨_, rfl, by decide, D.src, D.gr⟩
end

section
open Go.ChangeShapes Go.WideShapes Go.ChangeAt Go.RowKit Go.IntWalk

/-- A drawn reign's bounds. -/
def okD (m : Rg) : Prop := m.king.size ≤ 13 ∧ (-2000 ≤ m.fr ∧ m.fr ≤ 3000000) ∧ (-2000 ≤ m.to ∧ m.to ≤ 3000000)
theorem okD_mk {k : ByteArray} {f t : Int} (h1 : k.size ≤ 13) (h2 : -2000 ≤ f ∧ f ≤ 3000000) (h3 : -2000 ≤ t ∧ t ≤ 3000000) : okD ⟨k, f, t⟩ := ⟨h1, h2, h3⟩

set_option maxRecDepth 100000 in
set_option maxHeartbeats 4000000 in
theorem l07DrawReign_any (w0 : World) (cs : Option Addr) (cap : Nat) (bs : List Int) (p : Nat) (w : World) (hx : Rd encB w0 cs bs) (hb : ∀ m ∈ bs, goodB m) (hl : bs.length ≤ 4096) (hs : Src w0 cs cap bs p w) :
    Calls Tryz.prog 150 #[.pointer (some ⟨p, 0, none⟩)] w fun e w' => ∃ m : Rg, e = .returned (.agg #[.string m.king, .int .i64 m.fr, .int .i64 m.to]) ∧ okD m ∧ Src w0 cs cap bs p w' ∧ w.grownBy w' (some p) := by
  have D := Drw.start hs
  have res := Box.new w 115 [.string ⟨#[]⟩, .int .i64 0, .int .i64 0] w.heap.size (Nat.le_refl _) (by simp)
  have D := D.below (belowA w (.cells #[.string ⟨#[]⟩, .int .i64 0, .int .i64 0] 115))
  have HN := Lib.hid (fun n W hn1 hn2 hs => l01Next_any w0 cs cap bs p n W hx hb hl hn1 hn2 hs)
  have HP := Lib.hid (fun a ca xs W hs hxs h1 h2 => l01Pick_any w0 cs cap bs p a ca xs W hx hb hl hs hxs h1 h2)
  have HK := Lib.hid (fun W hs => l07DrawKing_any w0 cs cap bs p W hx hb hl hs)
  clear hs
  go_enter Tryz.func150, Tryz.ntmps150
  go_wp2_with fail
  refine (HN.out 6000 _ (by decide) (by decide) D.src).mono ?_
  rintro e w7 ⟨r, rfl, hr0, hr1, hs, hG⟩
  have res := Box.keepA res hG D.hp
  have D := D.call hs hG
  clear hs hG
  have v1 := i64_in (420000 + r) (by omega)
  go_wp2_with fail
  refine (HN.out 6 _ (by decide) (by decide) D.src).mono ?_
  rintro e w8 ⟨q, rfl, hq0, hq1, hs, hG⟩
  have res := Box.keepA res hG D.hp
  have D := D.call hs hG
  clear hs hG
  by_cases q0 : q = 0
  · subst q0
    go_wp2_with fail
    refine (HN.out 6 _ (by decide) (by decide) D.src).mono ?_
    rintro e w9 ⟨a, rfl, ha0, ha1, hs, hG⟩
    have res := Box.keepA res hG D.hp
    have D := D.call hs hG
    clear hs hG
    have v5 := i64_in (4 * a) (by omega)
    have v6 := i64_in (1160 + 4 * a) (by omega)
    have hnb := numO_bd (1160 + 4 * a) 2 29 (by omega) (by omega) (by decide) (by decide) (by decide)
    have HD := Lib.hid (fun W => l01Number_any (1160 + 4 * a) 2 29 W (by omega) (by omega) (by decide) (by decide) (by decide) (by decide))
    generalize numO (1160 + 4 * a) 2 29 = f at hnb HD
    go_wp2_with fail
    refine (HD.out _).mono ?_
    rintro e WN ⟨rfl, hBN⟩
    have res := Box.below res hBN
    have D := D.below hBN
    clear hBN HD
    go_wp2_with fail
    refine (HK.out _ D.src).mono ?_
    rintro e w10 ⟨k, rfl, hk, hs, hG⟩
    have res := Box.keepA res hG D.hp
    have D := D.call hs hG
    clear hs hG
    go_wp2_with fail
    have hrd := rd_lit (w := w10) (c := #[.int .i64 (100), .int .i64 (3000), .int .i64 (9000)]) (xs := [100, 3000, 9000]) (p := p) rfl D.src.lt.2
    have res := Box.below res (belowA w10 (.cells #[.int .i64 (100), .int .i64 (3000), .int .i64 (9000)] 2))
    have D := D.below (belowA w10 (.cells #[.int .i64 (100), .int .i64 (3000), .int .i64 (9000)] 2))
    refine (HP.out _ 3 [100, 3000, 9000] _ D.src hrd (by simp) (by simp)).mono ?_
    rintro e w11 ⟨v, rfl, hv, hs, hG⟩
    have res := Box.keepA res hG D.hp
    have D := D.call hs hG
    clear hs hG
    clear hrd
    have hv2 : 0 ≤ v ∧ v ≤ 9000 := by simp at hv; omega
    clear hv
    go_wp2_with fail
    refine (HN.out v _ (by omega) (by omega) D.src).mono ?_
    rintro e w12 ⟨u, rfl, hu0, hu1, hs, hG⟩
    have res := Box.keepA res hG D.hp
    have D := D.call hs hG
    clear hs hG
    have v3 := i64_in (f + u) (by omega)
    have loc := Box.new w12 115 [.string k, .int .i64 f, .int .i64 (f + u)] w.heap.size D.size (by simp)
    have hlr : w12.heap.size ≠ w.heap.size := by have := res.lt; omega
    have res := Box.below res (belowA w12 (.cells #[.string k, .int .i64 f, .int .i64 (f + u)] 115))
    have D := D.below (belowA w12 (.cells #[.string k, .int .i64 f, .int .i64 (f + u)] 115))
    go_wp2_with fail
    refine (HN.out 60 _ (by decide) (by decide) D.src).mono ?_
    rintro e w13 ⟨x, rfl, hx0, hx1, hs, hG⟩
    have res := Box.keepA res hG D.hp
    have loc := Box.keepA loc hG D.hp
    have D := D.call hs hG
    clear hs hG
    by_cases x0 : x = 0
    · subst x0
      have m1 := loc.cell 1 _ rfl
      have v4 := i64_in (f - 1) (by omega)
      go_wp2_with fail
      have hrd := rd_lit (w := w13) (c := #[.int .i64 (f - 1), .int .i64 (730499), .int .i64 (730500)]) (xs := [f - 1, 730499, 730500]) (p := p) rfl D.src.lt.2
      have res := Box.below res (belowA w13 (.cells #[.int .i64 (f - 1), .int .i64 (730499), .int .i64 (730500)] 2))
      have loc := Box.below loc (belowA w13 (.cells #[.int .i64 (f - 1), .int .i64 (730499), .int .i64 (730500)] 2))
      have D := D.below (belowA w13 (.cells #[.int .i64 (f - 1), .int .i64 (730499), .int .i64 (730500)] 2))
      refine (HP.out _ 3 [f - 1, 730499, 730500] _ D.src hrd (by simp) (by simp)).mono ?_
      rintro e w14 ⟨y, rfl, hy, hs, hG⟩
      have res := Box.keepA res hG D.hp
      have loc := Box.keepA loc hG D.hp
      have D := D.call hs hG
      clear hs hG
      clear hrd
      have hy2 : -2000 ≤ y ∧ y ≤ 3000000 := by simp at hy; omega
      clear hy m1
      have m2 := loc.cell 2 _ rfl
      have g2 := World.ownsRow.frozenAt loc 2
      have HL := Lib.hid (Box.put (i := 2) (pre := [.string k, .int .i64 f]) (post := []) loc rfl (.int .i64 y))
      go_upto_region 10 with (fail)
      have hl2 := HL.out
      have res := Box.keep res hl2.2 (Ne.symm hlr)
      have D := D.store hl2.2 hl2.1.lt.1
      have loc := hl2.1
      clear m2 g2 hl2 HL
      generalize w14.setCell ⟨w12.heap.size, 2, none⟩ (.int .i64 y) = w15 at res D loc ⊢
      have m0 := loc.cell 0 _ rfl
      have m1 := loc.cell 1 _ rfl
      have m2 := loc.cell 2 _ rfl
      have r0 := res.cell 0 _ rfl
      have r1 := res.cell 1 _ rfl
      have r2 := res.cell 2 _ rfl
      have f0 := World.ownsRow.frozenAt res 0
      have f1 := World.ownsRow.frozenAt res 1
      have f2 := World.ownsRow.frozenAt res 2
      have HP3 := Lib.hid (Box.put3 res (.string k) (.int .i64 f) (.int .i64 y))
      go_wp2
      have hp := HP3.out
      have D := D.store hp.2 (Nat.le_refl _)
      generalize ((w15.setCell ⟨w.heap.size, 0, none⟩ (.string k)).setCell ⟨w.heap.size, 1, none⟩ (.int .i64 f)).setCell ⟨w.heap.size, 2, none⟩ (.int .i64 y) = Wf at hp D ⊢
      have z0 := hp.1.cell 0 _ rfl
      have z1 := hp.1.cell 1 _ rfl
      have z2 := hp.1.cell 2 _ rfl
      refine bodyPost_ret_by (v := .agg #[.string k, .int .i64 f, .int .i64 y]) ?_ rfl ⟨⟨k, f, y⟩, rfl, okD_mk hk (by omega) (by omega), D.src, D.gr⟩
      simp [results, go_sem, z0, z1, z2]
    · have x0' : (x == 0) = false := by simpa using x0
      by_cases x1 : x = 1
      · subst x1
        go_wp2_with fail
        generalize hWs : w13.alloc (.cells #[.string ⟨#[]⟩, .string ⟨#[65, 100, 97, 109]⟩, .string ⟨#[97, 98, 99, 100, 101, 102, 103, 104, 105, 106, 107, 108, 109]⟩] 9) = Ws
        have hBs : Below w13.heap.size w13 Ws := by rw [← hWs]; exact belowA _ _
        have hlt : w13.heap.size < Ws.heap.size := by rw [← hWs]; simp
        have c0 : Ws.cell? ⟨w13.heap.size, 0, none⟩ = some (.string ⟨#[]⟩) := by rw [← hWs]; exact World.cell?_alloc_at _ _ _ _ rfl
        have c1 : Ws.cell? ⟨w13.heap.size, 1, none⟩ = some (.string ⟨#[65, 100, 97, 109]⟩) := by rw [← hWs]; exact World.cell?_alloc_at _ _ _ _ rfl
        have c2 : Ws.cell? ⟨w13.heap.size, 2, none⟩ = some (.string ⟨#[97, 98, 99, 100, 101, 102, 103, 104, 105, 106, 107, 108, 109]⟩) := by rw [← hWs]; exact World.cell?_alloc_at _ _ _ _ rfl
        clear hWs
        have hne : w13.heap.size ≠ p := Nat.ne_of_gt D.src.lt.2
        have res := Box.below res hBs
        have loc := Box.below loc hBs
        have D := D.below hBs
        refine (HN.out 3 _ (by decide) (by decide) D.src).mono ?_
        rintro e w16 ⟨y, rfl, hy0, hy1, hs, hG⟩
        have c0 := D.cell hG c0 hlt hne
        have c1 := D.cell hG c1 hlt hne
        have c2 := D.cell hG c2 hlt hne
        have res := Box.keepA res hG D.hp
        have loc := Box.keepA loc hG D.hp
        have D := D.call hs hG
        clear hs hG hBs
        obtain rfl | rfl | rfl : y = 0 ∨ y = 1 ∨ y = 2 := by omega
        · have m0 := loc.cell 0 _ rfl
          have g0 := World.ownsRow.frozenAt loc 0
          have HL := Lib.hid (Box.put (i := 0) (pre := []) (post := [.int .i64 f, .int .i64 (f + u)]) loc rfl (.string ⟨#[]⟩))
          go_upto_region 10 with (fail)
          have hl2 := HL.out
          have res := Box.keep res hl2.2 (Ne.symm hlr)
          have D := D.store hl2.2 hl2.1.lt.1
          have loc := hl2.1
          clear m0 g0 hl2 HL c0 c1 c2
          generalize w16.setCell ⟨w12.heap.size, 0, none⟩ (.string ⟨#[]⟩) = WW at res D loc ⊢
          have m0 := loc.cell 0 _ rfl
          have m1 := loc.cell 1 _ rfl
          have m2 := loc.cell 2 _ rfl
          have r0 := res.cell 0 _ rfl
          have r1 := res.cell 1 _ rfl
          have r2 := res.cell 2 _ rfl
          have f0 := World.ownsRow.frozenAt res 0
          have f1 := World.ownsRow.frozenAt res 1
          have f2 := World.ownsRow.frozenAt res 2
          have HP3 := Lib.hid (Box.put3 res (.string ⟨#[]⟩) (.int .i64 f) (.int .i64 (f + u)))
          go_wp2
          have hp := HP3.out
          have D := D.store hp.2 (Nat.le_refl _)
          generalize ((WW.setCell ⟨w.heap.size, 0, none⟩ (.string ⟨#[]⟩)).setCell ⟨w.heap.size, 1, none⟩ (.int .i64 f)).setCell ⟨w.heap.size, 2, none⟩ (.int .i64 (f + u)) = Wf at hp D ⊢
          have z0 := hp.1.cell 0 _ rfl
          have z1 := hp.1.cell 1 _ rfl
          have z2 := hp.1.cell 2 _ rfl
          refine bodyPost_ret_by (v := .agg #[.string ⟨#[]⟩, .int .i64 f, .int .i64 (f + u)]) ?_ rfl ⟨⟨⟨#[]⟩, f, (f + u)⟩, rfl, okD_mk (by decide) (by omega) (by omega), D.src, D.gr⟩
          simp [results, go_sem, z0, z1, z2]
        · have m0 := loc.cell 0 _ rfl
          have g0 := World.ownsRow.frozenAt loc 0
          have HL := Lib.hid (Box.put (i := 0) (pre := []) (post := [.int .i64 f, .int .i64 (f + u)]) loc rfl (.string ⟨#[65, 100, 97, 109]⟩))
          go_upto_region 10 with (fail)
          have hl2 := HL.out
          have res := Box.keep res hl2.2 (Ne.symm hlr)
          have D := D.store hl2.2 hl2.1.lt.1
          have loc := hl2.1
          clear m0 g0 hl2 HL c0 c1 c2
          generalize w16.setCell ⟨w12.heap.size, 0, none⟩ (.string ⟨#[65, 100, 97, 109]⟩) = WW at res D loc ⊢
          have m0 := loc.cell 0 _ rfl
          have m1 := loc.cell 1 _ rfl
          have m2 := loc.cell 2 _ rfl
          have r0 := res.cell 0 _ rfl
          have r1 := res.cell 1 _ rfl
          have r2 := res.cell 2 _ rfl
          have f0 := World.ownsRow.frozenAt res 0
          have f1 := World.ownsRow.frozenAt res 1
          have f2 := World.ownsRow.frozenAt res 2
          have HP3 := Lib.hid (Box.put3 res (.string ⟨#[65, 100, 97, 109]⟩) (.int .i64 f) (.int .i64 (f + u)))
          go_wp2
          have hp := HP3.out
          have D := D.store hp.2 (Nat.le_refl _)
          generalize ((WW.setCell ⟨w.heap.size, 0, none⟩ (.string ⟨#[65, 100, 97, 109]⟩)).setCell ⟨w.heap.size, 1, none⟩ (.int .i64 f)).setCell ⟨w.heap.size, 2, none⟩ (.int .i64 (f + u)) = Wf at hp D ⊢
          have z0 := hp.1.cell 0 _ rfl
          have z1 := hp.1.cell 1 _ rfl
          have z2 := hp.1.cell 2 _ rfl
          refine bodyPost_ret_by (v := .agg #[.string ⟨#[65, 100, 97, 109]⟩, .int .i64 f, .int .i64 (f + u)]) ?_ rfl ⟨⟨⟨#[65, 100, 97, 109]⟩, f, (f + u)⟩, rfl, okD_mk (by decide) (by omega) (by omega), D.src, D.gr⟩
          simp [results, go_sem, z0, z1, z2]
        · have m0 := loc.cell 0 _ rfl
          have g0 := World.ownsRow.frozenAt loc 0
          have HL := Lib.hid (Box.put (i := 0) (pre := []) (post := [.int .i64 f, .int .i64 (f + u)]) loc rfl (.string ⟨#[97, 98, 99, 100, 101, 102, 103, 104, 105, 106, 107, 108, 109]⟩))
          go_upto_region 10 with (fail)
          have hl2 := HL.out
          have res := Box.keep res hl2.2 (Ne.symm hlr)
          have D := D.store hl2.2 hl2.1.lt.1
          have loc := hl2.1
          clear m0 g0 hl2 HL c0 c1 c2
          generalize w16.setCell ⟨w12.heap.size, 0, none⟩ (.string ⟨#[97, 98, 99, 100, 101, 102, 103, 104, 105, 106, 107, 108, 109]⟩) = WW at res D loc ⊢
          have m0 := loc.cell 0 _ rfl
          have m1 := loc.cell 1 _ rfl
          have m2 := loc.cell 2 _ rfl
          have r0 := res.cell 0 _ rfl
          have r1 := res.cell 1 _ rfl
          have r2 := res.cell 2 _ rfl
          have f0 := World.ownsRow.frozenAt res 0
          have f1 := World.ownsRow.frozenAt res 1
          have f2 := World.ownsRow.frozenAt res 2
          have HP3 := Lib.hid (Box.put3 res (.string ⟨#[97, 98, 99, 100, 101, 102, 103, 104, 105, 106, 107, 108, 109]⟩) (.int .i64 f) (.int .i64 (f + u)))
          go_wp2
          have hp := HP3.out
          have D := D.store hp.2 (Nat.le_refl _)
          generalize ((WW.setCell ⟨w.heap.size, 0, none⟩ (.string ⟨#[97, 98, 99, 100, 101, 102, 103, 104, 105, 106, 107, 108, 109]⟩)).setCell ⟨w.heap.size, 1, none⟩ (.int .i64 f)).setCell ⟨w.heap.size, 2, none⟩ (.int .i64 (f + u)) = Wf at hp D ⊢
          have z0 := hp.1.cell 0 _ rfl
          have z1 := hp.1.cell 1 _ rfl
          have z2 := hp.1.cell 2 _ rfl
          refine bodyPost_ret_by (v := .agg #[.string ⟨#[97, 98, 99, 100, 101, 102, 103, 104, 105, 106, 107, 108, 109]⟩, .int .i64 f, .int .i64 (f + u)]) ?_ rfl ⟨⟨⟨#[97, 98, 99, 100, 101, 102, 103, 104, 105, 106, 107, 108, 109]⟩, f, (f + u)⟩, rfl, okD_mk (by decide) (by omega) (by omega), D.src, D.gr⟩
          simp [results, go_sem, z0, z1, z2]
      · have x1' : (x == 1) = false := by simpa using x1
        have m0 := loc.cell 0 _ rfl
        have m1 := loc.cell 1 _ rfl
        have m2 := loc.cell 2 _ rfl
        have r0 := res.cell 0 _ rfl
        have r1 := res.cell 1 _ rfl
        have r2 := res.cell 2 _ rfl
        have f0 := World.ownsRow.frozenAt res 0
        have f1 := World.ownsRow.frozenAt res 1
        have f2 := World.ownsRow.frozenAt res 2
        have HP3 := Lib.hid (Box.put3 res (.string k) (.int .i64 f) (.int .i64 (f + u)))
        go_wp2
        have hp := HP3.out
        have D := D.store hp.2 (Nat.le_refl _)
        generalize ((w13.setCell ⟨w.heap.size, 0, none⟩ (.string k)).setCell ⟨w.heap.size, 1, none⟩ (.int .i64 f)).setCell ⟨w.heap.size, 2, none⟩ (.int .i64 (f + u)) = Wf at hp D ⊢
        have z0 := hp.1.cell 0 _ rfl
        have z1 := hp.1.cell 1 _ rfl
        have z2 := hp.1.cell 2 _ rfl
        refine bodyPost_ret_by (v := .agg #[.string k, .int .i64 f, .int .i64 (f + u)]) ?_ rfl ⟨⟨k, f, (f + u)⟩, rfl, okD_mk hk (by omega) (by omega), D.src, D.gr⟩
        simp [results, go_sem, z0, z1, z2]
  · have q0' : (q == 0) = false := by simpa using q0
    go_wp2_with fail
    refine (HK.out _ D.src).mono ?_
    rintro e w17 ⟨k, rfl, hk, hs, hG⟩
    have res := Box.keepA res hG D.hp
    have D := D.call hs hG
    clear hs hG
    go_wp2_with fail
    have hrd := rd_lit (w := w17) (c := #[.int .i64 (100), .int .i64 (3000), .int .i64 (9000)]) (xs := [100, 3000, 9000]) (p := p) rfl D.src.lt.2
    have res := Box.below res (belowA w17 (.cells #[.int .i64 (100), .int .i64 (3000), .int .i64 (9000)] 2))
    have D := D.below (belowA w17 (.cells #[.int .i64 (100), .int .i64 (3000), .int .i64 (9000)] 2))
    refine (HP.out _ 3 [100, 3000, 9000] _ D.src hrd (by simp) (by simp)).mono ?_
    rintro e w18 ⟨v, rfl, hv, hs, hG⟩
    have res := Box.keepA res hG D.hp
    have D := D.call hs hG
    clear hs hG
    clear hrd
    have hv2 : 0 ≤ v ∧ v ≤ 9000 := by simp at hv; omega
    clear hv
    go_wp2_with fail
    refine (HN.out v _ (by omega) (by omega) D.src).mono ?_
    rintro e w19 ⟨u, rfl, hu0, hu1, hs, hG⟩
    have res := Box.keepA res hG D.hp
    have D := D.call hs hG
    clear hs hG
    have v3 := i64_in ((420000 + r) + u) (by omega)
    have loc := Box.new w19 115 [.string k, .int .i64 (420000 + r), .int .i64 ((420000 + r) + u)] w.heap.size D.size (by simp)
    have hlr : w19.heap.size ≠ w.heap.size := by have := res.lt; omega
    have res := Box.below res (belowA w19 (.cells #[.string k, .int .i64 (420000 + r), .int .i64 ((420000 + r) + u)] 115))
    have D := D.below (belowA w19 (.cells #[.string k, .int .i64 (420000 + r), .int .i64 ((420000 + r) + u)] 115))
    go_wp2_with fail
    refine (HN.out 60 _ (by decide) (by decide) D.src).mono ?_
    rintro e w20 ⟨x, rfl, hx0, hx1, hs, hG⟩
    have res := Box.keepA res hG D.hp
    have loc := Box.keepA loc hG D.hp
    have D := D.call hs hG
    clear hs hG
    by_cases x0 : x = 0
    · subst x0
      have m1 := loc.cell 1 _ rfl
      have v4 := i64_in ((420000 + r) - 1) (by omega)
      go_wp2_with fail
      have hrd := rd_lit (w := w20) (c := #[.int .i64 ((420000 + r) - 1), .int .i64 (730499), .int .i64 (730500)]) (xs := [(420000 + r) - 1, 730499, 730500]) (p := p) rfl D.src.lt.2
      have res := Box.below res (belowA w20 (.cells #[.int .i64 ((420000 + r) - 1), .int .i64 (730499), .int .i64 (730500)] 2))
      have loc := Box.below loc (belowA w20 (.cells #[.int .i64 ((420000 + r) - 1), .int .i64 (730499), .int .i64 (730500)] 2))
      have D := D.below (belowA w20 (.cells #[.int .i64 ((420000 + r) - 1), .int .i64 (730499), .int .i64 (730500)] 2))
      refine (HP.out _ 3 [(420000 + r) - 1, 730499, 730500] _ D.src hrd (by simp) (by simp)).mono ?_
      rintro e w21 ⟨y, rfl, hy, hs, hG⟩
      have res := Box.keepA res hG D.hp
      have loc := Box.keepA loc hG D.hp
      have D := D.call hs hG
      clear hs hG
      clear hrd
      have hy2 : -2000 ≤ y ∧ y ≤ 3000000 := by simp at hy; omega
      clear hy m1
      have m2 := loc.cell 2 _ rfl
      have g2 := World.ownsRow.frozenAt loc 2
      have HL := Lib.hid (Box.put (i := 2) (pre := [.string k, .int .i64 (420000 + r)]) (post := []) loc rfl (.int .i64 y))
      go_upto_region 10 with (fail)
      have hl2 := HL.out
      have res := Box.keep res hl2.2 (Ne.symm hlr)
      have D := D.store hl2.2 hl2.1.lt.1
      have loc := hl2.1
      clear m2 g2 hl2 HL
      generalize w21.setCell ⟨w19.heap.size, 2, none⟩ (.int .i64 y) = w22 at res D loc ⊢
      have m0 := loc.cell 0 _ rfl
      have m1 := loc.cell 1 _ rfl
      have m2 := loc.cell 2 _ rfl
      have r0 := res.cell 0 _ rfl
      have r1 := res.cell 1 _ rfl
      have r2 := res.cell 2 _ rfl
      have f0 := World.ownsRow.frozenAt res 0
      have f1 := World.ownsRow.frozenAt res 1
      have f2 := World.ownsRow.frozenAt res 2
      have HP3 := Lib.hid (Box.put3 res (.string k) (.int .i64 (420000 + r)) (.int .i64 y))
      go_wp2
      have hp := HP3.out
      have D := D.store hp.2 (Nat.le_refl _)
      generalize ((w22.setCell ⟨w.heap.size, 0, none⟩ (.string k)).setCell ⟨w.heap.size, 1, none⟩ (.int .i64 (420000 + r))).setCell ⟨w.heap.size, 2, none⟩ (.int .i64 y) = Wf at hp D ⊢
      have z0 := hp.1.cell 0 _ rfl
      have z1 := hp.1.cell 1 _ rfl
      have z2 := hp.1.cell 2 _ rfl
      refine bodyPost_ret_by (v := .agg #[.string k, .int .i64 (420000 + r), .int .i64 y]) ?_ rfl ⟨⟨k, (420000 + r), y⟩, rfl, okD_mk hk (by omega) (by omega), D.src, D.gr⟩
      simp [results, go_sem, z0, z1, z2]
    · have x0' : (x == 0) = false := by simpa using x0
      by_cases x1 : x = 1
      · subst x1
        go_wp2_with fail
        generalize hWs : w20.alloc (.cells #[.string ⟨#[]⟩, .string ⟨#[65, 100, 97, 109]⟩, .string ⟨#[97, 98, 99, 100, 101, 102, 103, 104, 105, 106, 107, 108, 109]⟩] 9) = Ws
        have hBs : Below w20.heap.size w20 Ws := by rw [← hWs]; exact belowA _ _
        have hlt : w20.heap.size < Ws.heap.size := by rw [← hWs]; simp
        have c0 : Ws.cell? ⟨w20.heap.size, 0, none⟩ = some (.string ⟨#[]⟩) := by rw [← hWs]; exact World.cell?_alloc_at _ _ _ _ rfl
        have c1 : Ws.cell? ⟨w20.heap.size, 1, none⟩ = some (.string ⟨#[65, 100, 97, 109]⟩) := by rw [← hWs]; exact World.cell?_alloc_at _ _ _ _ rfl
        have c2 : Ws.cell? ⟨w20.heap.size, 2, none⟩ = some (.string ⟨#[97, 98, 99, 100, 101, 102, 103, 104, 105, 106, 107, 108, 109]⟩) := by rw [← hWs]; exact World.cell?_alloc_at _ _ _ _ rfl
        clear hWs
        have hne : w20.heap.size ≠ p := Nat.ne_of_gt D.src.lt.2
        have res := Box.below res hBs
        have loc := Box.below loc hBs
        have D := D.below hBs
        refine (HN.out 3 _ (by decide) (by decide) D.src).mono ?_
        rintro e w23 ⟨y, rfl, hy0, hy1, hs, hG⟩
        have c0 := D.cell hG c0 hlt hne
        have c1 := D.cell hG c1 hlt hne
        have c2 := D.cell hG c2 hlt hne
        have res := Box.keepA res hG D.hp
        have loc := Box.keepA loc hG D.hp
        have D := D.call hs hG
        clear hs hG hBs
        obtain rfl | rfl | rfl : y = 0 ∨ y = 1 ∨ y = 2 := by omega
        · have m0 := loc.cell 0 _ rfl
          have g0 := World.ownsRow.frozenAt loc 0
          have HL := Lib.hid (Box.put (i := 0) (pre := []) (post := [.int .i64 (420000 + r), .int .i64 ((420000 + r) + u)]) loc rfl (.string ⟨#[]⟩))
          go_upto_region 10 with (fail)
          have hl2 := HL.out
          have res := Box.keep res hl2.2 (Ne.symm hlr)
          have D := D.store hl2.2 hl2.1.lt.1
          have loc := hl2.1
          clear m0 g0 hl2 HL c0 c1 c2
          generalize w23.setCell ⟨w19.heap.size, 0, none⟩ (.string ⟨#[]⟩) = WW at res D loc ⊢
          have m0 := loc.cell 0 _ rfl
          have m1 := loc.cell 1 _ rfl
          have m2 := loc.cell 2 _ rfl
          have r0 := res.cell 0 _ rfl
          have r1 := res.cell 1 _ rfl
          have r2 := res.cell 2 _ rfl
          have f0 := World.ownsRow.frozenAt res 0
          have f1 := World.ownsRow.frozenAt res 1
          have f2 := World.ownsRow.frozenAt res 2
          have HP3 := Lib.hid (Box.put3 res (.string ⟨#[]⟩) (.int .i64 (420000 + r)) (.int .i64 ((420000 + r) + u)))
          go_wp2
          have hp := HP3.out
          have D := D.store hp.2 (Nat.le_refl _)
          generalize ((WW.setCell ⟨w.heap.size, 0, none⟩ (.string ⟨#[]⟩)).setCell ⟨w.heap.size, 1, none⟩ (.int .i64 (420000 + r))).setCell ⟨w.heap.size, 2, none⟩ (.int .i64 ((420000 + r) + u)) = Wf at hp D ⊢
          have z0 := hp.1.cell 0 _ rfl
          have z1 := hp.1.cell 1 _ rfl
          have z2 := hp.1.cell 2 _ rfl
          refine bodyPost_ret_by (v := .agg #[.string ⟨#[]⟩, .int .i64 (420000 + r), .int .i64 ((420000 + r) + u)]) ?_ rfl ⟨⟨⟨#[]⟩, (420000 + r), ((420000 + r) + u)⟩, rfl, okD_mk (by decide) (by omega) (by omega), D.src, D.gr⟩
          simp [results, go_sem, z0, z1, z2]
        · have m0 := loc.cell 0 _ rfl
          have g0 := World.ownsRow.frozenAt loc 0
          have HL := Lib.hid (Box.put (i := 0) (pre := []) (post := [.int .i64 (420000 + r), .int .i64 ((420000 + r) + u)]) loc rfl (.string ⟨#[65, 100, 97, 109]⟩))
          go_upto_region 10 with (fail)
          have hl2 := HL.out
          have res := Box.keep res hl2.2 (Ne.symm hlr)
          have D := D.store hl2.2 hl2.1.lt.1
          have loc := hl2.1
          clear m0 g0 hl2 HL c0 c1 c2
          generalize w23.setCell ⟨w19.heap.size, 0, none⟩ (.string ⟨#[65, 100, 97, 109]⟩) = WW at res D loc ⊢
          have m0 := loc.cell 0 _ rfl
          have m1 := loc.cell 1 _ rfl
          have m2 := loc.cell 2 _ rfl
          have r0 := res.cell 0 _ rfl
          have r1 := res.cell 1 _ rfl
          have r2 := res.cell 2 _ rfl
          have f0 := World.ownsRow.frozenAt res 0
          have f1 := World.ownsRow.frozenAt res 1
          have f2 := World.ownsRow.frozenAt res 2
          have HP3 := Lib.hid (Box.put3 res (.string ⟨#[65, 100, 97, 109]⟩) (.int .i64 (420000 + r)) (.int .i64 ((420000 + r) + u)))
          go_wp2
          have hp := HP3.out
          have D := D.store hp.2 (Nat.le_refl _)
          generalize ((WW.setCell ⟨w.heap.size, 0, none⟩ (.string ⟨#[65, 100, 97, 109]⟩)).setCell ⟨w.heap.size, 1, none⟩ (.int .i64 (420000 + r))).setCell ⟨w.heap.size, 2, none⟩ (.int .i64 ((420000 + r) + u)) = Wf at hp D ⊢
          have z0 := hp.1.cell 0 _ rfl
          have z1 := hp.1.cell 1 _ rfl
          have z2 := hp.1.cell 2 _ rfl
          refine bodyPost_ret_by (v := .agg #[.string ⟨#[65, 100, 97, 109]⟩, .int .i64 (420000 + r), .int .i64 ((420000 + r) + u)]) ?_ rfl ⟨⟨⟨#[65, 100, 97, 109]⟩, (420000 + r), ((420000 + r) + u)⟩, rfl, okD_mk (by decide) (by omega) (by omega), D.src, D.gr⟩
          simp [results, go_sem, z0, z1, z2]
        · have m0 := loc.cell 0 _ rfl
          have g0 := World.ownsRow.frozenAt loc 0
          have HL := Lib.hid (Box.put (i := 0) (pre := []) (post := [.int .i64 (420000 + r), .int .i64 ((420000 + r) + u)]) loc rfl (.string ⟨#[97, 98, 99, 100, 101, 102, 103, 104, 105, 106, 107, 108, 109]⟩))
          go_upto_region 10 with (fail)
          have hl2 := HL.out
          have res := Box.keep res hl2.2 (Ne.symm hlr)
          have D := D.store hl2.2 hl2.1.lt.1
          have loc := hl2.1
          clear m0 g0 hl2 HL c0 c1 c2
          generalize w23.setCell ⟨w19.heap.size, 0, none⟩ (.string ⟨#[97, 98, 99, 100, 101, 102, 103, 104, 105, 106, 107, 108, 109]⟩) = WW at res D loc ⊢
          have m0 := loc.cell 0 _ rfl
          have m1 := loc.cell 1 _ rfl
          have m2 := loc.cell 2 _ rfl
          have r0 := res.cell 0 _ rfl
          have r1 := res.cell 1 _ rfl
          have r2 := res.cell 2 _ rfl
          have f0 := World.ownsRow.frozenAt res 0
          have f1 := World.ownsRow.frozenAt res 1
          have f2 := World.ownsRow.frozenAt res 2
          have HP3 := Lib.hid (Box.put3 res (.string ⟨#[97, 98, 99, 100, 101, 102, 103, 104, 105, 106, 107, 108, 109]⟩) (.int .i64 (420000 + r)) (.int .i64 ((420000 + r) + u)))
          go_wp2
          have hp := HP3.out
          have D := D.store hp.2 (Nat.le_refl _)
          generalize ((WW.setCell ⟨w.heap.size, 0, none⟩ (.string ⟨#[97, 98, 99, 100, 101, 102, 103, 104, 105, 106, 107, 108, 109]⟩)).setCell ⟨w.heap.size, 1, none⟩ (.int .i64 (420000 + r))).setCell ⟨w.heap.size, 2, none⟩ (.int .i64 ((420000 + r) + u)) = Wf at hp D ⊢
          have z0 := hp.1.cell 0 _ rfl
          have z1 := hp.1.cell 1 _ rfl
          have z2 := hp.1.cell 2 _ rfl
          refine bodyPost_ret_by (v := .agg #[.string ⟨#[97, 98, 99, 100, 101, 102, 103, 104, 105, 106, 107, 108, 109]⟩, .int .i64 (420000 + r), .int .i64 ((420000 + r) + u)]) ?_ rfl ⟨⟨⟨#[97, 98, 99, 100, 101, 102, 103, 104, 105, 106, 107, 108, 109]⟩, (420000 + r), ((420000 + r) + u)⟩, rfl, okD_mk (by decide) (by omega) (by omega), D.src, D.gr⟩
          simp [results, go_sem, z0, z1, z2]
      · have x1' : (x == 1) = false := by simpa using x1
        have m0 := loc.cell 0 _ rfl
        have m1 := loc.cell 1 _ rfl
        have m2 := loc.cell 2 _ rfl
        have r0 := res.cell 0 _ rfl
        have r1 := res.cell 1 _ rfl
        have r2 := res.cell 2 _ rfl
        have f0 := World.ownsRow.frozenAt res 0
        have f1 := World.ownsRow.frozenAt res 1
        have f2 := World.ownsRow.frozenAt res 2
        have HP3 := Lib.hid (Box.put3 res (.string k) (.int .i64 (420000 + r)) (.int .i64 ((420000 + r) + u)))
        go_wp2
        have hp := HP3.out
        have D := D.store hp.2 (Nat.le_refl _)
        generalize ((w20.setCell ⟨w.heap.size, 0, none⟩ (.string k)).setCell ⟨w.heap.size, 1, none⟩ (.int .i64 (420000 + r))).setCell ⟨w.heap.size, 2, none⟩ (.int .i64 ((420000 + r) + u)) = Wf at hp D ⊢
        have z0 := hp.1.cell 0 _ rfl
        have z1 := hp.1.cell 1 _ rfl
        have z2 := hp.1.cell 2 _ rfl
        refine bodyPost_ret_by (v := .agg #[.string k, .int .i64 (420000 + r), .int .i64 ((420000 + r) + u)]) ?_ rfl ⟨⟨k, (420000 + r), ((420000 + r) + u)⟩, rfl, okD_mk hk (by omega) (by omega), D.src, D.gr⟩
        simp [results, go_sem, z0, z1, z2]
end

section
open Go.ChangeShapes Go.WideShapes Go.ChangeAt Go.RowKit Go.IntWalk

theorem swap_split {α : Type} {ys : List α} {b : Nat} (h : b + 1 < ys.length) : ∃ pre q m post, ys = pre ++ q :: m :: post ∧ pre.length = b := by
  refine ⟨ys.take b, ys[b], ys[b + 1], ys.drop (b + 2), ?_, by simp; omega⟩
  rw [← List.drop_eq_getElem_cons, ← List.drop_eq_getElem_cons, List.take_append_drop]
set_option maxRecDepth 100000 in
set_option maxHeartbeats 8000000 in
theorem l07Draw_any (w0 : World) (cs : Option Addr) (cap : Nat) (bs : List Int) (p : Nat) (w : World) (hx : Rd encB w0 cs bs) (hb : ∀ m ∈ bs, goodB m) (hl : bs.length ≤ 4096) (hs : Src w0 cs cap bs p w) :
    Calls Tryz.prog 92 #[.pointer (some ⟨p, 0, none⟩)] w fun e w' => ∃ (g c : Nat) (rs : List Rg), e = .returned (.slice (some ⟨g, 0, none⟩) rs.length c) ∧ rs.length ≤ 31 ∧ (∀ m ∈ rs, okD m) ∧ w'.ownsRow w.heap.size 115 3 (.slice (some ⟨g, 0, none⟩) rs.length c) rs.length (rs.flatMap encRg) ∧ Src w0 cs cap bs p w' ∧ w.grownBy w' (some p) := by
  obtain ⟨ir, hir, hr0, hr1, hr2⟩ := info_parts infoRg
  have D := Drw.start hs
  have hown : (w.alloc (.cells #[] 115)).ownsRow w.heap.size 115 3 (.slice (some ⟨w.heap.size, 0, none⟩) 0 0) 0 [] := World.ownsRow_made w #[] 0 (Nat.le_refl _) (by decide) rfl
  have D := D.below (belowA w (.cells #[] 115))
  have HN := Lib.hid (fun n W hn1 hn2 hs => l01Next_any w0 cs cap bs p n W hx hb hl hn1 hn2 hs)
  have HK := Lib.hid (fun W hs => l07DrawReign_any w0 cs cap bs p W hx hb hl hs)
  clear hs
  go_enter Tryz.func92, Tryz.ntmps92
  go_wp2_with fail
  refine (HN.out 5 _ (by decide) (by decide) D.src).mono ?_
  rintro e w1 ⟨r, rfl, hr0', hr1', hs, hG⟩
  have hown := own_keepA hown hG D.hp
  have D := D.call hs hG
  clear hs hG
  obtain ⟨k, rfl⟩ : ∃ k : Nat, r = k := ⟨r.toNat, by omega⟩
  have hk : k ≤ 4 := by omega
  clear hr0' hr1'
  go_wp2
  go_loopw [3, 4] (fun s i wr => ∃ (k g c : Nat) (out : List Rg), i = .int .i64 k ∧ out.length + k ≤ 4 ∧ s = .slice (some ⟨g, 0, none⟩) out.length c ∧ (∀ m ∈ out, okD m) ∧ wr.ownsRow w.heap.size 115 3 (.slice (some ⟨g, 0, none⟩) out.length c) out.length (out.flatMap encRg) ∧ Drw w0 cs cap bs p w wr) (fun _ i _ => (intOf i).toNat)
  case atStart => exact ⟨k, _, _, [], rfl, by simpa using hk, rfl, by simp, hown, D⟩
  case round =>
    clear hown D hk
    obtain ⟨k, g, c, out, rfl, hlen, rfl, hall, hown, D⟩ := hrel
    by_cases hk : k = 0
    · subst hk
      go_wp2_with fail
      refine (HN.out 60 _ (by decide) (by decide) D.src).mono ?_
      rintro e w2 ⟨x, rfl, hx0, hx1, hs, hG⟩
      have hown := own_keepA hown hG D.hp
      have D := D.call hs hG
      clear hs hG
      by_cases x0 : x = 0
      · subst x0
        have hown : (w2.alloc (.cells #[] 115)).ownsRow w.heap.size 115 3 (.slice (some ⟨w2.heap.size, 0, none⟩) 0 0) 0 [] := World.ownsRow_made w2 #[] 0 D.size (by decide) rfl
        have D := D.below (belowA w2 (.cells #[] 115))
        go_wp2_with fail
        refine (HN.out 2 _ (by decide) (by decide) D.src).mono ?_
        rintro e w3 ⟨y, rfl, hy0, hy1, hs, hG⟩
        have hown := own_keepA hown hG D.hp
        have D := D.call hs hG
        clear hs hG
        have v1 := i64_in (30 + y) (by omega)
        obtain ⟨k, hk⟩ : ∃ k : Nat, 30 + y = k := ⟨(30 + y).toNat, by omega⟩
        have hk31 : k ≤ 31 := by omega
        rw [hk] at v1
        clear hall
        go_wp2
        try rw [hk]
        go_loopw [3, 8] (fun s i wr => ∃ (k g c : Nat) (out : List Rg), i = .int .i64 k ∧ out.length + k ≤ 31 ∧ s = .slice (some ⟨g, 0, none⟩) out.length c ∧ (∀ m ∈ out, okD m) ∧ wr.ownsRow w.heap.size 115 3 (.slice (some ⟨g, 0, none⟩) out.length c) out.length (out.flatMap encRg) ∧ Drw w0 cs cap bs p w wr) (fun _ i _ => (intOf i).toNat)
        case atStart => exact ⟨k, _, _, [], rfl, by simpa using hk31, rfl, by simp, hown, D⟩
        case round =>
          clear hown D hk31 hk v1
          obtain ⟨k, g, c, out, rfl, hlen, rfl, hall, hown, D⟩ := hrel
          by_cases hk : k = 0
          · subst hk
            go_wp2
            go_ret
            exact ⟨g, c, out, rfl, by omega, hall, hown, D.src, D.gr⟩
          · have hk1 : (0 : Int) < (k : Int) := by omega
            have v1 := i64_in (1000 + (k : Int)) (by omega)
            have v2 := i64_in ((k : Int) - 1) (by omega)
            have v3 : ((k - 1 : Nat) : Int) = (k : Int) - 1 := by omega
            go_wp2_with (at_builtin; refine wpList_append_own _ rfl _ _ 41 rfl w.heap.size 115 ir (.agg #[.string ⟨#[]⟩, .int .i64 0, .int .i64 0]) 3 32 Tryz.underlying41 hir hr0 hr1 hr2 rfl (by decide) _ _ _ rfl (hown.alloc _) ⟨wr.heap.size, 0, none⟩ 1 1 [.string ⟨#[120]⟩, .int .i64 1000, .int .i64 (1000 + (k : Int))] rfl rfl (World.news_of_block (heap_alloc_new _ _)) ?c2 ?c3 ?c4 ?c5 ?_)
            case c2 => intro u hu; simp at hu; rcases hu with rfl | rfl | rfl <;> rfl
            case c3 => unfold maxLen; omega
            case c4 => omega
            case c5 => have := D.size; simp; omega
            intro v' w4 hown' hgr _
            have D' := (D.below (belowA wr (.cells #[.string ⟨#[120]⟩, .int .i64 1000, .int .i64 (1000 + (k : Int))] 115))).grown hgr (fun g e => (hown.lt g e).1)
            obtain ⟨g', c', rfl⟩ := formJ hown' (by omega)
            clear hgr hown D
            go_wp2
            go_roundw
            case rel => exact ⟨k - 1, g', c', out ++ [⟨⟨#[120]⟩, 1000, 1000 + (k : Int)⟩], by rw [v3], by simp; omega, by rw [List.length_append]; rfl, fun m hm => by rcases List.mem_append.1 hm with hm | hm; exact hall m hm; simp at hm; subst hm; exact okD_mk (by decide) (by decide) (by omega), by rw [List.length_append, List.flatMap_append]; exact hown', D'⟩
            case measure => simp [intOf]; omega
      · have x0' : (x == 0) = false := by simpa using x0
        go_wp2
        go_ret
        exact ⟨g, c, out, rfl, by omega, hall, hown, D.src, D.gr⟩
    · have hk1 : (0 : Int) < (k : Int) := by omega
      have v2 := i64_in ((k : Int) - 1) (by omega)
      have v3 : ((k - 1 : Nat) : Int) = (k : Int) - 1 := by omega
      go_wp2_with fail
      refine (HK.out _ D.src).mono ?_
      rintro e w4 ⟨m, rfl, hm, hs, hG⟩
      have hown := own_keepA hown hG D.hp
      have D := D.call hs hG
      clear hs hG
      have loc := Box.new w4 115 [.string m.king, .int .i64 m.fr, .int .i64 m.to] w.heap.size D.size (by simp)
      have hlr : w4.heap.size ≠ g := by have := (own_lt hown).2; omega
      have hown := own_below hown (belowA w4 (.cells #[.string m.king, .int .i64 m.fr, .int .i64 m.to] 115))
      have D := D.below (belowA w4 (.cells #[.string m.king, .int .i64 m.fr, .int .i64 m.to] 115))
      go_upto_region 7 with (fail)
      generalize w4.alloc (.cells #[.string m.king, .int .i64 m.fr, .int .i64 m.to] 115) = w4a at hown D loc ⊢
      have m0 := Box.cell loc 0 _ rfl
      have m1 := Box.cell loc 1 _ rfl
      have m2 := Box.cell loc 2 _ rfl
      go_wp2_with (at_builtin; refine wpList_append_own _ rfl _ _ 41 rfl w.heap.size 115 ir (.agg #[.string ⟨#[]⟩, .int .i64 0, .int .i64 0]) 3 32 Tryz.underlying41 hir hr0 hr1 hr2 rfl (by decide) _ _ _ rfl (hown.alloc _) ⟨w4a.heap.size, 0, none⟩ 1 1 [.string m.king, .int .i64 m.fr, .int .i64 m.to] rfl rfl (World.news_of_block (heap_alloc_new _ _)) ?c2 ?c3 ?c4 ?c5 ?_)
      case c2 => intro u hu; simp at hu; rcases hu with rfl | rfl | rfl <;> rfl
      case c3 => unfold maxLen; omega
      case c4 => omega
      case c5 => have := D.size; simp; omega
      intro v' w4 hown' hgr _
      have D' := (D.below (belowA w4a (.cells #[.string m.king, .int .i64 m.fr, .int .i64 m.to] 115))).grown hgr (fun g e => (hown.lt g e).1)
      obtain ⟨g', c', rfl⟩ := formJ hown' (by omega)
      have hown' : w4.ownsRow w.heap.size 115 3 (.slice (some ⟨g', 0, none⟩) (out.length + 1) c') (out.length + 1) ((out ++ [m]).flatMap encRg) := by rw [List.flatMap_append]; exact hown'
      have hall' : ∀ x ∈ out ++ [m], okD x := fun x hx => by
        rcases List.mem_append.1 hx with hx | hx
        · exact hall x hx
        · simp at hx; subst hx; exact hm
      have hl1 : (out ++ [m]).length = out.length + 1 := by simp
      generalize out ++ [m] = ys at hown' hall' hl1
      clear hgr hown D loc m0 m1 m2 hlr hall hm
      generalize hN : out.length = N at hown' hl1 hlen ⊢
      clear hN
      go_wp2
      go_loopw [6] (fun i wr => ∃ (a : Nat) (z : Int) (ys : List Rg), i = .int .i64 z ∧ z = a ∧ a < ys.length ∧ ys.length = N + 1 ∧ (∀ m ∈ ys, okD m) ∧ wr.ownsRow w.heap.size 115 3 (.slice (some ⟨g', 0, none⟩) (N + 1) c') (N + 1) (ys.flatMap encRg) ∧ Drw w0 cs cap bs p w wr) (fun i _ => (intOf i).toNat)
      case atStart => exact ⟨N, _, ys, rfl, rfl, by omega, hl1, hall', hown', D'⟩
      case round =>
        clear hown' D' hall' hl1
        obtain ⟨a, z, ys, rfl, hz, ha, hl1, hall', hown, D⟩ := hrel
        rcases Nat.eq_zero_or_pos a with rfl | ha0
        · obtain rfl : z = 0 := hz
          go_wp2_with fail
          refine wp_region_later _ (by kernel_rfl) (by kernel_rfl) ?_
          repeat (go_big_quiet_step (fail))
          refine wpQuiet_nil ?_
          intro zz
          have hzz := zz.prop
          generalize zz.val = w5 at hzz
          have hown := own_below hown hzz
          have D := D.below hzz
          clear hzz
          go_wp2
          go_roundw
          case rel => exact ⟨k - 1, g', c', ys, by rw [v3], by omega, by rw [hl1], hall', by rw [hl1]; exact hown, D⟩
          case measure => simp [intOf]; omega
        · obtain ⟨b, rfl⟩ : ∃ b, a = b + 1 := ⟨a - 1, by omega⟩
          obtain rfl : z = (b : Int) + 1 := by omega
          clear hz
          have hb1 : (0 : Int) < (b : Int) + 1 := by omega
          have hb2 : (b : Int) < (N : Int) + 1 := by omega
          have hb3 : (b : Int) < (N : Int) := by omega
          have v4 := i64_in (b : Int) (by omega)
          obtain ⟨pre, q, m, post, rfl, hpl⟩ := swap_split ha
          have hq := own_at encRg_len hown (i := b) (x := q) (by simp [← hpl]) (j := 1) rfl
          have hm := own_at encRg_len hown (i := b + 1) (x := m) (by simp [← hpl]) (j := 1) rfl
          have hgl := own_lt hown
          by_cases hls : m.fr < q.fr
          · have D0 := D.below (Below.refl _ wr).drew
            have hown0 := own_below hown (Below.refl _ wr).drew
            have hgp : g' ≠ p := by have := D.hp; omega
            go_wp2_with fail
            go_region_held_law (fun w' => w'.cell? ⟨g', b * 3 + 1, none⟩ = some (.int .i64 q.fr) ∧ w'.cell? ⟨g', (b + 1) * 3 + 1, none⟩ = some (.int .i64 m.fr)) (first | exact ⟨hq, hm⟩ | exact ⟨D0.cell hG hq hgl.2 hgp, D0.cell hG hm hgl.2 hgp⟩) (first | (go_at_call 47; refine (HN.out 60 _ (by decide) (by decide) D0.src).mono ?_; rintro e w5 ⟨x, rfl, hx0, hx1, hs, hG⟩) | fail)
            have hown := own_keepA hown0 hG D0.hp
            have D := D0.call hs hG
            clear hs hG D0 hown0 hq hm
            by_cases hx : x = 0
            · have hx' : decide (0 < x) = false := by simp; omega
              go_wp2
              go_roundw
              case rel => exact ⟨k - 1, g', c', _, by rw [v3], by omega, by rw [hl1], hall', by rw [hl1]; exact hown, D⟩
              case measure => simp [intOf]; omega
            · have hx' : 0 < x := by omega
              have e0 : w5.cell? ⟨g', b * 3, none⟩ = some (.string q.king) := own_at encRg_len hown (i := b) (x := q) (by simp [← hpl]) (j := 0) rfl
              have e1 : w5.cell? ⟨g', b * 3 + 1, none⟩ = some (.int .i64 q.fr) := own_at encRg_len hown (i := b) (x := q) (by simp [← hpl]) (j := 1) rfl
              have e2 : w5.cell? ⟨g', b * 3 + 2, none⟩ = some (.int .i64 q.to) := own_at encRg_len hown (i := b) (x := q) (by simp [← hpl]) (j := 2) rfl
              have loc := Box.new w5 115 [.string q.king, .int .i64 q.fr, .int .i64 q.to] w.heap.size D.size (by simp)
              have hne : g' ≠ w5.heap.size := by have := (own_lt hown).2; omega
              have hBA := belowA w5 (.cells #[.string q.king, .int .i64 q.fr, .int .i64 q.to] 115)
              go_upto_region 10 with (fail)
              have hown := own_below hown hBA
              have D := D.below hBA
              generalize w5.alloc (.cells #[.string q.king, .int .i64 q.fr, .int .i64 q.to] 115) = w6 at hown D loc ⊢
              generalize w5.heap.size = lb at loc hne ⊢
              clear e0 e1 e2 hBA
              have m0 : w6.cell? ⟨g', (b + 1) * 3, none⟩ = some (.string m.king) := own_at encRg_len hown (i := b + 1) (x := m) (by simp [← hpl]) (j := 0) rfl
              have m1 : w6.cell? ⟨g', (b + 1) * 3 + 1, none⟩ = some (.int .i64 m.fr) := own_at encRg_len hown (i := b + 1) (x := m) (by simp [← hpl]) (j := 1) rfl
              have m2 : w6.cell? ⟨g', (b + 1) * 3 + 2, none⟩ = some (.int .i64 m.to) := own_at encRg_len hown (i := b + 1) (x := m) (by simp [← hpl]) (j := 2) rfl
              have q0 : w6.cell? ⟨g', b * 3, none⟩ = some (.string q.king) := own_at encRg_len hown (i := b) (x := q) (by simp [← hpl]) (j := 0) rfl
              have q1 : w6.cell? ⟨g', b * 3 + 1, none⟩ = some (.int .i64 q.fr) := own_at encRg_len hown (i := b) (x := q) (by simp [← hpl]) (j := 1) rfl
              have q2 : w6.cell? ⟨g', b * 3 + 2, none⟩ = some (.int .i64 q.to) := own_at encRg_len hown (i := b) (x := q) (by simp [← hpl]) (j := 2) rfl
              have f0 := hown.frozenAt (b * 3)
              have f1 := hown.frozenAt (b * 3 + 1)
              have f2 := hown.frozenAt (b * 3 + 2)
              have hput := own_putRow encRg_len hown hpl.symm m
              have hpu : (((w6.setCell ⟨g', b * 3, none⟩ (.string m.king)).setCell ⟨g', b * 3 + 1, none⟩ (.int .i64 m.fr)).setCell ⟨g', b * 3 + 2, none⟩ (.int .i64 m.to)).ownsRow w.heap.size 115 3 (.slice (some ⟨g', 0, none⟩) (N + 1) c') (N + 1) ((pre ++ m :: m :: post).flatMap encRg) := hput.1
              have hpg : w6.grownBy (((w6.setCell ⟨g', b * 3, none⟩ (.string m.king)).setCell ⟨g', b * 3 + 1, none⟩ (.int .i64 m.fr)).setCell ⟨g', b * 3 + 2, none⟩ (.int .i64 m.to)) (some g') := hput.2
              clear hput
              go_upto_region 11 with (fail)
              have D := D.store hpg (own_lt hown).1
              have loc := Box.keep loc hpg (Ne.symm hne)
              clear m0 m1 m2 q0 q1 q2 f0 f1 f2 hown hpg
              generalize ((w6.setCell ⟨g', b * 3, none⟩ (.string m.king)).setCell ⟨g', b * 3 + 1, none⟩ (.int .i64 m.fr)).setCell ⟨g', b * 3 + 2, none⟩ (.int .i64 m.to) = w7 at hpu D loc ⊢
              have hpu : w7.ownsRow w.heap.size 115 3 (.slice (some ⟨g', 0, none⟩) (N + 1) c') (N + 1) (((pre ++ [m]) ++ m :: post).flatMap encRg) := by simpa using hpu
              have hpl2 : b + 1 = (pre ++ [m]).length := by simp [hpl]
              have m0 : w7.cell? ⟨g', (b + 1) * 3, none⟩ = some (.string m.king) := own_at encRg_len hpu (i := b + 1) (x := m) (by rw [hpl2]; simp) (j := 0) rfl
              have m1 : w7.cell? ⟨g', (b + 1) * 3 + 1, none⟩ = some (.int .i64 m.fr) := own_at encRg_len hpu (i := b + 1) (x := m) (by rw [hpl2]; simp) (j := 1) rfl
              have m2 : w7.cell? ⟨g', (b + 1) * 3 + 2, none⟩ = some (.int .i64 m.to) := own_at encRg_len hpu (i := b + 1) (x := m) (by rw [hpl2]; simp) (j := 2) rfl
              have f0 := hpu.frozenAt ((b + 1) * 3)
              have f1 := hpu.frozenAt ((b + 1) * 3 + 1)
              have f2 := hpu.frozenAt ((b + 1) * 3 + 2)
              have l0 := Box.cell loc 0 _ rfl
              have l1 := Box.cell loc 1 _ rfl
              have l2 := Box.cell loc 2 _ rfl
              have hput := own_putRow encRg_len hpu hpl2 q
              have HPU : Hid ((((w7.setCell ⟨g', (b + 1) * 3, none⟩ (.string q.king)).setCell ⟨g', (b + 1) * 3 + 1, none⟩ (.int .i64 q.fr)).setCell ⟨g', (b + 1) * 3 + 2, none⟩ (.int .i64 q.to)).ownsRow w.heap.size 115 3 (.slice (some ⟨g', 0, none⟩) (N + 1) c') (N + 1) (((pre ++ [m]) ++ q :: post).flatMap encRg)) := hput.1
              have HPG : Hid (w7.grownBy (((w7.setCell ⟨g', (b + 1) * 3, none⟩ (.string q.king)).setCell ⟨g', (b + 1) * 3 + 1, none⟩ (.int .i64 q.fr)).setCell ⟨g', (b + 1) * 3 + 2, none⟩ (.int .i64 q.to)) (some g')) := hput.2
              have v5 : IntKind.i64.wrap ((b : Int) + 1 - 1) = b := by rw [show (b : Int) + 1 - 1 = b by omega]; exact v4
              clear hput loc hne hpl2
              go_wp2

              go_roundw
              case rel => exact ⟨b, b, (pre ++ [m]) ++ q :: post, rfl, rfl, by simp; omega, by simpa using hl1, fun x hx => hall' x (by simp at hx ⊢; rcases hx with hx | hx | hx | hx <;> simp [hx]), HPU.out, D.store HPG.out (own_lt hpu).1⟩
              case measure => simp [intOf]
          · have hls' : decide (m.fr < q.fr) = false := by simpa using hls
            have Q := Later.cell hq hgl.2
            have M := Later.cell hm hgl.2
            go_wp2_with fail
            refine wp_region_later _ (by kernel_rfl) (by kernel_rfl) ?_
            repeat (go_big_quiet_step (fail))
            refine wpQuiet_nil ?_
            intro zz
            have hzz := zz.prop
            generalize zz.val = w5 at hzz
            clear Q M hq hm
            have hown := own_below hown hzz
            have D := D.below hzz
            clear hzz
            go_wp2
            go_roundw
            case rel => exact ⟨k - 1, g', c', _, by rw [v3], by omega, by rw [hl1], hall', by rw [hl1]; exact hown, D⟩
            case measure => simp [intOf]; omega
end

section
open Go.ChangeShapes Go.WideShapes Go.ChangeAt Go.RowKit Go.IntWalk

set_option maxRecDepth 100000 in
set_option maxHeartbeats 4000000 in
theorem nearest_any (n : Int) (w : World) (hn0 : 0 ≤ n) (hn : n ≤ 730499) :
    Calls Tryz.prog 123 #[.int .i64 n] w fun e w' => ∃ f a : Int, e = .returned (.tuple #[.int .i64 f, .int .i64 a, .int .i64 0]) ∧ (0 ≤ f ∧ f ≤ 19) ∧ Below w.heap.size w w' := by
  have HD := Lib.hid (fun W => l01Old_any n W hn0 hn)
  have hyb := yrO_bd hn0 hn
  have hfd := fldY (yrO n) (mnO n) (dyO n)
  have hday : dayB n = true := by unfold dayB inB; simp; omega
  have HDay := Lib.hid (fun W => hday ▸ l01Day_any n W)
  generalize yrO n = Y at HD hyb hfd
  generalize mnO n = M at HD hfd
  generalize dyO n = D at HD hfd
  have v1 := i64_in (Y - 1) (by omega)
  have v2 := i64_in (Y + 1) (by omega)
  obtain ⟨lo, hlo⟩ : ∃ lo : Int, lo = max 1 (Y - 1) := ⟨_, rfl⟩
  obtain ⟨hi, hhi⟩ : ∃ hi : Int, hi = min 2000 (Y + 1) := ⟨_, rfl⟩
  have hlb : 1 ≤ lo ∧ lo ≤ 2000 := by omega
  have hhb : 1 ≤ hi ∧ hi ≤ 2000 := by omega
  have hlo' := hlo.symm
  have hhi' := hhi.symm
  clear hlo hhi
  clear hday
  go_enter Tryz.func123, Tryz.ntmps123
  go_wp2_with fail
  refine (HDay.out _).mono ?_
  rintro e w0 ⟨rfl, rfl⟩
  go_wp2_with fail
  refine (HD.out _).mono ?_
  rintro e w1 ⟨rfl, hB⟩
  go_wp2
  go_loopw [6, 7, 8, 9] (fun b a fd i wr => ∃ (bb aa y : Int) (fb : Bool), b = .int .i64 bb ∧ a = .int .i64 aa ∧ fd = .bool fb ∧ i = .int .i64 y ∧ (0 ≤ bb ∧ bb ≤ 19) ∧ (-3000000 ≤ aa ∧ aa ≤ 3000000) ∧ (1 ≤ y ∧ y ≤ 2001) ∧ Below w.heap.size w wr) (fun _ _ _ i _ => (2001 - intOf i).toNat)
  case atStart => exact ⟨0, 0, lo, false, rfl, rfl, rfl, rfl, by decide, by decide, by omega, hB⟩
  case round =>
    clear hB
    obtain ⟨bb, aa, y, fb, rfl, rfl, rfl, rfl, hbb, haa, hy, hB⟩ := hrel
    by_cases hyh : y ≤ hi
    · have hy2 : 1 ≤ y ∧ y ≤ 2000 := by omega
      go_wp2
      go_loopw [6, 7, 8, 10] (fun b a fd i wr => ∃ (bb aa : Int) (k : Nat) (fb : Bool), b = .int .i64 bb ∧ a = .int .i64 aa ∧ fd = .bool fb ∧ i = .int .i64 k ∧ (0 ≤ bb ∧ bb ≤ 19) ∧ (-3000000 ≤ aa ∧ aa ≤ 3000000) ∧ k ≤ 20 ∧ Below w.heap.size w wr) (fun _ _ _ i _ => (20 - intOf i).toNat)
      case atStart => exact ⟨bb, aa, 0, fb, rfl, rfl, rfl, rfl, hbb, haa, by omega, hB⟩
      case round =>
        clear hB hbb haa
        obtain ⟨bb, aa, k, fb, rfl, rfl, rfl, rfl, hbb, haa, hk, hB⟩ := hrel
        by_cases hkl : k < 20
        · have hkl' : (k : Int) < 20 := by omega
          have hb1 := feO_bd (f := (k : Int)) (y := y) (by omega) (by omega)
          have hb2 : -400 ≤ nyO y ∧ nyO y ≤ 800000 := by unfold nyO; omega
          have HF := Lib.hid (fun W => l05Day_any k y W hkl (by omega) (by omega))
          generalize feO (k : Int) y = G at hb1 HF
          generalize nyO y = NY at hb1 hb2
          have v3 := i64_in (n - G) (by omega)
          have hdb : -3000000 ≤ n - G ∧ n - G ≤ 3000000 := by omega
          go_wp2_with fail
          refine (HF.out _).mono ?_
          rintro e w2 ⟨rfl, hB2⟩
          have hB := stepB hB hB2 hB.size
          clear hB2 HF
          go_upto_region 12 with (fail)
          generalize n - G = d at hdb ⊢
          clear v3
          have v4 := i64_in (-d) (by omega)
          have v5 := i64_in (-aa) (by omega)
          obtain ⟨X, hX⟩ : ∃ X, max d (-d) = X := ⟨_, rfl⟩
          obtain ⟨A, hA⟩ : ∃ A, max aa (-aa) = A := ⟨_, rfl⟩
          by_cases h1 : X < A
          · cases fb
            · go_wp2
              go_roundw
              case rel => exact ⟨k, d, k + 1, true, rfl, rfl, rfl, by go_num, by omega, by omega, by omega, hB⟩
              case measure => simp [intOf]; omega
            · go_wp2
              go_roundw
              case rel => exact ⟨k, d, k + 1, true, rfl, rfl, rfl, by go_num, by omega, by omega, by omega, hB⟩
              case measure => simp [intOf]; omega
          · have h1n : decide (X < A) = false := by simpa using h1
            by_cases h2 : X = A
            · have h2y : (X == A) = true := by simpa using h2
              by_cases h3 : aa < d
              · cases fb
                · go_wp2
                  go_roundw
                  case rel => exact ⟨k, d, k + 1, true, rfl, rfl, rfl, by go_num, by omega, by omega, by omega, hB⟩
                  case measure => simp [intOf]; omega
                · go_wp2
                  go_roundw
                  case rel => exact ⟨k, d, k + 1, true, rfl, rfl, rfl, by go_num, by omega, by omega, by omega, hB⟩
                  case measure => simp [intOf]; omega
              · have h3n : decide (aa < d) = false := by simpa using h3
                by_cases h4 : d = aa
                · have h4y : (d == aa) = true := by simpa using h4
                  by_cases h5 : (k : Int) < bb
                  · cases fb
                    · go_wp2
                      go_roundw
                      case rel => exact ⟨k, d, k + 1, true, rfl, rfl, rfl, by go_num, by omega, by omega, by omega, hB⟩
                      case measure => simp [intOf]; omega
                    · go_wp2
                      go_roundw
                      case rel => exact ⟨k, d, k + 1, true, rfl, rfl, rfl, by go_num, by omega, by omega, by omega, hB⟩
                      case measure => simp [intOf]; omega
                  · have h5n : decide ((k : Int) < bb) = false := by simpa using h5
                    cases fb
                    · go_wp2
                      go_roundw
                      case rel => exact ⟨k, d, k + 1, true, rfl, rfl, rfl, by go_num, by omega, by omega, by omega, hB⟩
                      case measure => simp [intOf]; omega
                    · go_wp2
                      go_roundw
                      case rel => exact ⟨bb, aa, k + 1, true, rfl, rfl, rfl, by go_num, hbb, haa, by omega, hB⟩
                      case measure => simp [intOf]; omega
                · have h4n : (d == aa) = false := by simpa using h4
                  cases fb
                  · go_wp2
                    go_roundw
                    case rel => exact ⟨k, d, k + 1, true, rfl, rfl, rfl, by go_num, by omega, by omega, by omega, hB⟩
                    case measure => simp [intOf]; omega
                  · go_wp2
                    go_roundw
                    case rel => exact ⟨bb, aa, k + 1, true, rfl, rfl, rfl, by go_num, hbb, haa, by omega, hB⟩
                    case measure => simp [intOf]; omega
            · have h2n : (X == A) = false := by simpa using h2
              cases fb
              · go_wp2
                go_roundw
                case rel => exact ⟨k, d, k + 1, true, rfl, rfl, rfl, by go_num, by omega, by omega, by omega, hB⟩
                case measure => simp [intOf]; omega
              · go_wp2
                go_roundw
                case rel => exact ⟨bb, aa, k + 1, true, rfl, rfl, rfl, by go_num, hbb, haa, by omega, hB⟩
                case measure => simp [intOf]; omega
        · obtain rfl : k = 20 := by omega
          go_wp2
          go_roundw
          case rel => exact ⟨bb, aa, y + 1, fb, rfl, rfl, rfl, rfl, hbb, haa, by omega, hB⟩
          case measure => simp [intOf]; omega
    · have hyh' : decide (y ≤ hi) = false := by simpa using hyh
      go_wp2
      go_ret3
      exact ⟨bb, ⟨aa, rfl⟩, hbb, hB⟩
end

section
open Go.ChangeShapes Go.WideShapes Go.ChangeAt Go.RowKit Go.IntWalk

/-- A list of the numbers of reigns in which a day lies. -/
def onL (rs : List Rg) (n : Int) (xs : List Int) : Prop := ∀ i ∈ xs, ∃ (k : Nat) (m : Rg), i = k ∧ rs[k]? = some m ∧ m.fr ≤ n ∧ n ≤ m.to
set_option maxRecDepth 100000 in
set_option maxHeartbeats 1000000 in
theorem l07On_any (a : Option Addr) (cap : Nat) (rs : List Rg) (n : Int) (w : World) (hl : rs.length ≤ 1048576) (hx : Rd encRg w a rs) :
    Calls Tryz.prog 125 #[.slice a rs.length cap, .int .i64 n] w fun e w' => ∃ (g c : Nat) (xs : List Int), e = .returned (.slice (some ⟨g, 0, none⟩) xs.length c) ∧ xs.length ≤ rs.length ∧ onL rs n xs ∧ w'.ownsRow w.heap.size 2 1 (.slice (some ⟨g, 0, none⟩) xs.length c) xs.length (xs.flatMap encI) ∧ Below w.heap.size w w' := by
  obtain ⟨i0, hi, hz0, hz1, hz2⟩ := info_parts infoI
  have hB0 := belowA w (.cells #[] 2)
  have hown0 := World.ownsRow_made w #[] 0 (Nat.le_refl _) (by decide) rfl (e := 2) (size := 1)
  go_enter Tryz.func125, Tryz.ntmps125
  go_wp2
  go_loopw [5, 6] (fun s i wr => ∃ (k g c : Nat) (out : List Int), k ≤ rs.length ∧ i = .int .i64 k ∧ s = .slice (some ⟨g, 0, none⟩) out.length c ∧ out.length ≤ k ∧ onL rs n out ∧ wr.ownsRow w.heap.size 2 1 (.slice (some ⟨g, 0, none⟩) out.length c) out.length (out.flatMap encI) ∧ Below w.heap.size w wr) (fun _ i _ => rs.length - (intOf i).toNat)
  case atStart => exact ⟨0, _, _, [], Nat.zero_le _, rfl, rfl, by simp, (fun i h => by cases h), hown0, hB0⟩
  case round =>
    clear hown0 hB0
    obtain ⟨k, g, c, out, hk, rfl, rfl, hlo, hon, hown, hB⟩ := hrel
    by_cases hlt : k < rs.length
    · have hlt' : (k : Int) < (rs.length : Int) := by omega
      have hm := List.getElem?_eq_getElem hlt
      generalize rs[k] = m at hm
      obtain ⟨b, off, rfl, hb, c0, c1, c2⟩ := (hx.below hB).rg hm
      have HI := Lib.hid (fun W => l01In_any n m.fr m.to W)
      have G1 := Later.cell c1 hb
      have G2 := Later.cell c2 hb
      clear c0 c1 c2
      cases hin : inB n m.fr m.to
      all_goals
        have HI := Lib.hid (fun W => hin ▸ HI.out W)
        go_upto_region 5 with (fail)
        refine wp_region_later _ (by kernel_rfl) (by kernel_rfl) ?_
        repeat (go_big_quiet_step (fail))
        go_big_quiet_step ((go_at_call 55; exact Later.same ((HI.out _).mono fun _ _ ⟨h1, h2⟩ => ⟨h1, h2⟩)))
        repeat (go_big_quiet_step (fail))
        refine wpQuiet_nil ?_
        intro z
        have hz := z.prop
        generalize z.val = w2 at hz
        clear G1 G2
        have hown := own_below hown hz
        have hB := stepB hB hz hB.size
        clear hz
      · go_wp2
        go_roundw
        case rel => exact ⟨k + 1, g, c, out, by omega, by go_num, rfl, by omega, hon, hown, hB⟩
        case measure => simp [intOf]; omega
      · have hin2 : m.fr ≤ n ∧ n ≤ m.to := by simpa [inB] using hin
        go_wp2_with (at_builtin; refine wpList_append_own _ rfl _ _ 46 rfl w.heap.size 2 i0 (.int .i64 0) 1 8 Tryz.underlying46 hi hz0 hz1 hz2 rfl (by decide) _ _ _ rfl (hown.alloc _) ⟨w2.heap.size, 0, none⟩ 1 1 [.int .i64 k] rfl rfl (cell_one_new _ _ _) ?c2 ?c3 ?c4 ?c5 ?_)
        case c2 => intro u hu; simp at hu; subst hu; rfl
        case c3 => unfold maxLen; omega
        case c4 => omega
        case c5 => have := hB.size; simp; omega
        intro v' w4 hown' hgr _
        have hB' := (hB.alloc hB.size (.cells #[.int .i64 k] 2)).grown hgr (Nat.le_trans hB.size (by simp)) (fun x hx => (hown.lt x hx).1)
        obtain ⟨g', c', rfl⟩ := formJ hown' (by omega)
        clear hgr hown hB
        go_wp2
        go_roundw
        case rel => exact ⟨k + 1, g', c', out ++ [(k : Int)], by omega, by go_num, by rw [List.length_append]; rfl, by simp; omega, (fun i h => by
          rcases List.mem_append.1 h with h | h
          · exact hon i h
          · simp at h; exact ⟨k, m, h, hm, hin2⟩), by rw [List.length_append, List.flatMap_append]; exact hown', hB'⟩
        case measure => simp [intOf]; omega
    · have hlt' : decide ((k : Int) < (rs.length : Int)) = false := by simp; omega
      go_wp2
      go_ret
      exact ⟨g, c, out, rfl, by omega, hon, hown, hB⟩
end

section
open Go.ChangeShapes Go.WideShapes Go.ChangeAt Go.RowKit Go.IntWalk

theorem king0 : (⟨#[]⟩ : ByteArray).size ≤ 13 := by decide

set_option maxRecDepth 100000 in
set_option maxHeartbeats 8000000 in
theorem l11DrawOf_any (w0 : World) (cs : Option Addr) (cap : Nat) (bs : List Int) (p : Nat) (a : Option Addr) (ca : Nat) (rs : List Rg) (n : Int) (w : World) (hx : Rd encB w0 cs bs) (hb : ∀ m ∈ bs, goodB m) (hl : bs.length ≤ 4096) (hs : Src w0 cs cap bs p w) (hlr : rs.length ≤ 1000) (hrd : ∀ W, w.grownBy W (some p) → Rd encRg W a rs) (hfr : ∀ m ∈ rs, 0 ≤ m.fr) (hkg : ∀ m ∈ rs, m.king.size ≤ 13) (hn0 : 0 ≤ n) (hn : n ≤ 730499) :
    Calls Tryz.prog 67 #[.pointer (some ⟨p, 0, none⟩), .slice a rs.length ca, .int .i64 n] w fun e w' => ∃ m : Cl, e = .returned (.agg #[.int .i64 m.kind, .int .i64 m.number, .int .i64 m.month, .int .i64 m.feast, .int .i64 m.relation, .int .i64 m.weekday, .int .i64 m.style, .string m.king]) ∧ m.king.size ≤ 13 ∧ Src w0 cs cap bs p w' ∧ w.grownBy w' (some p) := by
  have D := Drw.start hs
  have res := Box.new w 31 [.int .i64 0, .int .i64 0, .int .i64 0, .int .i64 0, .int .i64 0, .int .i64 0, .int .i64 0, .string ⟨#[]⟩] w.heap.size (Nat.le_refl _) (by simp)
  have D := D.below (belowA w (.cells #[.int .i64 0, .int .i64 0, .int .i64 0, .int .i64 0, .int .i64 0, .int .i64 0, .int .i64 0, .string ⟨#[]⟩] 31))
  have HN := Lib.hid (fun n W hn1 hn2 hs => l01Next_any w0 cs cap bs p n W hx hb hl hn1 hn2 hs)
  have HO := Lib.hid (fun W => l01Old_any n W hn0 hn)
  have hdy := dyO_bd n
  have hmy := mlO_bd (yrO n) (mnO n)
  have HW := Lib.hid (fun W => l01Weekday_any n W (by omega) (by omega))
  have HNear := Lib.hid (fun W => nearest_any n W hn0 hn)
  generalize (n + 5) % 7 = wd at HW
  clear hs
  go_enter Tryz.func67, Tryz.ntmps67
  go_wp2_with fail
  refine (HO.out _).mono ?_
  rintro e w1 ⟨rfl, hB1⟩
  have res := Box.below res hB1
  have D := D.below hB1
  have dat := Box.new w1 104 [.int .i64 (yrO n), .int .i64 (mnO n : Nat), .int .i64 (dyO n)] w.heap.size D.size (by simp)
  have res := Box.below res (belowA w1 (.cells #[.int .i64 (yrO n), .int .i64 (mnO n : Nat), .int .i64 (dyO n)] 104))
  have D := D.below (belowA w1 (.cells #[.int .i64 (yrO n), .int .i64 (mnO n : Nat), .int .i64 (dyO n)] 104))
  clear hB1
  go_wp2_with fail
  generalize w1.alloc (.cells #[.int .i64 (yrO n), .int .i64 (mnO n : Nat), .int .i64 (dyO n)] 104) = w2 at D res dat ⊢
  generalize (mnO n : Int) = M at dat ⊢
  generalize dyO n = DD at dat hdy ⊢
  generalize w1.heap.size = db at dat ⊢
  refine (HN.out 6 _ (by decide) (by decide) D.src).mono ?_
  rintro e w3 ⟨r, rfl, hr0, hr1, hs, hG⟩
  have res := Box.keepA res hG D.hp
  have dat := Box.keepA dat hG D.hp
  have D := D.call hs hG
  clear hs hG
  by_cases q0 : r = 0
  · subst q0
    have m1 := Box.cell dat 1 _ rfl
    have m2 := Box.cell dat 2 _ rfl
    have r0 := Box.cell res 0 _ rfl
    have r1 := Box.cell res 1 _ rfl
    have r2 := Box.cell res 2 _ rfl
    have r3 := Box.cell res 3 _ rfl
    have r4 := Box.cell res 4 _ rfl
    have r5 := Box.cell res 5 _ rfl
    have r6 := Box.cell res 6 _ rfl
    have r7 := Box.cell res 7 _ rfl
    have f0 := World.ownsRow.frozenAt res 0
    have f1 := World.ownsRow.frozenAt res 1
    have f2 := World.ownsRow.frozenAt res 2
    have f3 := World.ownsRow.frozenAt res 3
    have f4 := World.ownsRow.frozenAt res 4
    have f5 := World.ownsRow.frozenAt res 5
    have f6 := World.ownsRow.frozenAt res 6
    have f7 := World.ownsRow.frozenAt res 7
    have HP8 := Lib.hid (Box.put8 res (.int .i64 0) (.int .i64 DD) (.int .i64 M) (.int .i64 0) (.int .i64 0) (.int .i64 0) (.int .i64 0) (.string ⟨#[]⟩))
    go_wp2
    have hp := HP8.out
    have D := D.store hp.2 (Nat.le_refl _)
    generalize (((((((w3.setCell ⟨w.heap.size, 0, none⟩ (.int .i64 0)).setCell ⟨w.heap.size, 1, none⟩ (.int .i64 DD)).setCell ⟨w.heap.size, 2, none⟩ (.int .i64 M)).setCell ⟨w.heap.size, 3, none⟩ (.int .i64 0)).setCell ⟨w.heap.size, 4, none⟩ (.int .i64 0)).setCell ⟨w.heap.size, 5, none⟩ (.int .i64 0)).setCell ⟨w.heap.size, 6, none⟩ (.int .i64 0)).setCell ⟨w.heap.size, 7, none⟩ (.string ⟨#[]⟩) = Wf at hp D ⊢
    have z0 := hp.1.cell 0 _ rfl
    have z1 := hp.1.cell 1 _ rfl
    have z2 := hp.1.cell 2 _ rfl
    have z3 := hp.1.cell 3 _ rfl
    have z4 := hp.1.cell 4 _ rfl
    have z5 := hp.1.cell 5 _ rfl
    have z6 := hp.1.cell 6 _ rfl
    have z7 := hp.1.cell 7 _ rfl
    refine bodyPost_ret_by (v := .agg #[.int .i64 0, .int .i64 DD, .int .i64 M, .int .i64 0, .int .i64 0, .int .i64 0, .int .i64 0, .string ⟨#[]⟩]) ?_ rfl ⟨⟨0, DD, M, 0, 0, 0, 0, ⟨#[]⟩⟩, rfl, king0, D.src, D.gr⟩
    simp [results, go_sem, z0, z1, z2, z3, z4, z5, z6, z7]
  · have q0' : (r == 0) = false := by simpa using q0
    by_cases q1 : r = 1
    · subst q1
      clear dat
      go_wp2_with fail
      refine (HNear.out _).mono ?_
      rintro e w4 ⟨f, aw, rfl, hf, hB4⟩
      have res := Box.below res hB4
      have D := D.below hB4
      clear hB4
      by_cases h1 : aw = 0
      · subst h1
        have r0 := Box.cell res 0 _ rfl
        have r1 := Box.cell res 1 _ rfl
        have r2 := Box.cell res 2 _ rfl
        have r3 := Box.cell res 3 _ rfl
        have r4 := Box.cell res 4 _ rfl
        have r5 := Box.cell res 5 _ rfl
        have r6 := Box.cell res 6 _ rfl
        have r7 := Box.cell res 7 _ rfl
        have f0 := World.ownsRow.frozenAt res 0
        have f1 := World.ownsRow.frozenAt res 1
        have f2 := World.ownsRow.frozenAt res 2
        have f3 := World.ownsRow.frozenAt res 3
        have f4 := World.ownsRow.frozenAt res 4
        have f5 := World.ownsRow.frozenAt res 5
        have f6 := World.ownsRow.frozenAt res 6
        have f7 := World.ownsRow.frozenAt res 7
        have HP8 := Lib.hid (Box.put8 res (.int .i64 1) (.int .i64 0) (.int .i64 0) (.int .i64 f) (.int .i64 0) (.int .i64 0) (.int .i64 0) (.string ⟨#[]⟩))
        go_wp2
        have hp := HP8.out
        have D := D.store hp.2 (Nat.le_refl _)
        generalize (((((((w4.setCell ⟨w.heap.size, 0, none⟩ (.int .i64 1)).setCell ⟨w.heap.size, 1, none⟩ (.int .i64 0)).setCell ⟨w.heap.size, 2, none⟩ (.int .i64 0)).setCell ⟨w.heap.size, 3, none⟩ (.int .i64 f)).setCell ⟨w.heap.size, 4, none⟩ (.int .i64 0)).setCell ⟨w.heap.size, 5, none⟩ (.int .i64 0)).setCell ⟨w.heap.size, 6, none⟩ (.int .i64 0)).setCell ⟨w.heap.size, 7, none⟩ (.string ⟨#[]⟩) = Wf at hp D ⊢
        have z0 := hp.1.cell 0 _ rfl
        have z1 := hp.1.cell 1 _ rfl
        have z2 := hp.1.cell 2 _ rfl
        have z3 := hp.1.cell 3 _ rfl
        have z4 := hp.1.cell 4 _ rfl
        have z5 := hp.1.cell 5 _ rfl
        have z6 := hp.1.cell 6 _ rfl
        have z7 := hp.1.cell 7 _ rfl
        refine bodyPost_ret_by (v := .agg #[.int .i64 1, .int .i64 0, .int .i64 0, .int .i64 f, .int .i64 0, .int .i64 0, .int .i64 0, .string ⟨#[]⟩]) ?_ rfl ⟨⟨1, 0, 0, f, 0, 0, 0, ⟨#[]⟩⟩, rfl, king0, D.src, D.gr⟩
        simp [results, go_sem, z0, z1, z2, z3, z4, z5, z6, z7]
      · have h1n : (aw == 0) = false := by simpa using h1
        by_cases h2 : aw = -1
        · subst h2
          have r0 := Box.cell res 0 _ rfl
          have r1 := Box.cell res 1 _ rfl
          have r2 := Box.cell res 2 _ rfl
          have r3 := Box.cell res 3 _ rfl
          have r4 := Box.cell res 4 _ rfl
          have r5 := Box.cell res 5 _ rfl
          have r6 := Box.cell res 6 _ rfl
          have r7 := Box.cell res 7 _ rfl
          have f0 := World.ownsRow.frozenAt res 0
          have f1 := World.ownsRow.frozenAt res 1
          have f2 := World.ownsRow.frozenAt res 2
          have f3 := World.ownsRow.frozenAt res 3
          have f4 := World.ownsRow.frozenAt res 4
          have f5 := World.ownsRow.frozenAt res 5
          have f6 := World.ownsRow.frozenAt res 6
          have f7 := World.ownsRow.frozenAt res 7
          have HP8 := Lib.hid (Box.put8 res (.int .i64 1) (.int .i64 0) (.int .i64 0) (.int .i64 f) (.int .i64 1) (.int .i64 0) (.int .i64 0) (.string ⟨#[]⟩))
          go_wp2
          have hp := HP8.out
          have D := D.store hp.2 (Nat.le_refl _)
          generalize (((((((w4.setCell ⟨w.heap.size, 0, none⟩ (.int .i64 1)).setCell ⟨w.heap.size, 1, none⟩ (.int .i64 0)).setCell ⟨w.heap.size, 2, none⟩ (.int .i64 0)).setCell ⟨w.heap.size, 3, none⟩ (.int .i64 f)).setCell ⟨w.heap.size, 4, none⟩ (.int .i64 1)).setCell ⟨w.heap.size, 5, none⟩ (.int .i64 0)).setCell ⟨w.heap.size, 6, none⟩ (.int .i64 0)).setCell ⟨w.heap.size, 7, none⟩ (.string ⟨#[]⟩) = Wf at hp D ⊢
          have z0 := hp.1.cell 0 _ rfl
          have z1 := hp.1.cell 1 _ rfl
          have z2 := hp.1.cell 2 _ rfl
          have z3 := hp.1.cell 3 _ rfl
          have z4 := hp.1.cell 4 _ rfl
          have z5 := hp.1.cell 5 _ rfl
          have z6 := hp.1.cell 6 _ rfl
          have z7 := hp.1.cell 7 _ rfl
          refine bodyPost_ret_by (v := .agg #[.int .i64 1, .int .i64 0, .int .i64 0, .int .i64 f, .int .i64 1, .int .i64 0, .int .i64 0, .string ⟨#[]⟩]) ?_ rfl ⟨⟨1, 0, 0, f, 1, 0, 0, ⟨#[]⟩⟩, rfl, king0, D.src, D.gr⟩
          simp [results, go_sem, z0, z1, z2, z3, z4, z5, z6, z7]
        · have h2n : (aw == -1) = false := by simpa using h2
          by_cases h5 : 0 < aw
          · have h3n : decide (aw < 0) = false := by simp; omega
            by_cases h6 : aw ≤ 7
            · go_wp2_with fail
              refine (HW.out _).mono ?_
              rintro e wz ⟨rfl, rfl⟩
              have r0 := Box.cell res 0 _ rfl
              have r1 := Box.cell res 1 _ rfl
              have r2 := Box.cell res 2 _ rfl
              have r3 := Box.cell res 3 _ rfl
              have r4 := Box.cell res 4 _ rfl
              have r5 := Box.cell res 5 _ rfl
              have r6 := Box.cell res 6 _ rfl
              have r7 := Box.cell res 7 _ rfl
              have f0 := World.ownsRow.frozenAt res 0
              have f1 := World.ownsRow.frozenAt res 1
              have f2 := World.ownsRow.frozenAt res 2
              have f3 := World.ownsRow.frozenAt res 3
              have f4 := World.ownsRow.frozenAt res 4
              have f5 := World.ownsRow.frozenAt res 5
              have f6 := World.ownsRow.frozenAt res 6
              have f7 := World.ownsRow.frozenAt res 7
              have HP8 := Lib.hid (Box.put8 res (.int .i64 1) (.int .i64 0) (.int .i64 0) (.int .i64 f) (.int .i64 3) (.int .i64 wd) (.int .i64 0) (.string ⟨#[]⟩))
              go_wp2
              have hp := HP8.out
              have D := D.store hp.2 (Nat.le_refl _)
              generalize (((((((w4.setCell ⟨w.heap.size, 0, none⟩ (.int .i64 1)).setCell ⟨w.heap.size, 1, none⟩ (.int .i64 0)).setCell ⟨w.heap.size, 2, none⟩ (.int .i64 0)).setCell ⟨w.heap.size, 3, none⟩ (.int .i64 f)).setCell ⟨w.heap.size, 4, none⟩ (.int .i64 3)).setCell ⟨w.heap.size, 5, none⟩ (.int .i64 wd)).setCell ⟨w.heap.size, 6, none⟩ (.int .i64 0)).setCell ⟨w.heap.size, 7, none⟩ (.string ⟨#[]⟩) = Wf at hp D ⊢
              have z0 := hp.1.cell 0 _ rfl
              have z1 := hp.1.cell 1 _ rfl
              have z2 := hp.1.cell 2 _ rfl
              have z3 := hp.1.cell 3 _ rfl
              have z4 := hp.1.cell 4 _ rfl
              have z5 := hp.1.cell 5 _ rfl
              have z6 := hp.1.cell 6 _ rfl
              have z7 := hp.1.cell 7 _ rfl
              refine bodyPost_ret_by (v := .agg #[.int .i64 1, .int .i64 0, .int .i64 0, .int .i64 f, .int .i64 3, .int .i64 wd, .int .i64 0, .string ⟨#[]⟩]) ?_ rfl ⟨⟨1, 0, 0, f, 3, wd, 0, ⟨#[]⟩⟩, rfl, king0, D.src, D.gr⟩
              simp [results, go_sem, z0, z1, z2, z3, z4, z5, z6, z7]
            · have h6n : decide (aw ≤ 7) = false := by simpa using h6
              go_wp2_with fail
              refine (HW.out _).mono ?_
              rintro e wz ⟨rfl, rfl⟩
              have r0 := Box.cell res 0 _ rfl
              have r1 := Box.cell res 1 _ rfl
              have r2 := Box.cell res 2 _ rfl
              have r3 := Box.cell res 3 _ rfl
              have r4 := Box.cell res 4 _ rfl
              have r5 := Box.cell res 5 _ rfl
              have r6 := Box.cell res 6 _ rfl
              have r7 := Box.cell res 7 _ rfl
              have f0 := World.ownsRow.frozenAt res 0
              have f1 := World.ownsRow.frozenAt res 1
              have f2 := World.ownsRow.frozenAt res 2
              have f3 := World.ownsRow.frozenAt res 3
              have f4 := World.ownsRow.frozenAt res 4
              have f5 := World.ownsRow.frozenAt res 5
              have f6 := World.ownsRow.frozenAt res 6
              have f7 := World.ownsRow.frozenAt res 7
              have HP8 := Lib.hid (Box.put8 res (.int .i64 5) (.int .i64 0) (.int .i64 0) (.int .i64 0) (.int .i64 0) (.int .i64 wd) (.int .i64 0) (.string ⟨#[]⟩))
              go_wp2
              have hp := HP8.out
              have D := D.store hp.2 (Nat.le_refl _)
              generalize (((((((w4.setCell ⟨w.heap.size, 0, none⟩ (.int .i64 5)).setCell ⟨w.heap.size, 1, none⟩ (.int .i64 0)).setCell ⟨w.heap.size, 2, none⟩ (.int .i64 0)).setCell ⟨w.heap.size, 3, none⟩ (.int .i64 0)).setCell ⟨w.heap.size, 4, none⟩ (.int .i64 0)).setCell ⟨w.heap.size, 5, none⟩ (.int .i64 wd)).setCell ⟨w.heap.size, 6, none⟩ (.int .i64 0)).setCell ⟨w.heap.size, 7, none⟩ (.string ⟨#[]⟩) = Wf at hp D ⊢
              have z0 := hp.1.cell 0 _ rfl
              have z1 := hp.1.cell 1 _ rfl
              have z2 := hp.1.cell 2 _ rfl
              have z3 := hp.1.cell 3 _ rfl
              have z4 := hp.1.cell 4 _ rfl
              have z5 := hp.1.cell 5 _ rfl
              have z6 := hp.1.cell 6 _ rfl
              have z7 := hp.1.cell 7 _ rfl
              refine bodyPost_ret_by (v := .agg #[.int .i64 5, .int .i64 0, .int .i64 0, .int .i64 0, .int .i64 0, .int .i64 wd, .int .i64 0, .string ⟨#[]⟩]) ?_ rfl ⟨⟨5, 0, 0, 0, 0, wd, 0, ⟨#[]⟩⟩, rfl, king0, D.src, D.gr⟩
              simp [results, go_sem, z0, z1, z2, z3, z4, z5, z6, z7]
          · have h5n : decide (0 < aw) = false := by simpa using h5
            by_cases h3 : aw < 0
            · by_cases h4 : -7 ≤ aw
              · go_wp2_with fail
                refine (HW.out _).mono ?_
                rintro e wz ⟨rfl, rfl⟩
                have r0 := Box.cell res 0 _ rfl
                have r1 := Box.cell res 1 _ rfl
                have r2 := Box.cell res 2 _ rfl
                have r3 := Box.cell res 3 _ rfl
                have r4 := Box.cell res 4 _ rfl
                have r5 := Box.cell res 5 _ rfl
                have r6 := Box.cell res 6 _ rfl
                have r7 := Box.cell res 7 _ rfl
                have f0 := World.ownsRow.frozenAt res 0
                have f1 := World.ownsRow.frozenAt res 1
                have f2 := World.ownsRow.frozenAt res 2
                have f3 := World.ownsRow.frozenAt res 3
                have f4 := World.ownsRow.frozenAt res 4
                have f5 := World.ownsRow.frozenAt res 5
                have f6 := World.ownsRow.frozenAt res 6
                have f7 := World.ownsRow.frozenAt res 7
                have HP8 := Lib.hid (Box.put8 res (.int .i64 1) (.int .i64 0) (.int .i64 0) (.int .i64 f) (.int .i64 4) (.int .i64 wd) (.int .i64 0) (.string ⟨#[]⟩))
                go_wp2
                have hp := HP8.out
                have D := D.store hp.2 (Nat.le_refl _)
                generalize (((((((w4.setCell ⟨w.heap.size, 0, none⟩ (.int .i64 1)).setCell ⟨w.heap.size, 1, none⟩ (.int .i64 0)).setCell ⟨w.heap.size, 2, none⟩ (.int .i64 0)).setCell ⟨w.heap.size, 3, none⟩ (.int .i64 f)).setCell ⟨w.heap.size, 4, none⟩ (.int .i64 4)).setCell ⟨w.heap.size, 5, none⟩ (.int .i64 wd)).setCell ⟨w.heap.size, 6, none⟩ (.int .i64 0)).setCell ⟨w.heap.size, 7, none⟩ (.string ⟨#[]⟩) = Wf at hp D ⊢
                have z0 := hp.1.cell 0 _ rfl
                have z1 := hp.1.cell 1 _ rfl
                have z2 := hp.1.cell 2 _ rfl
                have z3 := hp.1.cell 3 _ rfl
                have z4 := hp.1.cell 4 _ rfl
                have z5 := hp.1.cell 5 _ rfl
                have z6 := hp.1.cell 6 _ rfl
                have z7 := hp.1.cell 7 _ rfl
                refine bodyPost_ret_by (v := .agg #[.int .i64 1, .int .i64 0, .int .i64 0, .int .i64 f, .int .i64 4, .int .i64 wd, .int .i64 0, .string ⟨#[]⟩]) ?_ rfl ⟨⟨1, 0, 0, f, 4, wd, 0, ⟨#[]⟩⟩, rfl, king0, D.src, D.gr⟩
                simp [results, go_sem, z0, z1, z2, z3, z4, z5, z6, z7]
              · have h4n : decide (-7 ≤ aw) = false := by simpa using h4
                go_wp2_with fail
                refine (HW.out _).mono ?_
                rintro e wz ⟨rfl, rfl⟩
                have r0 := Box.cell res 0 _ rfl
                have r1 := Box.cell res 1 _ rfl
                have r2 := Box.cell res 2 _ rfl
                have r3 := Box.cell res 3 _ rfl
                have r4 := Box.cell res 4 _ rfl
                have r5 := Box.cell res 5 _ rfl
                have r6 := Box.cell res 6 _ rfl
                have r7 := Box.cell res 7 _ rfl
                have f0 := World.ownsRow.frozenAt res 0
                have f1 := World.ownsRow.frozenAt res 1
                have f2 := World.ownsRow.frozenAt res 2
                have f3 := World.ownsRow.frozenAt res 3
                have f4 := World.ownsRow.frozenAt res 4
                have f5 := World.ownsRow.frozenAt res 5
                have f6 := World.ownsRow.frozenAt res 6
                have f7 := World.ownsRow.frozenAt res 7
                have HP8 := Lib.hid (Box.put8 res (.int .i64 5) (.int .i64 0) (.int .i64 0) (.int .i64 0) (.int .i64 0) (.int .i64 wd) (.int .i64 0) (.string ⟨#[]⟩))
                go_wp2
                have hp := HP8.out
                have D := D.store hp.2 (Nat.le_refl _)
                generalize (((((((w4.setCell ⟨w.heap.size, 0, none⟩ (.int .i64 5)).setCell ⟨w.heap.size, 1, none⟩ (.int .i64 0)).setCell ⟨w.heap.size, 2, none⟩ (.int .i64 0)).setCell ⟨w.heap.size, 3, none⟩ (.int .i64 0)).setCell ⟨w.heap.size, 4, none⟩ (.int .i64 0)).setCell ⟨w.heap.size, 5, none⟩ (.int .i64 wd)).setCell ⟨w.heap.size, 6, none⟩ (.int .i64 0)).setCell ⟨w.heap.size, 7, none⟩ (.string ⟨#[]⟩) = Wf at hp D ⊢
                have z0 := hp.1.cell 0 _ rfl
                have z1 := hp.1.cell 1 _ rfl
                have z2 := hp.1.cell 2 _ rfl
                have z3 := hp.1.cell 3 _ rfl
                have z4 := hp.1.cell 4 _ rfl
                have z5 := hp.1.cell 5 _ rfl
                have z6 := hp.1.cell 6 _ rfl
                have z7 := hp.1.cell 7 _ rfl
                refine bodyPost_ret_by (v := .agg #[.int .i64 5, .int .i64 0, .int .i64 0, .int .i64 0, .int .i64 0, .int .i64 wd, .int .i64 0, .string ⟨#[]⟩]) ?_ rfl ⟨⟨5, 0, 0, 0, 0, wd, 0, ⟨#[]⟩⟩, rfl, king0, D.src, D.gr⟩
                simp [results, go_sem, z0, z1, z2, z3, z4, z5, z6, z7]
            · have h3n : decide (aw < 0) = false := by simpa using h3
              exfalso
              omega
    · have q1' : (r == 1) = false := by simpa using q1
      by_cases q2 : r = 2
      · subst q2
        clear dat
        have hrw := hrd _ D.gr
        go_wp2_with fail
        refine (l07On_any a ca rs n _ (by omega) hrw).mono ?_
        rintro e w4 ⟨g, c, xs, rfl, hxl, hon, hown, hB4⟩
        have hown := own_base hown D.size
        have res := Box.below res hB4
        have D := D.below hB4
        clear hB4 hrw
        by_cases hx0 : 0 < xs.length
        · have hx0' : (0 : Int) < (xs.length : Int) := by omega
          go_wp2_with fail
          refine (HN.out xs.length _ (by omega) (by omega) D.src).mono ?_
          rintro e w1 ⟨u, rfl, hu0, hu1, hs, hG⟩
          have res := Box.keepA res hG D.hp
          have hown := own_keepA hown hG D.hp
          have D := D.call hs hG
          clear hs hG
          obtain ⟨j, rfl⟩ : ∃ j : Nat, u = j := ⟨u.toNat, by omega⟩
          have hj : j < xs.length := by omega
          have hj' : (j : Int) < (xs.length : Int) := by omega
          have hxj := List.getElem?_eq_getElem hj
          obtain ⟨k, m, hk, hm, hmn0, hmn1⟩ := hon _ (List.getElem_mem hj)
          rw [hk] at hxj
          have cj : w1.cell? ⟨g, j, none⟩ = some (.int .i64 (k : Nat)) := by simpa using own_at encI_len hown hxj (j := 0) rfl
          have hkl := (List.getElem?_eq_some_iff.1 hm).1
          have hkl' : (k : Int) < (rs.length : Int) := by omega
          have hmem := List.mem_of_getElem? hm
          have hm0 := hfr m hmem
          have hmk := hkg m hmem
          have hrw := hrd _ D.gr
          obtain ⟨b, off, rfl, hb, e0, e1, e2⟩ := hrw.rg hm
          clear hk hxj hm hmem hon hu0 hu1 hxl hrw
          have loc := Box.new w1 115 [.string m.king, .int .i64 m.fr, .int .i64 m.to] w.heap.size D.size (by simp)
          have res := Box.below res (belowA w1 (.cells #[.string m.king, .int .i64 m.fr, .int .i64 m.to] 115))
          have D := D.below (belowA w1 (.cells #[.string m.king, .int .i64 m.fr, .int .i64 m.to] 115))
          have hlr2 : w.heap.size ≠ w1.heap.size := by have := res.lt; have := (own_lt hown).2; have := (own_lt hown).1; omega
          go_upto_region 19 with (fail)
          generalize w1.alloc (.cells #[.string m.king, .int .i64 m.fr, .int .i64 m.to] 115) = w6 at D res loc ⊢
          generalize w1.heap.size = lb at loc hlr2 ⊢
          clear e0 e1 e2 cj hown
          have HY := Lib.hid (fun W => l07Year_any m n W hm0 hmn0 hn)
          generalize rgY m.fr n = yy at HY
          obtain ⟨zz, hzz⟩ : ∃ zz, min 99 yy = zz := ⟨_, rfl⟩
          have D0 := D.below (Below.refl _ w6).drew
          have res0 := Box.below res (Below.refl _ w6).drew
          have l0 := Box.cell loc 0 _ rfl
          have l1 := Box.cell loc 1 _ rfl
          have l2 := Box.cell loc 2 _ rfl
          have hll := loc.lt.2
          refine MAny.region (S := fun w' => w'.cell? ⟨lb, 0, none⟩ = some (.string m.king) ∧ w'.cell? ⟨lb, 1, none⟩ = some (.int .i64 m.fr) ∧ w'.cell? ⟨lb, 2, none⟩ = some (.int .i64 m.to)) (last := 7) (by kernel_rfl) ?_
          have hHeld : w6.drew.cell? ⟨lb, 0, none⟩ = some (.string m.king) ∧ w6.drew.cell? ⟨lb, 1, none⟩ = some (.int .i64 m.fr) ∧ w6.drew.cell? ⟨lb, 2, none⟩ = some (.int .i64 m.to) := ⟨l0, l1, l2⟩
          have hll0 : lb < w6.drew.heap.size := hll
          clear D res l0 l1 l2 hll loc
          generalize w6.drew = W0 at D0 res0 hHeld hll0 ⊢
          refine MAny.take (i := 0) (v := ?_) rfl (by kernel_rfl) (by kernel_rfl) (by kernel_rfl) (fun _ _ _ h => h) (by kernel_rfl) (Or.inl ⟨by rfl, ?_⟩) (by assumption) ?_
          rotate_left
          · (intro w' hSw; (try dsimp only at hSw); go_simp; try (with_reducible rfl))
          try simp only [Act.put, List.setIfInBounds_toArray]
          refine MAny.take (i := 1) (v := ?_) rfl (by kernel_rfl) (by kernel_rfl) (by kernel_rfl) (fun _ _ _ h => h) (by kernel_rfl) (Or.inl ⟨by rfl, ?_⟩) (by assumption) ?_
          rotate_left
          · (intro w' hSw; (try dsimp only at hSw); go_simp; try (with_reducible rfl))
          try simp only [Act.put]
          refine MAny.take (i := 4) (v := ?_) rfl (by kernel_rfl) (by kernel_rfl) (by kernel_rfl) (fun _ _ _ h => h) (by kernel_rfl) (Or.inl ⟨by rfl, ?_⟩) (by assumption) ?_
          rotate_left
          · (intro w' hSw; (try dsimp only at hSw); go_simp; try (with_reducible rfl))
          try simp only [Act.put]
          refine MAny.take (i := 5) (v := ?_) rfl (by kernel_rfl) (by kernel_rfl) (by kernel_rfl) (fun _ _ _ h => h) (by kernel_rfl) (Or.inl ⟨by rfl, ?_⟩) (by assumption) ?_
          rotate_left
          · (intro w' hSw; (try dsimp only at hSw); go_simp; try (with_reducible rfl))
          try simp only [Act.put]
          refine MAny.ready (rs := [2]) (by kernel_rfl) (by simp) ?_
          refine MReady.cons rfl (fun K hK => ?_) MReady.nil
          go_simp
          go_wp2_with (go_at_call 126; refine (HY.out W0).mono ?_; rintro e w7 ⟨rfl, hB7⟩)
          have res := Box.below res0 hB7
          have D := D0.below hB7
          have hHeld : w7.cell? ⟨lb, 0, none⟩ = some (.string m.king) ∧ w7.cell? ⟨lb, 1, none⟩ = some (.int .i64 m.fr) ∧ w7.cell? ⟨lb, 2, none⟩ = some (.int .i64 m.to) := ⟨(hB7.cell (p := ⟨lb, 0, none⟩) hll0).trans hHeld.1, (hB7.cell (p := ⟨lb, 1, none⟩) hll0).trans hHeld.2.1, (hB7.cell (p := ⟨lb, 2, none⟩) hll0).trans hHeld.2.2⟩
          refine hK.out _ _ (.inr hHeld) ?_
          clear hK K D0 res0 hB7 hll0
          refine MAny.ready (rs := [3]) (by kernel_rfl) (by simp) ?_
          refine MReady.cons rfl (fun K hK => ?_) MReady.nil
          go_simp
          refine hK.out _ _ (.inr hHeld) ?_
          clear hK K
          refine MAny.ready (rs := [6]) (by kernel_rfl) (by simp) ?_
          refine MReady.cons rfl (fun K hK => ?_) MReady.nil
          go_simp
          refine hK.out _ _ (.inr hHeld) ?_
          clear hK K
          have r0 := Box.cell res 0 _ rfl
          have r1 := Box.cell res 1 _ rfl
          have r2 := Box.cell res 2 _ rfl
          have r3 := Box.cell res 3 _ rfl
          have r4 := Box.cell res 4 _ rfl
          have r5 := Box.cell res 5 _ rfl
          have r6 := Box.cell res 6 _ rfl
          have r7 := Box.cell res 7 _ rfl
          have f0 := World.ownsRow.frozenAt res 0
          have f1 := World.ownsRow.frozenAt res 1
          have f2 := World.ownsRow.frozenAt res 2
          have f3 := World.ownsRow.frozenAt res 3
          have f4 := World.ownsRow.frozenAt res 4
          have f5 := World.ownsRow.frozenAt res 5
          have f6 := World.ownsRow.frozenAt res 6
          have f7 := World.ownsRow.frozenAt res 7
          have HP8 := Lib.hid (Box.put8 res (.int .i64 2) (.int .i64 zz) (.int .i64 0) (.int .i64 0) (.int .i64 0) (.int .i64 0) (.int .i64 0) (.string m.king))
          refine MAny.ready (rs := [7]) (by kernel_rfl) (by simp) ?_
          refine MReady.cons rfl (fun K hK => ?_) MReady.nil
          go_simp
          refine hK.out _ _ (.inl rfl) ?_
          clear hK K
          refine MAny.done (by kernel_rfl) ?_ _
          try simp only [List.getElem_toArray, List.getElem_cons_succ, List.getElem_cons_zero]
          go_wp2
          have hp := HP8.out
          have D := D.store hp.2 (Nat.le_refl _)
          generalize (((((((w7.setCell ⟨w.heap.size, 0, none⟩ (.int .i64 2)).setCell ⟨w.heap.size, 1, none⟩ (.int .i64 zz)).setCell ⟨w.heap.size, 2, none⟩ (.int .i64 0)).setCell ⟨w.heap.size, 3, none⟩ (.int .i64 0)).setCell ⟨w.heap.size, 4, none⟩ (.int .i64 0)).setCell ⟨w.heap.size, 5, none⟩ (.int .i64 0)).setCell ⟨w.heap.size, 6, none⟩ (.int .i64 0)).setCell ⟨w.heap.size, 7, none⟩ (.string m.king) = Wf at hp D ⊢
          have z0 := hp.1.cell 0 _ rfl
          have z1 := hp.1.cell 1 _ rfl
          have z2 := hp.1.cell 2 _ rfl
          have z3 := hp.1.cell 3 _ rfl
          have z4 := hp.1.cell 4 _ rfl
          have z5 := hp.1.cell 5 _ rfl
          have z6 := hp.1.cell 6 _ rfl
          have z7 := hp.1.cell 7 _ rfl
          refine bodyPost_ret_by (v := .agg #[.int .i64 2, .int .i64 zz, .int .i64 0, .int .i64 0, .int .i64 0, .int .i64 0, .int .i64 0, .string m.king]) ?_ rfl ⟨⟨2, zz, 0, 0, 0, 0, 0, m.king⟩, rfl, hmk, D.src, D.gr⟩
          simp [results, go_sem, z0, z1, z2, z3, z4, z5, z6, z7]
        · have hx0n : decide (0 < xs.length) = false := by simpa using hx0
          have hx1n : decide ((0 : Int) < (xs.length : Int)) = false := by simpa using hx0
          go_wp2_with fail
          refine (HW.out _).mono ?_
          rintro e wz ⟨rfl, rfl⟩
          have r0 := Box.cell res 0 _ rfl
          have r1 := Box.cell res 1 _ rfl
          have r2 := Box.cell res 2 _ rfl
          have r3 := Box.cell res 3 _ rfl
          have r4 := Box.cell res 4 _ rfl
          have r5 := Box.cell res 5 _ rfl
          have r6 := Box.cell res 6 _ rfl
          have r7 := Box.cell res 7 _ rfl
          have f0 := World.ownsRow.frozenAt res 0
          have f1 := World.ownsRow.frozenAt res 1
          have f2 := World.ownsRow.frozenAt res 2
          have f3 := World.ownsRow.frozenAt res 3
          have f4 := World.ownsRow.frozenAt res 4
          have f5 := World.ownsRow.frozenAt res 5
          have f6 := World.ownsRow.frozenAt res 6
          have f7 := World.ownsRow.frozenAt res 7
          have HP8 := Lib.hid (Box.put8 res (.int .i64 5) (.int .i64 0) (.int .i64 0) (.int .i64 0) (.int .i64 0) (.int .i64 wd) (.int .i64 0) (.string ⟨#[]⟩))
          go_wp2
          have hp := HP8.out
          have D := D.store hp.2 (Nat.le_refl _)
          generalize (((((((w4.setCell ⟨w.heap.size, 0, none⟩ (.int .i64 5)).setCell ⟨w.heap.size, 1, none⟩ (.int .i64 0)).setCell ⟨w.heap.size, 2, none⟩ (.int .i64 0)).setCell ⟨w.heap.size, 3, none⟩ (.int .i64 0)).setCell ⟨w.heap.size, 4, none⟩ (.int .i64 0)).setCell ⟨w.heap.size, 5, none⟩ (.int .i64 wd)).setCell ⟨w.heap.size, 6, none⟩ (.int .i64 0)).setCell ⟨w.heap.size, 7, none⟩ (.string ⟨#[]⟩) = Wf at hp D ⊢
          have z0 := hp.1.cell 0 _ rfl
          have z1 := hp.1.cell 1 _ rfl
          have z2 := hp.1.cell 2 _ rfl
          have z3 := hp.1.cell 3 _ rfl
          have z4 := hp.1.cell 4 _ rfl
          have z5 := hp.1.cell 5 _ rfl
          have z6 := hp.1.cell 6 _ rfl
          have z7 := hp.1.cell 7 _ rfl
          refine bodyPost_ret_by (v := .agg #[.int .i64 5, .int .i64 0, .int .i64 0, .int .i64 0, .int .i64 0, .int .i64 wd, .int .i64 0, .string ⟨#[]⟩]) ?_ rfl ⟨⟨5, 0, 0, 0, 0, wd, 0, ⟨#[]⟩⟩, rfl, king0, D.src, D.gr⟩
          simp [results, go_sem, z0, z1, z2, z3, z4, z5, z6, z7]
      · have q2' : (r == 2) = false := by simpa using q2
        by_cases q3 : r = 3
        · subst q3
          clear dat
          go_wp2_with fail
          refine (HN.out 7 _ (by decide) (by decide) D.src).mono ?_
          rintro e w2 ⟨s, rfl, hs0, hs1, hs, hG⟩
          have res := Box.keepA res hG D.hp
          have D := D.call hs hG
          clear hs hG
          go_wp2_with fail
          refine (l06On_any s n _ hn0 hn).mono ?_
          rintro e w5 ⟨rfl, hB5⟩
          have res := Box.below res hB5
          have D := D.below hB5
          clear hB5
          generalize (yoR s n).1 = y
          generalize (yoR s n).2 = ok
          cases ok
          · go_wp2_with fail
            refine (HW.out _).mono ?_
            rintro e wz ⟨rfl, rfl⟩
            have r0 := Box.cell res 0 _ rfl
            have r1 := Box.cell res 1 _ rfl
            have r2 := Box.cell res 2 _ rfl
            have r3 := Box.cell res 3 _ rfl
            have r4 := Box.cell res 4 _ rfl
            have r5 := Box.cell res 5 _ rfl
            have r6 := Box.cell res 6 _ rfl
            have r7 := Box.cell res 7 _ rfl
            have f0 := World.ownsRow.frozenAt res 0
            have f1 := World.ownsRow.frozenAt res 1
            have f2 := World.ownsRow.frozenAt res 2
            have f3 := World.ownsRow.frozenAt res 3
            have f4 := World.ownsRow.frozenAt res 4
            have f5 := World.ownsRow.frozenAt res 5
            have f6 := World.ownsRow.frozenAt res 6
            have f7 := World.ownsRow.frozenAt res 7
            have HP8 := Lib.hid (Box.put8 res (.int .i64 5) (.int .i64 0) (.int .i64 0) (.int .i64 0) (.int .i64 0) (.int .i64 wd) (.int .i64 0) (.string ⟨#[]⟩))
            go_wp2
            have hp := HP8.out
            have D := D.store hp.2 (Nat.le_refl _)
            generalize (((((((w5.setCell ⟨w.heap.size, 0, none⟩ (.int .i64 5)).setCell ⟨w.heap.size, 1, none⟩ (.int .i64 0)).setCell ⟨w.heap.size, 2, none⟩ (.int .i64 0)).setCell ⟨w.heap.size, 3, none⟩ (.int .i64 0)).setCell ⟨w.heap.size, 4, none⟩ (.int .i64 0)).setCell ⟨w.heap.size, 5, none⟩ (.int .i64 wd)).setCell ⟨w.heap.size, 6, none⟩ (.int .i64 0)).setCell ⟨w.heap.size, 7, none⟩ (.string ⟨#[]⟩) = Wf at hp D ⊢
            have z0 := hp.1.cell 0 _ rfl
            have z1 := hp.1.cell 1 _ rfl
            have z2 := hp.1.cell 2 _ rfl
            have z3 := hp.1.cell 3 _ rfl
            have z4 := hp.1.cell 4 _ rfl
            have z5 := hp.1.cell 5 _ rfl
            have z6 := hp.1.cell 6 _ rfl
            have z7 := hp.1.cell 7 _ rfl
            refine bodyPost_ret_by (v := .agg #[.int .i64 5, .int .i64 0, .int .i64 0, .int .i64 0, .int .i64 0, .int .i64 wd, .int .i64 0, .string ⟨#[]⟩]) ?_ rfl ⟨⟨5, 0, 0, 0, 0, wd, 0, ⟨#[]⟩⟩, rfl, king0, D.src, D.gr⟩
            simp [results, go_sem, z0, z1, z2, z3, z4, z5, z6, z7]
          · have r0 := Box.cell res 0 _ rfl
            have r1 := Box.cell res 1 _ rfl
            have r2 := Box.cell res 2 _ rfl
            have r3 := Box.cell res 3 _ rfl
            have r4 := Box.cell res 4 _ rfl
            have r5 := Box.cell res 5 _ rfl
            have r6 := Box.cell res 6 _ rfl
            have r7 := Box.cell res 7 _ rfl
            have f0 := World.ownsRow.frozenAt res 0
            have f1 := World.ownsRow.frozenAt res 1
            have f2 := World.ownsRow.frozenAt res 2
            have f3 := World.ownsRow.frozenAt res 3
            have f4 := World.ownsRow.frozenAt res 4
            have f5 := World.ownsRow.frozenAt res 5
            have f6 := World.ownsRow.frozenAt res 6
            have f7 := World.ownsRow.frozenAt res 7
            have HP8 := Lib.hid (Box.put8 res (.int .i64 3) (.int .i64 y) (.int .i64 0) (.int .i64 0) (.int .i64 0) (.int .i64 0) (.int .i64 s) (.string ⟨#[]⟩))
            go_wp2
            have hp := HP8.out
            have D := D.store hp.2 (Nat.le_refl _)
            generalize (((((((w5.setCell ⟨w.heap.size, 0, none⟩ (.int .i64 3)).setCell ⟨w.heap.size, 1, none⟩ (.int .i64 y)).setCell ⟨w.heap.size, 2, none⟩ (.int .i64 0)).setCell ⟨w.heap.size, 3, none⟩ (.int .i64 0)).setCell ⟨w.heap.size, 4, none⟩ (.int .i64 0)).setCell ⟨w.heap.size, 5, none⟩ (.int .i64 0)).setCell ⟨w.heap.size, 6, none⟩ (.int .i64 s)).setCell ⟨w.heap.size, 7, none⟩ (.string ⟨#[]⟩) = Wf at hp D ⊢
            have z0 := hp.1.cell 0 _ rfl
            have z1 := hp.1.cell 1 _ rfl
            have z2 := hp.1.cell 2 _ rfl
            have z3 := hp.1.cell 3 _ rfl
            have z4 := hp.1.cell 4 _ rfl
            have z5 := hp.1.cell 5 _ rfl
            have z6 := hp.1.cell 6 _ rfl
            have z7 := hp.1.cell 7 _ rfl
            refine bodyPost_ret_by (v := .agg #[.int .i64 3, .int .i64 y, .int .i64 0, .int .i64 0, .int .i64 0, .int .i64 0, .int .i64 s, .string ⟨#[]⟩]) ?_ rfl ⟨⟨3, y, 0, 0, 0, 0, s, ⟨#[]⟩⟩, rfl, king0, D.src, D.gr⟩
            simp [results, go_sem, z0, z1, z2, z3, z4, z5, z6, z7]
        · have q3' : (r == 3) = false := by simpa using q3
          by_cases q4 : r = 4
          · subst q4
            clear dat
            go_wp2_with fail
            refine (HN.out 3 _ (by decide) (by decide) D.src).mono ?_
            rintro e w3 ⟨s, rfl, hs0, hs1, hs, hG⟩
            have res := Box.keepA res hG D.hp
            have D := D.call hs hG
            clear hs hG
            go_wp2_with fail
            refine (l08On_any s n _ (by omega) (by omega) hn0 hn).mono ?_
            rintro e w5 ⟨rfl, hB5⟩
            have res := Box.below res hB5
            have D := D.below hB5
            clear hB5
            generalize ioO s n = y
            have r0 := Box.cell res 0 _ rfl
            have r1 := Box.cell res 1 _ rfl
            have r2 := Box.cell res 2 _ rfl
            have r3 := Box.cell res 3 _ rfl
            have r4 := Box.cell res 4 _ rfl
            have r5 := Box.cell res 5 _ rfl
            have r6 := Box.cell res 6 _ rfl
            have r7 := Box.cell res 7 _ rfl
            have f0 := World.ownsRow.frozenAt res 0
            have f1 := World.ownsRow.frozenAt res 1
            have f2 := World.ownsRow.frozenAt res 2
            have f3 := World.ownsRow.frozenAt res 3
            have f4 := World.ownsRow.frozenAt res 4
            have f5 := World.ownsRow.frozenAt res 5
            have f6 := World.ownsRow.frozenAt res 6
            have f7 := World.ownsRow.frozenAt res 7
            have HP8 := Lib.hid (Box.put8 res (.int .i64 4) (.int .i64 y) (.int .i64 0) (.int .i64 0) (.int .i64 0) (.int .i64 0) (.int .i64 s) (.string ⟨#[]⟩))
            go_wp2
            have hp := HP8.out
            have D := D.store hp.2 (Nat.le_refl _)
            generalize (((((((w5.setCell ⟨w.heap.size, 0, none⟩ (.int .i64 4)).setCell ⟨w.heap.size, 1, none⟩ (.int .i64 y)).setCell ⟨w.heap.size, 2, none⟩ (.int .i64 0)).setCell ⟨w.heap.size, 3, none⟩ (.int .i64 0)).setCell ⟨w.heap.size, 4, none⟩ (.int .i64 0)).setCell ⟨w.heap.size, 5, none⟩ (.int .i64 0)).setCell ⟨w.heap.size, 6, none⟩ (.int .i64 s)).setCell ⟨w.heap.size, 7, none⟩ (.string ⟨#[]⟩) = Wf at hp D ⊢
            have z0 := hp.1.cell 0 _ rfl
            have z1 := hp.1.cell 1 _ rfl
            have z2 := hp.1.cell 2 _ rfl
            have z3 := hp.1.cell 3 _ rfl
            have z4 := hp.1.cell 4 _ rfl
            have z5 := hp.1.cell 5 _ rfl
            have z6 := hp.1.cell 6 _ rfl
            have z7 := hp.1.cell 7 _ rfl
            refine bodyPost_ret_by (v := .agg #[.int .i64 4, .int .i64 y, .int .i64 0, .int .i64 0, .int .i64 0, .int .i64 0, .int .i64 s, .string ⟨#[]⟩]) ?_ rfl ⟨⟨4, y, 0, 0, 0, 0, s, ⟨#[]⟩⟩, rfl, king0, D.src, D.gr⟩
            simp [results, go_sem, z0, z1, z2, z3, z4, z5, z6, z7]
          · have q4' : (r == 4) = false := by simpa using q4
            clear dat
            go_wp2_with fail
            refine (HW.out _).mono ?_
            rintro e wz ⟨rfl, rfl⟩
            have r0 := Box.cell res 0 _ rfl
            have r1 := Box.cell res 1 _ rfl
            have r2 := Box.cell res 2 _ rfl
            have r3 := Box.cell res 3 _ rfl
            have r4 := Box.cell res 4 _ rfl
            have r5 := Box.cell res 5 _ rfl
            have r6 := Box.cell res 6 _ rfl
            have r7 := Box.cell res 7 _ rfl
            have f0 := World.ownsRow.frozenAt res 0
            have f1 := World.ownsRow.frozenAt res 1
            have f2 := World.ownsRow.frozenAt res 2
            have f3 := World.ownsRow.frozenAt res 3
            have f4 := World.ownsRow.frozenAt res 4
            have f5 := World.ownsRow.frozenAt res 5
            have f6 := World.ownsRow.frozenAt res 6
            have f7 := World.ownsRow.frozenAt res 7
            have HP8 := Lib.hid (Box.put8 res (.int .i64 5) (.int .i64 0) (.int .i64 0) (.int .i64 0) (.int .i64 0) (.int .i64 wd) (.int .i64 0) (.string ⟨#[]⟩))
            go_wp2
            have hp := HP8.out
            have D := D.store hp.2 (Nat.le_refl _)
            generalize (((((((w3.setCell ⟨w.heap.size, 0, none⟩ (.int .i64 5)).setCell ⟨w.heap.size, 1, none⟩ (.int .i64 0)).setCell ⟨w.heap.size, 2, none⟩ (.int .i64 0)).setCell ⟨w.heap.size, 3, none⟩ (.int .i64 0)).setCell ⟨w.heap.size, 4, none⟩ (.int .i64 0)).setCell ⟨w.heap.size, 5, none⟩ (.int .i64 wd)).setCell ⟨w.heap.size, 6, none⟩ (.int .i64 0)).setCell ⟨w.heap.size, 7, none⟩ (.string ⟨#[]⟩) = Wf at hp D ⊢
            have z0 := hp.1.cell 0 _ rfl
            have z1 := hp.1.cell 1 _ rfl
            have z2 := hp.1.cell 2 _ rfl
            have z3 := hp.1.cell 3 _ rfl
            have z4 := hp.1.cell 4 _ rfl
            have z5 := hp.1.cell 5 _ rfl
            have z6 := hp.1.cell 6 _ rfl
            have z7 := hp.1.cell 7 _ rfl
            refine bodyPost_ret_by (v := .agg #[.int .i64 5, .int .i64 0, .int .i64 0, .int .i64 0, .int .i64 0, .int .i64 wd, .int .i64 0, .string ⟨#[]⟩]) ?_ rfl ⟨⟨5, 0, 0, 0, 0, wd, 0, ⟨#[]⟩⟩, rfl, king0, D.src, D.gr⟩
            simp [results, go_sem, z0, z1, z2, z3, z4, z5, z6, z7]
end

section
open Go.ChangeShapes Go.WideShapes Go.ChangeAt Go.RowKit Go.IntWalk

theorem reigns_fr0 {xs : List Rg} (h : areReignsB xs = true) : ∀ r ∈ xs, 0 ≤ r.fr := fun r hr => by
  unfold areReignsB at h
  simp only [Bool.and_eq_true] at h
  have := upGo_all h.1 r hr
  simp only [okRg, spanB, dayB, inB, Bool.and_eq_true, decide_eq_true_eq] at this
  omega
theorem own_apart2 {B : Nat} {E : TypeId} {k n g c x : Nat} {xs : List Value} {w w' : World} (h : w.ownsRow B E k (.slice (some ⟨g, 0, none⟩) n c) n xs) (hg : w.grownBy w' (some x)) (hne : g ≠ x) : w'.ownsRow B E k (.slice (some ⟨g, 0, none⟩) n c) n xs :=
  own_keepV h hg (fun y e e2 => by simp only [Value.ownBlock, Option.some.injEq] at e; injection e2 with e2; omega)
end
end Go.Proofs.YteajkofgcmfaoaaGreatDoor
