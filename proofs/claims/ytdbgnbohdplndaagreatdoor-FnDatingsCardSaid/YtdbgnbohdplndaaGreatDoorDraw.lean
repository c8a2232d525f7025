/- Walks: numbers that follow from a code: l01From, l01Next, l01Pick. -/
import Derived.Test.YtdbgnbohdplndaaGreatDoorTI
import Derived.Test.YtdbgnbohdplndaaGreatDoorRowI
import Derived.Test.YtdbgnbohdplndaaGreatDoorQLand
import Derived.StillTailTactics
import Derived.BigQuiet
namespace Go.Proofs.YtdbgnbohdplndaaGreatDoor
open Go.ChangeShapes Go.WideShapes Go.ChangeAt Go.RowKit Go.IntWalk

def encB (m : Int) : List Value := [.int .u8 m]
theorem encB_len (m : Int) : (encB m).length = 1 := rfl
def goodB (m : Int) : Prop := 0 ≤ m ∧ m ≤ 255
theorem Rd.bb {w : World} {a : Option Addr} {xs : List Int} (h : Rd encB w a xs) {i : Nat} {m : Int} (hi : xs[i]? = some m) :
    ∃ b off, a = some ⟨b, off, none⟩ ∧ b < w.heap.size ∧ w.cell? ⟨b, off + i, none⟩ = some (.int .u8 m) := by
  obtain ⟨b, off, ha, hb, hc⟩ := h i m hi
  have h0 := hc 0 _ rfl
  rw [encB_len, Nat.mul_one, Nat.add_zero] at h0
  exact ⟨b, off, ha, hb, h0⟩

/-- A source of numbers lies at block p; all that lay in w0 lies. -/
def Src (w0 : World) (cs : Option Addr) (cap : Nat) (bs : List Int) (p : Nat) (w : World) : Prop :=
  ∃ (i : Nat) (seed : Int), i ≤ bs.length ∧ 0 ≤ seed ∧ seed ≤ 2147483646 ∧
    w.ownsRow w0.heap.size 128 1 (.slice (some ⟨p, 0, none⟩) 3 3) 3 [.slice cs bs.length cap, .int .i64 i, .int .i64 seed] ∧ Below w0.heap.size w0 w
theorem Src.lt {w0 : World} {cs : Option Addr} {cap : Nat} {bs : List Int} {p : Nat} {w : World} (h : Src w0 cs cap bs p w) : w0.heap.size ≤ p ∧ p < w.heap.size := by
  obtain ⟨_, _, _, _, _, ho, _⟩ := h
  exact own_lt ho
theorem Src.base {w0 : World} {cs : Option Addr} {cap : Nat} {bs : List Int} {p : Nat} {w : World} (h : Src w0 cs cap bs p w) : Below w0.heap.size w0 w := by
  obtain ⟨_, _, _, _, _, _, hB⟩ := h
  exact hB
theorem Src.below {w0 : World} {cs : Option Addr} {cap : Nat} {bs : List Int} {p : Nat} {w w' : World} (h : Src w0 cs cap bs p w) (hB : Below w.heap.size w w') : Src w0 cs cap bs p w' := by
  obtain ⟨i, s, h1, h2, h3, ho, hb⟩ := h
  exact ⟨i, s, h1, h2, h3, own_below ho hB, stepB hb hB hb.size⟩
theorem Src.other {w0 : World} {cs : Option Addr} {cap : Nat} {bs : List Int} {p g : Nat} {w w' : World} (h : Src w0 cs cap bs p w) (hG : w.grownBy w' (some g)) (hne : p ≠ g) (hg : w0.heap.size ≤ g) : Src w0 cs cap bs p w' := by
  obtain ⟨i, s, h1, h2, h3, ho, hb⟩ := h
  exact ⟨i, s, h1, h2, h3, own_keepOther ho hG hne, hb.grown hG hb.size (fun x e => by cases e; exact hg)⟩
theorem tmod_bd {x y : Int} (hx : 0 ≤ x) (hy : 0 < y) : 0 ≤ x.tmod y ∧ x.tmod y ≤ y - 1 := by
  rw [Int.tmod_eq_emod_of_nonneg hx]
  have := Int.emod_nonneg x (Int.ne_of_gt hy)
  have := Int.emod_lt_of_pos x hy
  omega
theorem emod_bd {x y : Int} (hy : 0 < y) : 0 ≤ x % y ∧ x % y ≤ y - 1 := by
  have := Int.emod_nonneg x (Int.ne_of_gt hy)
  have := Int.emod_lt_of_pos x hy
  omega
theorem tdiv_bd {x y : Int} (hx : 0 ≤ x) (hy : 0 < y) : 0 ≤ x.tdiv y ∧ x.tdiv y ≤ x := by
  rw [Int.tdiv_eq_ediv_of_nonneg hx]
  exact ⟨Int.ediv_nonneg hx (by omega), Int.ediv_le_self _ hx⟩

set_option maxRecDepth 100000 in
set_option maxHeartbeats 4000000 in
theorem l01From_any (cs : Option Addr) (cap : Nat) (bs : List Int) (w : World) (hx : Rd encB w cs bs) (hb : ∀ m ∈ bs, goodB m) :
    Calls Tryz.prog 74 #[.slice cs bs.length cap] w fun e w' => ∃ p, e = .returned (.pointer (some ⟨p, 0, none⟩)) ∧ Src w cs cap bs p w' := by
  have hown0 : (w.alloc (.cells #[.slice cs bs.length cap, .int .i64 0, .int .i64 34001] 128)).ownsRow w.heap.size 128 1 (.slice (some ⟨w.heap.size, 0, none⟩) 3 3) 3 [.slice cs bs.length cap, .int .i64 (0 : Nat), .int .i64 34001] :=
    ⟨rfl, .inr ⟨w.heap.size, 3, #[.slice cs bs.length cap, .int .i64 0, .int .i64 34001], rfl, Nat.le_refl _, heap_alloc_new w _, by decide, by decide, rfl, rfl⟩⟩
  have hB0 : Below w.heap.size w (w.alloc (.cells #[.slice cs bs.length cap, .int .i64 0, .int .i64 34001] 128)) := (Below.refl _ _).alloc (Nat.le_refl _) _
  go_enter Tryz.func74, Tryz.ntmps74
  go_wp2
  go_loopw [4] (fun i wr => ∃ (k : Nat) (s : Int), k ≤ bs.length ∧ k ≤ 64 ∧ i = .int .i64 k ∧ 0 ≤ s ∧ s ≤ 2147483646 ∧ wr.ownsRow w.heap.size 128 1 (.slice (some ⟨w.heap.size, 0, none⟩) 3 3) 3 [.slice cs bs.length cap, .int .i64 (0 : Nat), .int .i64 s] ∧ Below w.heap.size w wr) (fun i _ => 64 - (intOf i).toNat)
  case atStart => exact ⟨0, 34001, Nat.zero_le _, Nat.zero_le _, rfl, by decide, by decide, hown0, hB0⟩
  case round =>
    clear hown0 hB0
    obtain ⟨k, s, hk, hk64, rfl, hs0, hs1, hown, hB⟩ := hrel
    by_cases hlt : k < bs.length
    · have hk1 : (k : Int) < (bs.length : Int) := by omega
      by_cases h64 : k < 64
      · have hk2 : (k : Int) < 64 := by omega
        have hm := List.getElem?_eq_getElem hlt
        generalize bs[k] = m at hm
        have hmb := hb m (List.mem_of_getElem? hm)
        obtain ⟨hm0, hm1⟩ := hmb
        obtain ⟨b, off, rfl, hbb, c0⟩ := (hx.below hB).bb hm
        have c2 := hown.cellAt 2 (by decide)
        have c2 : wr.cell? ⟨w.heap.size, 2, none⟩ = some (.int .i64 s) := c2
        have v1 := i64_in (s * 67) (by omega)
        have v2 := i64_in m (by omega)
        have v3 := i64_in (s * 67 + m) (by omega)
        have tb := tmod_bd (x := s * 67 + m) (y := 2147483647) (by omega) (by decide)
        generalize ht : (s * 67 + m).tmod 2147483647 = t at tb
        obtain ⟨tb0, tb1⟩ := tb
        clear hm
        go_wp2_with fail
        go_still_tail 15, (by kernel_rfl)
        clear c0 c2
        change wpList _ _ _ _ _ wr.drew
        have hzz : Below wr.heap.size wr wr.drew := (Below.refl _ wr).drew
        generalize wr.drew = V at hzz ⊢
        have hown := own_below hown hzz
        have hB := stepB hB hzz hB.size
        have hgl := own_lt hown
        have c2 : V.cell? ⟨w.heap.size, 2, none⟩ = some (.int .i64 s) := hown.cellAt 2 (by decide)
        have f2 := hown.frozenAt 2
        have hp := own_put (i := 2) (pre := [.slice (some ⟨b, off, none⟩) bs.length cap, .int .i64 (0 : Nat)]) (post := []) hown rfl (.int .i64 t)
        have HP := Lib.hid hp.1
        have HG := Lib.hid hp.2
        clear hp hzz
        go_wp2
        go_roundw
        case rel => exact ⟨k + 1, t, by omega, by omega, by go_num, by omega, by omega, HP.out, hB.grown HG.out hB.size (fun g e => by cases e; exact Nat.le_refl _)⟩
        case measure => simp [intOf]; omega
      · have h64' : decide ((k : Int) < 64) = false := by simp; omega
        go_wp2
        go_ret
        exact ⟨_, rfl, 0, s, Nat.zero_le _, hs0, hs1, hown, hB⟩
    · have hk' : decide ((k : Int) < (bs.length : Int)) = false := by simp; omega
      go_wp2
      go_ret
      exact ⟨_, rfl, 0, s, Nat.zero_le _, hs0, hs1, hown, hB⟩

set_option maxRecDepth 100000 in
set_option maxHeartbeats 4000000 in
theorem l01Next_any (w0 : World) (cs : Option Addr) (cap : Nat) (bs : List Int) (p : Nat) (n : Int) (w : World) (hx : Rd encB w0 cs bs) (hb : ∀ m ∈ bs, goodB m) (hl : bs.length ≤ 4096) (hn : n ≤ 1000000) (hn0 : 0 ≤ n) (hs : Src w0 cs cap bs p w) :
    Calls Tryz.prog 76 #[.pointer (some ⟨p, 0, none⟩), .int .i64 n] w fun e w' => ∃ r : Int, e = .returned (.int .i64 r) ∧ 0 ≤ r ∧ (r = 0 ∨ r < n) ∧ Src w0 cs cap bs p w' ∧ w.grownBy w' (some p) := by
  by_cases hn1 : n ≤ 1
  · go_enter Tryz.func76, Tryz.ntmps76
    go_wp2
    go_ret
    exact ⟨0, rfl, Int.le_refl _, .inl rfl, hs, ⟨rfl, rfl, rfl, Nat.le_refl _, fun _ _ _ => rfl⟩⟩
  · obtain ⟨i, s, hi, hs0, hs1, hown, hB⟩ := hs
    have hn1' : decide (n ≤ 1) = false := by simpa using hn1
    have hgl := own_lt hown
    have c0 : w.cell? ⟨p, 0, none⟩ = some (.slice cs bs.length cap) := hown.cellAt 0 (by decide)
    have c1 : w.cell? ⟨p, 1, none⟩ = some (.int .i64 i) := hown.cellAt 1 (by decide)
    have c2 : w.cell? ⟨p, 2, none⟩ = some (.int .i64 s) := hown.cellAt 2 (by decide)
    have f2 := hown.frozenAt 2
    have v1 := i64_in (s * 48271) (by omega)
    have v2 := i64_in (s * 48271 + 67) (by omega)
    have tb := tmod_bd (x := s * 48271 + 67) (y := 2147483647) (by omega) (by decide)
    generalize ht : (s * 48271 + 67).tmod 2147483647 = t at tb
    obtain ⟨tb0, tb1⟩ := tb
    have hp := own_put (i := 2) (pre := [.slice cs bs.length cap, .int .i64 i]) (post := []) hown rfl (.int .i64 t)
    have HP := Lib.hid hp.1
    have HG := Lib.hid hp.2
    clear hp
    go_enter Tryz.func76, Tryz.ntmps76
    go_upto_region 4 with (fail)
    have hown := HP.out
    have hG := HG.out
    have hB := hB.grown hG hB.size (fun g e => by cases e; exact hgl.1)
    clear HP HG c0 c1 c2 f2 v1 v2 ht
    generalize w.setCell ⟨p, 2, none⟩ (.int .i64 t) = w1 at hown hG hB ⊢
    have hgl := own_lt hown
    have c0 : w1.cell? ⟨p, 0, none⟩ = some (.slice cs bs.length cap) := hown.cellAt 0 (by decide)
    have c1 : w1.cell? ⟨p, 1, none⟩ = some (.int .i64 i) := hown.cellAt 1 (by decide)
    have c2 : w1.cell? ⟨p, 2, none⟩ = some (.int .i64 t) := hown.cellAt 2 (by decide)
    have v1 := i64_quo' t 43 (by omega)
    have db := tdiv_bd (x := t) (y := 43) (by omega) (by decide)
    generalize hq : t.tdiv 43 = q at db v1
    obtain ⟨db0, db1⟩ := db
    by_cases hlt : i < bs.length
    · have hlt' : (i : Int) < (bs.length : Int) := by omega
      have hm := List.getElem?_eq_getElem hlt
      generalize bs[i] = m at hm
      obtain ⟨hm0, hm1⟩ := hb m (List.mem_of_getElem? hm)
      have C0 := Later.cell c0 hgl.2
      have C1 := Later.cell c1 hgl.2
      have C2 := Later.cell c2 hgl.2
      go_wp2_with fail
      refine wp_region_later _ (by kernel_rfl) (by kernel_rfl) ?_
      repeat (go_big_quiet_step (fail))
      refine wpQuiet_nil ?_
      intro z
      have hz := z.prop
      generalize z.val = U at hz
      clear C0 C1 C2 c0 c1 c2
      have hown := own_below hown hz
      have hG := gB hG hz
      have hB := stepB hB hz hB.size
      have hgl := own_lt hown
      have c0 : U.cell? ⟨p, 0, none⟩ = some (.slice cs bs.length cap) := hown.cellAt 0 (by decide)
      have c1 : U.cell? ⟨p, 1, none⟩ = some (.int .i64 i) := hown.cellAt 1 (by decide)
      have c2 : U.cell? ⟨p, 2, none⟩ = some (.int .i64 t) := hown.cellAt 2 (by decide)
      obtain ⟨b, off, hcs, hbb, cb⟩ := (hx.below hB).bb hm
      subst hcs
      have v2 := i64_in m (by omega)
      have v3 := i64_in (q + m) (by omega)
      have C0 := Later.cell c0 hgl.2
      have C1 := Later.cell c1 hgl.2
      have C2 := Later.cell c2 hgl.2
      have CB := Later.cell cb hbb
      go_wp2_with fail
      refine wp_region_later _ (by kernel_rfl) (by kernel_rfl) ?_
      repeat (go_big_quiet_step (fail))
      refine wpQuiet_nil ?_
      intro z
      have hz := z.prop
      generalize z.val = U2 at hz
      clear C0 C1 C2 c0 c1 c2 cb CB
      have hown := own_below hown hz
      have hG := gB hG hz
      have hB := stepB hB hz hB.size
      have hgl := own_lt hown
      have c0 : U2.cell? ⟨p, 0, none⟩ = some (.slice (some ⟨b, off, none⟩) bs.length cap) := hown.cellAt 0 (by decide)
      have c1 : U2.cell? ⟨p, 1, none⟩ = some (.int .i64 i) := hown.cellAt 1 (by decide)
      have c2 : U2.cell? ⟨p, 2, none⟩ = some (.int .i64 t) := hown.cellAt 2 (by decide)
      have f1 := hown.frozenAt 1
      have v4 := i64_in ((i : Int) + 1) (by omega)
      have hp := own_put (i := 1) (pre := [.slice (some ⟨b, off, none⟩) bs.length cap]) (post := [.int .i64 t]) hown rfl (.int .i64 ((i : Int) + 1))
      have HP := Lib.hid hp.1
      have HG := Lib.hid hp.2
      clear hp v2 v3
      go_upto_region 8 with (fail)
      have hown := HP.out
      have hG := gT hG HG.out
      have hB := hB.grown HG.out hB.size (fun g e => by cases e; exact hgl.1)
      clear HP HG c0 c1 c2 f1 v4
      generalize U2.setCell ⟨p, 1, none⟩ (.int .i64 ((i : Int) + 1)) = w3 at hown hG hB ⊢
      have hgl := own_lt hown
      have hown : w3.ownsRow w0.heap.size 128 1 (.slice (some ⟨p, 0, none⟩) 3 3) 3 [.slice (some ⟨b, off, none⟩) bs.length cap, .int .i64 ((i + 1 : Nat) : Int), .int .i64 t] := hown
      have c0 : w3.cell? ⟨p, 0, none⟩ = some (.slice (some ⟨b, off, none⟩) bs.length cap) := hown.cellAt 0 (by decide)
      have c1 : w3.cell? ⟨p, 1, none⟩ = some (.int .i64 ((i : Int) + 1)) := hown.cellAt 1 (by decide)
      have c2 : w3.cell? ⟨p, 2, none⟩ = some (.int .i64 t) := hown.cellAt 2 (by decide)
      generalize hr2 : ((i : Int) + 1).tmod 2 = r2
      by_cases hn2 : n ≤ 256
      · have hn2' : decide (n ≤ 256) = true := by simpa using hn2
        by_cases hr0 : r2 = 0
        · have hr0' : (r2 == 0) = true := by simpa using hr0
          have v2 := i64_in m (by omega)
          have v5 := i64_in ((i : Int) + 1 - 1) (by omega)
          have v6 : (i : Int) + 1 - 1 = i := by omega
          obtain ⟨b', off', hcs, hbb, cb⟩ := (hx.below hB).bb hm
          obtain ⟨rfl, rfl⟩ : b = b' ∧ off = off' := by injection hcs with e1; injection e1 with e1 e2; exact ⟨e1, e2⟩
          clear hcs
          have C0 := Later.cell c0 hgl.2
          have C1 := Later.cell c1 hgl.2
          have C2 := Later.cell c2 hgl.2
          have CB := Later.cell cb hbb
          go_wp2_with fail
          refine wp_region_later _ (by kernel_rfl) (by kernel_rfl) ?_
          repeat (go_big_quiet_step (fail))
          refine wpQuiet_nil ?_
          intro z
          have hz := z.prop
          generalize z.val = U3 at hz
          clear C0 C1 C2 c0 c1 c2 cb CB
          have hown := own_below hown hz
          have hG := gB hG hz
          have hB := stepB hB hz hB.size
          have hgl := own_lt hown
          have xb := emod_bd (x := m) (y := n) (by omega)
          go_wp2
          go_ret
          exact ⟨_, rfl, xb.1, .inr (by omega), ⟨i + 1, t, by omega, tb0, by omega, hown, hB⟩, hG⟩
        · have hr0' : (r2 == 0) = false := by simpa using hr0
          have xb := emod_bd (x := q + m) (y := n) (by omega)
          go_wp2
          go_ret
          exact ⟨_, rfl, xb.1, .inr (by omega), ⟨i + 1, t, by omega, tb0, by omega, hown, hB⟩, hG⟩
      · have hn2' : decide (n ≤ 256) = false := by simpa using hn2
        have xb := emod_bd (x := q + m) (y := n) (by omega)
        go_wp2
        go_ret
        exact ⟨_, rfl, xb.1, .inr (by omega), ⟨i + 1, t, by omega, tb0, by omega, hown, hB⟩, hG⟩
    · have hlt' : decide ((i : Int) < (bs.length : Int)) = false := by simp; omega
      have C0 := Later.cell c0 hgl.2
      have C1 := Later.cell c1 hgl.2
      have C2 := Later.cell c2 hgl.2
      go_wp2_with fail
      refine wp_region_later _ (by kernel_rfl) (by kernel_rfl) ?_
      repeat (go_big_quiet_step (fail))
      refine wpQuiet_nil ?_
      intro z
      have hz := z.prop
      generalize z.val = U at hz
      clear C0 C1 C2 c0 c1 c2
      have hown := own_below hown hz
      have hG := gB hG hz
      have hB := stepB hB hz hB.size
      have hgl := own_lt hown
      have xb := emod_bd (x := q) (y := n) (by omega)
      go_wp2
      go_ret
      exact ⟨_, rfl, xb.1, .inr (by omega), ⟨i, t, hi, tb0, by omega, hown, hB⟩, hG⟩

set_option maxRecDepth 100000 in
set_option maxHeartbeats 4000000 in
theorem l01Pick_any (w0 : World) (cs : Option Addr) (cap : Nat) (bs : List Int) (p : Nat) (a : Option Addr) (ca : Nat) (xs : List Int) (w : World) (hx : Rd encB w0 cs bs) (hb : ∀ m ∈ bs, goodB m) (hl : bs.length ≤ 4096) (hs : Src w0 cs cap bs p w) (hxs : ∀ W, w.grownBy W (some p) → Rd encI W a xs) (h1 : 1 ≤ xs.length) (h2 : xs.length ≤ 100) :
    Calls Tryz.prog 145 #[.pointer (some ⟨p, 0, none⟩), .slice a xs.length ca] w fun e w' => ∃ r : Int, e = .returned (.int .i64 r) ∧ r ∈ xs ∧ Src w0 cs cap bs p w' ∧ w.grownBy w' (some p) := by
  have HN := Lib.hid (l01Next_any w0 cs cap bs p xs.length w hx hb hl (by omega) (by omega) hs)
  go_enter Tryz.func145, Tryz.ntmps145
  go_wp2_with fail
  refine HN.out.mono ?_
  rintro e w1 ⟨r, rfl, hr0, hr1, hs1, hG⟩
  obtain ⟨k, rfl⟩ : ∃ k : Nat, r = k := ⟨r.toNat, by omega⟩
  have hk : k < xs.length := by omega
  have hm := List.getElem?_eq_getElem hk
  have hmem := List.getElem_mem hk
  generalize xs[k] = m at hm hmem
  obtain ⟨b, off, rfl, hbb, c0⟩ := (hxs w1 hG).i hm
  have hk1 : (k : Int) < (xs.length : Int) := by omega
  clear hm hr1
  go_wp2
  go_ret
  exact ⟨_, rfl, hmem, hs1, hG⟩
end Go.Proofs.YtdbgnbohdplndaaGreatDoor
