/- Walks: a land is drawn. Printed by gen_drawl.py. -/
import Derived.Test.YtipdcgfdejmjfaaGreatDoorDrB
import Derived.Test.YtipdcgfdejmjfaaGreatDoorIxl
import Derived.Test.YtipdcgfdejmjfaaGreatDoorTWy
import Derived.Test.YtipdcgfdejmjfaaGreatDoorTS
import Derived.Test.YtipdcgfdejmjfaaGreatDoorCLand
import Derived.Deep.AppendLies
import Derived.Deep.CutRange
import Derived.Deep.CutBlock
namespace Go.Proofs.YtipdcgfdejmjfaaGreatDoor
open Go.ChangeShapes Go.WideShapes Go.ChangeAt Go.RowKit Go.IntWalk

theorem rd_arr {w : World} {c : Array Value} {T : TypeId} {xs : List Int} {p : Nat} (hc : c = (xs.map fun m => Value.int .i64 m).toArray) (hp : p < w.heap.size) (W' : World) (hG : (w.alloc (.cells c T)).grownBy W' (some p)) : Rd encI W' (some ⟨w.heap.size, 0, none⟩) xs := by
  intro i x hi
  have hlt : w.heap.size < (w.alloc (.cells c T)).heap.size := by simp
  refine ⟨w.heap.size, 0, rfl, Nat.lt_of_lt_of_le hlt hG.size, fun j v hv => ?_⟩
  rw [gcell hG (p := ⟨w.heap.size, _, none⟩) hlt (fun g e => by cases e; exact Nat.ne_of_gt hp), World.cell?_alloc_at _ _ _ _ rfl]
  subst hc
  match j, hv with
  | 0, hv => cases hv; simp [encI, hi]

set_option maxRecDepth 100000 in
set_option maxHeartbeats 4000000 in
theorem l14DrawPlace_any (w0 : World) (cs : Option Addr) (cap : Nat) (bs : List Int) (p : Nat) (a0 a1 : Option Addr) (n0 n1 c0 c1 : Nat) (w : World) (hx : Rd encB w0 cs bs) (hb : ∀ m ∈ bs, goodB m) (hl : bs.length ≤ 4096) (hs : Src w0 cs cap bs p w) (hn : n0 ≤ 1000) :
    Calls Tryz.prog 37 #[.pointer (some ⟨p, 0, none⟩), .agg #[.slice a0 n0 c0, .slice a1 n1 c1]] w fun e w' => ∃ r : Int, e = .returned (.int .i64 r) ∧ Src w0 cs cap bs p w' ∧ w.grownBy w' (some p) := by
  have hp := hs.lt.2
  have hB0 : Below w.heap.size w (w.alloc (.cells #[.slice a0 n0 c0, .slice a1 n1 c1] 35)) := (Below.refl _ _).alloc (Nat.le_refl _) _
  have HN := Lib.hid (l01Next_any w0 cs cap bs p 40 _ hx hb hl (by decide) (by decide) (hs.below hB0))
  have b0 : (w.alloc (.cells #[.slice a0 n0 c0, .slice a1 n1 c1] 35)).cell? ⟨w.heap.size, 0, none⟩ = some (.slice a0 n0 c0) := World.cell?_alloc_at _ _ _ _ rfl
  have hn0 : w.heap.size < (w.alloc (.cells #[.slice a0 n0 c0, .slice a1 n1 c1] 35)).heap.size := by simp
  go_enter Tryz.func37, Tryz.ntmps37
  go_wp2_with fail
  refine HN.out.mono ?_
  rintro e w1 ⟨r, rfl, _, _, hs1, hG⟩
  have b0 := (gcell hG (p := ⟨w.heap.size, 0, none⟩) hn0 (fun g e => by cases e; exact Nat.ne_of_gt hp)).trans b0
  have hG := gT (grB hB0 (some p)) hG
  have hp1 := hs1.lt.2
  clear HN hB0 hn0
  by_cases hr : r = 0
  · subst hr
    have HP := Lib.hid (l01Pick_any w0 cs cap bs p (some ⟨w1.heap.size, 0, none⟩) 2 [-1, (n0 : Int)] (w1.alloc (.cells #[.int .i64 (-1), .int .i64 n0] 2)) hx hb hl (hs1.below ((Below.refl _ _).alloc (Nat.le_refl _) _)) (rd_arr rfl hp1) (by simp) (by simp))
    go_wp2_with fail
    refine HP.out.mono ?_
    rintro e w2 ⟨r, rfl, _, hs2, hG2⟩
    go_wp2
    go_ret
    exact ⟨_, rfl, hs2, gT (gT hG (grA _ _ _)) hG2⟩
  · have hr' : (r == 0) = false := by simpa using hr
    have HN := Lib.hid (l01Next_any w0 cs cap bs p n0 w1 hx hb hl (by omega) (by omega) hs1)
    go_wp2_with fail
    refine HN.out.mono ?_
    rintro e w2 ⟨r, rfl, _, _, hs2, hG2⟩
    go_wp2
    go_ret
    exact ⟨_, rfl, hs2, gT hG hG2⟩

/-- What stands while a land is drawn: the result's cells at block r, the land's at block lb (they hold U and V), its names in U2, its ways in V2. -/
structure DrS (w0 : World) (cs : Option Addr) (cap : Nat) (bs : List Int) (p : Nat) (wb : World) (r lb : Nat) (U V U2 V2 : Value) (ns : List ByteArray) (ws : List Wy) (w : World) : Prop where
  src : Src w0 cs cap bs p w
  gr : wb.grownBy w (some p)
  res : w.ownsRow wb.heap.size 35 1 (.slice (some ⟨r, 0, none⟩) 2 2) 2 [.slice none 0 0, .slice none 0 0]
  land : w.ownsRow wb.heap.size 35 1 (.slice (some ⟨lb, 0, none⟩) 2 2) 2 [U, V]
  nam : w.ownsRow wb.heap.size 9 1 U2 ns.length (ns.flatMap encS)
  way : w.ownsRow wb.heap.size 125 3 V2 ws.length (ws.flatMap encWy)
  hp : p < wb.heap.size
  hne : r ≠ lb
section
variable {w0 : World} {cs : Option Addr} {cap : Nat} {bs : List Int} {p : Nat} {wb : World} {r lb : Nat} {U V U2 V2 : Value} {ns : List ByteArray} {ws : List Wy} {w w' : World}
theorem DrS.below (h : DrS w0 cs cap bs p wb r lb U V U2 V2 ns ws w) (hB : Below w.heap.size w w') : DrS w0 cs cap bs p wb r lb U V U2 V2 ns ws w' :=
  ⟨h.src.below hB, gB h.gr hB, own_below h.res hB, own_below h.land hB, own_below h.nam hB, own_below h.way hB, h.hp, h.hne⟩
theorem DrS.call (h : DrS w0 cs cap bs p wb r lb U V U2 V2 ns ws w) (hs : Src w0 cs cap bs p w') (hG : w.grownBy w' (some p)) : DrS w0 cs cap bs p wb r lb U V U2 V2 ns ws w' :=
  ⟨hs, gT h.gr hG, own_keepP h.res hG h.hp, own_keepP h.land hG h.hp, own_keepP h.nam hG h.hp, own_keepP h.way hG h.hp, h.hp, h.hne⟩
theorem Src.some {x : Option Nat} (h : Src w0 cs cap bs p w) (hG : w.grownBy w' x) (hx : ∀ g, x = some g → w0.heap.size ≤ g ∧ p ≠ g) : Src w0 cs cap bs p w' := by
  cases x with
  | none => exact h.below ⟨hG.os, hG.tape, hG.output, hG.size, fun j hj => hG.block j hj (by simp)⟩
  | some g => exact h.other hG (hx g rfl).2 (hx g rfl).1
theorem gO {x : Option Nat} (h : wb.grownBy w (Option.some p)) (k : w.grownBy w' x) (hx : ∀ g, x = Option.some g → wb.heap.size ≤ g) : wb.grownBy w' (Option.some p) := by
  cases x with
  | none => exact ⟨k.os.trans h.os, k.tape.trans h.tape, k.output.trans h.output, Nat.le_trans h.size k.size, fun j hj hne => (k.block j (Nat.lt_of_lt_of_le hj h.size) (by simp)).trans (h.block j hj hne)⟩
  | some g => exact gN h k (hx g rfl)
/-- More ways: the land's cell does not hold them yet. -/
theorem DrS.ways {V3 : Value} {ws' : List Wy} (h : DrS w0 cs cap bs p wb r lb U V U2 V2 ns ws w) (hG : w.grownBy w' V2.ownBlock) (hw : w'.ownsRow wb.heap.size 125 3 V3 ws'.length (ws'.flatMap encWy)) : DrS w0 cs cap bs p wb r lb U V U2 V3 ns ws' w' := by
  have hlo := fun g e => (h.way.lt g e).1
  have hsp := h.src.lt
  exact ⟨h.src.some hG (fun g e => ⟨by have := hlo g e; have := h.hp; omega, by have := hlo g e; have := h.hp; omega⟩), gO h.gr hG hlo, own_keepV h.res hG (fun g e e2 => own_apartV h.res h.way (by decide) g e e2), own_keepV h.land hG (fun g e e2 => own_apartV h.land h.way (by decide) g e e2), own_keepV h.nam hG (fun g e e2 => own_apartV h.nam h.way (by decide) g e e2), hw, h.hp, h.hne⟩
theorem DrS.names {U3 : Value} {ns' : List ByteArray} (h : DrS w0 cs cap bs p wb r lb U V U2 V2 ns ws w) (hG : w.grownBy w' U2.ownBlock) (hw : w'.ownsRow wb.heap.size 9 1 U3 ns'.length (ns'.flatMap encS)) : DrS w0 cs cap bs p wb r lb U V U3 V2 ns' ws w' := by
  have hlo := fun g e => (h.nam.lt g e).1
  have hsp := h.src.lt
  exact ⟨h.src.some hG (fun g e => ⟨by have := hlo g e; have := h.hp; omega, by have := hlo g e; have := h.hp; omega⟩), gO h.gr hG hlo, own_keepV h.res hG (fun g e e2 => own_apartV h.res h.nam (by decide) g e e2), own_keepV h.land hG (fun g e e2 => own_apartV h.land h.nam (by decide) g e e2), hw, own_keepV h.way hG (fun g e e2 => own_apartV h.way h.nam (by decide) g e e2), h.hp, h.hne⟩
theorem DrS.putL {U3 V3 : Value} (h : DrS w0 cs cap bs p wb r lb U V U2 V2 ns ws w) (hG : w.grownBy w' (Option.some lb)) (hw : w'.ownsRow wb.heap.size 35 1 (.slice (Option.some ⟨lb, 0, none⟩) 2 2) 2 [U3, V3]) : DrS w0 cs cap bs p wb r lb U3 V3 U2 V2 ns ws w' := by
  have hlo := (own_lt h.land).1
  have hsp := h.src.lt
  exact ⟨h.src.some hG (fun g e => by injection e with e; have := h.hp; omega), gN h.gr hG hlo, own_keepOther h.res hG h.hne, hw, own_keepV h.nam hG (fun g e e2 => own_apartV h.land h.nam (by decide) g e2 e), own_keepV h.way hG (fun g e e2 => own_apartV h.land h.way (by decide) g e2 e), h.hp, h.hne⟩
theorem DrS.reset {U3 : Value} {ns' : List ByteArray} (h : DrS w0 cs cap bs p wb r lb U V U2 V2 ns ws w) (hw : w.ownsRow wb.heap.size 9 1 U3 ns'.length (ns'.flatMap encS)) : DrS w0 cs cap bs p wb r lb U V U3 V2 ns' ws w :=
  ⟨h.src, h.gr, h.res, h.land, hw, h.way, h.hp, h.hne⟩
theorem DrS.put1 (h : DrS w0 cs cap bs p wb r lb U V U2 V2 ns ws w) (V3 : Value) : DrS w0 cs cap bs p wb r lb U V3 U2 V2 ns ws (w.setCell ⟨lb, 1, none⟩ V3) := by
  have hp := own_put (i := 1) (pre := [U]) (post := []) h.land rfl V3
  exact h.putL hp.2 hp.1
theorem DrS.put0 (h : DrS w0 cs cap bs p wb r lb U V U2 V2 ns ws w) (U3 : Value) : DrS w0 cs cap bs p wb r lb U3 V U2 V2 ns ws (w.setCell ⟨lb, 0, none⟩ U3) := by
  have hp := own_put (i := 0) (pre := []) (post := [V]) h.land rfl U3
  exact h.putL hp.2 hp.1
theorem DrS.fin (h : DrS w0 cs cap bs p wb r lb U V U2 V2 ns ws w) (a b : Value) : Src w0 cs cap bs p ((w.setCell ⟨r, 0, none⟩ a).setCell ⟨r, 1, none⟩ b) ∧ wb.grownBy ((w.setCell ⟨r, 0, none⟩ a).setCell ⟨r, 1, none⟩ b) (Option.some p) ∧
    ((w.setCell ⟨r, 0, none⟩ a).setCell ⟨r, 1, none⟩ b).ownsRow wb.heap.size 9 1 U2 ns.length (ns.flatMap encS) ∧ ((w.setCell ⟨r, 0, none⟩ a).setCell ⟨r, 1, none⟩ b).ownsRow wb.heap.size 125 3 V2 ws.length (ws.flatMap encWy) := by
  have hp1 := own_put (i := 0) (pre := []) (post := [.slice none 0 0]) h.res rfl a
  have hp2 := own_put (i := 1) (pre := [a]) (post := []) hp1.1 rfl b
  have hG := gT hp1.2 hp2.2
  have hlo := (own_lt h.res).1
  have hsp := h.src.lt
  exact ⟨h.src.some hG (fun g e => by injection e with e; have := h.hp; omega), gN h.gr hG hlo, own_keepV h.nam hG (fun g e e2 => own_apartV h.res h.nam (by decide) g e2 e), own_keepV h.way hG (fun g e e2 => own_apartV h.res h.way (by decide) g e2 e)⟩
theorem DrS.l0 (h : DrS w0 cs cap bs p wb r lb U V U2 V2 ns ws w) : w.cell? ⟨lb, 0, none⟩ = Option.some U := h.land.cellAt 0 (by decide)
theorem DrS.l1 (h : DrS w0 cs cap bs p wb r lb U V U2 V2 ns ws w) : w.cell? ⟨lb, 1, none⟩ = Option.some V := h.land.cellAt 1 (by decide)
end

def plNames : List ByteArray := [⟨#[97, 115, 104, 102, 111, 114, 100]⟩, ⟨#[98, 97, 114, 116, 111, 110]⟩, ⟨#[99, 111, 108, 98, 121]⟩, ⟨#[100, 97, 108, 116, 111, 110]⟩, ⟨#[101, 108, 116, 111, 110]⟩, ⟨#[102, 111, 120, 108, 101, 121]⟩]
theorem plNames_take (k : Nat) (hk : k ≤ 6) : (plNames.take k).length = k := by rw [List.length_take]; simp [plNames]; omega
set_option maxRecDepth 100000 in
set_option maxHeartbeats 8000000 in
theorem l14Draw_any (w0 : World) (cs : Option Addr) (cap : Nat) (bs : List Int) (p : Nat) (w : World) (hx : Rd encB w0 cs bs) (hb : ∀ m ∈ bs, goodB m) (hl : bs.length ≤ 4096) (hs : Src w0 cs cap bs p w) :
    Calls Tryz.prog 80 #[.pointer (some ⟨p, 0, none⟩)] w fun e w' => ∃ (a0 a1 : Option Addr) (c0 c1 : Nat) (ns : List ByteArray) (ws : List Wy), e = .returned (.agg #[.slice a0 ns.length c0, .slice a1 ws.length c1]) ∧ ns.length ≤ 7 ∧ ws.length ≤ 10 ∧ (∀ m ∈ ns, m.size ≤ 7) ∧ Src w0 cs cap bs p w' ∧ w.grownBy w' (some p) ∧
      w'.ownsRow w.heap.size 9 1 (.slice a0 ns.length c0) ns.length (ns.flatMap encS) ∧ w'.ownsRow w.heap.size 125 3 (.slice a1 ws.length c1) ws.length (ws.flatMap encWy) := by
  obtain ⟨i0, hi, hz0, hz1, hz2⟩ := info_parts infoS
  obtain ⟨iw, hiw, hw0, hw1, hw2⟩ := info_parts infoWy
  have hp := hs.lt.2
  generalize hW1 : (w.alloc (.cells #[.slice none 0 0, .slice none 0 0] 35)) = w1
  have hB1 : Below w.heap.size w w1 := by rw [← hW1]; exact (Below.refl _ _).alloc (Nat.le_refl _) _
  have res1 : w1.ownsRow w.heap.size 35 1 (.slice (some ⟨w.heap.size, 0, none⟩) 2 2) 2 [.slice none 0 0, .slice none 0 0] := by
    rw [← hW1]
    exact ⟨rfl, .inr ⟨w.heap.size, 2, #[.slice none 0 0, .slice none 0 0], rfl, Nat.le_refl _, heap_alloc_new w _, by decide, by decide, rfl, rfl⟩⟩
  generalize hW2 : (w1.alloc (.cells #[.string ⟨#[97, 115, 104, 102, 111, 114, 100]⟩, .string ⟨#[98, 97, 114, 116, 111, 110]⟩, .string ⟨#[99, 111, 108, 98, 121]⟩, .string ⟨#[100, 97, 108, 116, 111, 110]⟩, .string ⟨#[101, 108, 116, 111, 110]⟩, .string ⟨#[102, 111, 120, 108, 101, 121]⟩] 9)) = w2
  go_enter Tryz.func80, Tryz.ntmps80
  go_wp2_with fail
  have hB2 : Below w1.heap.size w1 w2 := by rw [← hW2]; exact (Below.refl _ _).alloc (Nat.le_refl _) _
  have arr : w2.ownsRow w1.heap.size 9 1 (.slice (some ⟨w1.heap.size, 0, none⟩) 6 6) 6 (plNames.flatMap encS) := by
    rw [← hW2]
    exact ⟨rfl, .inr ⟨w1.heap.size, 6, #[.string ⟨#[97, 115, 104, 102, 111, 114, 100]⟩, .string ⟨#[98, 97, 114, 116, 111, 110]⟩, .string ⟨#[99, 111, 108, 98, 121]⟩, .string ⟨#[100, 97, 108, 116, 111, 110]⟩, .string ⟨#[101, 108, 116, 111, 110]⟩, .string ⟨#[102, 111, 120, 108, 101, 121]⟩], rfl, Nat.le_refl _, heap_alloc_new w1 _, by decide, by decide, rfl, rfl⟩⟩
  generalize hW3 : (w2.alloc (.cells #[] 9)) = w3
  have hB3 : Below w2.heap.size w2 w3 := by rw [← hW3]; exact (Below.refl _ _).alloc (Nat.le_refl _) _
  have emp : w3.ownsRow w2.heap.size 9 1 (.slice (some ⟨w2.heap.size, 0, none⟩) 0 0) 0 [] := by
    rw [← hW3]
    exact World.ownsRow_made w2 #[] 0 (Nat.le_refl _) (by decide) rfl
  have arr := own_below arr hB3
  have res := own_below (own_below res1 hB2) hB3
  have hBw := stepB (stepB hB1 hB2 hB1.size) hB3 (Nat.le_trans hB1.size hB2.size)
  have hpB1 : p < w1.heap.size := Nat.lt_of_lt_of_le hp hB1.size
  have hpB2 : p < w2.heap.size := Nat.lt_of_lt_of_le hpB1 hB2.size
  have hs3 := hs.below hBw
  have h12 := hB2.size
  have hws := hB1.size
  have hrl := (own_lt res1).2
  clear hW1 hW2 hW3 hB1 hB2 hB3 res1
  refine (l01Next_any w0 cs cap bs p 6 w3 hx hb hl (by decide) (by decide) hs3).mono ?_
  rintro e w4 ⟨r, rfl, hr0, hr1, hs4, hG4⟩
  obtain ⟨k, rfl⟩ : ∃ k : Nat, r = k := ⟨r.toNat, by omega⟩
  have hk : k ≤ 5 := by omega
  have arr := own_keepP arr hG4 hpB1
  have emp := own_keepP emp hG4 hpB2
  have res := own_keepP res hG4 hp
  have hG := gT (grB hBw (some p)) hG4
  clear hs3 hBw hG4 hr0 hr1
  have hk1 : (k : Int) ≤ 5 := by omega
  have hnl : (plNames.take (1 + k)).length = 1 + k := plNames_take _ (by omega)
  have hnews : ∀ j u, ((plNames.take (1 + k)).flatMap encS)[j]? = some u → w4.cell? ⟨w1.heap.size, 0 + j, none⟩ = some u := by
    intro j u hj
    have hlt : j < 1 + k := by
      rcases Nat.lt_or_ge j (1 + k) with h | h
      · exact h
      · rw [List.getElem?_eq_none (by rw [length_flatMap_enc encS 1 encS_len, hnl]; omega)] at hj; cases hj
    have hsame : (plNames.flatMap encS)[j]? = some u := by
      have hc : plNames.flatMap encS = (plNames.take (1 + k)).flatMap encS ++ (plNames.drop (1 + k)).flatMap encS := by rw [← List.flatMap_append, List.take_append_drop]
      rw [hc, List.getElem?_append_left (by rw [length_flatMap_enc encS 1 encS_len, hnl]; omega)]
      exact hj
    rw [Nat.zero_add, arr.cellAt j (by omega)]
    exact hsame
  go_wp2_with (at_builtin; refine wpList_append_own _ rfl _ _ 32 rfl w2.heap.size 9 i0 (.string ⟨#[]⟩) 1 16 Tryz.underlying32 hi hz0 hz1 hz2 rfl (by decide) _ 0 [] rfl emp ⟨w1.heap.size, 0, none⟩ (1 + k) 6 ((plNames.take (1 + k)).flatMap encS) rfl ?c1 ?c2 ?c6 ?c3 ?c4 ?c5 ?_)
  case c1 => rw [length_flatMap_enc encS 1 encS_len, hnl]
  case c2 => intro j u hj; have := hnews j u hj; rw [Addr.add_lit]; exact this
  case c6 => intro u hu; obtain ⟨m, _, hm⟩ := List.mem_flatMap.1 hu; simp [encS] at hm; subst hm; rfl
  case c3 => unfold maxLen; omega
  case c4 => omega
  case c5 => have := emp.lt _ rfl; omega
  intro v' w5 hn5 hG5 _
  have hG5 : w4.grownBy w5 (some w2.heap.size) := hG5
  obtain ⟨gn, cn, rfl⟩ := formJ hn5 (by omega)
  have hs5 := hs4.other hG5 (by omega) (Nat.le_trans hs.base.size (by omega))
  have res := own_keepOther res hG5 (by omega)
  have hG := gN hG hG5 (by omega)
  have nam := own_base hn5 (show w.heap.size ≤ w2.heap.size by omega)
  have hnl7 : (plNames.take (1 + k)).length ≤ 6 := by omega
  have hnm7 : ∀ m ∈ plNames.take (1 + k), m.size ≤ 7 := fun m hm => (show ∀ m ∈ plNames, m.size ≤ 7 by decide) m (List.mem_of_mem_take hm)
  have hnm1 : 1 ≤ (plNames.take (1 + k)).length := by omega
  clear hn5 hG5 hnews emp arr hs4
  generalize plNames.take (1 + k) = ns at nam hnl7 hnm7 hnm1 hnl
  rw [← hnl] at nam ⊢
  clear hnl
  have hw5 := hG.size
  generalize hW6 : (w5.alloc (.cells #[] 125)).alloc (.cells #[.slice (some ⟨gn, 0, none⟩) ns.length cn, .slice (some ⟨w5.heap.size, 0, none⟩) 0 0] 35) = w6
  have hB6 : Below w5.heap.size w5 w6 := by rw [← hW6]; go_grown
  have way : w6.ownsRow w.heap.size 125 3 (.slice (some ⟨w5.heap.size, 0, none⟩) 0 0) 0 [] := by
    rw [← hW6]
    exact own_below (World.ownsRow_made w5 #[] 0 hw5 (by decide) rfl) ((Below.refl _ _).alloc (Nat.le_refl _) _)
  have land : w6.ownsRow w.heap.size 35 1 (.slice (some ⟨w5.heap.size + 1, 0, none⟩) 2 2) 2 [.slice (some ⟨gn, 0, none⟩) ns.length cn, .slice (some ⟨w5.heap.size, 0, none⟩) 0 0] := by
    rw [← hW6]
    exact ⟨rfl, .inr ⟨w5.heap.size + 1, 2, #[.slice (some ⟨gn, 0, none⟩) ns.length cn, .slice (some ⟨w5.heap.size, 0, none⟩) 0 0], rfl, by omega, by have := heap_alloc_new (w5.alloc (.cells #[] 125)) (.cells #[.slice (some ⟨gn, 0, none⟩) ns.length cn, .slice (some ⟨w5.heap.size, 0, none⟩) 0 0] 35); simpa using this, by decide, by decide, rfl, rfl⟩⟩
  have D : DrS w0 cs cap bs p w w.heap.size (w5.heap.size + 1) (.slice (some ⟨gn, 0, none⟩) ns.length cn) (.slice (some ⟨w5.heap.size, 0, none⟩) 0 0) (.slice (some ⟨gn, 0, none⟩) ns.length cn) (.slice (some ⟨w5.heap.size, 0, none⟩) 0 0) ns [] w6 := ⟨hs5.below hB6, gB hG hB6, own_below res hB6, land, own_below nam hB6, way, hp, by omega⟩
  have l0 := D.l0
  have hns1 : (ns.length : Int) ≤ 6 := by omega
  clear hB6 way land nam res hG hs5
  have HN := Lib.hid (fun n W hn1 hn2 hs => l01Next_any w0 cs cap bs p n W hx hb hl hn1 hn2 hs)
  go_wp2_with fail
  clear hW6
  generalize w5.heap.size + 1 = lb at D l0 ⊢
  generalize w5.heap.size = wv at D ⊢
  refine (HN.out 9 w6 (by decide) (by decide) D.src).mono ?_
  rintro e w7 ⟨r, rfl, hr0, hr1, hs7, hG7⟩
  obtain ⟨q, rfl⟩ : ∃ q : Nat, r = q := ⟨r.toNat, by omega⟩
  have hq8 : q ≤ 8 := by omega
  have D := D.call hs7 hG7
  clear l0 hs7 hG7 hr0 hr1
  go_upto_block 0 with (fail)
  go_cut [] from 6 to 52 (fun wd => ∃ (a1 : Option Addr) (c1 : Nat) (ws : List Wy), ws.length ≤ 8 ∧ DrS w0 cs cap bs p w w.heap.size lb (.slice (some ⟨gn, 0, none⟩) ns.length cn) (.slice a1 ws.length c1) (.slice (some ⟨gn, 0, none⟩) ns.length cn) (.slice a1 ws.length c1) ns ws wd)
  case first =>
    go_wp2
    go_loopw [6] (fun s wr => ∃ (q : Nat) (a1 : Option Addr) (c1 : Nat) (ws : List Wy), s = .int .i64 q ∧ q + ws.length ≤ 8 ∧ DrS w0 cs cap bs p w w.heap.size lb (.slice (some ⟨gn, 0, none⟩) ns.length cn) (.slice a1 ws.length c1) (.slice (some ⟨gn, 0, none⟩) ns.length cn) (.slice a1 ws.length c1) ns ws wr) (fun s _ => (intOf s).toNat)
    case atStart => exact ⟨q, _, _, [], rfl, by simpa using hq8, D⟩
    case round =>
      clear D hq8
      obtain ⟨q, a1, c1, ws, rfl, hq8, D⟩ := hrel
      by_cases hq0 : q = 0
      · subst hq0
        go_wp2
        go_meet
        case rel => exact ⟨a1, c1, ws, by omega, D⟩
      · have hq1 : 0 < q := by omega
        have hq1' : (0 : Int) < (q : Int) := by omega
        by_cases hn1 : ns.length ≤ 1
        · have hn2 : decide (1 < ns.length) = false := by simp; omega
          go_wp2
          go_meet
          case rel => exact ⟨a1, c1, ws, by omega, D⟩
        · have hn2 : 1 < ns.length := by omega
          have hn2' : (1 : Int) < (ns.length : Int) := by omega
          go_wp2_with fail
          refine (HN.out ns.length wr (by omega) (by omega) D.src).mono ?_
          rintro e w8 ⟨r, rfl, hr0, hr1, hs8, hG8⟩
          have D := D.call hs8 hG8
          clear hs8 hG8
          go_upto_region 8 with (fail)
          have hnn : ¬ ns = [] := by rintro rfl; simp at hn2
          have v1 := i64_in ((ns.length : Int) - 1) (by omega)
          have v2 := i64_in (r + 1) (by omega)
          refine MAny.region (S := fun w' => w'.cell? ⟨lb, 1, none⟩ = some (.slice a1 ws.length c1)) (last := 19) (by kernel_rfl) ?_
          have D := D.below (Below.refl _ w8).drew
          generalize w8.drew = W0 at D ⊢
          have hHeld := D.l1
          refine MAny.take (i := 0) (v := ?_) rfl (by kernel_rfl) (by kernel_rfl) (by kernel_rfl) (fun _ _ _ h => h) (by kernel_rfl) (Or.inl ⟨by rfl, ?_⟩) (by assumption) ?_
          rotate_left
          · (intro w' hSw; (try dsimp only at hSw); go_simp; try (with_reducible rfl))
          try simp only [Act.put, List.setIfInBounds_toArray]
          refine MAny.take (i := 1) (v := ?_) rfl (by kernel_rfl) (by kernel_rfl) (by kernel_rfl) (fun _ _ _ h => h) (by kernel_rfl) (Or.inl ⟨by rfl, ?_⟩) (by assumption) ?_
          rotate_left
          · (intro w' hSw; (try dsimp only at hSw); go_simp; try (with_reducible rfl))
          try simp only [Act.put]
          refine MAny.take (i := 2) (v := ?_) rfl (by kernel_rfl) (by kernel_rfl) (by kernel_rfl) (fun _ _ _ h => h) (by kernel_rfl) (Or.inl ⟨by rfl, ?_⟩) (by assumption) ?_
          rotate_left
          · (intro w' hSw; (try dsimp only at hSw); go_simp; try (with_reducible rfl))
          try simp only [Act.put]
          refine MAny.take (i := 3) (v := ?_) rfl (by kernel_rfl) (by kernel_rfl) (by kernel_rfl) (fun _ _ _ h => h) (by kernel_rfl) (Or.inl ⟨by rfl, ?_⟩) (by assumption) ?_
          rotate_left
          · (intro w' hSw; (try dsimp only at hSw); go_simp; try (with_reducible rfl))
          try simp only [Act.put]
          refine MAny.take (i := 4) (v := ?_) rfl (by kernel_rfl) (by kernel_rfl) (by kernel_rfl) (fun _ _ _ h => h) (by kernel_rfl) (Or.inl ⟨by rfl, ?_⟩) (by assumption) ?_
          rotate_left
          · (intro w' hSw; (try dsimp only at hSw); go_simp; try (with_reducible rfl))
          try simp only [Act.put]
          refine MAny.take (i := 5) (v := ?_) rfl (by kernel_rfl) (by kernel_rfl) (by kernel_rfl) (fun _ _ _ h => h) (by kernel_rfl) (Or.inl ⟨by rfl, ?_⟩) (by assumption) ?_
          rotate_left
          · (intro w' hSw; (try dsimp only at hSw); go_simp; try (with_reducible rfl))
          try simp only [Act.put]
          refine MAny.take (i := 6) (v := ?_) rfl (by kernel_rfl) (by kernel_rfl) (by kernel_rfl) (fun _ _ _ h => h) (by kernel_rfl) (Or.inl ⟨by rfl, ?_⟩) (by assumption) ?_
          rotate_left
          · (intro w' hSw; (try dsimp only at hSw); go_simp; try (with_reducible rfl))
          try simp only [Act.put]
          refine MAny.take (i := 7) (v := ?_) rfl (by kernel_rfl) (by kernel_rfl) (by kernel_rfl) (fun _ _ _ h => h) (by kernel_rfl) (Or.inl ⟨by rfl, ?_⟩) (by assumption) ?_
          rotate_left
          · (intro w' hSw; (try dsimp only at hSw); go_simp; try (with_reducible rfl))
          try simp only [Act.put]
          refine MAny.take (i := 10) (v := ?_) rfl (by kernel_rfl) (by kernel_rfl) (by kernel_rfl) (fun _ _ _ h => h) (by kernel_rfl) (Or.inl ⟨by rfl, ?_⟩) (by assumption) ?_
          rotate_left
          · (intro w' hSw; (try dsimp only at hSw); go_simp; try (with_reducible rfl))
          try simp only [Act.put]
          refine MAny.take (i := 12) (v := ?_) rfl (by kernel_rfl) (by kernel_rfl) (by kernel_rfl) (fun _ _ _ h => h) (by kernel_rfl) (Or.inl ⟨by rfl, ?_⟩) (by assumption) ?_
          rotate_left
          · (intro w' hSw; (try dsimp only at hSw); go_simp; try (with_reducible rfl))
          try simp only [Act.put]
          refine MAny.ready (rs := [8]) (by kernel_rfl) (by simp) ?_
          refine MReady.cons rfl (fun K hK => ?_) MReady.nil
          go_simp
          go_wp2_with (go_at_call 54; refine (HN.out _ W0 (by omega) (by omega) D.src).mono ?_; rintro e W1 ⟨r9, rfl, hr90, hr91, hs9, hG9⟩)
          have D := D.call hs9 hG9
          have hHeld := D.l1
          refine hK.out _ _ (.inr hHeld) ?_
          clear hK K
          have v3 := i64_in (r + 1 + r9) (by omega)
          refine MAny.take (i := 9) (v := ?_) rfl (by kernel_rfl) (by kernel_rfl) (by kernel_rfl) (fun _ _ _ h => h) (by kernel_rfl) (Or.inl ⟨by rfl, ?_⟩) (by assumption) ?_
          rotate_left
          · (intro w' hSw; (try dsimp only at hSw); go_simp; try (with_reducible rfl))
          try simp only [Act.put, List.setIfInBounds_toArray]
          refine MAny.take (i := 11) (v := ?_) rfl (by kernel_rfl) (by kernel_rfl) (by kernel_rfl) (fun _ _ _ h => h) (by kernel_rfl) (Or.inl ⟨by rfl, ?_⟩) (by assumption) ?_
          rotate_left
          · (intro w' hSw; (try dsimp only at hSw); go_simp; try (with_reducible rfl))
          try simp only [Act.put]
          refine MAny.ready (rs := [13]) (by kernel_rfl) (by simp) ?_
          refine MReady.cons rfl (fun K hK => ?_) MReady.nil
          go_simp
          go_wp2_with (go_at_call 54; refine (HN.out _ W1 (by decide) (by decide) D.src).mono ?_; rintro e W2 ⟨r13, rfl, hr130, hr131, hs13, hG13⟩)
          have D := D.call hs13 hG13
          have hHeld := D.l1
          refine hK.out _ _ (.inr hHeld) ?_
          clear hK K
          have v4 := i64_in (1 + r13) (by omega)
          generalize hB : (r + 1 + r9).tmod (ns.length : Int) = B
          refine MAny.take (i := 14) (v := ?_) rfl (by kernel_rfl) (by kernel_rfl) (by kernel_rfl) (fun _ _ _ h => h) (by kernel_rfl) (Or.inl ⟨by rfl, ?_⟩) (by assumption) ?_
          rotate_left
          · (intro w' hSw; (try dsimp only at hSw); go_simp; try (with_reducible rfl))
          try simp only [Act.put, List.setIfInBounds_toArray]
          refine MAny.take (i := 15) (v := ?_) rfl (by kernel_rfl) (by kernel_rfl) (by kernel_rfl) (fun _ _ _ h => h) (by kernel_rfl) (Or.inl ⟨by rfl, ?_⟩) (by assumption) ?_
          rotate_left
          · (intro w' hSw; (try dsimp only at hSw); go_simp; try (with_reducible rfl))
          try simp only [Act.put]
          refine MAny.ready (rs := [16]) (by kernel_rfl) (by simp) ?_
          refine MReady.cons rfl (fun K hK => ?_) MReady.nil
          go_simp
          have D := D.below ((Below.refl _ W2).alloc (Nat.le_refl _) (.cells #[.int .i64 r, .int .i64 B, .int .i64 (1 + r13)] 125))
          have hHeld := D.l1
          refine hK.out _ _ (.inr hHeld) ?_
          clear hK K
          refine MAny.ready (rs := [17]) (by kernel_rfl) (by simp) ?_
          refine MReady.cons rfl (fun K hK => ?_) MReady.nil
          refine step_append_lies _ (by rfl) (.tmp 35) (.tmp 50) 33 (by rfl) w.heap.size 125 iw (.agg #[.int .i64 0, .int .i64 0, .int .i64 0]) 3 24 Tryz.underlying33 hiw hw0 hw1 hw2 rfl (by decide) _ _ _ (by rfl) D.way ⟨W2.heap.size, 0, none⟩ 1 1 [.int .i64 r, .int .i64 B, .int .i64 (1 + r13)] (by rfl) rfl ?n1 ?n2 (by decide) ?n3 ?n4 ?n5 _ rfl ?_
          case n1 => exact World.news_of_block (heap_alloc_new _ _)
          case n2 => intro u hu; simp at hu; first | (subst hu; rfl) | (rcases hu with rfl | rfl | rfl <;> rfl)
          case n3 => unfold maxLen; omega
          case n4 => omega
          case n5 => exact D.gr.size
          intro g cap' W4 hown4 hG4 _ _
          have hown4' : W4.ownsRow w.heap.size 125 3 (.slice (some ⟨g, 0, none⟩) (ws.length + 1) cap') (ws ++ [(⟨r, B, 1 + r13⟩ : Wy)]).length ((ws ++ [(⟨r, B, 1 + r13⟩ : Wy)]).flatMap encWy) := by
            rw [List.length_append, List.flatMap_append]
            exact hown4
          have D := D.ways hG4 hown4'
          clear hown4 hown4' hG4
          have hHeld := D.l1
          refine hK.out _ _ (.inr hHeld) ?_
          clear hK K
          have f1 := D.land.frozenAt 1
          refine MAny.take (i := 18) (v := ?_) rfl (by kernel_rfl) (by kernel_rfl) (by kernel_rfl) (fun _ _ _ h => h) (by kernel_rfl) (Or.inl ⟨by rfl, ?_⟩) (by assumption) ?_
          rotate_left
          · (intro w' hSw; (try dsimp only at hSw); go_simp; try (with_reducible rfl))
          try simp only [Act.put, List.setIfInBounds_toArray]
          refine MAny.ready (rs := [19]) (by kernel_rfl) (by simp) ?_
          refine MReady.cons rfl (fun K hK => ?_) MReady.nil
          go_simp
          refine hK.out _ _ (.inl rfl) ?_
          clear hK K
          refine MAny.done (by kernel_rfl) ?_ _
          try simp only [List.getElem_toArray, List.getElem_cons_succ, List.getElem_cons_zero]
          have D := D.put1 (.slice (some ⟨g, 0, none⟩) (ws.length + 1) cap')
          clear hHeld f1
          generalize W4.setCell ⟨lb, 1, none⟩ (.slice (some ⟨g, 0, none⟩) (ws.length + 1) cap') = W5 at D ⊢
          obtain ⟨q, rfl⟩ : ∃ q' : Nat, q = q' + 1 := ⟨q - 1, by omega⟩
          go_wp2
          go_roundw
          case rel => exact ⟨q, some ⟨g, 0, none⟩, cap', ws ++ [⟨r, B, 1 + r13⟩], by go_num, by simp only [List.length_append, List.length_cons, List.length_nil]; omega, by rw [List.length_append]; exact D⟩
          case measure => simp [intOf]
  case rest =>
    clear D
    obtain ⟨a1, c1, ws, hwl, D⟩ := hcut
    go_wp2_with fail
    refine (HN.out 60 wc (by decide) (by decide) D.src).mono ?_
    rintro e wz ⟨r, rfl, hr0, hr1, hs8, hG8⟩
    have D := D.call hs8 hG8
    clear hs8 hG8
    go_upto_block 2 with (fail)
    go_cut [] from 55 to 87 (fun wd => ∃ (a0 a1 : Option Addr) (c0 c1 : Nat) (ns' : List ByteArray) (ws' : List Wy), ns'.length ≤ 7 ∧ ws'.length ≤ 10 ∧ (∀ m ∈ ns', m.size ≤ 7) ∧ DrS w0 cs cap bs p w w.heap.size lb (.slice a0 ns'.length c0) (.slice a1 ws'.length c1) (.slice a0 ns'.length c0) (.slice a1 ws'.length c1) ns' ws' wd)
    case first =>
      by_cases q0 : r = 0
      · subst q0
        go_upto_region 11 with (fail)
        have HP := Lib.hid (fun a ca xs W hs hxs h1 h2 => l01Pick_any w0 cs cap bs p a ca xs W hx hb hl hs hxs h1 h2)
        refine MAny.region (S := fun w' => w'.cell? ⟨lb, 1, none⟩ = some (.slice a1 ws.length c1)) (last := 16) (by kernel_rfl) ?_
        have D := D.below (Below.refl _ wz).drew
        generalize wz.drew = W0 at D ⊢
        have hHeld := D.l1
        have hpz := D.src.lt.2
        refine MAny.take (i := 0) (v := ?_) rfl (by kernel_rfl) (by kernel_rfl) (by kernel_rfl) (fun _ _ _ h => h) (by kernel_rfl) (Or.inl ⟨by rfl, ?_⟩) (by assumption) ?_
        rotate_left
        · (intro w' hSw; (try dsimp only at hSw); go_simp; try (with_reducible rfl))
        try simp only [Act.put, List.setIfInBounds_toArray]
        refine MAny.take (i := 1) (v := ?_) rfl (by kernel_rfl) (by kernel_rfl) (by kernel_rfl) (fun _ _ _ h => h) (by kernel_rfl) (Or.inl ⟨by rfl, ?_⟩) (by assumption) ?_
        rotate_left
        · (intro w' hSw; (try dsimp only at hSw); go_simp; try (with_reducible rfl))
        try simp only [Act.put]
        refine MAny.take (i := 2) (v := ?_) rfl (by kernel_rfl) (by kernel_rfl) (by kernel_rfl) (fun _ _ _ h => h) (by kernel_rfl) (Or.inl ⟨by rfl, ?_⟩) (by assumption) ?_
        rotate_left
        · (intro w' hSw; (try dsimp only at hSw); go_simp; try (with_reducible rfl))
        try simp only [Act.put]
        refine MAny.take (i := 5) (v := ?_) rfl (by kernel_rfl) (by kernel_rfl) (by kernel_rfl) (fun _ _ _ h => h) (by kernel_rfl) (Or.inl ⟨by rfl, ?_⟩) (by assumption) ?_
        rotate_left
        · (intro w' hSw; (try dsimp only at hSw); go_simp; try (with_reducible rfl))
        try simp only [Act.put]
        refine MAny.take (i := 6) (v := ?_) rfl (by kernel_rfl) (by kernel_rfl) (by kernel_rfl) (fun _ _ _ h => h) (by kernel_rfl) (Or.inl ⟨by rfl, ?_⟩) (by assumption) ?_
        rotate_left
        · (intro w' hSw; (try dsimp only at hSw); go_simp; try (with_reducible rfl))
        try simp only [Act.put]
        refine MAny.take (i := 9) (v := ?_) rfl (by kernel_rfl) (by kernel_rfl) (by kernel_rfl) (fun _ _ _ h => h) (by kernel_rfl) (Or.inl ⟨by rfl, ?_⟩) (by assumption) ?_
        rotate_left
        · (intro w' hSw; (try dsimp only at hSw); go_simp; try (with_reducible rfl))
        try simp only [Act.put]
        refine MAny.ready (rs := [3, 7, 10]) (by kernel_rfl) (by simp) ?_
        refine MReady.cons rfl (fun K hK => ?_) (MReady.cons rfl (fun K hK => ?_) (MReady.cons rfl (fun K hK => ?_) MReady.nil))
        · go_simp
          have D := D.below ((Below.refl _ W0).alloc (Nat.le_refl _) (.cells #[.int .i64 (-1), .int .i64 0] 2))
          have hpr3 := fun W' hG => rd_arr (w := W0) (c := #[.int .i64 (-1), .int .i64 0]) (T := 2) (xs := [-1, 0]) (p := p) rfl (by have := D.src.lt; have := D.gr.size; have := D.hp; have := hpz; omega) W' hG
          have hpz := Nat.lt_of_lt_of_le hpz (show W0.heap.size ≤ (W0.alloc (.cells #[.int .i64 (-1), .int .i64 0] 2)).heap.size by simp)
          generalize hWW : W0.alloc (.cells #[.int .i64 (-1), .int .i64 0] 2) = W0_3 at D hpz hpr3 ⊢
          clear hWW
          have hHeld := D.l1
          generalize W0.heap.size = G3 at hpr3 ⊢
          refine hK.out _ _ (.inr hHeld) ?_
          clear hK K
          refine MAny.ready (rs := [4, 7, 10]) (by kernel_rfl) (by simp) ?_
          refine MReady.cons rfl (fun K hK => ?_) (MReady.cons rfl (fun K hK => ?_) (MReady.cons rfl (fun K hK => ?_) MReady.nil))
          · go_simp
            go_wp2_with (go_at_call 55; refine (HP.out (some ⟨G3, 0, none⟩) 2 [-1, 0] W0_3 D.src hpr3 (by simp) (by simp)).mono ?_; rintro e W0_3_4 ⟨v4, rfl, _, hsx, hGx⟩)
            have D := D.call hsx hGx
            have hHeld := D.l1
            have hpz := Nat.lt_of_lt_of_le hpz hGx.size
            clear hsx hGx hpr3
            refine hK.out _ _ (.inr hHeld) ?_
            clear hK K
            refine MAny.ready (rs := [7, 10]) (by kernel_rfl) (by simp) ?_
            refine MReady.cons rfl (fun K hK => ?_) (MReady.cons rfl (fun K hK => ?_) MReady.nil)
            · go_simp
              have D := D.below ((Below.refl _ W0_3_4).alloc (Nat.le_refl _) (.cells #[.int .i64 0, .int .i64 (ns.length : Int), .int .i64 1] 2))
              have hpr7 := fun W' hG => rd_arr (w := W0_3_4) (c := #[.int .i64 0, .int .i64 (ns.length : Int), .int .i64 1]) (T := 2) (xs := [0, (ns.length : Int), 1]) (p := p) rfl (by have := D.src.lt; have := D.gr.size; have := D.hp; have := hpz; omega) W' hG
              have hpz := Nat.lt_of_lt_of_le hpz (show W0_3_4.heap.size ≤ (W0_3_4.alloc (.cells #[.int .i64 0, .int .i64 (ns.length : Int), .int .i64 1] 2)).heap.size by simp)
              generalize hWW : W0_3_4.alloc (.cells #[.int .i64 0, .int .i64 (ns.length : Int), .int .i64 1] 2) = W0_3_4_7 at D hpz hpr7 ⊢
              clear hWW
              have hHeld := D.l1
              generalize W0_3_4.heap.size = G7 at hpr7 ⊢
              refine hK.out _ _ (.inr hHeld) ?_
              clear hK K
              refine MAny.ready (rs := [8, 10]) (by kernel_rfl) (by simp) ?_
              refine MReady.cons rfl (fun K hK => ?_) (MReady.cons rfl (fun K hK => ?_) MReady.nil)
              · go_simp
                go_wp2_with (go_at_call 55; refine (HP.out (some ⟨G7, 0, none⟩) 3 [0, (ns.length : Int), 1] W0_3_4_7 D.src hpr7 (by simp) (by simp)).mono ?_; rintro e W0_3_4_7_8 ⟨v8, rfl, _, hsx, hGx⟩)
                have D := D.call hsx hGx
                have hHeld := D.l1
                have hpz := Nat.lt_of_lt_of_le hpz hGx.size
                clear hsx hGx hpr7
                refine hK.out _ _ (.inr hHeld) ?_
                clear hK K
                refine MAny.ready (rs := [10]) (by kernel_rfl) (by simp) ?_
                refine MReady.cons rfl (fun K hK => ?_) MReady.nil
                go_simp
                have D := D.below ((Below.refl _ W0_3_4_7_8).alloc (Nat.le_refl _) (.cells #[.int .i64 0, .int .i64 60, .int .i64 61] 2))
                have hpr10 := fun W' hG => rd_arr (w := W0_3_4_7_8) (c := #[.int .i64 0, .int .i64 60, .int .i64 61]) (T := 2) (xs := [0, 60, 61]) (p := p) rfl (by have := D.src.lt; have := D.gr.size; have := D.hp; have := hpz; omega) W' hG
                have hpz := Nat.lt_of_lt_of_le hpz (show W0_3_4_7_8.heap.size ≤ (W0_3_4_7_8.alloc (.cells #[.int .i64 0, .int .i64 60, .int .i64 61] 2)).heap.size by simp)
                generalize hWW : W0_3_4_7_8.alloc (.cells #[.int .i64 0, .int .i64 60, .int .i64 61] 2) = W0_3_4_7_8x at D hpz hpr10 ⊢
                clear hWW
                have hHeld := D.l1
                generalize W0_3_4_7_8.heap.size = G10 at hpr10 ⊢
                refine hK.out _ _ (.inr hHeld) ?_
                clear hK K
                refine MAny.ready (rs := [11]) (by kernel_rfl) (by simp) ?_
                refine MReady.cons rfl (fun K hK => ?_) MReady.nil
                go_simp
                go_wp2_with (go_at_call 55; refine (HP.out (some ⟨G10, 0, none⟩) 3 [0, 60, 61] W0_3_4_7_8x D.src hpr10 (by simp) (by simp)).mono ?_; rintro e W0_3_4_7_8xx ⟨v11, rfl, _, hsx, hGx⟩)
                have D := D.call hsx hGx
                have hHeld := D.l1
                have hpz := Nat.lt_of_lt_of_le hpz hGx.size
                clear hsx hGx hpr10
                refine hK.out _ _ (.inr hHeld) ?_
                clear hK K
                refine MAny.take (i := 12) (v := ?_) rfl (by kernel_rfl) (by kernel_rfl) (by kernel_rfl) (fun _ _ _ h => h) (by kernel_rfl) (Or.inl ⟨by rfl, ?_⟩) (by assumption) ?_
                rotate_left
                · (intro w' hSw; (try dsimp only at hSw); go_simp; try (with_reducible rfl))
                try simp only [Act.put, List.setIfInBounds_toArray]
                refine MAny.ready (rs := [13]) (by kernel_rfl) (by simp) ?_
                refine MReady.cons rfl (fun K hK => ?_) MReady.nil
                go_simp
                have D := D.below ((Below.refl _ W0_3_4_7_8xx).alloc (Nat.le_refl _) (.cells #[.int .i64 v4, .int .i64 v8, .int .i64 v11] 125))
                have hHeld := D.l1
                refine hK.out _ _ (.inr hHeld) ?_
                clear hK K
                refine MAny.ready (rs := [14]) (by kernel_rfl) (by simp) ?_
                refine MReady.cons rfl (fun K hK => ?_) MReady.nil
                refine step_append_lies _ (by rfl) (.tmp 58) (.tmp 70) 33 (by rfl) w.heap.size 125 iw (.agg #[.int .i64 0, .int .i64 0, .int .i64 0]) 3 24 Tryz.underlying33 hiw hw0 hw1 hw2 rfl (by decide) _ _ _ (by rfl) D.way ⟨W0_3_4_7_8xx.heap.size, 0, none⟩ 1 1 [.int .i64 v4, .int .i64 v8, .int .i64 v11] (by rfl) rfl ?n1 ?n2 (by decide) ?n3 ?n4 ?n5 _ rfl ?_
                case n1 => exact World.news_of_block (heap_alloc_new _ _)
                case n2 => intro u hu; simp at hu; first | (subst hu; rfl) | (rcases hu with rfl | rfl | rfl <;> rfl)
                case n3 => unfold maxLen; omega
                case n4 => omega
                case n5 => exact D.gr.size
                intro g cap' Wx hown4 hG4 _ _
                have hown4' : Wx.ownsRow w.heap.size 125 3 (.slice (some ⟨g, 0, none⟩) (ws.length + 1) cap') (ws ++ [(⟨v4, v8, v11⟩ : Wy)]).length ((ws ++ [(⟨v4, v8, v11⟩ : Wy)]).flatMap encWy) := by
                  rw [List.length_append, List.flatMap_append]
                  exact hown4
                have D := D.ways hG4 hown4'
                clear hown4 hown4' hG4
                have hHeld := D.l1
                refine hK.out _ _ (.inr hHeld) ?_
                clear hK K
                have f1 := D.land.frozenAt 1
                refine MAny.take (i := 15) (v := ?_) rfl (by kernel_rfl) (by kernel_rfl) (by kernel_rfl) (fun _ _ _ h => h) (by kernel_rfl) (Or.inl ⟨by rfl, ?_⟩) (by assumption) ?_
                rotate_left
                · (intro w' hSw; (try dsimp only at hSw); go_simp; try (with_reducible rfl))
                try simp only [Act.put, List.setIfInBounds_toArray]
                refine MAny.ready (rs := [16]) (by kernel_rfl) (by simp) ?_
                refine MReady.cons rfl (fun K hK => ?_) MReady.nil
                go_simp
                refine hK.out _ _ (.inl rfl) ?_
                clear hK K
                refine MAny.done (by kernel_rfl) ?_ _
                try simp only [List.getElem_toArray, List.getElem_cons_succ, List.getElem_cons_zero]
                have D := D.put1 (.slice (some ⟨g, 0, none⟩) (ws.length + 1) cap')
                go_wp2
                go_meet
                case rel => exact ⟨_, some ⟨g, 0, none⟩, _, cap', ns, ws ++ [⟨v4, v8, v11⟩], by omega, by simp only [List.length_append, List.length_cons, List.length_nil]; omega, hnm7, by rw [List.length_append]; exact D⟩
              · go_simp
                have D := D.below ((Below.refl _ W0_3_4_7).alloc (Nat.le_refl _) (.cells #[.int .i64 0, .int .i64 60, .int .i64 61] 2))
                have hpr10 := fun W' hG => rd_arr (w := W0_3_4_7) (c := #[.int .i64 0, .int .i64 60, .int .i64 61]) (T := 2) (xs := [0, 60, 61]) (p := p) rfl (by have := D.src.lt; have := D.gr.size; have := D.hp; have := hpz; omega) W' hG
                have hpr7 := fun W' hG => hpr7 W' (gT (grA W0_3_4_7 (.cells #[.int .i64 0, .int .i64 60, .int .i64 61] 2) (some p)) hG)
                have hpz := Nat.lt_of_lt_of_le hpz (show W0_3_4_7.heap.size ≤ (W0_3_4_7.alloc (.cells #[.int .i64 0, .int .i64 60, .int .i64 61] 2)).heap.size by simp)
                generalize hWW : W0_3_4_7.alloc (.cells #[.int .i64 0, .int .i64 60, .int .i64 61] 2) = W0_3_4_7_10 at D hpz hpr7 hpr10 ⊢
                clear hWW
                have hHeld := D.l1
                generalize W0_3_4_7.heap.size = G10 at hpr10 ⊢
                refine hK.out _ _ (.inr hHeld) ?_
                clear hK K
                refine MAny.ready (rs := [8]) (by kernel_rfl) (by simp) ?_
                refine MReady.cons rfl (fun K hK => ?_) MReady.nil
                go_simp
                go_wp2_with (go_at_call 55; refine (HP.out (some ⟨G7, 0, none⟩) 3 [0, (ns.length : Int), 1] W0_3_4_7_10 D.src hpr7 (by simp) (by simp)).mono ?_; rintro e W0_3_4_7_10x ⟨v8, rfl, _, hsx, hGx⟩)
                have D := D.call hsx hGx
                have hHeld := D.l1
                have hpz := Nat.lt_of_lt_of_le hpz hGx.size
                have hpr10 := fun W' hG => hpr10 W' (gT hGx hG)
                clear hsx hGx hpr7
                refine hK.out _ _ (.inr hHeld) ?_
                clear hK K
                refine MAny.ready (rs := [11]) (by kernel_rfl) (by simp) ?_
                refine MReady.cons rfl (fun K hK => ?_) MReady.nil
                go_simp
                go_wp2_with (go_at_call 55; refine (HP.out (some ⟨G10, 0, none⟩) 3 [0, 60, 61] W0_3_4_7_10x D.src hpr10 (by simp) (by simp)).mono ?_; rintro e W0_3_4_7_10xx ⟨v11, rfl, _, hsx, hGx⟩)
                have D := D.call hsx hGx
                have hHeld := D.l1
                have hpz := Nat.lt_of_lt_of_le hpz hGx.size
                clear hsx hGx hpr10
                refine hK.out _ _ (.inr hHeld) ?_
                clear hK K
                refine MAny.take (i := 12) (v := ?_) rfl (by kernel_rfl) (by kernel_rfl) (by kernel_rfl) (fun _ _ _ h => h) (by kernel_rfl) (Or.inl ⟨by rfl, ?_⟩) (by assumption) ?_
                rotate_left
                · (intro w' hSw; (try dsimp only at hSw); go_simp; try (with_reducible rfl))
                try simp only [Act.put, List.setIfInBounds_toArray]
                refine MAny.ready (rs := [13]) (by kernel_rfl) (by simp) ?_
                refine MReady.cons rfl (fun K hK => ?_) MReady.nil
                go_simp
                have D := D.below ((Below.refl _ W0_3_4_7_10xx).alloc (Nat.le_refl _) (.cells #[.int .i64 v4, .int .i64 v8, .int .i64 v11] 125))
                have hHeld := D.l1
                refine hK.out _ _ (.inr hHeld) ?_
                clear hK K
                refine MAny.ready (rs := [14]) (by kernel_rfl) (by simp) ?_
                refine MReady.cons rfl (fun K hK => ?_) MReady.nil
                refine step_append_lies _ (by rfl) (.tmp 58) (.tmp 70) 33 (by rfl) w.heap.size 125 iw (.agg #[.int .i64 0, .int .i64 0, .int .i64 0]) 3 24 Tryz.underlying33 hiw hw0 hw1 hw2 rfl (by decide) _ _ _ (by rfl) D.way ⟨W0_3_4_7_10xx.heap.size, 0, none⟩ 1 1 [.int .i64 v4, .int .i64 v8, .int .i64 v11] (by rfl) rfl ?n1 ?n2 (by decide) ?n3 ?n4 ?n5 _ rfl ?_
                case n1 => exact World.news_of_block (heap_alloc_new _ _)
                case n2 => intro u hu; simp at hu; first | (subst hu; rfl) | (rcases hu with rfl | rfl | rfl <;> rfl)
                case n3 => unfold maxLen; omega
                case n4 => omega
                case n5 => exact D.gr.size
                intro g cap' Wx hown4 hG4 _ _
                have hown4' : Wx.ownsRow w.heap.size 125 3 (.slice (some ⟨g, 0, none⟩) (ws.length + 1) cap') (ws ++ [(⟨v4, v8, v11⟩ : Wy)]).length ((ws ++ [(⟨v4, v8, v11⟩ : Wy)]).flatMap encWy) := by
                  rw [List.length_append, List.flatMap_append]
                  exact hown4
                have D := D.ways hG4 hown4'
                clear hown4 hown4' hG4
                have hHeld := D.l1
                refine hK.out _ _ (.inr hHeld) ?_
                clear hK K
                have f1 := D.land.frozenAt 1
                refine MAny.take (i := 15) (v := ?_) rfl (by kernel_rfl) (by kernel_rfl) (by kernel_rfl) (fun _ _ _ h => h) (by kernel_rfl) (Or.inl ⟨by rfl, ?_⟩) (by assumption) ?_
                rotate_left
                · (intro w' hSw; (try dsimp only at hSw); go_simp; try (with_reducible rfl))
                try simp only [Act.put, List.setIfInBounds_toArray]
                refine MAny.ready (rs := [16]) (by kernel_rfl) (by simp) ?_
                refine MReady.cons rfl (fun K hK => ?_) MReady.nil
                go_simp
                refine hK.out _ _ (.inl rfl) ?_
                clear hK K
                refine MAny.done (by kernel_rfl) ?_ _
                try simp only [List.getElem_toArray, List.getElem_cons_succ, List.getElem_cons_zero]
                have D := D.put1 (.slice (some ⟨g, 0, none⟩) (ws.length + 1) cap')
                go_wp2
                go_meet
                case rel => exact ⟨_, some ⟨g, 0, none⟩, _, cap', ns, ws ++ [⟨v4, v8, v11⟩], by omega, by simp only [List.length_append, List.length_cons, List.length_nil]; omega, hnm7, by rw [List.length_append]; exact D⟩
            · go_simp
              have D := D.below ((Below.refl _ W0_3_4).alloc (Nat.le_refl _) (.cells #[.int .i64 0, .int .i64 60, .int .i64 61] 2))
              have hpr10 := fun W' hG => rd_arr (w := W0_3_4) (c := #[.int .i64 0, .int .i64 60, .int .i64 61]) (T := 2) (xs := [0, 60, 61]) (p := p) rfl (by have := D.src.lt; have := D.gr.size; have := D.hp; have := hpz; omega) W' hG
              have hpz := Nat.lt_of_lt_of_le hpz (show W0_3_4.heap.size ≤ (W0_3_4.alloc (.cells #[.int .i64 0, .int .i64 60, .int .i64 61] 2)).heap.size by simp)
              generalize hWW : W0_3_4.alloc (.cells #[.int .i64 0, .int .i64 60, .int .i64 61] 2) = W0_3_4_10 at D hpz hpr10 ⊢
              clear hWW
              have hHeld := D.l1
              generalize W0_3_4.heap.size = G10 at hpr10 ⊢
              refine hK.out _ _ (.inr hHeld) ?_
              clear hK K
              refine MAny.ready (rs := [7]) (by kernel_rfl) (by simp) ?_
              refine MReady.cons rfl (fun K hK => ?_) MReady.nil
              go_simp
              have D := D.below ((Below.refl _ W0_3_4_10).alloc (Nat.le_refl _) (.cells #[.int .i64 0, .int .i64 (ns.length : Int), .int .i64 1] 2))
              have hpr7 := fun W' hG => rd_arr (w := W0_3_4_10) (c := #[.int .i64 0, .int .i64 (ns.length : Int), .int .i64 1]) (T := 2) (xs := [0, (ns.length : Int), 1]) (p := p) rfl (by have := D.src.lt; have := D.gr.size; have := D.hp; have := hpz; omega) W' hG
              have hpr10 := fun W' hG => hpr10 W' (gT (grA W0_3_4_10 (.cells #[.int .i64 0, .int .i64 (ns.length : Int), .int .i64 1] 2) (some p)) hG)
              have hpz := Nat.lt_of_lt_of_le hpz (show W0_3_4_10.heap.size ≤ (W0_3_4_10.alloc (.cells #[.int .i64 0, .int .i64 (ns.length : Int), .int .i64 1] 2)).heap.size by simp)
              generalize hWW : W0_3_4_10.alloc (.cells #[.int .i64 0, .int .i64 (ns.length : Int), .int .i64 1] 2) = W0_3_4_10x at D hpz hpr10 hpr7 ⊢
              clear hWW
              have hHeld := D.l1
              generalize W0_3_4_10.heap.size = G7 at hpr7 ⊢
              refine hK.out _ _ (.inr hHeld) ?_
              clear hK K
              refine MAny.ready (rs := [8]) (by kernel_rfl) (by simp) ?_
              refine MReady.cons rfl (fun K hK => ?_) MReady.nil
              go_simp
              go_wp2_with (go_at_call 55; refine (HP.out (some ⟨G7, 0, none⟩) 3 [0, (ns.length : Int), 1] W0_3_4_10x D.src hpr7 (by simp) (by simp)).mono ?_; rintro e W0_3_4_10xx ⟨v8, rfl, _, hsx, hGx⟩)
              have D := D.call hsx hGx
              have hHeld := D.l1
              have hpz := Nat.lt_of_lt_of_le hpz hGx.size
              have hpr10 := fun W' hG => hpr10 W' (gT hGx hG)
              clear hsx hGx hpr7
              refine hK.out _ _ (.inr hHeld) ?_
              clear hK K
              refine MAny.ready (rs := [11]) (by kernel_rfl) (by simp) ?_
              refine MReady.cons rfl (fun K hK => ?_) MReady.nil
              go_simp
              go_wp2_with (go_at_call 55; refine (HP.out (some ⟨G10, 0, none⟩) 3 [0, 60, 61] W0_3_4_10xx D.src hpr10 (by simp) (by simp)).mono ?_; rintro e W0_3_4_10xxx ⟨v11, rfl, _, hsx, hGx⟩)
              have D := D.call hsx hGx
              have hHeld := D.l1
              have hpz := Nat.lt_of_lt_of_le hpz hGx.size
              clear hsx hGx hpr10
              refine hK.out _ _ (.inr hHeld) ?_
              clear hK K
              refine MAny.take (i := 12) (v := ?_) rfl (by kernel_rfl) (by kernel_rfl) (by kernel_rfl) (fun _ _ _ h => h) (by kernel_rfl) (Or.inl ⟨by rfl, ?_⟩) (by assumption) ?_
              rotate_left
              · (intro w' hSw; (try dsimp only at hSw); go_simp; try (with_reducible rfl))
              try simp only [Act.put, List.setIfInBounds_toArray]
              refine MAny.ready (rs := [13]) (by kernel_rfl) (by simp) ?_
              refine MReady.cons rfl (fun K hK => ?_) MReady.nil
              go_simp
              have D := D.below ((Below.refl _ W0_3_4_10xxx).alloc (Nat.le_refl _) (.cells #[.int .i64 v4, .int .i64 v8, .int .i64 v11] 125))
              have hHeld := D.l1
              refine hK.out _ _ (.inr hHeld) ?_
              clear hK K
              refine MAny.ready (rs := [14]) (by kernel_rfl) (by simp) ?_
              refine MReady.cons rfl (fun K hK => ?_) MReady.nil
              refine step_append_lies _ (by rfl) (.tmp 58) (.tmp 70) 33 (by rfl) w.heap.size 125 iw (.agg #[.int .i64 0, .int .i64 0, .int .i64 0]) 3 24 Tryz.underlying33 hiw hw0 hw1 hw2 rfl (by decide) _ _ _ (by rfl) D.way ⟨W0_3_4_10xxx.heap.size, 0, none⟩ 1 1 [.int .i64 v4, .int .i64 v8, .int .i64 v11] (by rfl) rfl ?n1 ?n2 (by decide) ?n3 ?n4 ?n5 _ rfl ?_
              case n1 => exact World.news_of_block (heap_alloc_new _ _)
              case n2 => intro u hu; simp at hu; first | (subst hu; rfl) | (rcases hu with rfl | rfl | rfl <;> rfl)
              case n3 => unfold maxLen; omega
              case n4 => omega
              case n5 => exact D.gr.size
              intro g cap' Wx hown4 hG4 _ _
              have hown4' : Wx.ownsRow w.heap.size 125 3 (.slice (some ⟨g, 0, none⟩) (ws.length + 1) cap') (ws ++ [(⟨v4, v8, v11⟩ : Wy)]).length ((ws ++ [(⟨v4, v8, v11⟩ : Wy)]).flatMap encWy) := by
                rw [List.length_append, List.flatMap_append]
                exact hown4
              have D := D.ways hG4 hown4'
              clear hown4 hown4' hG4
              have hHeld := D.l1
              refine hK.out _ _ (.inr hHeld) ?_
              clear hK K
              have f1 := D.land.frozenAt 1
              refine MAny.take (i := 15) (v := ?_) rfl (by kernel_rfl) (by kernel_rfl) (by kernel_rfl) (fun _ _ _ h => h) (by kernel_rfl) (Or.inl ⟨by rfl, ?_⟩) (by assumption) ?_
              rotate_left
              · (intro w' hSw; (try dsimp only at hSw); go_simp; try (with_reducible rfl))
              try simp only [Act.put, List.setIfInBounds_toArray]
              refine MAny.ready (rs := [16]) (by kernel_rfl) (by simp) ?_
              refine MReady.cons rfl (fun K hK => ?_) MReady.nil
              go_simp
              refine hK.out _ _ (.inl rfl) ?_
              clear hK K
              refine MAny.done (by kernel_rfl) ?_ _
              try simp only [List.getElem_toArray, List.getElem_cons_succ, List.getElem_cons_zero]
              have D := D.put1 (.slice (some ⟨g, 0, none⟩) (ws.length + 1) cap')
              go_wp2
              go_meet
              case rel => exact ⟨_, some ⟨g, 0, none⟩, _, cap', ns, ws ++ [⟨v4, v8, v11⟩], by omega, by simp only [List.length_append, List.length_cons, List.length_nil]; omega, hnm7, by rw [List.length_append]; exact D⟩
          · go_simp
            have D := D.below ((Below.refl _ W0_3).alloc (Nat.le_refl _) (.cells #[.int .i64 0, .int .i64 (ns.length : Int), .int .i64 1] 2))
            have hpr7 := fun W' hG => rd_arr (w := W0_3) (c := #[.int .i64 0, .int .i64 (ns.length : Int), .int .i64 1]) (T := 2) (xs := [0, (ns.length : Int), 1]) (p := p) rfl (by have := D.src.lt; have := D.gr.size; have := D.hp; have := hpz; omega) W' hG
            have hpr3 := fun W' hG => hpr3 W' (gT (grA W0_3 (.cells #[.int .i64 0, .int .i64 (ns.length : Int), .int .i64 1] 2) (some p)) hG)
            have hpz := Nat.lt_of_lt_of_le hpz (show W0_3.heap.size ≤ (W0_3.alloc (.cells #[.int .i64 0, .int .i64 (ns.length : Int), .int .i64 1] 2)).heap.size by simp)
            generalize hWW : W0_3.alloc (.cells #[.int .i64 0, .int .i64 (ns.length : Int), .int .i64 1] 2) = W0_3_7 at D hpz hpr3 hpr7 ⊢
            clear hWW
            have hHeld := D.l1
            generalize W0_3.heap.size = G7 at hpr7 ⊢
            refine hK.out _ _ (.inr hHeld) ?_
            clear hK K
            refine MAny.ready (rs := [4, 10]) (by kernel_rfl) (by simp) ?_
            refine MReady.cons rfl (fun K hK => ?_) (MReady.cons rfl (fun K hK => ?_) MReady.nil)
            · go_simp
              go_wp2_with (go_at_call 55; refine (HP.out (some ⟨G3, 0, none⟩) 2 [-1, 0] W0_3_7 D.src hpr3 (by simp) (by simp)).mono ?_; rintro e W0_3_7_4 ⟨v4, rfl, _, hsx, hGx⟩)
              have D := D.call hsx hGx
              have hHeld := D.l1
              have hpz := Nat.lt_of_lt_of_le hpz hGx.size
              have hpr7 := fun W' hG => hpr7 W' (gT hGx hG)
              clear hsx hGx hpr3
              refine hK.out _ _ (.inr hHeld) ?_
              clear hK K
              refine MAny.ready (rs := [8, 10]) (by kernel_rfl) (by simp) ?_
              refine MReady.cons rfl (fun K hK => ?_) (MReady.cons rfl (fun K hK => ?_) MReady.nil)
              · go_simp
                go_wp2_with (go_at_call 55; refine (HP.out (some ⟨G7, 0, none⟩) 3 [0, (ns.length : Int), 1] W0_3_7_4 D.src hpr7 (by simp) (by simp)).mono ?_; rintro e W0_3_7_4_8 ⟨v8, rfl, _, hsx, hGx⟩)
                have D := D.call hsx hGx
                have hHeld := D.l1
                have hpz := Nat.lt_of_lt_of_le hpz hGx.size
                clear hsx hGx hpr7
                refine hK.out _ _ (.inr hHeld) ?_
                clear hK K
                refine MAny.ready (rs := [10]) (by kernel_rfl) (by simp) ?_
                refine MReady.cons rfl (fun K hK => ?_) MReady.nil
                go_simp
                have D := D.below ((Below.refl _ W0_3_7_4_8).alloc (Nat.le_refl _) (.cells #[.int .i64 0, .int .i64 60, .int .i64 61] 2))
                have hpr10 := fun W' hG => rd_arr (w := W0_3_7_4_8) (c := #[.int .i64 0, .int .i64 60, .int .i64 61]) (T := 2) (xs := [0, 60, 61]) (p := p) rfl (by have := D.src.lt; have := D.gr.size; have := D.hp; have := hpz; omega) W' hG
                have hpz := Nat.lt_of_lt_of_le hpz (show W0_3_7_4_8.heap.size ≤ (W0_3_7_4_8.alloc (.cells #[.int .i64 0, .int .i64 60, .int .i64 61] 2)).heap.size by simp)
                generalize hWW : W0_3_7_4_8.alloc (.cells #[.int .i64 0, .int .i64 60, .int .i64 61] 2) = W0_3_7_4_8x at D hpz hpr10 ⊢
                clear hWW
                have hHeld := D.l1
                generalize W0_3_7_4_8.heap.size = G10 at hpr10 ⊢
                refine hK.out _ _ (.inr hHeld) ?_
                clear hK K
                refine MAny.ready (rs := [11]) (by kernel_rfl) (by simp) ?_
                refine MReady.cons rfl (fun K hK => ?_) MReady.nil
                go_simp
                go_wp2_with (go_at_call 55; refine (HP.out (some ⟨G10, 0, none⟩) 3 [0, 60, 61] W0_3_7_4_8x D.src hpr10 (by simp) (by simp)).mono ?_; rintro e W0_3_7_4_8xx ⟨v11, rfl, _, hsx, hGx⟩)
                have D := D.call hsx hGx
                have hHeld := D.l1
                have hpz := Nat.lt_of_lt_of_le hpz hGx.size
                clear hsx hGx hpr10
                refine hK.out _ _ (.inr hHeld) ?_
                clear hK K
                refine MAny.take (i := 12) (v := ?_) rfl (by kernel_rfl) (by kernel_rfl) (by kernel_rfl) (fun _ _ _ h => h) (by kernel_rfl) (Or.inl ⟨by rfl, ?_⟩) (by assumption) ?_
                rotate_left
                · (intro w' hSw; (try dsimp only at hSw); go_simp; try (with_reducible rfl))
                try simp only [Act.put, List.setIfInBounds_toArray]
                refine MAny.ready (rs := [13]) (by kernel_rfl) (by simp) ?_
                refine MReady.cons rfl (fun K hK => ?_) MReady.nil
                go_simp
                have D := D.below ((Below.refl _ W0_3_7_4_8xx).alloc (Nat.le_refl _) (.cells #[.int .i64 v4, .int .i64 v8, .int .i64 v11] 125))
                have hHeld := D.l1
                refine hK.out _ _ (.inr hHeld) ?_
                clear hK K
                refine MAny.ready (rs := [14]) (by kernel_rfl) (by simp) ?_
                refine MReady.cons rfl (fun K hK => ?_) MReady.nil
                refine step_append_lies _ (by rfl) (.tmp 58) (.tmp 70) 33 (by rfl) w.heap.size 125 iw (.agg #[.int .i64 0, .int .i64 0, .int .i64 0]) 3 24 Tryz.underlying33 hiw hw0 hw1 hw2 rfl (by decide) _ _ _ (by rfl) D.way ⟨W0_3_7_4_8xx.heap.size, 0, none⟩ 1 1 [.int .i64 v4, .int .i64 v8, .int .i64 v11] (by rfl) rfl ?n1 ?n2 (by decide) ?n3 ?n4 ?n5 _ rfl ?_
                case n1 => exact World.news_of_block (heap_alloc_new _ _)
                case n2 => intro u hu; simp at hu; first | (subst hu; rfl) | (rcases hu with rfl | rfl | rfl <;> rfl)
                case n3 => unfold maxLen; omega
                case n4 => omega
                case n5 => exact D.gr.size
                intro g cap' Wx hown4 hG4 _ _
                have hown4' : Wx.ownsRow w.heap.size 125 3 (.slice (some ⟨g, 0, none⟩) (ws.length + 1) cap') (ws ++ [(⟨v4, v8, v11⟩ : Wy)]).length ((ws ++ [(⟨v4, v8, v11⟩ : Wy)]).flatMap encWy) := by
                  rw [List.length_append, List.flatMap_append]
                  exact hown4
                have D := D.ways hG4 hown4'
                clear hown4 hown4' hG4
                have hHeld := D.l1
                refine hK.out _ _ (.inr hHeld) ?_
                clear hK K
                have f1 := D.land.frozenAt 1
                refine MAny.take (i := 15) (v := ?_) rfl (by kernel_rfl) (by kernel_rfl) (by kernel_rfl) (fun _ _ _ h => h) (by kernel_rfl) (Or.inl ⟨by rfl, ?_⟩) (by assumption) ?_
                rotate_left
                · (intro w' hSw; (try dsimp only at hSw); go_simp; try (with_reducible rfl))
                try simp only [Act.put, List.setIfInBounds_toArray]
                refine MAny.ready (rs := [16]) (by kernel_rfl) (by simp) ?_
                refine MReady.cons rfl (fun K hK => ?_) MReady.nil
                go_simp
                refine hK.out _ _ (.inl rfl) ?_
                clear hK K
                refine MAny.done (by kernel_rfl) ?_ _
                try simp only [List.getElem_toArray, List.getElem_cons_succ, List.getElem_cons_zero]
                have D := D.put1 (.slice (some ⟨g, 0, none⟩) (ws.length + 1) cap')
                go_wp2
                go_meet
                case rel => exact ⟨_, some ⟨g, 0, none⟩, _, cap', ns, ws ++ [⟨v4, v8, v11⟩], by omega, by simp only [List.length_append, List.length_cons, List.length_nil]; omega, hnm7, by rw [List.length_append]; exact D⟩
              · go_simp
                have D := D.below ((Below.refl _ W0_3_7_4).alloc (Nat.le_refl _) (.cells #[.int .i64 0, .int .i64 60, .int .i64 61] 2))
                have hpr10 := fun W' hG => rd_arr (w := W0_3_7_4) (c := #[.int .i64 0, .int .i64 60, .int .i64 61]) (T := 2) (xs := [0, 60, 61]) (p := p) rfl (by have := D.src.lt; have := D.gr.size; have := D.hp; have := hpz; omega) W' hG
                have hpr7 := fun W' hG => hpr7 W' (gT (grA W0_3_7_4 (.cells #[.int .i64 0, .int .i64 60, .int .i64 61] 2) (some p)) hG)
                have hpz := Nat.lt_of_lt_of_le hpz (show W0_3_7_4.heap.size ≤ (W0_3_7_4.alloc (.cells #[.int .i64 0, .int .i64 60, .int .i64 61] 2)).heap.size by simp)
                generalize hWW : W0_3_7_4.alloc (.cells #[.int .i64 0, .int .i64 60, .int .i64 61] 2) = W0_3_7_4_10 at D hpz hpr7 hpr10 ⊢
                clear hWW
                have hHeld := D.l1
                generalize W0_3_7_4.heap.size = G10 at hpr10 ⊢
                refine hK.out _ _ (.inr hHeld) ?_
                clear hK K
                refine MAny.ready (rs := [8]) (by kernel_rfl) (by simp) ?_
                refine MReady.cons rfl (fun K hK => ?_) MReady.nil
                go_simp
                go_wp2_with (go_at_call 55; refine (HP.out (some ⟨G7, 0, none⟩) 3 [0, (ns.length : Int), 1] W0_3_7_4_10 D.src hpr7 (by simp) (by simp)).mono ?_; rintro e W0_3_7_4_10x ⟨v8, rfl, _, hsx, hGx⟩)
                have D := D.call hsx hGx
                have hHeld := D.l1
                have hpz := Nat.lt_of_lt_of_le hpz hGx.size
                have hpr10 := fun W' hG => hpr10 W' (gT hGx hG)
                clear hsx hGx hpr7
                refine hK.out _ _ (.inr hHeld) ?_
                clear hK K
                refine MAny.ready (rs := [11]) (by kernel_rfl) (by simp) ?_
                refine MReady.cons rfl (fun K hK => ?_) MReady.nil
                go_simp
                go_wp2_with (go_at_call 55; refine (HP.out (some ⟨G10, 0, none⟩) 3 [0, 60, 61] W0_3_7_4_10x D.src hpr10 (by simp) (by simp)).mono ?_; rintro e W0_3_7_4_10xx ⟨v11, rfl, _, hsx, hGx⟩)
                have D := D.call hsx hGx
                have hHeld := D.l1
                have hpz := Nat.lt_of_lt_of_le hpz hGx.size
                clear hsx hGx hpr10
                refine hK.out _ _ (.inr hHeld) ?_
                clear hK K
                refine MAny.take (i := 12) (v := ?_) rfl (by kernel_rfl) (by kernel_rfl) (by kernel_rfl) (fun _ _ _ h => h) (by kernel_rfl) (Or.inl ⟨by rfl, ?_⟩) (by assumption) ?_
                rotate_left
                · (intro w' hSw; (try dsimp only at hSw); go_simp; try (with_reducible rfl))
                try simp only [Act.put, List.setIfInBounds_toArray]
                refine MAny.ready (rs := [13]) (by kernel_rfl) (by simp) ?_
                refine MReady.cons rfl (fun K hK => ?_) MReady.nil
                go_simp
                have D := D.below ((Below.refl _ W0_3_7_4_10xx).alloc (Nat.le_refl _) (.cells #[.int .i64 v4, .int .i64 v8, .int .i64 v11] 125))
                have hHeld := D.l1
                refine hK.out _ _ (.inr hHeld) ?_
                clear hK K
                refine MAny.ready (rs := [14]) (by kernel_rfl) (by simp) ?_
                refine MReady.cons rfl (fun K hK => ?_) MReady.nil
                refine step_append_lies _ (by rfl) (.tmp 58) (.tmp 70) 33 (by rfl) w.heap.size 125 iw (.agg #[.int .i64 0, .int .i64 0, .int .i64 0]) 3 24 Tryz.underlying33 hiw hw0 hw1 hw2 rfl (by decide) _ _ _ (by rfl) D.way ⟨W0_3_7_4_10xx.heap.size, 0, none⟩ 1 1 [.int .i64 v4, .int .i64 v8, .int .i64 v11] (by rfl) rfl ?n1 ?n2 (by decide) ?n3 ?n4 ?n5 _ rfl ?_
                case n1 => exact World.news_of_block (heap_alloc_new _ _)
                case n2 => intro u hu; simp at hu; first | (subst hu; rfl) | (rcases hu with rfl | rfl | rfl <;> rfl)
                case n3 => unfold maxLen; omega
                case n4 => omega
                case n5 => exact D.gr.size
                intro g cap' Wx hown4 hG4 _ _
                have hown4' : Wx.ownsRow w.heap.size 125 3 (.slice (some ⟨g, 0, none⟩) (ws.length + 1) cap') (ws ++ [(⟨v4, v8, v11⟩ : Wy)]).length ((ws ++ [(⟨v4, v8, v11⟩ : Wy)]).flatMap encWy) := by
                  rw [List.length_append, List.flatMap_append]
                  exact hown4
                have D := D.ways hG4 hown4'
                clear hown4 hown4' hG4
                have hHeld := D.l1
                refine hK.out _ _ (.inr hHeld) ?_
                clear hK K
                have f1 := D.land.frozenAt 1
                refine MAny.take (i := 15) (v := ?_) rfl (by kernel_rfl) (by kernel_rfl) (by kernel_rfl) (fun _ _ _ h => h) (by kernel_rfl) (Or.inl ⟨by rfl, ?_⟩) (by assumption) ?_
                rotate_left
                · (intro w' hSw; (try dsimp only at hSw); go_simp; try (with_reducible rfl))
                try simp only [Act.put, List.setIfInBounds_toArray]
                refine MAny.ready (rs := [16]) (by kernel_rfl) (by simp) ?_
                refine MReady.cons rfl (fun K hK => ?_) MReady.nil
                go_simp
                refine hK.out _ _ (.inl rfl) ?_
                clear hK K
                refine MAny.done (by kernel_rfl) ?_ _
                try simp only [List.getElem_toArray, List.getElem_cons_succ, List.getElem_cons_zero]
                have D := D.put1 (.slice (some ⟨g, 0, none⟩) (ws.length + 1) cap')
                go_wp2
                go_meet
                case rel => exact ⟨_, some ⟨g, 0, none⟩, _, cap', ns, ws ++ [⟨v4, v8, v11⟩], by omega, by simp only [List.length_append, List.length_cons, List.length_nil]; omega, hnm7, by rw [List.length_append]; exact D⟩
            · go_simp
              have D := D.below ((Below.refl _ W0_3_7).alloc (Nat.le_refl _) (.cells #[.int .i64 0, .int .i64 60, .int .i64 61] 2))
              have hpr10 := fun W' hG => rd_arr (w := W0_3_7) (c := #[.int .i64 0, .int .i64 60, .int .i64 61]) (T := 2) (xs := [0, 60, 61]) (p := p) rfl (by have := D.src.lt; have := D.gr.size; have := D.hp; have := hpz; omega) W' hG
              have hpr3 := fun W' hG => hpr3 W' (gT (grA W0_3_7 (.cells #[.int .i64 0, .int .i64 60, .int .i64 61] 2) (some p)) hG)
              have hpr7 := fun W' hG => hpr7 W' (gT (grA W0_3_7 (.cells #[.int .i64 0, .int .i64 60, .int .i64 61] 2) (some p)) hG)
              have hpz := Nat.lt_of_lt_of_le hpz (show W0_3_7.heap.size ≤ (W0_3_7.alloc (.cells #[.int .i64 0, .int .i64 60, .int .i64 61] 2)).heap.size by simp)
              generalize hWW : W0_3_7.alloc (.cells #[.int .i64 0, .int .i64 60, .int .i64 61] 2) = W0_3_7_10 at D hpz hpr3 hpr7 hpr10 ⊢
              clear hWW
              have hHeld := D.l1
              generalize W0_3_7.heap.size = G10 at hpr10 ⊢
              refine hK.out _ _ (.inr hHeld) ?_
              clear hK K
              refine MAny.ready (rs := [4]) (by kernel_rfl) (by simp) ?_
              refine MReady.cons rfl (fun K hK => ?_) MReady.nil
              go_simp
              go_wp2_with (go_at_call 55; refine (HP.out (some ⟨G3, 0, none⟩) 2 [-1, 0] W0_3_7_10 D.src hpr3 (by simp) (by simp)).mono ?_; rintro e W0_3_7_10x ⟨v4, rfl, _, hsx, hGx⟩)
              have D := D.call hsx hGx
              have hHeld := D.l1
              have hpz := Nat.lt_of_lt_of_le hpz hGx.size
              have hpr7 := fun W' hG => hpr7 W' (gT hGx hG)
              have hpr10 := fun W' hG => hpr10 W' (gT hGx hG)
              clear hsx hGx hpr3
              refine hK.out _ _ (.inr hHeld) ?_
              clear hK K
              refine MAny.ready (rs := [8]) (by kernel_rfl) (by simp) ?_
              refine MReady.cons rfl (fun K hK => ?_) MReady.nil
              go_simp
              go_wp2_with (go_at_call 55; refine (HP.out (some ⟨G7, 0, none⟩) 3 [0, (ns.length : Int), 1] W0_3_7_10x D.src hpr7 (by simp) (by simp)).mono ?_; rintro e W0_3_7_10xx ⟨v8, rfl, _, hsx, hGx⟩)
              have D := D.call hsx hGx
              have hHeld := D.l1
              have hpz := Nat.lt_of_lt_of_le hpz hGx.size
              have hpr10 := fun W' hG => hpr10 W' (gT hGx hG)
              clear hsx hGx hpr7
              refine hK.out _ _ (.inr hHeld) ?_
              clear hK K
              refine MAny.ready (rs := [11]) (by kernel_rfl) (by simp) ?_
              refine MReady.cons rfl (fun K hK => ?_) MReady.nil
              go_simp
              go_wp2_with (go_at_call 55; refine (HP.out (some ⟨G10, 0, none⟩) 3 [0, 60, 61] W0_3_7_10xx D.src hpr10 (by simp) (by simp)).mono ?_; rintro e W0_3_7_10xxx ⟨v11, rfl, _, hsx, hGx⟩)
              have D := D.call hsx hGx
              have hHeld := D.l1
              have hpz := Nat.lt_of_lt_of_le hpz hGx.size
              clear hsx hGx hpr10
              refine hK.out _ _ (.inr hHeld) ?_
              clear hK K
              refine MAny.take (i := 12) (v := ?_) rfl (by kernel_rfl) (by kernel_rfl) (by kernel_rfl) (fun _ _ _ h => h) (by kernel_rfl) (Or.inl ⟨by rfl, ?_⟩) (by assumption) ?_
              rotate_left
              · (intro w' hSw; (try dsimp only at hSw); go_simp; try (with_reducible rfl))
              try simp only [Act.put, List.setIfInBounds_toArray]
              refine MAny.ready (rs := [13]) (by kernel_rfl) (by simp) ?_
              refine MReady.cons rfl (fun K hK => ?_) MReady.nil
              go_simp
              have D := D.below ((Below.refl _ W0_3_7_10xxx).alloc (Nat.le_refl _) (.cells #[.int .i64 v4, .int .i64 v8, .int .i64 v11] 125))
              have hHeld := D.l1
              refine hK.out _ _ (.inr hHeld) ?_
              clear hK K
              refine MAny.ready (rs := [14]) (by kernel_rfl) (by simp) ?_
              refine MReady.cons rfl (fun K hK => ?_) MReady.nil
              refine step_append_lies _ (by rfl) (.tmp 58) (.tmp 70) 33 (by rfl) w.heap.size 125 iw (.agg #[.int .i64 0, .int .i64 0, .int .i64 0]) 3 24 Tryz.underlying33 hiw hw0 hw1 hw2 rfl (by decide) _ _ _ (by rfl) D.way ⟨W0_3_7_10xxx.heap.size, 0, none⟩ 1 1 [.int .i64 v4, .int .i64 v8, .int .i64 v11] (by rfl) rfl ?n1 ?n2 (by decide) ?n3 ?n4 ?n5 _ rfl ?_
              case n1 => exact World.news_of_block (heap_alloc_new _ _)
              case n2 => intro u hu; simp at hu; first | (subst hu; rfl) | (rcases hu with rfl | rfl | rfl <;> rfl)
              case n3 => unfold maxLen; omega
              case n4 => omega
              case n5 => exact D.gr.size
              intro g cap' Wx hown4 hG4 _ _
              have hown4' : Wx.ownsRow w.heap.size 125 3 (.slice (some ⟨g, 0, none⟩) (ws.length + 1) cap') (ws ++ [(⟨v4, v8, v11⟩ : Wy)]).length ((ws ++ [(⟨v4, v8, v11⟩ : Wy)]).flatMap encWy) := by
                rw [List.length_append, List.flatMap_append]
                exact hown4
              have D := D.ways hG4 hown4'
              clear hown4 hown4' hG4
              have hHeld := D.l1
              refine hK.out _ _ (.inr hHeld) ?_
              clear hK K
              have f1 := D.land.frozenAt 1
              refine MAny.take (i := 15) (v := ?_) rfl (by kernel_rfl) (by kernel_rfl) (by kernel_rfl) (fun _ _ _ h => h) (by kernel_rfl) (Or.inl ⟨by rfl, ?_⟩) (by assumption) ?_
              rotate_left
              · (intro w' hSw; (try dsimp only at hSw); go_simp; try (with_reducible rfl))
              try simp only [Act.put, List.setIfInBounds_toArray]
              refine MAny.ready (rs := [16]) (by kernel_rfl) (by simp) ?_
              refine MReady.cons rfl (fun K hK => ?_) MReady.nil
              go_simp
              refine hK.out _ _ (.inl rfl) ?_
              clear hK K
              refine MAny.done (by kernel_rfl) ?_ _
              try simp only [List.getElem_toArray, List.getElem_cons_succ, List.getElem_cons_zero]
              have D := D.put1 (.slice (some ⟨g, 0, none⟩) (ws.length + 1) cap')
              go_wp2
              go_meet
              case rel => exact ⟨_, some ⟨g, 0, none⟩, _, cap', ns, ws ++ [⟨v4, v8, v11⟩], by omega, by simp only [List.length_append, List.length_cons, List.length_nil]; omega, hnm7, by rw [List.length_append]; exact D⟩
          · go_simp
            have D := D.below ((Below.refl _ W0_3).alloc (Nat.le_refl _) (.cells #[.int .i64 0, .int .i64 60, .int .i64 61] 2))
            have hpr10 := fun W' hG => rd_arr (w := W0_3) (c := #[.int .i64 0, .int .i64 60, .int .i64 61]) (T := 2) (xs := [0, 60, 61]) (p := p) rfl (by have := D.src.lt; have := D.gr.size; have := D.hp; have := hpz; omega) W' hG
            have hpr3 := fun W' hG => hpr3 W' (gT (grA W0_3 (.cells #[.int .i64 0, .int .i64 60, .int .i64 61] 2) (some p)) hG)
            have hpz := Nat.lt_of_lt_of_le hpz (show W0_3.heap.size ≤ (W0_3.alloc (.cells #[.int .i64 0, .int .i64 60, .int .i64 61] 2)).heap.size by simp)
            generalize hWW : W0_3.alloc (.cells #[.int .i64 0, .int .i64 60, .int .i64 61] 2) = W0_3_10 at D hpz hpr3 hpr10 ⊢
            clear hWW
            have hHeld := D.l1
            generalize W0_3.heap.size = G10 at hpr10 ⊢
            refine hK.out _ _ (.inr hHeld) ?_
            clear hK K
            refine MAny.ready (rs := [4, 7]) (by kernel_rfl) (by simp) ?_
            refine MReady.cons rfl (fun K hK => ?_) (MReady.cons rfl (fun K hK => ?_) MReady.nil)
            · go_simp
              go_wp2_with (go_at_call 55; refine (HP.out (some ⟨G3, 0, none⟩) 2 [-1, 0] W0_3_10 D.src hpr3 (by simp) (by simp)).mono ?_; rintro e W0_3_10_4 ⟨v4, rfl, _, hsx, hGx⟩)
              have D := D.call hsx hGx
              have hHeld := D.l1
              have hpz := Nat.lt_of_lt_of_le hpz hGx.size
              have hpr10 := fun W' hG => hpr10 W' (gT hGx hG)
              clear hsx hGx hpr3
              refine hK.out _ _ (.inr hHeld) ?_
              clear hK K
              refine MAny.ready (rs := [7]) (by kernel_rfl) (by simp) ?_
              refine MReady.cons rfl (fun K hK => ?_) MReady.nil
              go_simp
              have D := D.below ((Below.refl _ W0_3_10_4).alloc (Nat.le_refl _) (.cells #[.int .i64 0, .int .i64 (ns.length : Int), .int .i64 1] 2))
              have hpr7 := fun W' hG => rd_arr (w := W0_3_10_4) (c := #[.int .i64 0, .int .i64 (ns.length : Int), .int .i64 1]) (T := 2) (xs := [0, (ns.length : Int), 1]) (p := p) rfl (by have := D.src.lt; have := D.gr.size; have := D.hp; have := hpz; omega) W' hG
              have hpr10 := fun W' hG => hpr10 W' (gT (grA W0_3_10_4 (.cells #[.int .i64 0, .int .i64 (ns.length : Int), .int .i64 1] 2) (some p)) hG)
              have hpz := Nat.lt_of_lt_of_le hpz (show W0_3_10_4.heap.size ≤ (W0_3_10_4.alloc (.cells #[.int .i64 0, .int .i64 (ns.length : Int), .int .i64 1] 2)).heap.size by simp)
              generalize hWW : W0_3_10_4.alloc (.cells #[.int .i64 0, .int .i64 (ns.length : Int), .int .i64 1] 2) = W0_3_10_4x at D hpz hpr10 hpr7 ⊢
              clear hWW
              have hHeld := D.l1
              generalize W0_3_10_4.heap.size = G7 at hpr7 ⊢
              refine hK.out _ _ (.inr hHeld) ?_
              clear hK K
              refine MAny.ready (rs := [8]) (by kernel_rfl) (by simp) ?_
              refine MReady.cons rfl (fun K hK => ?_) MReady.nil
              go_simp
              go_wp2_with (go_at_call 55; refine (HP.out (some ⟨G7, 0, none⟩) 3 [0, (ns.length : Int), 1] W0_3_10_4x D.src hpr7 (by simp) (by simp)).mono ?_; rintro e W0_3_10_4xx ⟨v8, rfl, _, hsx, hGx⟩)
              have D := D.call hsx hGx
              have hHeld := D.l1
              have hpz := Nat.lt_of_lt_of_le hpz hGx.size
              have hpr10 := fun W' hG => hpr10 W' (gT hGx hG)
              clear hsx hGx hpr7
              refine hK.out _ _ (.inr hHeld) ?_
              clear hK K
              refine MAny.ready (rs := [11]) (by kernel_rfl) (by simp) ?_
              refine MReady.cons rfl (fun K hK => ?_) MReady.nil
              go_simp
              go_wp2_with (go_at_call 55; refine (HP.out (some ⟨G10, 0, none⟩) 3 [0, 60, 61] W0_3_10_4xx D.src hpr10 (by simp) (by simp)).mono ?_; rintro e W0_3_10_4xxx ⟨v11, rfl, _, hsx, hGx⟩)
              have D := D.call hsx hGx
              have hHeld := D.l1
              have hpz := Nat.lt_of_lt_of_le hpz hGx.size
              clear hsx hGx hpr10
              refine hK.out _ _ (.inr hHeld) ?_
              clear hK K
              refine MAny.take (i := 12) (v := ?_) rfl (by kernel_rfl) (by kernel_rfl) (by kernel_rfl) (fun _ _ _ h => h) (by kernel_rfl) (Or.inl ⟨by rfl, ?_⟩) (by assumption) ?_
              rotate_left
              · (intro w' hSw; (try dsimp only at hSw); go_simp; try (with_reducible rfl))
              try simp only [Act.put, List.setIfInBounds_toArray]
              refine MAny.ready (rs := [13]) (by kernel_rfl) (by simp) ?_
              refine MReady.cons rfl (fun K hK => ?_) MReady.nil
              go_simp
              have D := D.below ((Below.refl _ W0_3_10_4xxx).alloc (Nat.le_refl _) (.cells #[.int .i64 v4, .int .i64 v8, .int .i64 v11] 125))
              have hHeld := D.l1
              refine hK.out _ _ (.inr hHeld) ?_
              clear hK K
              refine MAny.ready (rs := [14]) (by kernel_rfl) (by simp) ?_
              refine MReady.cons rfl (fun K hK => ?_) MReady.nil
              refine step_append_lies _ (by rfl) (.tmp 58) (.tmp 70) 33 (by rfl) w.heap.size 125 iw (.agg #[.int .i64 0, .int .i64 0, .int .i64 0]) 3 24 Tryz.underlying33 hiw hw0 hw1 hw2 rfl (by decide) _ _ _ (by rfl) D.way ⟨W0_3_10_4xxx.heap.size, 0, none⟩ 1 1 [.int .i64 v4, .int .i64 v8, .int .i64 v11] (by rfl) rfl ?n1 ?n2 (by decide) ?n3 ?n4 ?n5 _ rfl ?_
              case n1 => exact World.news_of_block (heap_alloc_new _ _)
              case n2 => intro u hu; simp at hu; first | (subst hu; rfl) | (rcases hu with rfl | rfl | rfl <;> rfl)
              case n3 => unfold maxLen; omega
              case n4 => omega
              case n5 => exact D.gr.size
              intro g cap' Wx hown4 hG4 _ _
              have hown4' : Wx.ownsRow w.heap.size 125 3 (.slice (some ⟨g, 0, none⟩) (ws.length + 1) cap') (ws ++ [(⟨v4, v8, v11⟩ : Wy)]).length ((ws ++ [(⟨v4, v8, v11⟩ : Wy)]).flatMap encWy) := by
                rw [List.length_append, List.flatMap_append]
                exact hown4
              have D := D.ways hG4 hown4'
              clear hown4 hown4' hG4
              have hHeld := D.l1
              refine hK.out _ _ (.inr hHeld) ?_
              clear hK K
              have f1 := D.land.frozenAt 1
              refine MAny.take (i := 15) (v := ?_) rfl (by kernel_rfl) (by kernel_rfl) (by kernel_rfl) (fun _ _ _ h => h) (by kernel_rfl) (Or.inl ⟨by rfl, ?_⟩) (by assumption) ?_
              rotate_left
              · (intro w' hSw; (try dsimp only at hSw); go_simp; try (with_reducible rfl))
              try simp only [Act.put, List.setIfInBounds_toArray]
              refine MAny.ready (rs := [16]) (by kernel_rfl) (by simp) ?_
              refine MReady.cons rfl (fun K hK => ?_) MReady.nil
              go_simp
              refine hK.out _ _ (.inl rfl) ?_
              clear hK K
              refine MAny.done (by kernel_rfl) ?_ _
              try simp only [List.getElem_toArray, List.getElem_cons_succ, List.getElem_cons_zero]
              have D := D.put1 (.slice (some ⟨g, 0, none⟩) (ws.length + 1) cap')
              go_wp2
              go_meet
              case rel => exact ⟨_, some ⟨g, 0, none⟩, _, cap', ns, ws ++ [⟨v4, v8, v11⟩], by omega, by simp only [List.length_append, List.length_cons, List.length_nil]; omega, hnm7, by rw [List.length_append]; exact D⟩
            · go_simp
              have D := D.below ((Below.refl _ W0_3_10).alloc (Nat.le_refl _) (.cells #[.int .i64 0, .int .i64 (ns.length : Int), .int .i64 1] 2))
              have hpr7 := fun W' hG => rd_arr (w := W0_3_10) (c := #[.int .i64 0, .int .i64 (ns.length : Int), .int .i64 1]) (T := 2) (xs := [0, (ns.length : Int), 1]) (p := p) rfl (by have := D.src.lt; have := D.gr.size; have := D.hp; have := hpz; omega) W' hG
              have hpr3 := fun W' hG => hpr3 W' (gT (grA W0_3_10 (.cells #[.int .i64 0, .int .i64 (ns.length : Int), .int .i64 1] 2) (some p)) hG)
              have hpr10 := fun W' hG => hpr10 W' (gT (grA W0_3_10 (.cells #[.int .i64 0, .int .i64 (ns.length : Int), .int .i64 1] 2) (some p)) hG)
              have hpz := Nat.lt_of_lt_of_le hpz (show W0_3_10.heap.size ≤ (W0_3_10.alloc (.cells #[.int .i64 0, .int .i64 (ns.length : Int), .int .i64 1] 2)).heap.size by simp)
              generalize hWW : W0_3_10.alloc (.cells #[.int .i64 0, .int .i64 (ns.length : Int), .int .i64 1] 2) = W0_3_10_7 at D hpz hpr3 hpr10 hpr7 ⊢
              clear hWW
              have hHeld := D.l1
              generalize W0_3_10.heap.size = G7 at hpr7 ⊢
              refine hK.out _ _ (.inr hHeld) ?_
              clear hK K
              refine MAny.ready (rs := [4]) (by kernel_rfl) (by simp) ?_
              refine MReady.cons rfl (fun K hK => ?_) MReady.nil
              go_simp
              go_wp2_with (go_at_call 55; refine (HP.out (some ⟨G3, 0, none⟩) 2 [-1, 0] W0_3_10_7 D.src hpr3 (by simp) (by simp)).mono ?_; rintro e W0_3_10_7x ⟨v4, rfl, _, hsx, hGx⟩)
              have D := D.call hsx hGx
              have hHeld := D.l1
              have hpz := Nat.lt_of_lt_of_le hpz hGx.size
              have hpr10 := fun W' hG => hpr10 W' (gT hGx hG)
              have hpr7 := fun W' hG => hpr7 W' (gT hGx hG)
              clear hsx hGx hpr3
              refine hK.out _ _ (.inr hHeld) ?_
              clear hK K
              refine MAny.ready (rs := [8]) (by kernel_rfl) (by simp) ?_
              refine MReady.cons rfl (fun K hK => ?_) MReady.nil
              go_simp
              go_wp2_with (go_at_call 55; refine (HP.out (some ⟨G7, 0, none⟩) 3 [0, (ns.length : Int), 1] W0_3_10_7x D.src hpr7 (by simp) (by simp)).mono ?_; rintro e W0_3_10_7xx ⟨v8, rfl, _, hsx, hGx⟩)
              have D := D.call hsx hGx
              have hHeld := D.l1
              have hpz := Nat.lt_of_lt_of_le hpz hGx.size
              have hpr10 := fun W' hG => hpr10 W' (gT hGx hG)
              clear hsx hGx hpr7
              refine hK.out _ _ (.inr hHeld) ?_
              clear hK K
              refine MAny.ready (rs := [11]) (by kernel_rfl) (by simp) ?_
              refine MReady.cons rfl (fun K hK => ?_) MReady.nil
              go_simp
              go_wp2_with (go_at_call 55; refine (HP.out (some ⟨G10, 0, none⟩) 3 [0, 60, 61] W0_3_10_7xx D.src hpr10 (by simp) (by simp)).mono ?_; rintro e W0_3_10_7xxx ⟨v11, rfl, _, hsx, hGx⟩)
              have D := D.call hsx hGx
              have hHeld := D.l1
              have hpz := Nat.lt_of_lt_of_le hpz hGx.size
              clear hsx hGx hpr10
              refine hK.out _ _ (.inr hHeld) ?_
              clear hK K
              refine MAny.take (i := 12) (v := ?_) rfl (by kernel_rfl) (by kernel_rfl) (by kernel_rfl) (fun _ _ _ h => h) (by kernel_rfl) (Or.inl ⟨by rfl, ?_⟩) (by assumption) ?_
              rotate_left
              · (intro w' hSw; (try dsimp only at hSw); go_simp; try (with_reducible rfl))
              try simp only [Act.put, List.setIfInBounds_toArray]
              refine MAny.ready (rs := [13]) (by kernel_rfl) (by simp) ?_
              refine MReady.cons rfl (fun K hK => ?_) MReady.nil
              go_simp
              have D := D.below ((Below.refl _ W0_3_10_7xxx).alloc (Nat.le_refl _) (.cells #[.int .i64 v4, .int .i64 v8, .int .i64 v11] 125))
              have hHeld := D.l1
              refine hK.out _ _ (.inr hHeld) ?_
              clear hK K
              refine MAny.ready (rs := [14]) (by kernel_rfl) (by simp) ?_
              refine MReady.cons rfl (fun K hK => ?_) MReady.nil
              refine step_append_lies _ (by rfl) (.tmp 58) (.tmp 70) 33 (by rfl) w.heap.size 125 iw (.agg #[.int .i64 0, .int .i64 0, .int .i64 0]) 3 24 Tryz.underlying33 hiw hw0 hw1 hw2 rfl (by decide) _ _ _ (by rfl) D.way ⟨W0_3_10_7xxx.heap.size, 0, none⟩ 1 1 [.int .i64 v4, .int .i64 v8, .int .i64 v11] (by rfl) rfl ?n1 ?n2 (by decide) ?n3 ?n4 ?n5 _ rfl ?_
              case n1 => exact World.news_of_block (heap_alloc_new _ _)
              case n2 => intro u hu; simp at hu; first | (subst hu; rfl) | (rcases hu with rfl | rfl | rfl <;> rfl)
              case n3 => unfold maxLen; omega
              case n4 => omega
              case n5 => exact D.gr.size
              intro g cap' Wx hown4 hG4 _ _
              have hown4' : Wx.ownsRow w.heap.size 125 3 (.slice (some ⟨g, 0, none⟩) (ws.length + 1) cap') (ws ++ [(⟨v4, v8, v11⟩ : Wy)]).length ((ws ++ [(⟨v4, v8, v11⟩ : Wy)]).flatMap encWy) := by
                rw [List.length_append, List.flatMap_append]
                exact hown4
              have D := D.ways hG4 hown4'
              clear hown4 hown4' hG4
              have hHeld := D.l1
              refine hK.out _ _ (.inr hHeld) ?_
              clear hK K
              have f1 := D.land.frozenAt 1
              refine MAny.take (i := 15) (v := ?_) rfl (by kernel_rfl) (by kernel_rfl) (by kernel_rfl) (fun _ _ _ h => h) (by kernel_rfl) (Or.inl ⟨by rfl, ?_⟩) (by assumption) ?_
              rotate_left
              · (intro w' hSw; (try dsimp only at hSw); go_simp; try (with_reducible rfl))
              try simp only [Act.put, List.setIfInBounds_toArray]
              refine MAny.ready (rs := [16]) (by kernel_rfl) (by simp) ?_
              refine MReady.cons rfl (fun K hK => ?_) MReady.nil
              go_simp
              refine hK.out _ _ (.inl rfl) ?_
              clear hK K
              refine MAny.done (by kernel_rfl) ?_ _
              try simp only [List.getElem_toArray, List.getElem_cons_succ, List.getElem_cons_zero]
              have D := D.put1 (.slice (some ⟨g, 0, none⟩) (ws.length + 1) cap')
              go_wp2
              go_meet
              case rel => exact ⟨_, some ⟨g, 0, none⟩, _, cap', ns, ws ++ [⟨v4, v8, v11⟩], by omega, by simp only [List.length_append, List.length_cons, List.length_nil]; omega, hnm7, by rw [List.length_append]; exact D⟩
        · go_simp
          have D := D.below ((Below.refl _ W0).alloc (Nat.le_refl _) (.cells #[.int .i64 0, .int .i64 (ns.length : Int), .int .i64 1] 2))
          have hpr7 := fun W' hG => rd_arr (w := W0) (c := #[.int .i64 0, .int .i64 (ns.length : Int), .int .i64 1]) (T := 2) (xs := [0, (ns.length : Int), 1]) (p := p) rfl (by have := D.src.lt; have := D.gr.size; have := D.hp; have := hpz; omega) W' hG
          have hpz := Nat.lt_of_lt_of_le hpz (show W0.heap.size ≤ (W0.alloc (.cells #[.int .i64 0, .int .i64 (ns.length : Int), .int .i64 1] 2)).heap.size by simp)
          generalize hWW : W0.alloc (.cells #[.int .i64 0, .int .i64 (ns.length : Int), .int .i64 1] 2) = W0_7 at D hpz hpr7 ⊢
          clear hWW
          have hHeld := D.l1
          generalize W0.heap.size = G7 at hpr7 ⊢
          refine hK.out _ _ (.inr hHeld) ?_
          clear hK K
          refine MAny.ready (rs := [3, 10]) (by kernel_rfl) (by simp) ?_
          refine MReady.cons rfl (fun K hK => ?_) (MReady.cons rfl (fun K hK => ?_) MReady.nil)
          · go_simp
            have D := D.below ((Below.refl _ W0_7).alloc (Nat.le_refl _) (.cells #[.int .i64 (-1), .int .i64 0] 2))
            have hpr3 := fun W' hG => rd_arr (w := W0_7) (c := #[.int .i64 (-1), .int .i64 0]) (T := 2) (xs := [-1, 0]) (p := p) rfl (by have := D.src.lt; have := D.gr.size; have := D.hp; have := hpz; omega) W' hG
            have hpr7 := fun W' hG => hpr7 W' (gT (grA W0_7 (.cells #[.int .i64 (-1), .int .i64 0] 2) (some p)) hG)
            have hpz := Nat.lt_of_lt_of_le hpz (show W0_7.heap.size ≤ (W0_7.alloc (.cells #[.int .i64 (-1), .int .i64 0] 2)).heap.size by simp)
            generalize hWW : W0_7.alloc (.cells #[.int .i64 (-1), .int .i64 0] 2) = W0_7_3 at D hpz hpr7 hpr3 ⊢
            clear hWW
            have hHeld := D.l1
            generalize W0_7.heap.size = G3 at hpr3 ⊢
            refine hK.out _ _ (.inr hHeld) ?_
            clear hK K
            refine MAny.ready (rs := [4, 10]) (by kernel_rfl) (by simp) ?_
            refine MReady.cons rfl (fun K hK => ?_) (MReady.cons rfl (fun K hK => ?_) MReady.nil)
            · go_simp
              go_wp2_with (go_at_call 55; refine (HP.out (some ⟨G3, 0, none⟩) 2 [-1, 0] W0_7_3 D.src hpr3 (by simp) (by simp)).mono ?_; rintro e W0_7_3_4 ⟨v4, rfl, _, hsx, hGx⟩)
              have D := D.call hsx hGx
              have hHeld := D.l1
              have hpz := Nat.lt_of_lt_of_le hpz hGx.size
              have hpr7 := fun W' hG => hpr7 W' (gT hGx hG)
              clear hsx hGx hpr3
              refine hK.out _ _ (.inr hHeld) ?_
              clear hK K
              refine MAny.ready (rs := [8, 10]) (by kernel_rfl) (by simp) ?_
              refine MReady.cons rfl (fun K hK => ?_) (MReady.cons rfl (fun K hK => ?_) MReady.nil)
              · go_simp
                go_wp2_with (go_at_call 55; refine (HP.out (some ⟨G7, 0, none⟩) 3 [0, (ns.length : Int), 1] W0_7_3_4 D.src hpr7 (by simp) (by simp)).mono ?_; rintro e W0_7_3_4_8 ⟨v8, rfl, _, hsx, hGx⟩)
                have D := D.call hsx hGx
                have hHeld := D.l1
                have hpz := Nat.lt_of_lt_of_le hpz hGx.size
                clear hsx hGx hpr7
                refine hK.out _ _ (.inr hHeld) ?_
                clear hK K
                refine MAny.ready (rs := [10]) (by kernel_rfl) (by simp) ?_
                refine MReady.cons rfl (fun K hK => ?_) MReady.nil
                go_simp
                have D := D.below ((Below.refl _ W0_7_3_4_8).alloc (Nat.le_refl _) (.cells #[.int .i64 0, .int .i64 60, .int .i64 61] 2))
                have hpr10 := fun W' hG => rd_arr (w := W0_7_3_4_8) (c := #[.int .i64 0, .int .i64 60, .int .i64 61]) (T := 2) (xs := [0, 60, 61]) (p := p) rfl (by have := D.src.lt; have := D.gr.size; have := D.hp; have := hpz; omega) W' hG
                have hpz := Nat.lt_of_lt_of_le hpz (show W0_7_3_4_8.heap.size ≤ (W0_7_3_4_8.alloc (.cells #[.int .i64 0, .int .i64 60, .int .i64 61] 2)).heap.size by simp)
                generalize hWW : W0_7_3_4_8.alloc (.cells #[.int .i64 0, .int .i64 60, .int .i64 61] 2) = W0_7_3_4_8x at D hpz hpr10 ⊢
                clear hWW
                have hHeld := D.l1
                generalize W0_7_3_4_8.heap.size = G10 at hpr10 ⊢
                refine hK.out _ _ (.inr hHeld) ?_
                clear hK K
                refine MAny.ready (rs := [11]) (by kernel_rfl) (by simp) ?_
                refine MReady.cons rfl (fun K hK => ?_) MReady.nil
                go_simp
                go_wp2_with (go_at_call 55; refine (HP.out (some ⟨G10, 0, none⟩) 3 [0, 60, 61] W0_7_3_4_8x D.src hpr10 (by simp) (by simp)).mono ?_; rintro e W0_7_3_4_8xx ⟨v11, rfl, _, hsx, hGx⟩)
                have D := D.call hsx hGx
                have hHeld := D.l1
                have hpz := Nat.lt_of_lt_of_le hpz hGx.size
                clear hsx hGx hpr10
                refine hK.out _ _ (.inr hHeld) ?_
                clear hK K
                refine MAny.take (i := 12) (v := ?_) rfl (by kernel_rfl) (by kernel_rfl) (by kernel_rfl) (fun _ _ _ h => h) (by kernel_rfl) (Or.inl ⟨by rfl, ?_⟩) (by assumption) ?_
                rotate_left
                · (intro w' hSw; (try dsimp only at hSw); go_simp; try (with_reducible rfl))
                try simp only [Act.put, List.setIfInBounds_toArray]
                refine MAny.ready (rs := [13]) (by kernel_rfl) (by simp) ?_
                refine MReady.cons rfl (fun K hK => ?_) MReady.nil
                go_simp
                have D := D.below ((Below.refl _ W0_7_3_4_8xx).alloc (Nat.le_refl _) (.cells #[.int .i64 v4, .int .i64 v8, .int .i64 v11] 125))
                have hHeld := D.l1
                refine hK.out _ _ (.inr hHeld) ?_
                clear hK K
                refine MAny.ready (rs := [14]) (by kernel_rfl) (by simp) ?_
                refine MReady.cons rfl (fun K hK => ?_) MReady.nil
                refine step_append_lies _ (by rfl) (.tmp 58) (.tmp 70) 33 (by rfl) w.heap.size 125 iw (.agg #[.int .i64 0, .int .i64 0, .int .i64 0]) 3 24 Tryz.underlying33 hiw hw0 hw1 hw2 rfl (by decide) _ _ _ (by rfl) D.way ⟨W0_7_3_4_8xx.heap.size, 0, none⟩ 1 1 [.int .i64 v4, .int .i64 v8, .int .i64 v11] (by rfl) rfl ?n1 ?n2 (by decide) ?n3 ?n4 ?n5 _ rfl ?_
                case n1 => exact World.news_of_block (heap_alloc_new _ _)
                case n2 => intro u hu; simp at hu; first | (subst hu; rfl) | (rcases hu with rfl | rfl | rfl <;> rfl)
                case n3 => unfold maxLen; omega
                case n4 => omega
                case n5 => exact D.gr.size
                intro g cap' Wx hown4 hG4 _ _
                have hown4' : Wx.ownsRow w.heap.size 125 3 (.slice (some ⟨g, 0, none⟩) (ws.length + 1) cap') (ws ++ [(⟨v4, v8, v11⟩ : Wy)]).length ((ws ++ [(⟨v4, v8, v11⟩ : Wy)]).flatMap encWy) := by
                  rw [List.length_append, List.flatMap_append]
                  exact hown4
                have D := D.ways hG4 hown4'
                clear hown4 hown4' hG4
                have hHeld := D.l1
                refine hK.out _ _ (.inr hHeld) ?_
                clear hK K
                have f1 := D.land.frozenAt 1
                refine MAny.take (i := 15) (v := ?_) rfl (by kernel_rfl) (by kernel_rfl) (by kernel_rfl) (fun _ _ _ h => h) (by kernel_rfl) (Or.inl ⟨by rfl, ?_⟩) (by assumption) ?_
                rotate_left
                · (intro w' hSw; (try dsimp only at hSw); go_simp; try (with_reducible rfl))
                try simp only [Act.put, List.setIfInBounds_toArray]
                refine MAny.ready (rs := [16]) (by kernel_rfl) (by simp) ?_
                refine MReady.cons rfl (fun K hK => ?_) MReady.nil
                go_simp
                refine hK.out _ _ (.inl rfl) ?_
                clear hK K
                refine MAny.done (by kernel_rfl) ?_ _
                try simp only [List.getElem_toArray, List.getElem_cons_succ, List.getElem_cons_zero]
                have D := D.put1 (.slice (some ⟨g, 0, none⟩) (ws.length + 1) cap')
                go_wp2
                go_meet
                case rel => exact ⟨_, some ⟨g, 0, none⟩, _, cap', ns, ws ++ [⟨v4, v8, v11⟩], by omega, by simp only [List.length_append, List.length_cons, List.length_nil]; omega, hnm7, by rw [List.length_append]; exact D⟩
              · go_simp
                have D := D.below ((Below.refl _ W0_7_3_4).alloc (Nat.le_refl _) (.cells #[.int .i64 0, .int .i64 60, .int .i64 61] 2))
                have hpr10 := fun W' hG => rd_arr (w := W0_7_3_4) (c := #[.int .i64 0, .int .i64 60, .int .i64 61]) (T := 2) (xs := [0, 60, 61]) (p := p) rfl (by have := D.src.lt; have := D.gr.size; have := D.hp; have := hpz; omega) W' hG
                have hpr7 := fun W' hG => hpr7 W' (gT (grA W0_7_3_4 (.cells #[.int .i64 0, .int .i64 60, .int .i64 61] 2) (some p)) hG)
                have hpz := Nat.lt_of_lt_of_le hpz (show W0_7_3_4.heap.size ≤ (W0_7_3_4.alloc (.cells #[.int .i64 0, .int .i64 60, .int .i64 61] 2)).heap.size by simp)
                generalize hWW : W0_7_3_4.alloc (.cells #[.int .i64 0, .int .i64 60, .int .i64 61] 2) = W0_7_3_4_10 at D hpz hpr7 hpr10 ⊢
                clear hWW
                have hHeld := D.l1
                generalize W0_7_3_4.heap.size = G10 at hpr10 ⊢
                refine hK.out _ _ (.inr hHeld) ?_
                clear hK K
                refine MAny.ready (rs := [8]) (by kernel_rfl) (by simp) ?_
                refine MReady.cons rfl (fun K hK => ?_) MReady.nil
                go_simp
                go_wp2_with (go_at_call 55; refine (HP.out (some ⟨G7, 0, none⟩) 3 [0, (ns.length : Int), 1] W0_7_3_4_10 D.src hpr7 (by simp) (by simp)).mono ?_; rintro e W0_7_3_4_10x ⟨v8, rfl, _, hsx, hGx⟩)
                have D := D.call hsx hGx
                have hHeld := D.l1
                have hpz := Nat.lt_of_lt_of_le hpz hGx.size
                have hpr10 := fun W' hG => hpr10 W' (gT hGx hG)
                clear hsx hGx hpr7
                refine hK.out _ _ (.inr hHeld) ?_
                clear hK K
                refine MAny.ready (rs := [11]) (by kernel_rfl) (by simp) ?_
                refine MReady.cons rfl (fun K hK => ?_) MReady.nil
                go_simp
                go_wp2_with (go_at_call 55; refine (HP.out (some ⟨G10, 0, none⟩) 3 [0, 60, 61] W0_7_3_4_10x D.src hpr10 (by simp) (by simp)).mono ?_; rintro e W0_7_3_4_10xx ⟨v11, rfl, _, hsx, hGx⟩)
                have D := D.call hsx hGx
                have hHeld := D.l1
                have hpz := Nat.lt_of_lt_of_le hpz hGx.size
                clear hsx hGx hpr10
                refine hK.out _ _ (.inr hHeld) ?_
                clear hK K
                refine MAny.take (i := 12) (v := ?_) rfl (by kernel_rfl) (by kernel_rfl) (by kernel_rfl) (fun _ _ _ h => h) (by kernel_rfl) (Or.inl ⟨by rfl, ?_⟩) (by assumption) ?_
                rotate_left
                · (intro w' hSw; (try dsimp only at hSw); go_simp; try (with_reducible rfl))
                try simp only [Act.put, List.setIfInBounds_toArray]
                refine MAny.ready (rs := [13]) (by kernel_rfl) (by simp) ?_
                refine MReady.cons rfl (fun K hK => ?_) MReady.nil
                go_simp
                have D := D.below ((Below.refl _ W0_7_3_4_10xx).alloc (Nat.le_refl _) (.cells #[.int .i64 v4, .int .i64 v8, .int .i64 v11] 125))
                have hHeld := D.l1
                refine hK.out _ _ (.inr hHeld) ?_
                clear hK K
                refine MAny.ready (rs := [14]) (by kernel_rfl) (by simp) ?_
                refine MReady.cons rfl (fun K hK => ?_) MReady.nil
                refine step_append_lies _ (by rfl) (.tmp 58) (.tmp 70) 33 (by rfl) w.heap.size 125 iw (.agg #[.int .i64 0, .int .i64 0, .int .i64 0]) 3 24 Tryz.underlying33 hiw hw0 hw1 hw2 rfl (by decide) _ _ _ (by rfl) D.way ⟨W0_7_3_4_10xx.heap.size, 0, none⟩ 1 1 [.int .i64 v4, .int .i64 v8, .int .i64 v11] (by rfl) rfl ?n1 ?n2 (by decide) ?n3 ?n4 ?n5 _ rfl ?_
                case n1 => exact World.news_of_block (heap_alloc_new _ _)
                case n2 => intro u hu; simp at hu; first | (subst hu; rfl) | (rcases hu with rfl | rfl | rfl <;> rfl)
                case n3 => unfold maxLen; omega
                case n4 => omega
                case n5 => exact D.gr.size
                intro g cap' Wx hown4 hG4 _ _
                have hown4' : Wx.ownsRow w.heap.size 125 3 (.slice (some ⟨g, 0, none⟩) (ws.length + 1) cap') (ws ++ [(⟨v4, v8, v11⟩ : Wy)]).length ((ws ++ [(⟨v4, v8, v11⟩ : Wy)]).flatMap encWy) := by
                  rw [List.length_append, List.flatMap_append]
                  exact hown4
                have D := D.ways hG4 hown4'
                clear hown4 hown4' hG4
                have hHeld := D.l1
                refine hK.out _ _ (.inr hHeld) ?_
                clear hK K
                have f1 := D.land.frozenAt 1
                refine MAny.take (i := 15) (v := ?_) rfl (by kernel_rfl) (by kernel_rfl) (by kernel_rfl) (fun _ _ _ h => h) (by kernel_rfl) (Or.inl ⟨by rfl, ?_⟩) (by assumption) ?_
                rotate_left
                · (intro w' hSw; (try dsimp only at hSw); go_simp; try (with_reducible rfl))
                try simp only [Act.put, List.setIfInBounds_toArray]
                refine MAny.ready (rs := [16]) (by kernel_rfl) (by simp) ?_
                refine MReady.cons rfl (fun K hK => ?_) MReady.nil
                go_simp
                refine hK.out _ _ (.inl rfl) ?_
                clear hK K
                refine MAny.done (by kernel_rfl) ?_ _
                try simp only [List.getElem_toArray, List.getElem_cons_succ, List.getElem_cons_zero]
                have D := D.put1 (.slice (some ⟨g, 0, none⟩) (ws.length + 1) cap')
                go_wp2
                go_meet
                case rel => exact ⟨_, some ⟨g, 0, none⟩, _, cap', ns, ws ++ [⟨v4, v8, v11⟩], by omega, by simp only [List.length_append, List.length_cons, List.length_nil]; omega, hnm7, by rw [List.length_append]; exact D⟩
            · go_simp
              have D := D.below ((Below.refl _ W0_7_3).alloc (Nat.le_refl _) (.cells #[.int .i64 0, .int .i64 60, .int .i64 61] 2))
              have hpr10 := fun W' hG => rd_arr (w := W0_7_3) (c := #[.int .i64 0, .int .i64 60, .int .i64 61]) (T := 2) (xs := [0, 60, 61]) (p := p) rfl (by have := D.src.lt; have := D.gr.size; have := D.hp; have := hpz; omega) W' hG
              have hpr7 := fun W' hG => hpr7 W' (gT (grA W0_7_3 (.cells #[.int .i64 0, .int .i64 60, .int .i64 61] 2) (some p)) hG)
              have hpr3 := fun W' hG => hpr3 W' (gT (grA W0_7_3 (.cells #[.int .i64 0, .int .i64 60, .int .i64 61] 2) (some p)) hG)
              have hpz := Nat.lt_of_lt_of_le hpz (show W0_7_3.heap.size ≤ (W0_7_3.alloc (.cells #[.int .i64 0, .int .i64 60, .int .i64 61] 2)).heap.size by simp)
              generalize hWW : W0_7_3.alloc (.cells #[.int .i64 0, .int .i64 60, .int .i64 61] 2) = W0_7_3_10 at D hpz hpr7 hpr3 hpr10 ⊢
              clear hWW
              have hHeld := D.l1
              generalize W0_7_3.heap.size = G10 at hpr10 ⊢
              refine hK.out _ _ (.inr hHeld) ?_
              clear hK K
              refine MAny.ready (rs := [4]) (by kernel_rfl) (by simp) ?_
              refine MReady.cons rfl (fun K hK => ?_) MReady.nil
              go_simp
              go_wp2_with (go_at_call 55; refine (HP.out (some ⟨G3, 0, none⟩) 2 [-1, 0] W0_7_3_10 D.src hpr3 (by simp) (by simp)).mono ?_; rintro e W0_7_3_10x ⟨v4, rfl, _, hsx, hGx⟩)
              have D := D.call hsx hGx
              have hHeld := D.l1
              have hpz := Nat.lt_of_lt_of_le hpz hGx.size
              have hpr7 := fun W' hG => hpr7 W' (gT hGx hG)
              have hpr10 := fun W' hG => hpr10 W' (gT hGx hG)
              clear hsx hGx hpr3
              refine hK.out _ _ (.inr hHeld) ?_
              clear hK K
              refine MAny.ready (rs := [8]) (by kernel_rfl) (by simp) ?_
              refine MReady.cons rfl (fun K hK => ?_) MReady.nil
              go_simp
              go_wp2_with (go_at_call 55; refine (HP.out (some ⟨G7, 0, none⟩) 3 [0, (ns.length : Int), 1] W0_7_3_10x D.src hpr7 (by simp) (by simp)).mono ?_; rintro e W0_7_3_10xx ⟨v8, rfl, _, hsx, hGx⟩)
              have D := D.call hsx hGx
              have hHeld := D.l1
              have hpz := Nat.lt_of_lt_of_le hpz hGx.size
              have hpr10 := fun W' hG => hpr10 W' (gT hGx hG)
              clear hsx hGx hpr7
              refine hK.out _ _ (.inr hHeld) ?_
              clear hK K
              refine MAny.ready (rs := [11]) (by kernel_rfl) (by simp) ?_
              refine MReady.cons rfl (fun K hK => ?_) MReady.nil
              go_simp
              go_wp2_with (go_at_call 55; refine (HP.out (some ⟨G10, 0, none⟩) 3 [0, 60, 61] W0_7_3_10xx D.src hpr10 (by simp) (by simp)).mono ?_; rintro e W0_7_3_10xxx ⟨v11, rfl, _, hsx, hGx⟩)
              have D := D.call hsx hGx
              have hHeld := D.l1
              have hpz := Nat.lt_of_lt_of_le hpz hGx.size
              clear hsx hGx hpr10
              refine hK.out _ _ (.inr hHeld) ?_
              clear hK K
              refine MAny.take (i := 12) (v := ?_) rfl (by kernel_rfl) (by kernel_rfl) (by kernel_rfl) (fun _ _ _ h => h) (by kernel_rfl) (Or.inl ⟨by rfl, ?_⟩) (by assumption) ?_
              rotate_left
              · (intro w' hSw; (try dsimp only at hSw); go_simp; try (with_reducible rfl))
              try simp only [Act.put, List.setIfInBounds_toArray]
              refine MAny.ready (rs := [13]) (by kernel_rfl) (by simp) ?_
              refine MReady.cons rfl (fun K hK => ?_) MReady.nil
              go_simp
              have D := D.below ((Below.refl _ W0_7_3_10xxx).alloc (Nat.le_refl _) (.cells #[.int .i64 v4, .int .i64 v8, .int .i64 v11] 125))
              have hHeld := D.l1
              refine hK.out _ _ (.inr hHeld) ?_
              clear hK K
              refine MAny.ready (rs := [14]) (by kernel_rfl) (by simp) ?_
              refine MReady.cons rfl (fun K hK => ?_) MReady.nil
              refine step_append_lies _ (by rfl) (.tmp 58) (.tmp 70) 33 (by rfl) w.heap.size 125 iw (.agg #[.int .i64 0, .int .i64 0, .int .i64 0]) 3 24 Tryz.underlying33 hiw hw0 hw1 hw2 rfl (by decide) _ _ _ (by rfl) D.way ⟨W0_7_3_10xxx.heap.size, 0, none⟩ 1 1 [.int .i64 v4, .int .i64 v8, .int .i64 v11] (by rfl) rfl ?n1 ?n2 (by decide) ?n3 ?n4 ?n5 _ rfl ?_
              case n1 => exact World.news_of_block (heap_alloc_new _ _)
              case n2 => intro u hu; simp at hu; first | (subst hu; rfl) | (rcases hu with rfl | rfl | rfl <;> rfl)
              case n3 => unfold maxLen; omega
              case n4 => omega
              case n5 => exact D.gr.size
              intro g cap' Wx hown4 hG4 _ _
              have hown4' : Wx.ownsRow w.heap.size 125 3 (.slice (some ⟨g, 0, none⟩) (ws.length + 1) cap') (ws ++ [(⟨v4, v8, v11⟩ : Wy)]).length ((ws ++ [(⟨v4, v8, v11⟩ : Wy)]).flatMap encWy) := by
                rw [List.length_append, List.flatMap_append]
                exact hown4
              have D := D.ways hG4 hown4'
              clear hown4 hown4' hG4
              have hHeld := D.l1
              refine hK.out _ _ (.inr hHeld) ?_
              clear hK K
              have f1 := D.land.frozenAt 1
              refine MAny.take (i := 15) (v := ?_) rfl (by kernel_rfl) (by kernel_rfl) (by kernel_rfl) (fun _ _ _ h => h) (by kernel_rfl) (Or.inl ⟨by rfl, ?_⟩) (by assumption) ?_
              rotate_left
              · (intro w' hSw; (try dsimp only at hSw); go_simp; try (with_reducible rfl))
              try simp only [Act.put, List.setIfInBounds_toArray]
              refine MAny.ready (rs := [16]) (by kernel_rfl) (by simp) ?_
              refine MReady.cons rfl (fun K hK => ?_) MReady.nil
              go_simp
              refine hK.out _ _ (.inl rfl) ?_
              clear hK K
              refine MAny.done (by kernel_rfl) ?_ _
              try simp only [List.getElem_toArray, List.getElem_cons_succ, List.getElem_cons_zero]
              have D := D.put1 (.slice (some ⟨g, 0, none⟩) (ws.length + 1) cap')
              go_wp2
              go_meet
              case rel => exact ⟨_, some ⟨g, 0, none⟩, _, cap', ns, ws ++ [⟨v4, v8, v11⟩], by omega, by simp only [List.length_append, List.length_cons, List.length_nil]; omega, hnm7, by rw [List.length_append]; exact D⟩
          · go_simp
            have D := D.below ((Below.refl _ W0_7).alloc (Nat.le_refl _) (.cells #[.int .i64 0, .int .i64 60, .int .i64 61] 2))
            have hpr10 := fun W' hG => rd_arr (w := W0_7) (c := #[.int .i64 0, .int .i64 60, .int .i64 61]) (T := 2) (xs := [0, 60, 61]) (p := p) rfl (by have := D.src.lt; have := D.gr.size; have := D.hp; have := hpz; omega) W' hG
            have hpr7 := fun W' hG => hpr7 W' (gT (grA W0_7 (.cells #[.int .i64 0, .int .i64 60, .int .i64 61] 2) (some p)) hG)
            have hpz := Nat.lt_of_lt_of_le hpz (show W0_7.heap.size ≤ (W0_7.alloc (.cells #[.int .i64 0, .int .i64 60, .int .i64 61] 2)).heap.size by simp)
            generalize hWW : W0_7.alloc (.cells #[.int .i64 0, .int .i64 60, .int .i64 61] 2) = W0_7_10 at D hpz hpr7 hpr10 ⊢
            clear hWW
            have hHeld := D.l1
            generalize W0_7.heap.size = G10 at hpr10 ⊢
            refine hK.out _ _ (.inr hHeld) ?_
            clear hK K
            refine MAny.ready (rs := [3]) (by kernel_rfl) (by simp) ?_
            refine MReady.cons rfl (fun K hK => ?_) MReady.nil
            go_simp
            have D := D.below ((Below.refl _ W0_7_10).alloc (Nat.le_refl _) (.cells #[.int .i64 (-1), .int .i64 0] 2))
            have hpr3 := fun W' hG => rd_arr (w := W0_7_10) (c := #[.int .i64 (-1), .int .i64 0]) (T := 2) (xs := [-1, 0]) (p := p) rfl (by have := D.src.lt; have := D.gr.size; have := D.hp; have := hpz; omega) W' hG
            have hpr7 := fun W' hG => hpr7 W' (gT (grA W0_7_10 (.cells #[.int .i64 (-1), .int .i64 0] 2) (some p)) hG)
            have hpr10 := fun W' hG => hpr10 W' (gT (grA W0_7_10 (.cells #[.int .i64 (-1), .int .i64 0] 2) (some p)) hG)
            have hpz := Nat.lt_of_lt_of_le hpz (show W0_7_10.heap.size ≤ (W0_7_10.alloc (.cells #[.int .i64 (-1), .int .i64 0] 2)).heap.size by simp)
            generalize hWW : W0_7_10.alloc (.cells #[.int .i64 (-1), .int .i64 0] 2) = W0_7_10x at D hpz hpr7 hpr10 hpr3 ⊢
            clear hWW
            have hHeld := D.l1
            generalize W0_7_10.heap.size = G3 at hpr3 ⊢
            refine hK.out _ _ (.inr hHeld) ?_
            clear hK K
            refine MAny.ready (rs := [4]) (by kernel_rfl) (by simp) ?_
            refine MReady.cons rfl (fun K hK => ?_) MReady.nil
            go_simp
            go_wp2_with (go_at_call 55; refine (HP.out (some ⟨G3, 0, none⟩) 2 [-1, 0] W0_7_10x D.src hpr3 (by simp) (by simp)).mono ?_; rintro e W0_7_10xx ⟨v4, rfl, _, hsx, hGx⟩)
            have D := D.call hsx hGx
            have hHeld := D.l1
            have hpz := Nat.lt_of_lt_of_le hpz hGx.size
            have hpr7 := fun W' hG => hpr7 W' (gT hGx hG)
            have hpr10 := fun W' hG => hpr10 W' (gT hGx hG)
            clear hsx hGx hpr3
            refine hK.out _ _ (.inr hHeld) ?_
            clear hK K
            refine MAny.ready (rs := [8]) (by kernel_rfl) (by simp) ?_
            refine MReady.cons rfl (fun K hK => ?_) MReady.nil
            go_simp
            go_wp2_with (go_at_call 55; refine (HP.out (some ⟨G7, 0, none⟩) 3 [0, (ns.length : Int), 1] W0_7_10xx D.src hpr7 (by simp) (by simp)).mono ?_; rintro e W0_7_10xxx ⟨v8, rfl, _, hsx, hGx⟩)
            have D := D.call hsx hGx
            have hHeld := D.l1
            have hpz := Nat.lt_of_lt_of_le hpz hGx.size
            have hpr10 := fun W' hG => hpr10 W' (gT hGx hG)
            clear hsx hGx hpr7
            refine hK.out _ _ (.inr hHeld) ?_
            clear hK K
            refine MAny.ready (rs := [11]) (by kernel_rfl) (by simp) ?_
            refine MReady.cons rfl (fun K hK => ?_) MReady.nil
            go_simp
            go_wp2_with (go_at_call 55; refine (HP.out (some ⟨G10, 0, none⟩) 3 [0, 60, 61] W0_7_10xxx D.src hpr10 (by simp) (by simp)).mono ?_; rintro e W0_7_10xxxx ⟨v11, rfl, _, hsx, hGx⟩)
            have D := D.call hsx hGx
            have hHeld := D.l1
            have hpz := Nat.lt_of_lt_of_le hpz hGx.size
            clear hsx hGx hpr10
            refine hK.out _ _ (.inr hHeld) ?_
            clear hK K
            refine MAny.take (i := 12) (v := ?_) rfl (by kernel_rfl) (by kernel_rfl) (by kernel_rfl) (fun _ _ _ h => h) (by kernel_rfl) (Or.inl ⟨by rfl, ?_⟩) (by assumption) ?_
            rotate_left
            · (intro w' hSw; (try dsimp only at hSw); go_simp; try (with_reducible rfl))
            try simp only [Act.put, List.setIfInBounds_toArray]
            refine MAny.ready (rs := [13]) (by kernel_rfl) (by simp) ?_
            refine MReady.cons rfl (fun K hK => ?_) MReady.nil
            go_simp
            have D := D.below ((Below.refl _ W0_7_10xxxx).alloc (Nat.le_refl _) (.cells #[.int .i64 v4, .int .i64 v8, .int .i64 v11] 125))
            have hHeld := D.l1
            refine hK.out _ _ (.inr hHeld) ?_
            clear hK K
            refine MAny.ready (rs := [14]) (by kernel_rfl) (by simp) ?_
            refine MReady.cons rfl (fun K hK => ?_) MReady.nil
            refine step_append_lies _ (by rfl) (.tmp 58) (.tmp 70) 33 (by rfl) w.heap.size 125 iw (.agg #[.int .i64 0, .int .i64 0, .int .i64 0]) 3 24 Tryz.underlying33 hiw hw0 hw1 hw2 rfl (by decide) _ _ _ (by rfl) D.way ⟨W0_7_10xxxx.heap.size, 0, none⟩ 1 1 [.int .i64 v4, .int .i64 v8, .int .i64 v11] (by rfl) rfl ?n1 ?n2 (by decide) ?n3 ?n4 ?n5 _ rfl ?_
            case n1 => exact World.news_of_block (heap_alloc_new _ _)
            case n2 => intro u hu; simp at hu; first | (subst hu; rfl) | (rcases hu with rfl | rfl | rfl <;> rfl)
            case n3 => unfold maxLen; omega
            case n4 => omega
            case n5 => exact D.gr.size
            intro g cap' Wx hown4 hG4 _ _
            have hown4' : Wx.ownsRow w.heap.size 125 3 (.slice (some ⟨g, 0, none⟩) (ws.length + 1) cap') (ws ++ [(⟨v4, v8, v11⟩ : Wy)]).length ((ws ++ [(⟨v4, v8, v11⟩ : Wy)]).flatMap encWy) := by
              rw [List.length_append, List.flatMap_append]
              exact hown4
            have D := D.ways hG4 hown4'
            clear hown4 hown4' hG4
            have hHeld := D.l1
            refine hK.out _ _ (.inr hHeld) ?_
            clear hK K
            have f1 := D.land.frozenAt 1
            refine MAny.take (i := 15) (v := ?_) rfl (by kernel_rfl) (by kernel_rfl) (by kernel_rfl) (fun _ _ _ h => h) (by kernel_rfl) (Or.inl ⟨by rfl, ?_⟩) (by assumption) ?_
            rotate_left
            · (intro w' hSw; (try dsimp only at hSw); go_simp; try (with_reducible rfl))
            try simp only [Act.put, List.setIfInBounds_toArray]
            refine MAny.ready (rs := [16]) (by kernel_rfl) (by simp) ?_
            refine MReady.cons rfl (fun K hK => ?_) MReady.nil
            go_simp
            refine hK.out _ _ (.inl rfl) ?_
            clear hK K
            refine MAny.done (by kernel_rfl) ?_ _
            try simp only [List.getElem_toArray, List.getElem_cons_succ, List.getElem_cons_zero]
            have D := D.put1 (.slice (some ⟨g, 0, none⟩) (ws.length + 1) cap')
            go_wp2
            go_meet
            case rel => exact ⟨_, some ⟨g, 0, none⟩, _, cap', ns, ws ++ [⟨v4, v8, v11⟩], by omega, by simp only [List.length_append, List.length_cons, List.length_nil]; omega, hnm7, by rw [List.length_append]; exact D⟩
        · go_simp
          have D := D.below ((Below.refl _ W0).alloc (Nat.le_refl _) (.cells #[.int .i64 0, .int .i64 60, .int .i64 61] 2))
          have hpr10 := fun W' hG => rd_arr (w := W0) (c := #[.int .i64 0, .int .i64 60, .int .i64 61]) (T := 2) (xs := [0, 60, 61]) (p := p) rfl (by have := D.src.lt; have := D.gr.size; have := D.hp; have := hpz; omega) W' hG
          have hpz := Nat.lt_of_lt_of_le hpz (show W0.heap.size ≤ (W0.alloc (.cells #[.int .i64 0, .int .i64 60, .int .i64 61] 2)).heap.size by simp)
          generalize hWW : W0.alloc (.cells #[.int .i64 0, .int .i64 60, .int .i64 61] 2) = W0_10 at D hpz hpr10 ⊢
          clear hWW
          have hHeld := D.l1
          generalize W0.heap.size = G10 at hpr10 ⊢
          refine hK.out _ _ (.inr hHeld) ?_
          clear hK K
          refine MAny.ready (rs := [3, 7]) (by kernel_rfl) (by simp) ?_
          refine MReady.cons rfl (fun K hK => ?_) (MReady.cons rfl (fun K hK => ?_) MReady.nil)
          · go_simp
            have D := D.below ((Below.refl _ W0_10).alloc (Nat.le_refl _) (.cells #[.int .i64 (-1), .int .i64 0] 2))
            have hpr3 := fun W' hG => rd_arr (w := W0_10) (c := #[.int .i64 (-1), .int .i64 0]) (T := 2) (xs := [-1, 0]) (p := p) rfl (by have := D.src.lt; have := D.gr.size; have := D.hp; have := hpz; omega) W' hG
            have hpr10 := fun W' hG => hpr10 W' (gT (grA W0_10 (.cells #[.int .i64 (-1), .int .i64 0] 2) (some p)) hG)
            have hpz := Nat.lt_of_lt_of_le hpz (show W0_10.heap.size ≤ (W0_10.alloc (.cells #[.int .i64 (-1), .int .i64 0] 2)).heap.size by simp)
            generalize hWW : W0_10.alloc (.cells #[.int .i64 (-1), .int .i64 0] 2) = W0_10_3 at D hpz hpr10 hpr3 ⊢
            clear hWW
            have hHeld := D.l1
            generalize W0_10.heap.size = G3 at hpr3 ⊢
            refine hK.out _ _ (.inr hHeld) ?_
            clear hK K
            refine MAny.ready (rs := [4, 7]) (by kernel_rfl) (by simp) ?_
            refine MReady.cons rfl (fun K hK => ?_) (MReady.cons rfl (fun K hK => ?_) MReady.nil)
            · go_simp
              go_wp2_with (go_at_call 55; refine (HP.out (some ⟨G3, 0, none⟩) 2 [-1, 0] W0_10_3 D.src hpr3 (by simp) (by simp)).mono ?_; rintro e W0_10_3_4 ⟨v4, rfl, _, hsx, hGx⟩)
              have D := D.call hsx hGx
              have hHeld := D.l1
              have hpz := Nat.lt_of_lt_of_le hpz hGx.size
              have hpr10 := fun W' hG => hpr10 W' (gT hGx hG)
              clear hsx hGx hpr3
              refine hK.out _ _ (.inr hHeld) ?_
              clear hK K
              refine MAny.ready (rs := [7]) (by kernel_rfl) (by simp) ?_
              refine MReady.cons rfl (fun K hK => ?_) MReady.nil
              go_simp
              have D := D.below ((Below.refl _ W0_10_3_4).alloc (Nat.le_refl _) (.cells #[.int .i64 0, .int .i64 (ns.length : Int), .int .i64 1] 2))
              have hpr7 := fun W' hG => rd_arr (w := W0_10_3_4) (c := #[.int .i64 0, .int .i64 (ns.length : Int), .int .i64 1]) (T := 2) (xs := [0, (ns.length : Int), 1]) (p := p) rfl (by have := D.src.lt; have := D.gr.size; have := D.hp; have := hpz; omega) W' hG
              have hpr10 := fun W' hG => hpr10 W' (gT (grA W0_10_3_4 (.cells #[.int .i64 0, .int .i64 (ns.length : Int), .int .i64 1] 2) (some p)) hG)
              have hpz := Nat.lt_of_lt_of_le hpz (show W0_10_3_4.heap.size ≤ (W0_10_3_4.alloc (.cells #[.int .i64 0, .int .i64 (ns.length : Int), .int .i64 1] 2)).heap.size by simp)
              generalize hWW : W0_10_3_4.alloc (.cells #[.int .i64 0, .int .i64 (ns.length : Int), .int .i64 1] 2) = W0_10_3_4x at D hpz hpr10 hpr7 ⊢
              clear hWW
              have hHeld := D.l1
              generalize W0_10_3_4.heap.size = G7 at hpr7 ⊢
              refine hK.out _ _ (.inr hHeld) ?_
              clear hK K
              refine MAny.ready (rs := [8]) (by kernel_rfl) (by simp) ?_
              refine MReady.cons rfl (fun K hK => ?_) MReady.nil
              go_simp
              go_wp2_with (go_at_call 55; refine (HP.out (some ⟨G7, 0, none⟩) 3 [0, (ns.length : Int), 1] W0_10_3_4x D.src hpr7 (by simp) (by simp)).mono ?_; rintro e W0_10_3_4xx ⟨v8, rfl, _, hsx, hGx⟩)
              have D := D.call hsx hGx
              have hHeld := D.l1
              have hpz := Nat.lt_of_lt_of_le hpz hGx.size
              have hpr10 := fun W' hG => hpr10 W' (gT hGx hG)
              clear hsx hGx hpr7
              refine hK.out _ _ (.inr hHeld) ?_
              clear hK K
              refine MAny.ready (rs := [11]) (by kernel_rfl) (by simp) ?_
              refine MReady.cons rfl (fun K hK => ?_) MReady.nil
              go_simp
              go_wp2_with (go_at_call 55; refine (HP.out (some ⟨G10, 0, none⟩) 3 [0, 60, 61] W0_10_3_4xx D.src hpr10 (by simp) (by simp)).mono ?_; rintro e W0_10_3_4xxx ⟨v11, rfl, _, hsx, hGx⟩)
              have D := D.call hsx hGx
              have hHeld := D.l1
              have hpz := Nat.lt_of_lt_of_le hpz hGx.size
              clear hsx hGx hpr10
              refine hK.out _ _ (.inr hHeld) ?_
              clear hK K
              refine MAny.take (i := 12) (v := ?_) rfl (by kernel_rfl) (by kernel_rfl) (by kernel_rfl) (fun _ _ _ h => h) (by kernel_rfl) (Or.inl ⟨by rfl, ?_⟩) (by assumption) ?_
              rotate_left
              · (intro w' hSw; (try dsimp only at hSw); go_simp; try (with_reducible rfl))
              try simp only [Act.put, List.setIfInBounds_toArray]
              refine MAny.ready (rs := [13]) (by kernel_rfl) (by simp) ?_
              refine MReady.cons rfl (fun K hK => ?_) MReady.nil
              go_simp
              have D := D.below ((Below.refl _ W0_10_3_4xxx).alloc (Nat.le_refl _) (.cells #[.int .i64 v4, .int .i64 v8, .int .i64 v11] 125))
              have hHeld := D.l1
              refine hK.out _ _ (.inr hHeld) ?_
              clear hK K
              refine MAny.ready (rs := [14]) (by kernel_rfl) (by simp) ?_
              refine MReady.cons rfl (fun K hK => ?_) MReady.nil
              refine step_append_lies _ (by rfl) (.tmp 58) (.tmp 70) 33 (by rfl) w.heap.size 125 iw (.agg #[.int .i64 0, .int .i64 0, .int .i64 0]) 3 24 Tryz.underlying33 hiw hw0 hw1 hw2 rfl (by decide) _ _ _ (by rfl) D.way ⟨W0_10_3_4xxx.heap.size, 0, none⟩ 1 1 [.int .i64 v4, .int .i64 v8, .int .i64 v11] (by rfl) rfl ?n1 ?n2 (by decide) ?n3 ?n4 ?n5 _ rfl ?_
              case n1 => exact World.news_of_block (heap_alloc_new _ _)
              case n2 => intro u hu; simp at hu; first | (subst hu; rfl) | (rcases hu with rfl | rfl | rfl <;> rfl)
              case n3 => unfold maxLen; omega
              case n4 => omega
              case n5 => exact D.gr.size
              intro g cap' Wx hown4 hG4 _ _
              have hown4' : Wx.ownsRow w.heap.size 125 3 (.slice (some ⟨g, 0, none⟩) (ws.length + 1) cap') (ws ++ [(⟨v4, v8, v11⟩ : Wy)]).length ((ws ++ [(⟨v4, v8, v11⟩ : Wy)]).flatMap encWy) := by
                rw [List.length_append, List.flatMap_append]
                exact hown4
              have D := D.ways hG4 hown4'
              clear hown4 hown4' hG4
              have hHeld := D.l1
              refine hK.out _ _ (.inr hHeld) ?_
              clear hK K
              have f1 := D.land.frozenAt 1
              refine MAny.take (i := 15) (v := ?_) rfl (by kernel_rfl) (by kernel_rfl) (by kernel_rfl) (fun _ _ _ h => h) (by kernel_rfl) (Or.inl ⟨by rfl, ?_⟩) (by assumption) ?_
              rotate_left
              · (intro w' hSw; (try dsimp only at hSw); go_simp; try (with_reducible rfl))
              try simp only [Act.put, List.setIfInBounds_toArray]
              refine MAny.ready (rs := [16]) (by kernel_rfl) (by simp) ?_
              refine MReady.cons rfl (fun K hK => ?_) MReady.nil
              go_simp
              refine hK.out _ _ (.inl rfl) ?_
              clear hK K
              refine MAny.done (by kernel_rfl) ?_ _
              try simp only [List.getElem_toArray, List.getElem_cons_succ, List.getElem_cons_zero]
              have D := D.put1 (.slice (some ⟨g, 0, none⟩) (ws.length + 1) cap')
              go_wp2
              go_meet
              case rel => exact ⟨_, some ⟨g, 0, none⟩, _, cap', ns, ws ++ [⟨v4, v8, v11⟩], by omega, by simp only [List.length_append, List.length_cons, List.length_nil]; omega, hnm7, by rw [List.length_append]; exact D⟩
            · go_simp
              have D := D.below ((Below.refl _ W0_10_3).alloc (Nat.le_refl _) (.cells #[.int .i64 0, .int .i64 (ns.length : Int), .int .i64 1] 2))
              have hpr7 := fun W' hG => rd_arr (w := W0_10_3) (c := #[.int .i64 0, .int .i64 (ns.length : Int), .int .i64 1]) (T := 2) (xs := [0, (ns.length : Int), 1]) (p := p) rfl (by have := D.src.lt; have := D.gr.size; have := D.hp; have := hpz; omega) W' hG
              have hpr10 := fun W' hG => hpr10 W' (gT (grA W0_10_3 (.cells #[.int .i64 0, .int .i64 (ns.length : Int), .int .i64 1] 2) (some p)) hG)
              have hpr3 := fun W' hG => hpr3 W' (gT (grA W0_10_3 (.cells #[.int .i64 0, .int .i64 (ns.length : Int), .int .i64 1] 2) (some p)) hG)
              have hpz := Nat.lt_of_lt_of_le hpz (show W0_10_3.heap.size ≤ (W0_10_3.alloc (.cells #[.int .i64 0, .int .i64 (ns.length : Int), .int .i64 1] 2)).heap.size by simp)
              generalize hWW : W0_10_3.alloc (.cells #[.int .i64 0, .int .i64 (ns.length : Int), .int .i64 1] 2) = W0_10_3_7 at D hpz hpr10 hpr3 hpr7 ⊢
              clear hWW
              have hHeld := D.l1
              generalize W0_10_3.heap.size = G7 at hpr7 ⊢
              refine hK.out _ _ (.inr hHeld) ?_
              clear hK K
              refine MAny.ready (rs := [4]) (by kernel_rfl) (by simp) ?_
              refine MReady.cons rfl (fun K hK => ?_) MReady.nil
              go_simp
              go_wp2_with (go_at_call 55; refine (HP.out (some ⟨G3, 0, none⟩) 2 [-1, 0] W0_10_3_7 D.src hpr3 (by simp) (by simp)).mono ?_; rintro e W0_10_3_7x ⟨v4, rfl, _, hsx, hGx⟩)
              have D := D.call hsx hGx
              have hHeld := D.l1
              have hpz := Nat.lt_of_lt_of_le hpz hGx.size
              have hpr10 := fun W' hG => hpr10 W' (gT hGx hG)
              have hpr7 := fun W' hG => hpr7 W' (gT hGx hG)
              clear hsx hGx hpr3
              refine hK.out _ _ (.inr hHeld) ?_
              clear hK K
              refine MAny.ready (rs := [8]) (by kernel_rfl) (by simp) ?_
              refine MReady.cons rfl (fun K hK => ?_) MReady.nil
              go_simp
              go_wp2_with (go_at_call 55; refine (HP.out (some ⟨G7, 0, none⟩) 3 [0, (ns.length : Int), 1] W0_10_3_7x D.src hpr7 (by simp) (by simp)).mono ?_; rintro e W0_10_3_7xx ⟨v8, rfl, _, hsx, hGx⟩)
              have D := D.call hsx hGx
              have hHeld := D.l1
              have hpz := Nat.lt_of_lt_of_le hpz hGx.size
              have hpr10 := fun W' hG => hpr10 W' (gT hGx hG)
              clear hsx hGx hpr7
              refine hK.out _ _ (.inr hHeld) ?_
              clear hK K
              refine MAny.ready (rs := [11]) (by kernel_rfl) (by simp) ?_
              refine MReady.cons rfl (fun K hK => ?_) MReady.nil
              go_simp
              go_wp2_with (go_at_call 55; refine (HP.out (some ⟨G10, 0, none⟩) 3 [0, 60, 61] W0_10_3_7xx D.src hpr10 (by simp) (by simp)).mono ?_; rintro e W0_10_3_7xxx ⟨v11, rfl, _, hsx, hGx⟩)
              have D := D.call hsx hGx
              have hHeld := D.l1
              have hpz := Nat.lt_of_lt_of_le hpz hGx.size
              clear hsx hGx hpr10
              refine hK.out _ _ (.inr hHeld) ?_
              clear hK K
              refine MAny.take (i := 12) (v := ?_) rfl (by kernel_rfl) (by kernel_rfl) (by kernel_rfl) (fun _ _ _ h => h) (by kernel_rfl) (Or.inl ⟨by rfl, ?_⟩) (by assumption) ?_
              rotate_left
              · (intro w' hSw; (try dsimp only at hSw); go_simp; try (with_reducible rfl))
              try simp only [Act.put, List.setIfInBounds_toArray]
              refine MAny.ready (rs := [13]) (by kernel_rfl) (by simp) ?_
              refine MReady.cons rfl (fun K hK => ?_) MReady.nil
              go_simp
              have D := D.below ((Below.refl _ W0_10_3_7xxx).alloc (Nat.le_refl _) (.cells #[.int .i64 v4, .int .i64 v8, .int .i64 v11] 125))
              have hHeld := D.l1
              refine hK.out _ _ (.inr hHeld) ?_
              clear hK K
              refine MAny.ready (rs := [14]) (by kernel_rfl) (by simp) ?_
              refine MReady.cons rfl (fun K hK => ?_) MReady.nil
              refine step_append_lies _ (by rfl) (.tmp 58) (.tmp 70) 33 (by rfl) w.heap.size 125 iw (.agg #[.int .i64 0, .int .i64 0, .int .i64 0]) 3 24 Tryz.underlying33 hiw hw0 hw1 hw2 rfl (by decide) _ _ _ (by rfl) D.way ⟨W0_10_3_7xxx.heap.size, 0, none⟩ 1 1 [.int .i64 v4, .int .i64 v8, .int .i64 v11] (by rfl) rfl ?n1 ?n2 (by decide) ?n3 ?n4 ?n5 _ rfl ?_
              case n1 => exact World.news_of_block (heap_alloc_new _ _)
              case n2 => intro u hu; simp at hu; first | (subst hu; rfl) | (rcases hu with rfl | rfl | rfl <;> rfl)
              case n3 => unfold maxLen; omega
              case n4 => omega
              case n5 => exact D.gr.size
              intro g cap' Wx hown4 hG4 _ _
              have hown4' : Wx.ownsRow w.heap.size 125 3 (.slice (some ⟨g, 0, none⟩) (ws.length + 1) cap') (ws ++ [(⟨v4, v8, v11⟩ : Wy)]).length ((ws ++ [(⟨v4, v8, v11⟩ : Wy)]).flatMap encWy) := by
                rw [List.length_append, List.flatMap_append]
                exact hown4
              have D := D.ways hG4 hown4'
              clear hown4 hown4' hG4
              have hHeld := D.l1
              refine hK.out _ _ (.inr hHeld) ?_
              clear hK K
              have f1 := D.land.frozenAt 1
              refine MAny.take (i := 15) (v := ?_) rfl (by kernel_rfl) (by kernel_rfl) (by kernel_rfl) (fun _ _ _ h => h) (by kernel_rfl) (Or.inl ⟨by rfl, ?_⟩) (by assumption) ?_
              rotate_left
              · (intro w' hSw; (try dsimp only at hSw); go_simp; try (with_reducible rfl))
              try simp only [Act.put, List.setIfInBounds_toArray]
              refine MAny.ready (rs := [16]) (by kernel_rfl) (by simp) ?_
              refine MReady.cons rfl (fun K hK => ?_) MReady.nil
              go_simp
              refine hK.out _ _ (.inl rfl) ?_
              clear hK K
              refine MAny.done (by kernel_rfl) ?_ _
              try simp only [List.getElem_toArray, List.getElem_cons_succ, List.getElem_cons_zero]
              have D := D.put1 (.slice (some ⟨g, 0, none⟩) (ws.length + 1) cap')
              go_wp2
              go_meet
              case rel => exact ⟨_, some ⟨g, 0, none⟩, _, cap', ns, ws ++ [⟨v4, v8, v11⟩], by omega, by simp only [List.length_append, List.length_cons, List.length_nil]; omega, hnm7, by rw [List.length_append]; exact D⟩
          · go_simp
            have D := D.below ((Below.refl _ W0_10).alloc (Nat.le_refl _) (.cells #[.int .i64 0, .int .i64 (ns.length : Int), .int .i64 1] 2))
            have hpr7 := fun W' hG => rd_arr (w := W0_10) (c := #[.int .i64 0, .int .i64 (ns.length : Int), .int .i64 1]) (T := 2) (xs := [0, (ns.length : Int), 1]) (p := p) rfl (by have := D.src.lt; have := D.gr.size; have := D.hp; have := hpz; omega) W' hG
            have hpr10 := fun W' hG => hpr10 W' (gT (grA W0_10 (.cells #[.int .i64 0, .int .i64 (ns.length : Int), .int .i64 1] 2) (some p)) hG)
            have hpz := Nat.lt_of_lt_of_le hpz (show W0_10.heap.size ≤ (W0_10.alloc (.cells #[.int .i64 0, .int .i64 (ns.length : Int), .int .i64 1] 2)).heap.size by simp)
            generalize hWW : W0_10.alloc (.cells #[.int .i64 0, .int .i64 (ns.length : Int), .int .i64 1] 2) = W0_10_7 at D hpz hpr10 hpr7 ⊢
            clear hWW
            have hHeld := D.l1
            generalize W0_10.heap.size = G7 at hpr7 ⊢
            refine hK.out _ _ (.inr hHeld) ?_
            clear hK K
            refine MAny.ready (rs := [3]) (by kernel_rfl) (by simp) ?_
            refine MReady.cons rfl (fun K hK => ?_) MReady.nil
            go_simp
            have D := D.below ((Below.refl _ W0_10_7).alloc (Nat.le_refl _) (.cells #[.int .i64 (-1), .int .i64 0] 2))
            have hpr3 := fun W' hG => rd_arr (w := W0_10_7) (c := #[.int .i64 (-1), .int .i64 0]) (T := 2) (xs := [-1, 0]) (p := p) rfl (by have := D.src.lt; have := D.gr.size; have := D.hp; have := hpz; omega) W' hG
            have hpr10 := fun W' hG => hpr10 W' (gT (grA W0_10_7 (.cells #[.int .i64 (-1), .int .i64 0] 2) (some p)) hG)
            have hpr7 := fun W' hG => hpr7 W' (gT (grA W0_10_7 (.cells #[.int .i64 (-1), .int .i64 0] 2) (some p)) hG)
            have hpz := Nat.lt_of_lt_of_le hpz (show W0_10_7.heap.size ≤ (W0_10_7.alloc (.cells #[.int .i64 (-1), .int .i64 0] 2)).heap.size by simp)
            generalize hWW : W0_10_7.alloc (.cells #[.int .i64 (-1), .int .i64 0] 2) = W0_10_7x at D hpz hpr10 hpr7 hpr3 ⊢
            clear hWW
            have hHeld := D.l1
            generalize W0_10_7.heap.size = G3 at hpr3 ⊢
            refine hK.out _ _ (.inr hHeld) ?_
            clear hK K
            refine MAny.ready (rs := [4]) (by kernel_rfl) (by simp) ?_
            refine MReady.cons rfl (fun K hK => ?_) MReady.nil
            go_simp
            go_wp2_with (go_at_call 55; refine (HP.out (some ⟨G3, 0, none⟩) 2 [-1, 0] W0_10_7x D.src hpr3 (by simp) (by simp)).mono ?_; rintro e W0_10_7xx ⟨v4, rfl, _, hsx, hGx⟩)
            have D := D.call hsx hGx
            have hHeld := D.l1
            have hpz := Nat.lt_of_lt_of_le hpz hGx.size
            have hpr10 := fun W' hG => hpr10 W' (gT hGx hG)
            have hpr7 := fun W' hG => hpr7 W' (gT hGx hG)
            clear hsx hGx hpr3
            refine hK.out _ _ (.inr hHeld) ?_
            clear hK K
            refine MAny.ready (rs := [8]) (by kernel_rfl) (by simp) ?_
            refine MReady.cons rfl (fun K hK => ?_) MReady.nil
            go_simp
            go_wp2_with (go_at_call 55; refine (HP.out (some ⟨G7, 0, none⟩) 3 [0, (ns.length : Int), 1] W0_10_7xx D.src hpr7 (by simp) (by simp)).mono ?_; rintro e W0_10_7xxx ⟨v8, rfl, _, hsx, hGx⟩)
            have D := D.call hsx hGx
            have hHeld := D.l1
            have hpz := Nat.lt_of_lt_of_le hpz hGx.size
            have hpr10 := fun W' hG => hpr10 W' (gT hGx hG)
            clear hsx hGx hpr7
            refine hK.out _ _ (.inr hHeld) ?_
            clear hK K
            refine MAny.ready (rs := [11]) (by kernel_rfl) (by simp) ?_
            refine MReady.cons rfl (fun K hK => ?_) MReady.nil
            go_simp
            go_wp2_with (go_at_call 55; refine (HP.out (some ⟨G10, 0, none⟩) 3 [0, 60, 61] W0_10_7xxx D.src hpr10 (by simp) (by simp)).mono ?_; rintro e W0_10_7xxxx ⟨v11, rfl, _, hsx, hGx⟩)
            have D := D.call hsx hGx
            have hHeld := D.l1
            have hpz := Nat.lt_of_lt_of_le hpz hGx.size
            clear hsx hGx hpr10
            refine hK.out _ _ (.inr hHeld) ?_
            clear hK K
            refine MAny.take (i := 12) (v := ?_) rfl (by kernel_rfl) (by kernel_rfl) (by kernel_rfl) (fun _ _ _ h => h) (by kernel_rfl) (Or.inl ⟨by rfl, ?_⟩) (by assumption) ?_
            rotate_left
            · (intro w' hSw; (try dsimp only at hSw); go_simp; try (with_reducible rfl))
            try simp only [Act.put, List.setIfInBounds_toArray]
            refine MAny.ready (rs := [13]) (by kernel_rfl) (by simp) ?_
            refine MReady.cons rfl (fun K hK => ?_) MReady.nil
            go_simp
            have D := D.below ((Below.refl _ W0_10_7xxxx).alloc (Nat.le_refl _) (.cells #[.int .i64 v4, .int .i64 v8, .int .i64 v11] 125))
            have hHeld := D.l1
            refine hK.out _ _ (.inr hHeld) ?_
            clear hK K
            refine MAny.ready (rs := [14]) (by kernel_rfl) (by simp) ?_
            refine MReady.cons rfl (fun K hK => ?_) MReady.nil
            refine step_append_lies _ (by rfl) (.tmp 58) (.tmp 70) 33 (by rfl) w.heap.size 125 iw (.agg #[.int .i64 0, .int .i64 0, .int .i64 0]) 3 24 Tryz.underlying33 hiw hw0 hw1 hw2 rfl (by decide) _ _ _ (by rfl) D.way ⟨W0_10_7xxxx.heap.size, 0, none⟩ 1 1 [.int .i64 v4, .int .i64 v8, .int .i64 v11] (by rfl) rfl ?n1 ?n2 (by decide) ?n3 ?n4 ?n5 _ rfl ?_
            case n1 => exact World.news_of_block (heap_alloc_new _ _)
            case n2 => intro u hu; simp at hu; first | (subst hu; rfl) | (rcases hu with rfl | rfl | rfl <;> rfl)
            case n3 => unfold maxLen; omega
            case n4 => omega
            case n5 => exact D.gr.size
            intro g cap' Wx hown4 hG4 _ _
            have hown4' : Wx.ownsRow w.heap.size 125 3 (.slice (some ⟨g, 0, none⟩) (ws.length + 1) cap') (ws ++ [(⟨v4, v8, v11⟩ : Wy)]).length ((ws ++ [(⟨v4, v8, v11⟩ : Wy)]).flatMap encWy) := by
              rw [List.length_append, List.flatMap_append]
              exact hown4
            have D := D.ways hG4 hown4'
            clear hown4 hown4' hG4
            have hHeld := D.l1
            refine hK.out _ _ (.inr hHeld) ?_
            clear hK K
            have f1 := D.land.frozenAt 1
            refine MAny.take (i := 15) (v := ?_) rfl (by kernel_rfl) (by kernel_rfl) (by kernel_rfl) (fun _ _ _ h => h) (by kernel_rfl) (Or.inl ⟨by rfl, ?_⟩) (by assumption) ?_
            rotate_left
            · (intro w' hSw; (try dsimp only at hSw); go_simp; try (with_reducible rfl))
            try simp only [Act.put, List.setIfInBounds_toArray]
            refine MAny.ready (rs := [16]) (by kernel_rfl) (by simp) ?_
            refine MReady.cons rfl (fun K hK => ?_) MReady.nil
            go_simp
            refine hK.out _ _ (.inl rfl) ?_
            clear hK K
            refine MAny.done (by kernel_rfl) ?_ _
            try simp only [List.getElem_toArray, List.getElem_cons_succ, List.getElem_cons_zero]
            have D := D.put1 (.slice (some ⟨g, 0, none⟩) (ws.length + 1) cap')
            go_wp2
            go_meet
            case rel => exact ⟨_, some ⟨g, 0, none⟩, _, cap', ns, ws ++ [⟨v4, v8, v11⟩], by omega, by simp only [List.length_append, List.length_cons, List.length_nil]; omega, hnm7, by rw [List.length_append]; exact D⟩
      · have q0' : (r == 0) = false := by simpa using q0
        by_cases q1 : r = 1
        · subst q1
          go_upto_region 13 with (fail)
          obtain ⟨n0, nt, rfl⟩ : ∃ n0 nt, ns = n0 :: nt := by
            cases ns with
            | nil => simp at hnm1
            | cons a l => exact ⟨a, l, rfl⟩
          refine MAny.region (S := fun w' => w'.cell? ⟨lb, 0, none⟩ = some (.slice (some ⟨gn, 0, none⟩) (n0 :: nt).length cn)) (last := 9) (by kernel_rfl) ?_
          have D := D.below (Below.refl _ wz).drew
          generalize wz.drew = W0 at D ⊢
          have hHeld := D.l0
          have n00 : W0.cell? ⟨gn, 0, none⟩ = some (.string n0) := D.nam.cellAt 0 (by simp)
          have hcl : (0 : Int) < ((n0 :: nt).length : Int) := by simp
          refine MAny.take (i := 0) (v := ?_) rfl (by kernel_rfl) (by kernel_rfl) (by kernel_rfl) (fun _ _ _ h => h) (by kernel_rfl) (Or.inl ⟨by rfl, ?_⟩) (by assumption) ?_
          rotate_left
          · (intro w' hSw; (try dsimp only at hSw); go_simp; try (with_reducible rfl))
          try simp only [Act.put, List.setIfInBounds_toArray]
          refine MAny.take (i := 1) (v := ?_) rfl (by kernel_rfl) (by kernel_rfl) (by kernel_rfl) (fun _ _ _ h => h) (by kernel_rfl) (Or.inl ⟨by rfl, ?_⟩) (by assumption) ?_
          rotate_left
          · (intro w' hSw; (try dsimp only at hSw); go_simp; try (with_reducible rfl))
          try simp only [Act.put]
          refine MAny.take (i := 2) (v := ?_) rfl (by kernel_rfl) (by kernel_rfl) (by kernel_rfl) (fun _ _ _ h => h) (by kernel_rfl) (Or.inl ⟨by rfl, ?_⟩) (by assumption) ?_
          rotate_left
          · (intro w' hSw; (try dsimp only at hSw); go_simp; try (with_reducible rfl))
          try simp only [Act.put]
          refine MAny.take (i := 3) (v := ?_) rfl (by kernel_rfl) (by kernel_rfl) (by kernel_rfl) (fun _ _ _ h => h) (by kernel_rfl) (Or.inl ⟨by rfl, ?_⟩) (by assumption) ?_
          rotate_left
          · (intro w' hSw; (try dsimp only at hSw); go_simp; try (with_reducible rfl))
          try simp only [Act.put]
          refine MAny.take (i := 4) (v := ?_) rfl (by kernel_rfl) (by kernel_rfl) (by kernel_rfl) (fun _ _ _ h => h) (by kernel_rfl) (Or.inl ⟨by rfl, ?_⟩) (by assumption) ?_
          rotate_left
          · (intro w' hSw; (try dsimp only at hSw); go_simp; try (with_reducible rfl))
          try simp only [Act.put]
          refine MAny.ready (rs := [5]) (by kernel_rfl) (by simp) ?_
          refine MReady.cons rfl (fun K hK => ?_) MReady.nil
          go_simp
          refine hK.out _ _ (.inr hHeld) ?_
          clear hK K
          refine MAny.ready (rs := [6]) (by kernel_rfl) (by simp) ?_
          refine MReady.cons rfl (fun K hK => ?_) MReady.nil
          go_simp
          have D := D.below ((Below.refl _ W0).alloc (Nat.le_refl _) (.cells #[.string n0] 9))
          have hHeld := D.l0
          refine hK.out _ _ (.inr hHeld) ?_
          clear hK K
          refine MAny.ready (rs := [7]) (by kernel_rfl) (by simp) ?_
          refine MReady.cons rfl (fun K hK => ?_) MReady.nil
          refine step_append_lies _ (by rfl) (.tmp 76) (.tmp 81) 32 (by rfl) w.heap.size 9 i0 (.string ⟨#[]⟩) 1 16 Tryz.underlying32 hi hz0 hz1 hz2 rfl (by decide) _ _ _ (by rfl) D.nam ⟨W0.heap.size, 0, none⟩ 1 1 [.string n0] (by rfl) rfl ?n1 ?n2 (by decide) ?n3 ?n4 ?n5 _ rfl ?_
          case n1 => exact World.news_of_block (heap_alloc_new _ _)
          case n2 => intro u hu; simp at hu; first | (subst hu; rfl) | (rcases hu with rfl | rfl | rfl <;> rfl)
          case n3 => unfold maxLen; omega
          case n4 => omega
          case n5 => exact D.gr.size
          intro g cap' W4 hown4 hG4 _ _
          have hown4' : W4.ownsRow w.heap.size 9 1 (.slice (some ⟨g, 0, none⟩) ((n0 :: nt).length + 1) cap') ((n0 :: nt) ++ [n0]).length (((n0 :: nt) ++ [n0]).flatMap encS) := by
            rw [List.length_append, List.flatMap_append]
            exact hown4
          have D := D.names hG4 hown4'
          clear hown4 hown4' hG4 n00
          have hHeld := D.l0
          refine hK.out _ _ (.inr hHeld) ?_
          clear hK K
          have f0 := D.land.frozenAt 0
          refine MAny.take (i := 8) (v := ?_) rfl (by kernel_rfl) (by kernel_rfl) (by kernel_rfl) (fun _ _ _ h => h) (by kernel_rfl) (Or.inl ⟨by rfl, ?_⟩) (by assumption) ?_
          rotate_left
          · (intro w' hSw; (try dsimp only at hSw); go_simp; try (with_reducible rfl))
          try simp only [Act.put, List.setIfInBounds_toArray]
          refine MAny.ready (rs := [9]) (by kernel_rfl) (by simp) ?_
          refine MReady.cons rfl (fun K hK => ?_) MReady.nil
          go_simp
          refine hK.out _ _ (.inl rfl) ?_
          clear hK K
          refine MAny.done (by kernel_rfl) ?_ _
          try simp only [List.getElem_toArray, List.getElem_cons_succ, List.getElem_cons_zero]
          have D := D.put0 (.slice (some ⟨g, 0, none⟩) ((n0 :: nt).length + 1) cap')
          go_wp2
          go_meet
          case rel => exact ⟨some ⟨g, 0, none⟩, a1, cap', c1, (n0 :: nt) ++ [n0], ws, by simp only [List.length_append, List.length_cons, List.length_nil] at *; omega, by omega, fun m hm => by rcases List.mem_append.1 hm with h | h; exact hnm7 m h; simp at h; subst h; exact hnm7 _ (by simp), by rw [List.length_append]; exact D⟩
        · have q1' : (r == 1) = false := by simpa using q1
          by_cases q2 : r = 2
          · subst q2
            have l0 := D.l0
            have f0 := D.land.frozenAt 0
            generalize hWa : wz.alloc (.cells #[] 9) = wa
            have hBa : Below wz.heap.size wz wa := by rw [← hWa]; exact (Below.refl _ _).alloc (Nat.le_refl _) _
            have emp : wa.ownsRow w.heap.size 9 1 (.slice (some ⟨wz.heap.size, 0, none⟩) 0 0) 0 [] := by
              rw [← hWa]
              exact World.ownsRow_made wz #[] 0 D.gr.size (by decide) rfl
            have D := D.below hBa
            have D := D.reset (ns' := []) emp
            have l0 := D.l0
            have f0 := D.land.frozenAt 0
            go_wp2
            go_meet
            case rel => exact ⟨some ⟨wz.heap.size, 0, none⟩, a1, 0, c1, [], ws, by simp, by omega, by simp, D.put0 _⟩
          · have q2' : (r == 2) = false := by simpa using q2
            go_wp2
            go_meet
            case rel => exact ⟨_, a1, _, c1, ns, ws, by omega, by omega, hnm7, D⟩
    case rest =>
      clear D
      obtain ⟨a0, a1, c0, c1, ns', ws', hn', hw', hm', D⟩ := hcut
      have l0 := D.l0
      have l1 := D.l1
      have r0 : wc.cell? ⟨w.heap.size, 0, none⟩ = some (.slice none 0 0) := D.res.cellAt 0 (by decide)
      have r1 : wc.cell? ⟨w.heap.size, 1, none⟩ = some (.slice none 0 0) := D.res.cellAt 1 (by decide)
      have y0 : ∀ a, (wc.setCell ⟨w.heap.size, 0, none⟩ a).cell? ⟨w.heap.size, 0, none⟩ = some a := fun a => World.cell?_setCell_same _ _ _ r0
      have y1 : ∀ a c, ((wc.setCell ⟨w.heap.size, 0, none⟩ a).setCell ⟨w.heap.size, 1, none⟩ c).cell? ⟨w.heap.size, 1, none⟩ = some c := fun a c => World.cell?_setCell_same _ _ _ ((cell_set_other (by simp)).trans r1)
      have y2 : ∀ a c, ((wc.setCell ⟨w.heap.size, 0, none⟩ a).setCell ⟨w.heap.size, 1, none⟩ c).cell? ⟨w.heap.size, 0, none⟩ = some a := fun a c => (cell_set_other (by simp)).trans (y0 a)
      have f0 := D.res.frozenAt 0
      have f1 := D.res.frozenAt 1
      have hF := Lib.hid (D.fin (.slice a0 ns'.length c0) (.slice a1 ws'.length c1))
      clear D HN
      go_wp2
      refine bodyPost_ret_by (v := .agg #[.slice a0 ns'.length c0, .slice a1 ws'.length c1]) ?_ rfl ?_
      · simp [results, go_sem, y1, y2]
      · obtain ⟨h1, h2, h3, h4⟩ := hF.out
        exact ⟨a0, a1, c0, c1, ns', ws', rfl, hn', hw', hm', h1, h2, h3, h4⟩
end Go.Proofs.YtipdcgfdejmjfaaGreatDoor
