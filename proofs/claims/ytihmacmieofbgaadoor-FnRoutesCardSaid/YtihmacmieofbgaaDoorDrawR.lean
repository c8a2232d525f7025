/- Walks: DrawRouteOf, DrawUselessWays, DrawPlaceNamed. Printed by gen_drawr.py. -/
import Derived.Test.YtihmacmieofbgaaDoorDrawT
namespace Go.Proofs.YtihmacmieofbgaaDoor
open Go.ChangeShapes Go.WideShapes Go.ChangeAt Go.RowKit Go.IntWalk

theorem land_fin {w W : World} {B : Nat} {a0 a1 : Option Addr} {c0 c1 : Nat} {ns : List ByteArray} {ws : List Wy} (res : W.ownsRow w.heap.size 27 1 (.slice (some ⟨w.heap.size, 0, none⟩) 2 2) 2 [.slice none 0 0, .slice none 0 0]) (hL : LandD B W a0 a1 c0 c1 ns ws) (hB : Below w.heap.size w W) (hlt : w.heap.size < B) (a b : Value) :
    LandD B ((W.setCell ⟨w.heap.size, 0, none⟩ a).setCell ⟨w.heap.size, 1, none⟩ b) a0 a1 c0 c1 ns ws ∧ Below w.heap.size w ((W.setCell ⟨w.heap.size, 0, none⟩ a).setCell ⟨w.heap.size, 1, none⟩ b) ∧ W.grownBy ((W.setCell ⟨w.heap.size, 0, none⟩ a).setCell ⟨w.heap.size, 1, none⟩ b) (some w.heap.size) := by
  have hp1 := own_put (i := 0) (pre := []) (post := [.slice none 0 0]) res rfl a
  have hp2 := own_put (i := 1) (pre := [a]) (post := []) hp1.1 rfl b
  have hG := gT hp1.2 hp2.2
  exact ⟨hL.grown hG hlt, hB.grown hG hB.size (fun g e => by cases e; exact Nat.le_refl _), hG⟩

set_option maxRecDepth 100000 in
set_option maxHeartbeats 8000000 in
theorem drawRoute_any (cs : Option Addr) (cap : Nat) (bs : List Int) (w : World) (hx : Rd encB w cs bs) (hb : ∀ m ∈ bs, goodB m) (hl : bs.length ≤ 4096) :
    Calls Tryd.prog 7 #[.slice cs bs.length cap] w fun e w' => ∃ (a0 a1 : Option Addr) (c0 c1 : Nat) (ns : List ByteArray) (ws : List Wy) (x y : Int), e = .returned (.tuple #[.agg #[.slice a0 ns.length c0, .slice a1 ws.length c1], .int .i64 x, .int .i64 y]) ∧ LandD w.heap.size w' a0 a1 c0 c1 ns ws ∧ Below w.heap.size w w' := by
  have hr1 : (w.alloc (.cells #[.slice none 0 0, .slice none 0 0] 27)).ownsRow w.heap.size 27 1 (.slice (some ⟨w.heap.size, 0, none⟩) 2 2) 2 [.slice none 0 0, .slice none 0 0] := ⟨rfl, .inr ⟨w.heap.size, 2, #[.slice none 0 0, .slice none 0 0], rfl, Nat.le_refl _, heap_alloc_new w _, by decide, by decide, rfl, rfl⟩⟩
  generalize hW1 : w.alloc (.cells #[.slice none 0 0, .slice none 0 0] 27) = w1 at hr1
  have hB1 : Below w.heap.size w w1 := by rw [← hW1]; exact (Below.refl _ _).alloc (Nat.le_refl _) _
  have hrl := (own_lt hr1).2
  have hx1 := hx.below hB1
  go_enter Tryd.func7, Tryd.ntmps7
  go_wp2_with fail
  clear hW1
  refine (drawTravel_any cs cap bs w1 hx1 hb hl).mono ?_
  rintro e w2 ⟨a0, a1, c0, c1, ns, ws, x, y, rfl, hL, hB2⟩
  have res := own_below hr1 hB2
  have hB := stepB hB1 hB2 hB1.size
  have hlt := hrl
  have r0 : w2.cell? ⟨w.heap.size, 0, none⟩ = some (.slice none 0 0) := res.cellAt 0 (by decide)
  have r1 : w2.cell? ⟨w.heap.size, 1, none⟩ = some (.slice none 0 0) := res.cellAt 1 (by decide)
  have y0 : ∀ a, (w2.setCell ⟨w.heap.size, 0, none⟩ a).cell? ⟨w.heap.size, 0, none⟩ = some a := fun a => World.cell?_setCell_same _ _ _ r0
  have y1 : ∀ a c, ((w2.setCell ⟨w.heap.size, 0, none⟩ a).setCell ⟨w.heap.size, 1, none⟩ c).cell? ⟨w.heap.size, 1, none⟩ = some c := fun a c => World.cell?_setCell_same _ _ _ ((cell_set_other (by simp)).trans r1)
  have y2 : ∀ a c, ((w2.setCell ⟨w.heap.size, 0, none⟩ a).setCell ⟨w.heap.size, 1, none⟩ c).cell? ⟨w.heap.size, 0, none⟩ = some a := fun a c => (cell_set_other (by simp)).trans (y0 a)
  have f0 := res.frozenAt 0
  have f1 := res.frozenAt 1
  have HF := Lib.hid (land_fin res hL hB hlt (.slice a0 ns.length c0) (.slice a1 ws.length c1))
  clear hr1 hB2 hL
  go_wp2
  refine bodyPost_ret_by (v := .tuple #[.agg #[.slice a0 ns.length c0, .slice a1 ws.length c1], .int .i64 x, .int .i64 y]) ?_ rfl ?_
  · simp [results, go_sem, y1, y2]
  · exact ⟨a0, a1, c0, c1, ns, ws, x, y, rfl, HF.out.1.base (Nat.le_of_lt hlt), HF.out.2.1⟩

set_option maxRecDepth 100000 in
set_option maxHeartbeats 8000000 in
theorem drawUseless_any (cs : Option Addr) (cap : Nat) (bs : List Int) (w : World) (hx : Rd encB w cs bs) (hb : ∀ m ∈ bs, goodB m) (hl : bs.length ≤ 4096) :
    Calls Tryd.prog 10 #[.slice cs bs.length cap] w fun e w' => ∃ (a0 a1 : Option Addr) (c0 c1 : Nat) (ns : List ByteArray) (ws : List Wy), e = .returned (.agg #[.slice a0 ns.length c0, .slice a1 ws.length c1]) ∧ LandD w.heap.size w' a0 a1 c0 c1 ns ws ∧ Below w.heap.size w w' := by
  have hr1 : (w.alloc (.cells #[.slice none 0 0, .slice none 0 0] 27)).ownsRow w.heap.size 27 1 (.slice (some ⟨w.heap.size, 0, none⟩) 2 2) 2 [.slice none 0 0, .slice none 0 0] := ⟨rfl, .inr ⟨w.heap.size, 2, #[.slice none 0 0, .slice none 0 0], rfl, Nat.le_refl _, heap_alloc_new w _, by decide, by decide, rfl, rfl⟩⟩
  generalize hW1 : w.alloc (.cells #[.slice none 0 0, .slice none 0 0] 27) = w1 at hr1
  have hB1 : Below w.heap.size w w1 := by rw [← hW1]; exact (Below.refl _ _).alloc (Nat.le_refl _) _
  have hrl := (own_lt hr1).2
  have hx1 := hx.below hB1
  go_enter Tryd.func10, Tryd.ntmps10
  go_wp2_with fail
  clear hW1
  refine (l01From_any cs cap bs w1 hx1 hb).mono ?_
  rintro e w2 ⟨p, rfl, hs⟩
  have res := own_below hr1 hs.base
  have hpl := hs.lt
  have hltp := Nat.lt_of_lt_of_le hrl hpl.1
  go_wp2_with fail
  refine (l14Draw_any w1 cs cap bs p w2 hx1 hb hl hs).mono ?_
  rintro e w3 ⟨a0, a1, c0, c1, ns, ws, rfl, h1, h2, h3, hs, hG, h4, h5⟩
  have hL : LandD w2.heap.size w3 a0 a1 c0 c1 ns ws := ⟨h1, h2, h3, h4, h5⟩
  have res := own_keepOther res hG (Nat.ne_of_lt hltp)
  have hB := stepB hB1 hs.base hB1.size
  have hlt := Nat.lt_trans hltp hpl.2
  have r0 : w3.cell? ⟨w.heap.size, 0, none⟩ = some (.slice none 0 0) := res.cellAt 0 (by decide)
  have r1 : w3.cell? ⟨w.heap.size, 1, none⟩ = some (.slice none 0 0) := res.cellAt 1 (by decide)
  have y0 : ∀ a, (w3.setCell ⟨w.heap.size, 0, none⟩ a).cell? ⟨w.heap.size, 0, none⟩ = some a := fun a => World.cell?_setCell_same _ _ _ r0
  have y1 : ∀ a c, ((w3.setCell ⟨w.heap.size, 0, none⟩ a).setCell ⟨w.heap.size, 1, none⟩ c).cell? ⟨w.heap.size, 1, none⟩ = some c := fun a c => World.cell?_setCell_same _ _ _ ((cell_set_other (by simp)).trans r1)
  have y2 : ∀ a c, ((w3.setCell ⟨w.heap.size, 0, none⟩ a).setCell ⟨w.heap.size, 1, none⟩ c).cell? ⟨w.heap.size, 0, none⟩ = some a := fun a c => (cell_set_other (by simp)).trans (y0 a)
  have f0 := res.frozenAt 0
  have f1 := res.frozenAt 1
  have HF := Lib.hid (land_fin res hL hB hlt (.slice a0 ns.length c0) (.slice a1 ws.length c1))
  clear h1 h2 h3 h4 h5 hG hr1
  go_wp2
  refine bodyPost_ret_by (v := .agg #[.slice a0 ns.length c0, .slice a1 ws.length c1]) ?_ rfl ?_
  · simp [results, go_sem, y1, y2]
  · exact ⟨a0, a1, c0, c1, ns, ws, rfl, HF.out.1.base (Nat.le_of_lt hlt), HF.out.2.1⟩

def plNames2 : List ByteArray := [⟨#[97, 115, 104, 102, 111, 114, 100]⟩, ⟨#[98, 97, 114, 116, 111, 110]⟩, ⟨#[99, 111, 108, 98, 121]⟩, ⟨#[101, 108, 116, 111, 110]⟩, ⟨#[121, 111, 114, 107]⟩, ⟨#[]⟩]
set_option maxRecDepth 100000 in
set_option maxHeartbeats 8000000 in
theorem drawNamed_any (cs : Option Addr) (cap : Nat) (bs : List Int) (w : World) (hx : Rd encB w cs bs) (hb : ∀ m ∈ bs, goodB m) (hl : bs.length ≤ 4096) :
    Calls Tryd.prog 13 #[.slice cs bs.length cap] w fun e w' => ∃ (a0 a1 : Option Addr) (c0 c1 : Nat) (ns : List ByteArray) (ws : List Wy) (s : ByteArray), e = .returned (.tuple #[.agg #[.slice a0 ns.length c0, .slice a1 ws.length c1], .string s]) ∧ LandD w.heap.size w' a0 a1 c0 c1 ns ws ∧ Below w.heap.size w w' := by
  have hr1 : (w.alloc (.cells #[.slice none 0 0, .slice none 0 0] 27)).ownsRow w.heap.size 27 1 (.slice (some ⟨w.heap.size, 0, none⟩) 2 2) 2 [.slice none 0 0, .slice none 0 0] := ⟨rfl, .inr ⟨w.heap.size, 2, #[.slice none 0 0, .slice none 0 0], rfl, Nat.le_refl _, heap_alloc_new w _, by decide, by decide, rfl, rfl⟩⟩
  generalize hW1 : w.alloc (.cells #[.slice none 0 0, .slice none 0 0] 27) = w1 at hr1
  have hB1 : Below w.heap.size w w1 := by rw [← hW1]; exact (Below.refl _ _).alloc (Nat.le_refl _) _
  have hrl := (own_lt hr1).2
  have hx1 := hx.below hB1
  go_enter Tryd.func13, Tryd.ntmps13
  go_wp2_with fail
  clear hW1
  refine (l01From_any cs cap bs w1 hx1 hb).mono ?_
  rintro e w2 ⟨p, rfl, hs⟩
  have res := own_below hr1 hs.base
  have hpl := hs.lt
  have hltp := Nat.lt_of_lt_of_le hrl hpl.1
  go_upto_region 2 with (fail)
  have hpB := hpl.2
  refine MAny.region (S := fun _ => True) (last := 8) (by kernel_rfl) ?_
  have res := own_below res (Below.refl _ w2).drew
  have hs := hs.below (Below.refl _ w2).drew
  have hw2 : w2.heap.size ≤ w2.drew.heap.size := Nat.le_refl _
  generalize w2.drew = W0 at res hs hw2 ⊢
  have hT : (fun _ : World => True) W0 := trivial
  refine MAny.take (i := 0) (v := ?_) rfl (by kernel_rfl) (by kernel_rfl) (by kernel_rfl) (fun _ _ _ h => h) (by kernel_rfl) (Or.inl ⟨by rfl, ?_⟩) (by assumption) ?_
  rotate_left
  · (intro w' hSw; (try dsimp only at hSw); go_simp; try (with_reducible rfl))
  try simp only [Act.put, List.setIfInBounds_toArray]
  refine MAny.take (i := 3) (v := ?_) rfl (by kernel_rfl) (by kernel_rfl) (by kernel_rfl) (fun _ _ _ h => h) (by kernel_rfl) (Or.inl ⟨by rfl, ?_⟩) (by assumption) ?_
  rotate_left
  · (intro w' hSw; (try dsimp only at hSw); go_simp; try (with_reducible rfl))
  try simp only [Act.put]
  refine MAny.ready (rs := [1, 2]) (by kernel_rfl) (by simp) ?_
  refine MReady.cons rfl (fun K hK => ?_) (MReady.cons rfl (fun K hK => ?_) MReady.nil)
  · go_simp
    go_wp2_with (go_at_call 41; refine (l14Draw_any w1 cs cap bs p W0 hx1 hb hl hs).mono ?_; rintro e W0c ⟨a0, a1, c0, c1, ns, ws, rfl, h1, h2, h3, hs, hG, h4, h5⟩)
    have hL : LandD w2.heap.size W0c a0 a1 c0 c1 ns ws := ⟨h1, h2, h3, own_base h4 hw2, own_base h5 hw2⟩
    have res := own_keepOther res hG (Nat.ne_of_lt hltp)
    have hw2 := Nat.le_trans hw2 hG.size
    clear h1 h2 h3 h4 h5 hG
    refine hK.out _ _ (.inr trivial) ?_
    clear hK K
    refine MAny.ready (rs := [2, 4]) (by kernel_rfl) (by simp) ?_
    refine MReady.cons rfl (fun K hK => ?_) (MReady.cons rfl (fun K hK => ?_) MReady.nil)
    · go_simp
      have arr0 : (W0c.alloc (.cells #[.string ⟨#[97, 115, 104, 102, 111, 114, 100]⟩, .string ⟨#[98, 97, 114, 116, 111, 110]⟩, .string ⟨#[99, 111, 108, 98, 121]⟩, .string ⟨#[101, 108, 116, 111, 110]⟩, .string ⟨#[121, 111, 114, 107]⟩, .string ⟨#[]⟩] 9)).ownsRow W0c.heap.size 9 1 (.slice (some ⟨W0c.heap.size, 0, none⟩) 6 6) 6 (plNames2.flatMap encS) := ⟨rfl, .inr ⟨W0c.heap.size, 6, #[.string ⟨#[97, 115, 104, 102, 111, 114, 100]⟩, .string ⟨#[98, 97, 114, 116, 111, 110]⟩, .string ⟨#[99, 111, 108, 98, 121]⟩, .string ⟨#[101, 108, 116, 111, 110]⟩, .string ⟨#[121, 111, 114, 107]⟩, .string ⟨#[]⟩], rfl, Nat.le_refl _, heap_alloc_new W0c _, by decide, by decide, rfl, rfl⟩⟩
      have arr := own_base arr0 hw2
      have hBb : Below W0c.heap.size W0c (W0c.alloc (.cells #[.string ⟨#[97, 115, 104, 102, 111, 114, 100]⟩, .string ⟨#[98, 97, 114, 116, 111, 110]⟩, .string ⟨#[99, 111, 108, 98, 121]⟩, .string ⟨#[101, 108, 116, 111, 110]⟩, .string ⟨#[121, 111, 114, 107]⟩, .string ⟨#[]⟩] 9)) := (Below.refl _ _).alloc (Nat.le_refl _) _
      have hs := hs.below hBb
      have res := own_below res hBb
      have hL := hL.below hBb
      have hw2 := Nat.le_trans hw2 hBb.size
      generalize W0c.alloc (.cells #[.string ⟨#[97, 115, 104, 102, 111, 114, 100]⟩, .string ⟨#[98, 97, 114, 116, 111, 110]⟩, .string ⟨#[99, 111, 108, 98, 121]⟩, .string ⟨#[101, 108, 116, 111, 110]⟩, .string ⟨#[121, 111, 114, 107]⟩, .string ⟨#[]⟩] 9) = W0cb at arr hs res hw2 hL ⊢
      generalize W0c.heap.size = G at arr ⊢
      clear arr0 hBb
      refine hK.out _ _ (.inr trivial) ?_
      clear hK K
      refine MAny.ready (rs := [4]) (by kernel_rfl) (by simp) ?_
      refine MReady.cons rfl (fun K hK => ?_) MReady.nil
      go_simp
      go_wp2_with (go_at_call 44; refine (l01Next_any w1 cs cap bs p 6 W0cb hx1 hb hl (by decide) (by decide) hs).mono ?_; rintro e W0cbc ⟨r, rfl, ra, rb, hs, hG⟩)
      have hL := hL.grown hG hpl.2
      obtain ⟨ri, rfl⟩ : ∃ ri : Nat, r = ri := ⟨r.toNat, by omega⟩
      have hri : ri < 6 := by omega
      have hri' : (ri : Int) < 6 := by omega
      have res := own_keepOther res hG (Nat.ne_of_lt hltp)
      have arr := own_keepP arr hG hpB
      have hw2 := Nat.le_trans hw2 hG.size
      clear hG ra rb
      refine hK.out _ _ (.inr trivial) ?_
      clear hK K
      obtain ⟨sn, hsn⟩ : ∃ sn, plNames2[ri]? = some sn := ⟨plNames2[ri]'(by simp [plNames2]; omega), List.getElem?_eq_getElem _⟩
      have hlt := Nat.lt_trans hltp hpl.2
      refine MAny.take (i := 5) (v := ?_) rfl (by kernel_rfl) (by kernel_rfl) (by kernel_rfl) (fun _ _ _ h => h) (by kernel_rfl) (Or.inl ⟨by rfl, ?_⟩) (by assumption) ?_
      rotate_left
      · (intro w' hSw; (try dsimp only at hSw); go_simp; try (with_reducible rfl))
      try simp only [Act.put, List.setIfInBounds_toArray]
      refine MAny.ready (rs := [6, 7]) (by kernel_rfl) (by simp) ?_
      refine MReady.cons rfl (fun K hK => ?_) (MReady.cons rfl (fun K hK => ?_) MReady.nil)
      · have hcn : W0cbc.cell? ⟨G, ri, none⟩ = some (.string sn) := by
          rw [arr.cellAt ri (by omega)]
          have h2 := flatMap_at encS 1 encS_len plNames2 ri sn 0 _ hsn (show (encS sn)[0]? = some (.string sn) from rfl)
          simpa using h2
        go_simp
        refine hK.out _ _ (.inr trivial) ?_
        clear hK K
        clear hcn
        refine MAny.ready (rs := [7]) (by kernel_rfl) (by simp) ?_
        refine MReady.cons rfl (fun K hK => ?_) MReady.nil
        have hB := stepB hB1 hs.base hB1.size
        have r0 : W0cbc.cell? ⟨w.heap.size, 0, none⟩ = some (.slice none 0 0) := res.cellAt 0 (by decide)
        have r1 : W0cbc.cell? ⟨w.heap.size, 1, none⟩ = some (.slice none 0 0) := res.cellAt 1 (by decide)
        have y0 : ∀ a, (W0cbc.setCell ⟨w.heap.size, 0, none⟩ a).cell? ⟨w.heap.size, 0, none⟩ = some a := fun a => World.cell?_setCell_same _ _ _ r0
        have y1 : ∀ a c, ((W0cbc.setCell ⟨w.heap.size, 0, none⟩ a).setCell ⟨w.heap.size, 1, none⟩ c).cell? ⟨w.heap.size, 1, none⟩ = some c := fun a c => World.cell?_setCell_same _ _ _ ((cell_set_other (by simp)).trans r1)
        have y2 : ∀ a c, ((W0cbc.setCell ⟨w.heap.size, 0, none⟩ a).setCell ⟨w.heap.size, 1, none⟩ c).cell? ⟨w.heap.size, 0, none⟩ = some a := fun a c => (cell_set_other (by simp)).trans (y0 a)
        have f0 := res.frozenAt 0
        have f1 := res.frozenAt 1
        have HF := Lib.hid (land_fin res hL hB hlt (.slice a0 ns.length c0) (.slice a1 ws.length c1))
        have z0 := y2 (.slice a0 ns.length c0) (.slice a1 ws.length c1)
        have z1 := y1 (.slice a0 ns.length c0) (.slice a1 ws.length c1)
        have hrW := (own_lt res).2
        go_simp
        refine hK.out _ _ (.inr trivial) ?_
        clear hK K
        obtain ⟨hL, hB, hGr⟩ := HF.out
        have hrW := Nat.lt_of_lt_of_le hrW hGr.size
        have hw2 := Nat.le_trans hw2 hGr.size
        have arr := own_keepP arr hGr hlt
        clear HF hs res r0 r1 y0 y1 y2 f0 f1 hGr
        generalize (W0cbc.setCell ⟨w.heap.size, 0, none⟩ (.slice a0 ns.length c0)).setCell ⟨w.heap.size, 1, none⟩ (.slice a1 ws.length c1) = W0cbcs at hL hB z0 z1 hrW hw2 arr ⊢
        refine MAny.ready (rs := [8]) (by kernel_rfl) (by simp) ?_
        refine MReady.cons rfl (fun K hK => ?_) MReady.nil
        go_simp
        refine hK.out _ _ (.inl rfl) ?_
        clear hK K
        refine MAny.done (by kernel_rfl) ?_ _
        try simp only [List.getElem_toArray, List.getElem_cons_succ, List.getElem_cons_zero]
        go_wp2
        refine bodyPost_ret_by (v := .tuple #[.agg #[.slice a0 ns.length c0, .slice a1 ws.length c1], .string sn]) ?_ rfl ?_
        · simp [results, go_sem, z0, z1]
        · exact ⟨a0, a1, c0, c1, ns, ws, sn, rfl, hL.base (Nat.le_of_lt hlt), hB⟩
      · have hB := stepB hB1 hs.base hB1.size
        have r0 : W0cbc.cell? ⟨w.heap.size, 0, none⟩ = some (.slice none 0 0) := res.cellAt 0 (by decide)
        have r1 : W0cbc.cell? ⟨w.heap.size, 1, none⟩ = some (.slice none 0 0) := res.cellAt 1 (by decide)
        have y0 : ∀ a, (W0cbc.setCell ⟨w.heap.size, 0, none⟩ a).cell? ⟨w.heap.size, 0, none⟩ = some a := fun a => World.cell?_setCell_same _ _ _ r0
        have y1 : ∀ a c, ((W0cbc.setCell ⟨w.heap.size, 0, none⟩ a).setCell ⟨w.heap.size, 1, none⟩ c).cell? ⟨w.heap.size, 1, none⟩ = some c := fun a c => World.cell?_setCell_same _ _ _ ((cell_set_other (by simp)).trans r1)
        have y2 : ∀ a c, ((W0cbc.setCell ⟨w.heap.size, 0, none⟩ a).setCell ⟨w.heap.size, 1, none⟩ c).cell? ⟨w.heap.size, 0, none⟩ = some a := fun a c => (cell_set_other (by simp)).trans (y0 a)
        have f0 := res.frozenAt 0
        have f1 := res.frozenAt 1
        have HF := Lib.hid (land_fin res hL hB hlt (.slice a0 ns.length c0) (.slice a1 ws.length c1))
        have z0 := y2 (.slice a0 ns.length c0) (.slice a1 ws.length c1)
        have z1 := y1 (.slice a0 ns.length c0) (.slice a1 ws.length c1)
        have hrW := (own_lt res).2
        go_simp
        refine hK.out _ _ (.inr trivial) ?_
        clear hK K
        obtain ⟨hL, hB, hGr⟩ := HF.out
        have hrW := Nat.lt_of_lt_of_le hrW hGr.size
        have hw2 := Nat.le_trans hw2 hGr.size
        have arr := own_keepP arr hGr hlt
        clear HF hs res r0 r1 y0 y1 y2 f0 f1 hGr
        generalize (W0cbc.setCell ⟨w.heap.size, 0, none⟩ (.slice a0 ns.length c0)).setCell ⟨w.heap.size, 1, none⟩ (.slice a1 ws.length c1) = W0cbcs at hL hB z0 z1 hrW hw2 arr ⊢
        refine MAny.ready (rs := [6]) (by kernel_rfl) (by simp) ?_
        refine MReady.cons rfl (fun K hK => ?_) MReady.nil
        have hcn : W0cbcs.cell? ⟨G, ri, none⟩ = some (.string sn) := by
          rw [arr.cellAt ri (by omega)]
          have h2 := flatMap_at encS 1 encS_len plNames2 ri sn 0 _ hsn (show (encS sn)[0]? = some (.string sn) from rfl)
          simpa using h2
        go_simp
        refine hK.out _ _ (.inr trivial) ?_
        clear hK K
        clear hcn
        refine MAny.ready (rs := [8]) (by kernel_rfl) (by simp) ?_
        refine MReady.cons rfl (fun K hK => ?_) MReady.nil
        go_simp
        refine hK.out _ _ (.inl rfl) ?_
        clear hK K
        refine MAny.done (by kernel_rfl) ?_ _
        try simp only [List.getElem_toArray, List.getElem_cons_succ, List.getElem_cons_zero]
        go_wp2
        refine bodyPost_ret_by (v := .tuple #[.agg #[.slice a0 ns.length c0, .slice a1 ws.length c1], .string sn]) ?_ rfl ?_
        · simp [results, go_sem, z0, z1]
        · exact ⟨a0, a1, c0, c1, ns, ws, sn, rfl, hL.base (Nat.le_of_lt hlt), hB⟩
    · go_simp
      go_wp2_with (go_at_call 44; refine (l01Next_any w1 cs cap bs p 6 W0c hx1 hb hl (by decide) (by decide) hs).mono ?_; rintro e W0cc ⟨r, rfl, ra, rb, hs, hG⟩)
      have hL := hL.grown hG hpl.2
      obtain ⟨ri, rfl⟩ : ∃ ri : Nat, r = ri := ⟨r.toNat, by omega⟩
      have hri : ri < 6 := by omega
      have hri' : (ri : Int) < 6 := by omega
      have res := own_keepOther res hG (Nat.ne_of_lt hltp)
      have hw2 := Nat.le_trans hw2 hG.size
      clear hG ra rb
      refine hK.out _ _ (.inr trivial) ?_
      clear hK K
      obtain ⟨sn, hsn⟩ : ∃ sn, plNames2[ri]? = some sn := ⟨plNames2[ri]'(by simp [plNames2]; omega), List.getElem?_eq_getElem _⟩
      have hlt := Nat.lt_trans hltp hpl.2
      refine MAny.ready (rs := [2, 7]) (by kernel_rfl) (by simp) ?_
      refine MReady.cons rfl (fun K hK => ?_) (MReady.cons rfl (fun K hK => ?_) MReady.nil)
      · go_simp
        have arr0 : (W0cc.alloc (.cells #[.string ⟨#[97, 115, 104, 102, 111, 114, 100]⟩, .string ⟨#[98, 97, 114, 116, 111, 110]⟩, .string ⟨#[99, 111, 108, 98, 121]⟩, .string ⟨#[101, 108, 116, 111, 110]⟩, .string ⟨#[121, 111, 114, 107]⟩, .string ⟨#[]⟩] 9)).ownsRow W0cc.heap.size 9 1 (.slice (some ⟨W0cc.heap.size, 0, none⟩) 6 6) 6 (plNames2.flatMap encS) := ⟨rfl, .inr ⟨W0cc.heap.size, 6, #[.string ⟨#[97, 115, 104, 102, 111, 114, 100]⟩, .string ⟨#[98, 97, 114, 116, 111, 110]⟩, .string ⟨#[99, 111, 108, 98, 121]⟩, .string ⟨#[101, 108, 116, 111, 110]⟩, .string ⟨#[121, 111, 114, 107]⟩, .string ⟨#[]⟩], rfl, Nat.le_refl _, heap_alloc_new W0cc _, by decide, by decide, rfl, rfl⟩⟩
        have arr := own_base arr0 hw2
        have hBb : Below W0cc.heap.size W0cc (W0cc.alloc (.cells #[.string ⟨#[97, 115, 104, 102, 111, 114, 100]⟩, .string ⟨#[98, 97, 114, 116, 111, 110]⟩, .string ⟨#[99, 111, 108, 98, 121]⟩, .string ⟨#[101, 108, 116, 111, 110]⟩, .string ⟨#[121, 111, 114, 107]⟩, .string ⟨#[]⟩] 9)) := (Below.refl _ _).alloc (Nat.le_refl _) _
        have hL := hL.below hBb
        have hs := hs.below hBb
        have res := own_below res hBb
        have hw2 := Nat.le_trans hw2 hBb.size
        generalize W0cc.alloc (.cells #[.string ⟨#[97, 115, 104, 102, 111, 114, 100]⟩, .string ⟨#[98, 97, 114, 116, 111, 110]⟩, .string ⟨#[99, 111, 108, 98, 121]⟩, .string ⟨#[101, 108, 116, 111, 110]⟩, .string ⟨#[121, 111, 114, 107]⟩, .string ⟨#[]⟩] 9) = W0ccb at arr hw2 hL hs res ⊢
        generalize W0cc.heap.size = G at arr ⊢
        clear arr0 hBb
        refine hK.out _ _ (.inr trivial) ?_
        clear hK K
        refine MAny.take (i := 5) (v := ?_) rfl (by kernel_rfl) (by kernel_rfl) (by kernel_rfl) (fun _ _ _ h => h) (by kernel_rfl) (Or.inl ⟨by rfl, ?_⟩) (by assumption) ?_
        rotate_left
        · (intro w' hSw; (try dsimp only at hSw); go_simp; try (with_reducible rfl))
        try simp only [Act.put, List.setIfInBounds_toArray]
        refine MAny.ready (rs := [6, 7]) (by kernel_rfl) (by simp) ?_
        refine MReady.cons rfl (fun K hK => ?_) (MReady.cons rfl (fun K hK => ?_) MReady.nil)
        · have hcn : W0ccb.cell? ⟨G, ri, none⟩ = some (.string sn) := by
            rw [arr.cellAt ri (by omega)]
            have h2 := flatMap_at encS 1 encS_len plNames2 ri sn 0 _ hsn (show (encS sn)[0]? = some (.string sn) from rfl)
            simpa using h2
          go_simp
          refine hK.out _ _ (.inr trivial) ?_
          clear hK K
          clear hcn
          refine MAny.ready (rs := [7]) (by kernel_rfl) (by simp) ?_
          refine MReady.cons rfl (fun K hK => ?_) MReady.nil
          have hB := stepB hB1 hs.base hB1.size
          have r0 : W0ccb.cell? ⟨w.heap.size, 0, none⟩ = some (.slice none 0 0) := res.cellAt 0 (by decide)
          have r1 : W0ccb.cell? ⟨w.heap.size, 1, none⟩ = some (.slice none 0 0) := res.cellAt 1 (by decide)
          have y0 : ∀ a, (W0ccb.setCell ⟨w.heap.size, 0, none⟩ a).cell? ⟨w.heap.size, 0, none⟩ = some a := fun a => World.cell?_setCell_same _ _ _ r0
          have y1 : ∀ a c, ((W0ccb.setCell ⟨w.heap.size, 0, none⟩ a).setCell ⟨w.heap.size, 1, none⟩ c).cell? ⟨w.heap.size, 1, none⟩ = some c := fun a c => World.cell?_setCell_same _ _ _ ((cell_set_other (by simp)).trans r1)
          have y2 : ∀ a c, ((W0ccb.setCell ⟨w.heap.size, 0, none⟩ a).setCell ⟨w.heap.size, 1, none⟩ c).cell? ⟨w.heap.size, 0, none⟩ = some a := fun a c => (cell_set_other (by simp)).trans (y0 a)
          have f0 := res.frozenAt 0
          have f1 := res.frozenAt 1
          have HF := Lib.hid (land_fin res hL hB hlt (.slice a0 ns.length c0) (.slice a1 ws.length c1))
          have z0 := y2 (.slice a0 ns.length c0) (.slice a1 ws.length c1)
          have z1 := y1 (.slice a0 ns.length c0) (.slice a1 ws.length c1)
          have hrW := (own_lt res).2
          go_simp
          refine hK.out _ _ (.inr trivial) ?_
          clear hK K
          obtain ⟨hL, hB, hGr⟩ := HF.out
          have hrW := Nat.lt_of_lt_of_le hrW hGr.size
          have hw2 := Nat.le_trans hw2 hGr.size
          have arr := own_keepP arr hGr hlt
          clear HF hs res r0 r1 y0 y1 y2 f0 f1 hGr
          generalize (W0ccb.setCell ⟨w.heap.size, 0, none⟩ (.slice a0 ns.length c0)).setCell ⟨w.heap.size, 1, none⟩ (.slice a1 ws.length c1) = W0ccbs at hL hB z0 z1 hrW hw2 arr ⊢
          refine MAny.ready (rs := [8]) (by kernel_rfl) (by simp) ?_
          refine MReady.cons rfl (fun K hK => ?_) MReady.nil
          go_simp
          refine hK.out _ _ (.inl rfl) ?_
          clear hK K
          refine MAny.done (by kernel_rfl) ?_ _
          try simp only [List.getElem_toArray, List.getElem_cons_succ, List.getElem_cons_zero]
          go_wp2
          refine bodyPost_ret_by (v := .tuple #[.agg #[.slice a0 ns.length c0, .slice a1 ws.length c1], .string sn]) ?_ rfl ?_
          · simp [results, go_sem, z0, z1]
          · exact ⟨a0, a1, c0, c1, ns, ws, sn, rfl, hL.base (Nat.le_of_lt hlt), hB⟩
        · have hB := stepB hB1 hs.base hB1.size
          have r0 : W0ccb.cell? ⟨w.heap.size, 0, none⟩ = some (.slice none 0 0) := res.cellAt 0 (by decide)
          have r1 : W0ccb.cell? ⟨w.heap.size, 1, none⟩ = some (.slice none 0 0) := res.cellAt 1 (by decide)
          have y0 : ∀ a, (W0ccb.setCell ⟨w.heap.size, 0, none⟩ a).cell? ⟨w.heap.size, 0, none⟩ = some a := fun a => World.cell?_setCell_same _ _ _ r0
          have y1 : ∀ a c, ((W0ccb.setCell ⟨w.heap.size, 0, none⟩ a).setCell ⟨w.heap.size, 1, none⟩ c).cell? ⟨w.heap.size, 1, none⟩ = some c := fun a c => World.cell?_setCell_same _ _ _ ((cell_set_other (by simp)).trans r1)
          have y2 : ∀ a c, ((W0ccb.setCell ⟨w.heap.size, 0, none⟩ a).setCell ⟨w.heap.size, 1, none⟩ c).cell? ⟨w.heap.size, 0, none⟩ = some a := fun a c => (cell_set_other (by simp)).trans (y0 a)
          have f0 := res.frozenAt 0
          have f1 := res.frozenAt 1
          have HF := Lib.hid (land_fin res hL hB hlt (.slice a0 ns.length c0) (.slice a1 ws.length c1))
          have z0 := y2 (.slice a0 ns.length c0) (.slice a1 ws.length c1)
          have z1 := y1 (.slice a0 ns.length c0) (.slice a1 ws.length c1)
          have hrW := (own_lt res).2
          go_simp
          refine hK.out _ _ (.inr trivial) ?_
          clear hK K
          obtain ⟨hL, hB, hGr⟩ := HF.out
          have hrW := Nat.lt_of_lt_of_le hrW hGr.size
          have hw2 := Nat.le_trans hw2 hGr.size
          have arr := own_keepP arr hGr hlt
          clear HF hs res r0 r1 y0 y1 y2 f0 f1 hGr
          generalize (W0ccb.setCell ⟨w.heap.size, 0, none⟩ (.slice a0 ns.length c0)).setCell ⟨w.heap.size, 1, none⟩ (.slice a1 ws.length c1) = W0ccbs at hL hB z0 z1 hrW hw2 arr ⊢
          refine MAny.ready (rs := [6]) (by kernel_rfl) (by simp) ?_
          refine MReady.cons rfl (fun K hK => ?_) MReady.nil
          have hcn : W0ccbs.cell? ⟨G, ri, none⟩ = some (.string sn) := by
            rw [arr.cellAt ri (by omega)]
            have h2 := flatMap_at encS 1 encS_len plNames2 ri sn 0 _ hsn (show (encS sn)[0]? = some (.string sn) from rfl)
            simpa using h2
          go_simp
          refine hK.out _ _ (.inr trivial) ?_
          clear hK K
          clear hcn
          refine MAny.ready (rs := [8]) (by kernel_rfl) (by simp) ?_
          refine MReady.cons rfl (fun K hK => ?_) MReady.nil
          go_simp
          refine hK.out _ _ (.inl rfl) ?_
          clear hK K
          refine MAny.done (by kernel_rfl) ?_ _
          try simp only [List.getElem_toArray, List.getElem_cons_succ, List.getElem_cons_zero]
          go_wp2
          refine bodyPost_ret_by (v := .tuple #[.agg #[.slice a0 ns.length c0, .slice a1 ws.length c1], .string sn]) ?_ rfl ?_
          · simp [results, go_sem, z0, z1]
          · exact ⟨a0, a1, c0, c1, ns, ws, sn, rfl, hL.base (Nat.le_of_lt hlt), hB⟩
      · have hB := stepB hB1 hs.base hB1.size
        have r0 : W0cc.cell? ⟨w.heap.size, 0, none⟩ = some (.slice none 0 0) := res.cellAt 0 (by decide)
        have r1 : W0cc.cell? ⟨w.heap.size, 1, none⟩ = some (.slice none 0 0) := res.cellAt 1 (by decide)
        have y0 : ∀ a, (W0cc.setCell ⟨w.heap.size, 0, none⟩ a).cell? ⟨w.heap.size, 0, none⟩ = some a := fun a => World.cell?_setCell_same _ _ _ r0
        have y1 : ∀ a c, ((W0cc.setCell ⟨w.heap.size, 0, none⟩ a).setCell ⟨w.heap.size, 1, none⟩ c).cell? ⟨w.heap.size, 1, none⟩ = some c := fun a c => World.cell?_setCell_same _ _ _ ((cell_set_other (by simp)).trans r1)
        have y2 : ∀ a c, ((W0cc.setCell ⟨w.heap.size, 0, none⟩ a).setCell ⟨w.heap.size, 1, none⟩ c).cell? ⟨w.heap.size, 0, none⟩ = some a := fun a c => (cell_set_other (by simp)).trans (y0 a)
        have f0 := res.frozenAt 0
        have f1 := res.frozenAt 1
        have HF := Lib.hid (land_fin res hL hB hlt (.slice a0 ns.length c0) (.slice a1 ws.length c1))
        have z0 := y2 (.slice a0 ns.length c0) (.slice a1 ws.length c1)
        have z1 := y1 (.slice a0 ns.length c0) (.slice a1 ws.length c1)
        have hrW := (own_lt res).2
        go_simp
        refine hK.out _ _ (.inr trivial) ?_
        clear hK K
        obtain ⟨hL, hB, hGr⟩ := HF.out
        have hrW := Nat.lt_of_lt_of_le hrW hGr.size
        have hw2 := Nat.le_trans hw2 hGr.size
        clear HF hs res r0 r1 y0 y1 y2 f0 f1 hGr
        generalize (W0cc.setCell ⟨w.heap.size, 0, none⟩ (.slice a0 ns.length c0)).setCell ⟨w.heap.size, 1, none⟩ (.slice a1 ws.length c1) = W0ccs at hL hB z0 z1 hrW hw2 ⊢
        refine MAny.ready (rs := [2]) (by kernel_rfl) (by simp) ?_
        refine MReady.cons rfl (fun K hK => ?_) MReady.nil
        go_simp
        have arr0 : (W0ccs.alloc (.cells #[.string ⟨#[97, 115, 104, 102, 111, 114, 100]⟩, .string ⟨#[98, 97, 114, 116, 111, 110]⟩, .string ⟨#[99, 111, 108, 98, 121]⟩, .string ⟨#[101, 108, 116, 111, 110]⟩, .string ⟨#[121, 111, 114, 107]⟩, .string ⟨#[]⟩] 9)).ownsRow W0ccs.heap.size 9 1 (.slice (some ⟨W0ccs.heap.size, 0, none⟩) 6 6) 6 (plNames2.flatMap encS) := ⟨rfl, .inr ⟨W0ccs.heap.size, 6, #[.string ⟨#[97, 115, 104, 102, 111, 114, 100]⟩, .string ⟨#[98, 97, 114, 116, 111, 110]⟩, .string ⟨#[99, 111, 108, 98, 121]⟩, .string ⟨#[101, 108, 116, 111, 110]⟩, .string ⟨#[121, 111, 114, 107]⟩, .string ⟨#[]⟩], rfl, Nat.le_refl _, heap_alloc_new W0ccs _, by decide, by decide, rfl, rfl⟩⟩
        have arr := own_base arr0 hw2
        have hBb : Below W0ccs.heap.size W0ccs (W0ccs.alloc (.cells #[.string ⟨#[97, 115, 104, 102, 111, 114, 100]⟩, .string ⟨#[98, 97, 114, 116, 111, 110]⟩, .string ⟨#[99, 111, 108, 98, 121]⟩, .string ⟨#[101, 108, 116, 111, 110]⟩, .string ⟨#[121, 111, 114, 107]⟩, .string ⟨#[]⟩] 9)) := (Below.refl _ _).alloc (Nat.le_refl _) _
        have hL := hL.below hBb
        have hB := stepB hB hBb hB.size
        have z0 := (hBb.cell (p := ⟨w.heap.size, 0, none⟩) hrW).trans z0
        have z1 := (hBb.cell (p := ⟨w.heap.size, 1, none⟩) hrW).trans z1
        have hrW := Nat.lt_of_lt_of_le hrW hBb.size
        have hw2 := Nat.le_trans hw2 hBb.size
        generalize W0ccs.alloc (.cells #[.string ⟨#[97, 115, 104, 102, 111, 114, 100]⟩, .string ⟨#[98, 97, 114, 116, 111, 110]⟩, .string ⟨#[99, 111, 108, 98, 121]⟩, .string ⟨#[101, 108, 116, 111, 110]⟩, .string ⟨#[121, 111, 114, 107]⟩, .string ⟨#[]⟩] 9) = W0ccsb at arr hw2 hL hB z0 z1 hrW ⊢
        generalize W0ccs.heap.size = G at arr ⊢
        clear arr0 hBb
        refine hK.out _ _ (.inr trivial) ?_
        clear hK K
        refine MAny.take (i := 5) (v := ?_) rfl (by kernel_rfl) (by kernel_rfl) (by kernel_rfl) (fun _ _ _ h => h) (by kernel_rfl) (Or.inl ⟨by rfl, ?_⟩) (by assumption) ?_
        rotate_left
        · (intro w' hSw; (try dsimp only at hSw); go_simp; try (with_reducible rfl))
        try simp only [Act.put, List.setIfInBounds_toArray]
        refine MAny.ready (rs := [6]) (by kernel_rfl) (by simp) ?_
        refine MReady.cons rfl (fun K hK => ?_) MReady.nil
        have hcn : W0ccsb.cell? ⟨G, ri, none⟩ = some (.string sn) := by
          rw [arr.cellAt ri (by omega)]
          have h2 := flatMap_at encS 1 encS_len plNames2 ri sn 0 _ hsn (show (encS sn)[0]? = some (.string sn) from rfl)
          simpa using h2
        go_simp
        refine hK.out _ _ (.inr trivial) ?_
        clear hK K
        clear hcn
        refine MAny.ready (rs := [8]) (by kernel_rfl) (by simp) ?_
        refine MReady.cons rfl (fun K hK => ?_) MReady.nil
        go_simp
        refine hK.out _ _ (.inl rfl) ?_
        clear hK K
        refine MAny.done (by kernel_rfl) ?_ _
        try simp only [List.getElem_toArray, List.getElem_cons_succ, List.getElem_cons_zero]
        go_wp2
        refine bodyPost_ret_by (v := .tuple #[.agg #[.slice a0 ns.length c0, .slice a1 ws.length c1], .string sn]) ?_ rfl ?_
        · simp [results, go_sem, z0, z1]
        · exact ⟨a0, a1, c0, c1, ns, ws, sn, rfl, hL.base (Nat.le_of_lt hlt), hB⟩
  · go_simp
    have arr0 : (W0.alloc (.cells #[.string ⟨#[97, 115, 104, 102, 111, 114, 100]⟩, .string ⟨#[98, 97, 114, 116, 111, 110]⟩, .string ⟨#[99, 111, 108, 98, 121]⟩, .string ⟨#[101, 108, 116, 111, 110]⟩, .string ⟨#[121, 111, 114, 107]⟩, .string ⟨#[]⟩] 9)).ownsRow W0.heap.size 9 1 (.slice (some ⟨W0.heap.size, 0, none⟩) 6 6) 6 (plNames2.flatMap encS) := ⟨rfl, .inr ⟨W0.heap.size, 6, #[.string ⟨#[97, 115, 104, 102, 111, 114, 100]⟩, .string ⟨#[98, 97, 114, 116, 111, 110]⟩, .string ⟨#[99, 111, 108, 98, 121]⟩, .string ⟨#[101, 108, 116, 111, 110]⟩, .string ⟨#[121, 111, 114, 107]⟩, .string ⟨#[]⟩], rfl, Nat.le_refl _, heap_alloc_new W0 _, by decide, by decide, rfl, rfl⟩⟩
    have arr := own_base arr0 hw2
    have hBb : Below W0.heap.size W0 (W0.alloc (.cells #[.string ⟨#[97, 115, 104, 102, 111, 114, 100]⟩, .string ⟨#[98, 97, 114, 116, 111, 110]⟩, .string ⟨#[99, 111, 108, 98, 121]⟩, .string ⟨#[101, 108, 116, 111, 110]⟩, .string ⟨#[121, 111, 114, 107]⟩, .string ⟨#[]⟩] 9)) := (Below.refl _ _).alloc (Nat.le_refl _) _
    have hs := hs.below hBb
    have res := own_below res hBb
    have hw2 := Nat.le_trans hw2 hBb.size
    generalize W0.alloc (.cells #[.string ⟨#[97, 115, 104, 102, 111, 114, 100]⟩, .string ⟨#[98, 97, 114, 116, 111, 110]⟩, .string ⟨#[99, 111, 108, 98, 121]⟩, .string ⟨#[101, 108, 116, 111, 110]⟩, .string ⟨#[121, 111, 114, 107]⟩, .string ⟨#[]⟩] 9) = W0b at arr hs res hw2 ⊢
    generalize W0.heap.size = G at arr ⊢
    clear arr0 hBb
    refine hK.out _ _ (.inr trivial) ?_
    clear hK K
    refine MAny.ready (rs := [1]) (by kernel_rfl) (by simp) ?_
    refine MReady.cons rfl (fun K hK => ?_) MReady.nil
    go_simp
    go_wp2_with (go_at_call 41; refine (l14Draw_any w1 cs cap bs p W0b hx1 hb hl hs).mono ?_; rintro e W0bc ⟨a0, a1, c0, c1, ns, ws, rfl, h1, h2, h3, hs, hG, h4, h5⟩)
    have hL : LandD w2.heap.size W0bc a0 a1 c0 c1 ns ws := ⟨h1, h2, h3, own_base h4 hw2, own_base h5 hw2⟩
    have res := own_keepOther res hG (Nat.ne_of_lt hltp)
    have arr := own_keepP arr hG hpB
    have hw2 := Nat.le_trans hw2 hG.size
    clear h1 h2 h3 h4 h5 hG
    refine hK.out _ _ (.inr trivial) ?_
    clear hK K
    refine MAny.ready (rs := [4]) (by kernel_rfl) (by simp) ?_
    refine MReady.cons rfl (fun K hK => ?_) MReady.nil
    go_simp
    go_wp2_with (go_at_call 44; refine (l01Next_any w1 cs cap bs p 6 W0bc hx1 hb hl (by decide) (by decide) hs).mono ?_; rintro e W0bcc ⟨r, rfl, ra, rb, hs, hG⟩)
    have hL := hL.grown hG hpl.2
    obtain ⟨ri, rfl⟩ : ∃ ri : Nat, r = ri := ⟨r.toNat, by omega⟩
    have hri : ri < 6 := by omega
    have hri' : (ri : Int) < 6 := by omega
    have res := own_keepOther res hG (Nat.ne_of_lt hltp)
    have arr := own_keepP arr hG hpB
    have hw2 := Nat.le_trans hw2 hG.size
    clear hG ra rb
    refine hK.out _ _ (.inr trivial) ?_
    clear hK K
    obtain ⟨sn, hsn⟩ : ∃ sn, plNames2[ri]? = some sn := ⟨plNames2[ri]'(by simp [plNames2]; omega), List.getElem?_eq_getElem _⟩
    have hlt := Nat.lt_trans hltp hpl.2
    refine MAny.take (i := 5) (v := ?_) rfl (by kernel_rfl) (by kernel_rfl) (by kernel_rfl) (fun _ _ _ h => h) (by kernel_rfl) (Or.inl ⟨by rfl, ?_⟩) (by assumption) ?_
    rotate_left
    · (intro w' hSw; (try dsimp only at hSw); go_simp; try (with_reducible rfl))
    try simp only [Act.put, List.setIfInBounds_toArray]
    refine MAny.ready (rs := [6, 7]) (by kernel_rfl) (by simp) ?_
    refine MReady.cons rfl (fun K hK => ?_) (MReady.cons rfl (fun K hK => ?_) MReady.nil)
    · have hcn : W0bcc.cell? ⟨G, ri, none⟩ = some (.string sn) := by
        rw [arr.cellAt ri (by omega)]
        have h2 := flatMap_at encS 1 encS_len plNames2 ri sn 0 _ hsn (show (encS sn)[0]? = some (.string sn) from rfl)
        simpa using h2
      go_simp
      refine hK.out _ _ (.inr trivial) ?_
      clear hK K
      clear hcn
      refine MAny.ready (rs := [7]) (by kernel_rfl) (by simp) ?_
      refine MReady.cons rfl (fun K hK => ?_) MReady.nil
      have hB := stepB hB1 hs.base hB1.size
      have r0 : W0bcc.cell? ⟨w.heap.size, 0, none⟩ = some (.slice none 0 0) := res.cellAt 0 (by decide)
      have r1 : W0bcc.cell? ⟨w.heap.size, 1, none⟩ = some (.slice none 0 0) := res.cellAt 1 (by decide)
      have y0 : ∀ a, (W0bcc.setCell ⟨w.heap.size, 0, none⟩ a).cell? ⟨w.heap.size, 0, none⟩ = some a := fun a => World.cell?_setCell_same _ _ _ r0
      have y1 : ∀ a c, ((W0bcc.setCell ⟨w.heap.size, 0, none⟩ a).setCell ⟨w.heap.size, 1, none⟩ c).cell? ⟨w.heap.size, 1, none⟩ = some c := fun a c => World.cell?_setCell_same _ _ _ ((cell_set_other (by simp)).trans r1)
      have y2 : ∀ a c, ((W0bcc.setCell ⟨w.heap.size, 0, none⟩ a).setCell ⟨w.heap.size, 1, none⟩ c).cell? ⟨w.heap.size, 0, none⟩ = some a := fun a c => (cell_set_other (by simp)).trans (y0 a)
      have f0 := res.frozenAt 0
      have f1 := res.frozenAt 1
      have HF := Lib.hid (land_fin res hL hB hlt (.slice a0 ns.length c0) (.slice a1 ws.length c1))
      have z0 := y2 (.slice a0 ns.length c0) (.slice a1 ws.length c1)
      have z1 := y1 (.slice a0 ns.length c0) (.slice a1 ws.length c1)
      have hrW := (own_lt res).2
      go_simp
      refine hK.out _ _ (.inr trivial) ?_
      clear hK K
      obtain ⟨hL, hB, hGr⟩ := HF.out
      have hrW := Nat.lt_of_lt_of_le hrW hGr.size
      have hw2 := Nat.le_trans hw2 hGr.size
      have arr := own_keepP arr hGr hlt
      clear HF hs res r0 r1 y0 y1 y2 f0 f1 hGr
      generalize (W0bcc.setCell ⟨w.heap.size, 0, none⟩ (.slice a0 ns.length c0)).setCell ⟨w.heap.size, 1, none⟩ (.slice a1 ws.length c1) = W0bccs at hL hB z0 z1 hrW hw2 arr ⊢
      refine MAny.ready (rs := [8]) (by kernel_rfl) (by simp) ?_
      refine MReady.cons rfl (fun K hK => ?_) MReady.nil
      go_simp
      refine hK.out _ _ (.inl rfl) ?_
      clear hK K
      refine MAny.done (by kernel_rfl) ?_ _
      try simp only [List.getElem_toArray, List.getElem_cons_succ, List.getElem_cons_zero]
      go_wp2
      refine bodyPost_ret_by (v := .tuple #[.agg #[.slice a0 ns.length c0, .slice a1 ws.length c1], .string sn]) ?_ rfl ?_
      · simp [results, go_sem, z0, z1]
      · exact ⟨a0, a1, c0, c1, ns, ws, sn, rfl, hL.base (Nat.le_of_lt hlt), hB⟩
    · have hB := stepB hB1 hs.base hB1.size
      have r0 : W0bcc.cell? ⟨w.heap.size, 0, none⟩ = some (.slice none 0 0) := res.cellAt 0 (by decide)
      have r1 : W0bcc.cell? ⟨w.heap.size, 1, none⟩ = some (.slice none 0 0) := res.cellAt 1 (by decide)
      have y0 : ∀ a, (W0bcc.setCell ⟨w.heap.size, 0, none⟩ a).cell? ⟨w.heap.size, 0, none⟩ = some a := fun a => World.cell?_setCell_same _ _ _ r0
      have y1 : ∀ a c, ((W0bcc.setCell ⟨w.heap.size, 0, none⟩ a).setCell ⟨w.heap.size, 1, none⟩ c).cell? ⟨w.heap.size, 1, none⟩ = some c := fun a c => World.cell?_setCell_same _ _ _ ((cell_set_other (by simp)).trans r1)
      have y2 : ∀ a c, ((W0bcc.setCell ⟨w.heap.size, 0, none⟩ a).setCell ⟨w.heap.size, 1, none⟩ c).cell? ⟨w.heap.size, 0, none⟩ = some a := fun a c => (cell_set_other (by simp)).trans (y0 a)
      have f0 := res.frozenAt 0
      have f1 := res.frozenAt 1
      have HF := Lib.hid (land_fin res hL hB hlt (.slice a0 ns.length c0) (.slice a1 ws.length c1))
      have z0 := y2 (.slice a0 ns.length c0) (.slice a1 ws.length c1)
      have z1 := y1 (.slice a0 ns.length c0) (.slice a1 ws.length c1)
      have hrW := (own_lt res).2
      go_simp
      refine hK.out _ _ (.inr trivial) ?_
      clear hK K
      obtain ⟨hL, hB, hGr⟩ := HF.out
      have hrW := Nat.lt_of_lt_of_le hrW hGr.size
      have hw2 := Nat.le_trans hw2 hGr.size
      have arr := own_keepP arr hGr hlt
      clear HF hs res r0 r1 y0 y1 y2 f0 f1 hGr
      generalize (W0bcc.setCell ⟨w.heap.size, 0, none⟩ (.slice a0 ns.length c0)).setCell ⟨w.heap.size, 1, none⟩ (.slice a1 ws.length c1) = W0bccs at hL hB z0 z1 hrW hw2 arr ⊢
      refine MAny.ready (rs := [6]) (by kernel_rfl) (by simp) ?_
      refine MReady.cons rfl (fun K hK => ?_) MReady.nil
      have hcn : W0bccs.cell? ⟨G, ri, none⟩ = some (.string sn) := by
        rw [arr.cellAt ri (by omega)]
        have h2 := flatMap_at encS 1 encS_len plNames2 ri sn 0 _ hsn (show (encS sn)[0]? = some (.string sn) from rfl)
        simpa using h2
      go_simp
      refine hK.out _ _ (.inr trivial) ?_
      clear hK K
      clear hcn
      refine MAny.ready (rs := [8]) (by kernel_rfl) (by simp) ?_
      refine MReady.cons rfl (fun K hK => ?_) MReady.nil
      go_simp
      refine hK.out _ _ (.inl rfl) ?_
      clear hK K
      refine MAny.done (by kernel_rfl) ?_ _
      try simp only [List.getElem_toArray, List.getElem_cons_succ, List.getElem_cons_zero]
      go_wp2
      refine bodyPost_ret_by (v := .tuple #[.agg #[.slice a0 ns.length c0, .slice a1 ws.length c1], .string sn]) ?_ rfl ?_
      · simp [results, go_sem, z0, z1]
      · exact ⟨a0, a1, c0, c1, ns, ws, sn, rfl, hL.base (Nat.le_of_lt hlt), hB⟩
end Go.Proofs.YtihmacmieofbgaaDoor
