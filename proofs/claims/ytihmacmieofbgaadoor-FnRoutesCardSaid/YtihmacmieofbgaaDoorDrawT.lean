/- Walks: DrawTravelDays, DrawPlacesWithin. Printed by gen_drawt.py. -/
import Derived.Test.YtihmacmieofbgaaDoorDrawL
namespace Go.Proofs.YtihmacmieofbgaaDoor
open Go.ChangeShapes Go.WideShapes Go.ChangeAt Go.RowKit Go.IntWalk

/-- A drawn land's rows. -/
def LandD (B : Nat) (w : World) (a0 a1 : Option Addr) (c0 c1 : Nat) (ns : List ByteArray) (ws : List Wy) : Prop :=
  ns.length ≤ 7 ∧ ws.length ≤ 10 ∧ (∀ m ∈ ns, m.size ≤ 7) ∧ w.ownsRow B 9 1 (.slice a0 ns.length c0) ns.length (ns.flatMap encS) ∧ w.ownsRow B 42 3 (.slice a1 ws.length c1) ws.length (ws.flatMap encWy)
theorem LandD.grown {B x : Nat} {w w' : World} {a0 a1 : Option Addr} {c0 c1 : Nat} {ns : List ByteArray} {ws : List Wy} (h : LandD B w a0 a1 c0 c1 ns ws) (hG : w.grownBy w' (some x)) (hx : x < B) : LandD B w' a0 a1 c0 c1 ns ws :=
  ⟨h.1, h.2.1, h.2.2.1, own_keepP h.2.2.2.1 hG hx, own_keepP h.2.2.2.2 hG hx⟩
theorem LandD.below {B : Nat} {w w' : World} {a0 a1 : Option Addr} {c0 c1 : Nat} {ns : List ByteArray} {ws : List Wy} (h : LandD B w a0 a1 c0 c1 ns ws) (hB : Below w.heap.size w w') : LandD B w' a0 a1 c0 c1 ns ws :=
  ⟨h.1, h.2.1, h.2.2.1, own_below h.2.2.2.1 hB, own_below h.2.2.2.2 hB⟩
theorem LandD.base {B B' : Nat} {w : World} {a0 a1 : Option Addr} {c0 c1 : Nat} {ns : List ByteArray} {ws : List Wy} (h : LandD B w a0 a1 c0 c1 ns ws) (hB : B' ≤ B) : LandD B' w a0 a1 c0 c1 ns ws :=
  ⟨h.1, h.2.1, h.2.2.1, own_base h.2.2.2.1 hB, own_base h.2.2.2.2 hB⟩
structure DtS (w w1 : World) (cs : Option Addr) (cap : Nat) (bs : List Int) (p lb B : Nat) (a0 a1 : Option Addr) (c0 c1 : Nat) (ns : List ByteArray) (ws : List Wy) (W : World) : Prop where
  src : Src w1 cs cap bs p W
  res : W.ownsRow w.heap.size 27 1 (.slice (some ⟨w.heap.size, 0, none⟩) 2 2) 2 [.slice none 0 0, .slice none 0 0]
  lan : LandD B W a0 a1 c0 c1 ns ws
  l0 : W.cell? ⟨lb, 0, none⟩ = some (.slice a0 ns.length c0)
  l1 : W.cell? ⟨lb, 1, none⟩ = some (.slice a1 ws.length c1)
  hlb : p < lb
  hll : lb < W.heap.size
  hpB : p < B
  hrp : w.heap.size < p
section
variable {w w1 : World} {cs : Option Addr} {cap : Nat} {bs : List Int} {p lb B : Nat} {a0 a1 : Option Addr} {c0 c1 : Nat} {ns : List ByteArray} {ws : List Wy} {W W' : World}
theorem DtS.call (h : DtS w w1 cs cap bs p lb B a0 a1 c0 c1 ns ws W) (hs : Src w1 cs cap bs p W') (hG : W.grownBy W' (some p)) : DtS w w1 cs cap bs p lb B a0 a1 c0 c1 ns ws W' :=
  ⟨hs, own_keepOther h.res hG (Nat.ne_of_lt h.hrp), h.lan.grown hG h.hpB, (gcell hG (p := ⟨lb, 0, none⟩) h.hll (fun g e => by cases e; exact Nat.ne_of_gt h.hlb)).trans h.l0, (gcell hG (p := ⟨lb, 1, none⟩) h.hll (fun g e => by cases e; exact Nat.ne_of_gt h.hlb)).trans h.l1, h.hlb, Nat.lt_of_lt_of_le h.hll hG.size, h.hpB, h.hrp⟩
theorem DtS.below (h : DtS w w1 cs cap bs p lb B a0 a1 c0 c1 ns ws W) (hB : Below W.heap.size W W') : DtS w w1 cs cap bs p lb B a0 a1 c0 c1 ns ws W' :=
  ⟨h.src.below hB, own_below h.res hB, h.lan.below hB, (hB.cell (p := ⟨lb, 0, none⟩) h.hll).trans h.l0, (hB.cell (p := ⟨lb, 1, none⟩) h.hll).trans h.l1, h.hlb, Nat.lt_of_lt_of_le h.hll hB.size, h.hpB, h.hrp⟩
theorem DtS.fin (h : DtS w w1 cs cap bs p lb B a0 a1 c0 c1 ns ws W) (hB : Below w.heap.size w w1) (a b : Value) : LandD B ((W.setCell ⟨w.heap.size, 0, none⟩ a).setCell ⟨w.heap.size, 1, none⟩ b) a0 a1 c0 c1 ns ws ∧ Below w.heap.size w ((W.setCell ⟨w.heap.size, 0, none⟩ a).setCell ⟨w.heap.size, 1, none⟩ b) := by
  have hp1 := own_put (i := 0) (pre := []) (post := [.slice none 0 0]) h.res rfl a
  have hp2 := own_put (i := 1) (pre := [a]) (post := []) hp1.1 rfl b
  have hG := gT hp1.2 hp2.2
  have hW : Below w.heap.size w W := stepB hB h.src.base hB.size
  exact ⟨h.lan.grown hG (Nat.lt_trans h.hrp h.hpB), hW.grown hG hW.size (fun g e => by cases e; exact Nat.le_refl _)⟩
end

set_option maxRecDepth 100000 in
set_option maxHeartbeats 8000000 in
theorem drawTravel_any (cs : Option Addr) (cap : Nat) (bs : List Int) (w : World) (hx : Rd encB w cs bs) (hb : ∀ m ∈ bs, goodB m) (hl : bs.length ≤ 4096) :
    Calls Tryd.prog 18 #[.slice cs bs.length cap] w fun e w' => ∃ (a0 a1 : Option Addr) (c0 c1 : Nat) (ns : List ByteArray) (ws : List Wy) (x y : Int), e = .returned (.tuple #[.agg #[.slice a0 ns.length c0, .slice a1 ws.length c1], .int .i64 x, .int .i64 y]) ∧ LandD w.heap.size w' a0 a1 c0 c1 ns ws ∧ Below w.heap.size w w' := by
  have hr1 : (w.alloc (.cells #[.slice none 0 0, .slice none 0 0] 27)).ownsRow w.heap.size 27 1 (.slice (some ⟨w.heap.size, 0, none⟩) 2 2) 2 [.slice none 0 0, .slice none 0 0] := ⟨rfl, .inr ⟨w.heap.size, 2, #[.slice none 0 0, .slice none 0 0], rfl, Nat.le_refl _, heap_alloc_new w _, by decide, by decide, rfl, rfl⟩⟩
  generalize hW1 : w.alloc (.cells #[.slice none 0 0, .slice none 0 0] 27) = w1 at hr1
  have hB1 : Below w.heap.size w w1 := by rw [← hW1]; exact (Below.refl _ _).alloc (Nat.le_refl _) _
  have hrl := (own_lt hr1).2
  have hx1 := hx.below hB1
  go_enter Tryd.func18, Tryd.ntmps18
  go_wp2_with fail
  clear hW1
  refine (l01From_any cs cap bs w1 hx1 hb).mono ?_
  rintro e w2 ⟨p, rfl, hs⟩
  have res := own_below hr1 hs.base
  have hpl := hs.lt
  have hlt := Nat.lt_of_lt_of_le hrl hpl.1
  go_wp2_with fail
  refine (l14Draw_any w1 cs cap bs p w2 hx1 hb hl hs).mono ?_
  rintro e w3 ⟨a0, a1, c0, c1, ns, ws, rfl, h1, h2, h3, hs, hG, h4, h5⟩
  have hL : LandD w2.heap.size w3 a0 a1 c0 c1 ns ws := ⟨h1, h2, h3, h4, h5⟩
  have res := own_keepOther res hG (Nat.ne_of_lt hlt)
  clear h1 h2 h3 h4 h5 hr1
  generalize hW4 : w3.alloc (.cells #[.slice a0 ns.length c0, .slice a1 ws.length c1] 27) = w4
  have hB4 : Below w3.heap.size w3 w4 := by rw [← hW4]; exact (Below.refl _ _).alloc (Nat.le_refl _) _
  have m0 : w4.cell? ⟨w3.heap.size, 0, none⟩ = some (.slice a0 ns.length c0) := by rw [← hW4]; exact World.cell?_alloc_at _ _ _ _ rfl
  have m1 : w4.cell? ⟨w3.heap.size, 1, none⟩ = some (.slice a1 ws.length c1) := by rw [← hW4]; exact World.cell?_alloc_at _ _ _ _ rfl
  have hm : w3.heap.size < w4.heap.size := by rw [← hW4]; simp
  have hs := hs.below hB4
  have hL := hL.below hB4
  have res := own_below res hB4
  have hw32 := hG.size
  have D : DtS w w1 cs cap bs p w3.heap.size w2.heap.size a0 a1 c0 c1 ns ws w4 := ⟨hs, res, hL, m0, m1, by omega, hm, hpl.2, hlt⟩
  have HN := Lib.hid (fun n W hn1 hn2 hs => l01Next_any w1 cs cap bs p n W hx1 hb hl hn1 hn2 hs)
  have HD := Lib.hid (fun W hs => l14DrawPlace_any w1 cs cap bs p a0 a1 ns.length ws.length c0 c1 W hx1 hb hl hs (by have := hL.1; omega))
  have HP := Lib.hid (fun a ca xs W hs hxs h1 h2 => l01Pick_any w1 cs cap bs p a ca xs W hx1 hb hl hs hxs h1 h2)
  have hw2 : w.heap.size ≤ w2.heap.size := by omega
  clear hB4 m0 m1 hm hs hL res hG
  go_upto_region 3 with (fail)
  clear hW4
  generalize w3.heap.size = lb at D ⊢
  have hpw := D.hlb
  refine MAny.region (S := fun w' => w'.cell? ⟨lb, 0, none⟩ = some (.slice a0 ns.length c0) ∧ w'.cell? ⟨lb, 1, none⟩ = some (.slice a1 ws.length c1)) (last := 9) (by kernel_rfl) ?_
  have D := D.below (Below.refl _ w4).drew
  generalize w4.drew = W0 at D ⊢
  have hHeld := And.intro D.l0 D.l1
  refine MAny.take (i := 0) (v := ?_) rfl (by kernel_rfl) (by kernel_rfl) (by kernel_rfl) (fun _ _ _ h => h) (by kernel_rfl) (Or.inl ⟨by rfl, ?_⟩) (by assumption) ?_
  rotate_left
  · (intro w' hSw; (try dsimp only at hSw); go_simp; try (with_reducible rfl))
  try simp only [Act.put, List.setIfInBounds_toArray]
  refine MAny.take (i := 1) (v := ?_) rfl (by kernel_rfl) (by kernel_rfl) (by kernel_rfl) (fun _ _ _ h => h) (by kernel_rfl) (Or.inl ⟨by rfl, ?_⟩) (by assumption) ?_
  rotate_left
  · (intro w' hSw; (try dsimp only at hSw); go_simp; try (with_reducible rfl))
  try simp only [Act.put]
  refine MAny.take (i := 2) (v := ?_) rfl (by kernel_rfl) (by kernel_rfl) (by kernel_rfl) (fun _ _ _ h => h) (by kernel_rfl) (Or.inl ⟨by rfl, ?_⟩) (by assumption) ?_
  rotate_left
  · (intro w' hSw; (try dsimp only at hSw); go_simp; try (with_reducible rfl))
  try simp only [Act.put]
  refine MAny.take (i := 4) (v := ?_) rfl (by kernel_rfl) (by kernel_rfl) (by kernel_rfl) (fun _ _ _ h => h) (by kernel_rfl) (Or.inl ⟨by rfl, ?_⟩) (by assumption) ?_
  rotate_left
  · (intro w' hSw; (try dsimp only at hSw); go_simp; try (with_reducible rfl))
  try simp only [Act.put]
  refine MAny.take (i := 5) (v := ?_) rfl (by kernel_rfl) (by kernel_rfl) (by kernel_rfl) (fun _ _ _ h => h) (by kernel_rfl) (Or.inl ⟨by rfl, ?_⟩) (by assumption) ?_
  rotate_left
  · (intro w' hSw; (try dsimp only at hSw); go_simp; try (with_reducible rfl))
  try simp only [Act.put]
  refine MAny.ready (rs := [3]) (by kernel_rfl) (by simp) ?_
  refine MReady.cons rfl (fun K hK => ?_) MReady.nil
  go_simp
  go_wp2_with (go_at_call 48; refine (HD.out W0 D.src).mono ?_; rintro e W1 ⟨v3, rfl, hsx, hGx⟩)
  have D := D.call hsx hGx
  clear hsx
  have hHeld := And.intro D.l0 D.l1
  refine hK.out _ _ (.inr hHeld) ?_
  clear hK K
  refine MAny.ready (rs := [6]) (by kernel_rfl) (by simp) ?_
  refine MReady.cons rfl (fun K hK => ?_) MReady.nil
  go_simp
  go_wp2_with (go_at_call 48; refine (HD.out W1 D.src).mono ?_; rintro e W2 ⟨v6, rfl, hsx, hGx⟩)
  have D := D.call hsx hGx
  clear hsx
  have hHeld := And.intro D.l0 D.l1
  refine hK.out _ _ (.inr hHeld) ?_
  clear hK K
  have r0 : W2.cell? ⟨w.heap.size, 0, none⟩ = some (.slice none 0 0) := D.res.cellAt 0 (by decide)
  have r1 : W2.cell? ⟨w.heap.size, 1, none⟩ = some (.slice none 0 0) := D.res.cellAt 1 (by decide)
  have y0 : ∀ a, (W2.setCell ⟨w.heap.size, 0, none⟩ a).cell? ⟨w.heap.size, 0, none⟩ = some a := fun a => World.cell?_setCell_same _ _ _ r0
  have y1 : ∀ a c, ((W2.setCell ⟨w.heap.size, 0, none⟩ a).setCell ⟨w.heap.size, 1, none⟩ c).cell? ⟨w.heap.size, 1, none⟩ = some c := fun a c => World.cell?_setCell_same _ _ _ ((cell_set_other (by simp)).trans r1)
  have y2 : ∀ a c, ((W2.setCell ⟨w.heap.size, 0, none⟩ a).setCell ⟨w.heap.size, 1, none⟩ c).cell? ⟨w.heap.size, 0, none⟩ = some a := fun a c => (cell_set_other (by simp)).trans (y0 a)
  have f0 := D.res.frozenAt 0
  have f1 := D.res.frozenAt 1
  have hF := D.fin hB1 (.slice a0 ns.length c0) (.slice a1 ws.length c1)
  have hH2 : ((W2.setCell ⟨w.heap.size, 0, none⟩ (.slice a0 ns.length c0)).setCell ⟨w.heap.size, 1, none⟩ (.slice a1 ws.length c1)).cell? ⟨lb, 0, none⟩ = some (.slice a0 ns.length c0) ∧ ((W2.setCell ⟨w.heap.size, 0, none⟩ (.slice a0 ns.length c0)).setCell ⟨w.heap.size, 1, none⟩ (.slice a1 ws.length c1)).cell? ⟨lb, 1, none⟩ = some (.slice a1 ws.length c1) := by
    exact ⟨(cell_set_other (by simp)).trans ((cell_set_other (by simp)).trans D.l0), (cell_set_other (by simp)).trans ((cell_set_other (by simp)).trans D.l1)⟩
  have HF := Lib.hid hF
  clear hF
  refine MAny.ready (rs := [7]) (by kernel_rfl) (by simp) ?_
  refine MReady.cons rfl (fun K hK => ?_) MReady.nil
  go_simp
  refine hK.out _ _ (.inr hH2) ?_
  clear hK K
  refine MAny.ready (rs := [8]) (by kernel_rfl) (by simp) ?_
  refine MReady.cons rfl (fun K hK => ?_) MReady.nil
  go_simp
  refine hK.out _ _ (.inr hH2) ?_
  clear hK K
  refine MAny.ready (rs := [9]) (by kernel_rfl) (by simp) ?_
  refine MReady.cons rfl (fun K hK => ?_) MReady.nil
  go_simp
  refine hK.out _ _ (.inl rfl) ?_
  clear hK K
  refine MAny.done (by kernel_rfl) ?_ _
  try simp only [List.getElem_toArray, List.getElem_cons_succ, List.getElem_cons_zero]
  go_wp2
  refine bodyPost_ret_by (v := .tuple #[.agg #[.slice a0 ns.length c0, .slice a1 ws.length c1], .int .i64 v3, .int .i64 v6]) ?_ rfl ?_
  · simp [results, go_sem, y1, y2]
  · exact ⟨a0, a1, c0, c1, ns, ws, _, _, rfl, HF.out.1.base hw2, HF.out.2⟩
set_option maxRecDepth 100000 in
set_option maxHeartbeats 8000000 in
theorem drawWithin_any (cs : Option Addr) (cap : Nat) (bs : List Int) (w : World) (hx : Rd encB w cs bs) (hb : ∀ m ∈ bs, goodB m) (hl : bs.length ≤ 4096) :
    Calls Tryd.prog 20 #[.slice cs bs.length cap] w fun e w' => ∃ (a0 a1 : Option Addr) (c0 c1 : Nat) (ns : List ByteArray) (ws : List Wy) (x y : Int), e = .returned (.tuple #[.agg #[.slice a0 ns.length c0, .slice a1 ws.length c1], .int .i64 x, .int .i64 y]) ∧ LandD w.heap.size w' a0 a1 c0 c1 ns ws ∧ Below w.heap.size w w' := by
  have hr1 : (w.alloc (.cells #[.slice none 0 0, .slice none 0 0] 27)).ownsRow w.heap.size 27 1 (.slice (some ⟨w.heap.size, 0, none⟩) 2 2) 2 [.slice none 0 0, .slice none 0 0] := ⟨rfl, .inr ⟨w.heap.size, 2, #[.slice none 0 0, .slice none 0 0], rfl, Nat.le_refl _, heap_alloc_new w _, by decide, by decide, rfl, rfl⟩⟩
  generalize hW1 : w.alloc (.cells #[.slice none 0 0, .slice none 0 0] 27) = w1 at hr1
  have hB1 : Below w.heap.size w w1 := by rw [← hW1]; exact (Below.refl _ _).alloc (Nat.le_refl _) _
  have hrl := (own_lt hr1).2
  have hx1 := hx.below hB1
  go_enter Tryd.func20, Tryd.ntmps20
  go_wp2_with fail
  clear hW1
  refine (l01From_any cs cap bs w1 hx1 hb).mono ?_
  rintro e w2 ⟨p, rfl, hs⟩
  have res := own_below hr1 hs.base
  have hpl := hs.lt
  have hlt := Nat.lt_of_lt_of_le hrl hpl.1
  go_wp2_with fail
  refine (l14Draw_any w1 cs cap bs p w2 hx1 hb hl hs).mono ?_
  rintro e w3 ⟨a0, a1, c0, c1, ns, ws, rfl, h1, h2, h3, hs, hG, h4, h5⟩
  have hL : LandD w2.heap.size w3 a0 a1 c0 c1 ns ws := ⟨h1, h2, h3, h4, h5⟩
  have res := own_keepOther res hG (Nat.ne_of_lt hlt)
  clear h1 h2 h3 h4 h5 hr1
  generalize hW4 : w3.alloc (.cells #[.slice a0 ns.length c0, .slice a1 ws.length c1] 27) = w4
  have hB4 : Below w3.heap.size w3 w4 := by rw [← hW4]; exact (Below.refl _ _).alloc (Nat.le_refl _) _
  have m0 : w4.cell? ⟨w3.heap.size, 0, none⟩ = some (.slice a0 ns.length c0) := by rw [← hW4]; exact World.cell?_alloc_at _ _ _ _ rfl
  have m1 : w4.cell? ⟨w3.heap.size, 1, none⟩ = some (.slice a1 ws.length c1) := by rw [← hW4]; exact World.cell?_alloc_at _ _ _ _ rfl
  have hm : w3.heap.size < w4.heap.size := by rw [← hW4]; simp
  have hs := hs.below hB4
  have hL := hL.below hB4
  have res := own_below res hB4
  have hw32 := hG.size
  have D : DtS w w1 cs cap bs p w3.heap.size w2.heap.size a0 a1 c0 c1 ns ws w4 := ⟨hs, res, hL, m0, m1, by omega, hm, hpl.2, hlt⟩
  have HN := Lib.hid (fun n W hn1 hn2 hs => l01Next_any w1 cs cap bs p n W hx1 hb hl hn1 hn2 hs)
  have HD := Lib.hid (fun W hs => l14DrawPlace_any w1 cs cap bs p a0 a1 ns.length ws.length c0 c1 W hx1 hb hl hs (by have := hL.1; omega))
  have HP := Lib.hid (fun a ca xs W hs hxs h1 h2 => l01Pick_any w1 cs cap bs p a ca xs W hx1 hb hl hs hxs h1 h2)
  have hw2 : w.heap.size ≤ w2.heap.size := by omega
  clear hB4 m0 m1 hm hs hL res hG
  go_upto_region 3 with (fail)
  clear hW4
  generalize w3.heap.size = lb at D ⊢
  have hpw := D.hlb
  refine MAny.region (S := fun w' => w'.cell? ⟨lb, 0, none⟩ = some (.slice a0 ns.length c0) ∧ w'.cell? ⟨lb, 1, none⟩ = some (.slice a1 ws.length c1)) (last := 16) (by kernel_rfl) ?_
  have D := D.below (Below.refl _ w4).drew
  generalize w4.drew = W0 at D ⊢
  have hHeld := And.intro D.l0 D.l1
  have hpz := D.src.lt.2
  refine MAny.take (i := 0) (v := ?_) rfl (by kernel_rfl) (by kernel_rfl) (by kernel_rfl) (fun _ _ _ h => h) (by kernel_rfl) (Or.inl ⟨by rfl, ?_⟩) (by assumption) ?_
  rotate_left
  · (intro w' hSw; (try dsimp only at hSw); go_simp; try (with_reducible rfl))
  try simp only [Act.put, List.setIfInBounds_toArray]
  refine MAny.take (i := 1) (v := ?_) rfl (by kernel_rfl) (by kernel_rfl) (by kernel_rfl) (fun _ _ _ h => h) (by kernel_rfl) (Or.inl ⟨by rfl, ?_⟩) (by assumption) ?_
  rotate_left
  · (intro w' hSw; (try dsimp only at hSw); go_simp; try (with_reducible rfl))
  try simp only [Act.put]
  refine MAny.take (i := 2) (v := ?_) rfl (by kernel_rfl) (by kernel_rfl) (by kernel_rfl) (fun _ _ _ h => h) (by kernel_rfl) (Or.inl ⟨by rfl, ?_⟩) (by assumption) ?_
  rotate_left
  · (intro w' hSw; (try dsimp only at hSw); go_simp; try (with_reducible rfl))
  try simp only [Act.put]
  refine MAny.take (i := 4) (v := ?_) rfl (by kernel_rfl) (by kernel_rfl) (by kernel_rfl) (fun _ _ _ h => h) (by kernel_rfl) (Or.inl ⟨by rfl, ?_⟩) (by assumption) ?_
  rotate_left
  · (intro w' hSw; (try dsimp only at hSw); go_simp; try (with_reducible rfl))
  try simp only [Act.put]
  refine MAny.take (i := 5) (v := ?_) rfl (by kernel_rfl) (by kernel_rfl) (by kernel_rfl) (fun _ _ _ h => h) (by kernel_rfl) (Or.inl ⟨by rfl, ?_⟩) (by assumption) ?_
  rotate_left
  · (intro w' hSw; (try dsimp only at hSw); go_simp; try (with_reducible rfl))
  try simp only [Act.put]
  refine MAny.take (i := 7) (v := ?_) rfl (by kernel_rfl) (by kernel_rfl) (by kernel_rfl) (fun _ _ _ h => h) (by kernel_rfl) (Or.inl ⟨by rfl, ?_⟩) (by assumption) ?_
  rotate_left
  · (intro w' hSw; (try dsimp only at hSw); go_simp; try (with_reducible rfl))
  try simp only [Act.put]
  refine MAny.take (i := 9) (v := ?_) rfl (by kernel_rfl) (by kernel_rfl) (by kernel_rfl) (fun _ _ _ h => h) (by kernel_rfl) (Or.inl ⟨by rfl, ?_⟩) (by assumption) ?_
  rotate_left
  · (intro w' hSw; (try dsimp only at hSw); go_simp; try (with_reducible rfl))
  try simp only [Act.put]
  refine MAny.ready (rs := [3, 10]) (by kernel_rfl) (by simp) ?_
  refine MReady.cons rfl (fun K hK => ?_) (MReady.cons rfl (fun K hK => ?_) MReady.nil)
  · go_simp
    go_wp2_with (go_at_call 48; refine (HD.out W0 D.src).mono ?_; rintro e W0c ⟨v3, rfl, hsx, hGx⟩)
    have D := D.call hsx hGx
    clear hsx
    have hHeld := And.intro D.l0 D.l1
    have hpz := Nat.lt_of_lt_of_le hpz hGx.size
    clear hGx
    refine hK.out _ _ (.inr hHeld) ?_
    clear hK K
    refine MAny.ready (rs := [6, 10]) (by kernel_rfl) (by simp) ?_
    refine MReady.cons rfl (fun K hK => ?_) (MReady.cons rfl (fun K hK => ?_) MReady.nil)
    · go_simp
      go_wp2_with (go_at_call 44; refine (HN.out 20 W0c (by decide) (by decide) D.src).mono ?_; rintro e W0cc ⟨v6, rfl, v6a, v6b, hsx, hGx⟩)
      have D := D.call hsx hGx
      clear hsx
      have hHeld := And.intro D.l0 D.l1
      have hpz := Nat.lt_of_lt_of_le hpz hGx.size
      clear hGx
      refine hK.out _ _ (.inr hHeld) ?_
      clear hK K
      refine MAny.ready (rs := [8, 10]) (by kernel_rfl) (by simp) ?_
      refine MReady.cons rfl (fun K hK => ?_) (MReady.cons rfl (fun K hK => ?_) MReady.nil)
      · go_simp
        go_wp2_with (go_at_call 44; refine (HN.out 20 W0cc (by decide) (by decide) D.src).mono ?_; rintro e W0ccc ⟨v8, rfl, v8a, v8b, hsx, hGx⟩)
        have D := D.call hsx hGx
        clear hsx
        have hHeld := And.intro D.l0 D.l1
        have hpz := Nat.lt_of_lt_of_le hpz hGx.size
        clear hGx
        refine hK.out _ _ (.inr hHeld) ?_
        clear hK K
        refine MAny.ready (rs := [10]) (by kernel_rfl) (by simp) ?_
        refine MReady.cons rfl (fun K hK => ?_) MReady.nil
        go_simp
        have D := D.below ((Below.refl _ W0ccc).alloc (Nat.le_refl _) (.cells #[.int .i64 (-1), .int .i64 0, .int .i64 1000, .int .i64 1001] 2))
        have hpr10 := fun W' hG => rd_arr (w := W0ccc) (c := #[.int .i64 (-1), .int .i64 0, .int .i64 1000, .int .i64 1001]) (T := 2) (xs := [-1, 0, 1000, 1001]) (p := p) rfl hpz W' hG
        have hpz := Nat.lt_of_lt_of_le hpz (show W0ccc.heap.size ≤ (W0ccc.alloc (.cells #[.int .i64 (-1), .int .i64 0, .int .i64 1000, .int .i64 1001] 2)).heap.size by simp)
        generalize hWW : W0ccc.alloc (.cells #[.int .i64 (-1), .int .i64 0, .int .i64 1000, .int .i64 1001] 2) = W0cccb at D hpz hpr10 ⊢
        clear hWW
        have hHeld := And.intro D.l0 D.l1
        generalize W0ccc.heap.size = G10 at hpr10 ⊢
        refine hK.out _ _ (.inr hHeld) ?_
        clear hK K
        refine MAny.ready (rs := [11]) (by kernel_rfl) (by simp) ?_
        refine MReady.cons rfl (fun K hK => ?_) MReady.nil
        go_simp
        go_wp2_with (go_at_call 49; refine (HP.out (some ⟨G10, 0, none⟩) 4 [-1, 0, 1000, 1001] W0cccb D.src hpr10 (by simp) (by simp)).mono ?_; rintro e W0cccbp ⟨v11, rfl, _, hsx, hGx⟩)
        have D := D.call hsx hGx
        have hHeld := And.intro D.l0 D.l1
        have hpz := Nat.lt_of_lt_of_le hpz hGx.size
        clear hsx hGx hpr10
        refine hK.out _ _ (.inr hHeld) ?_
        clear hK K
        refine MAny.ready (rs := [12]) (by kernel_rfl) (by simp) ?_
        refine MReady.cons rfl (fun K hK => ?_) MReady.nil
        go_simp
        have D := D.below ((Below.refl _ W0cccbp).alloc (Nat.le_refl _) (.cells #[.int .i64 v6, .int .i64 v8, .int .i64 v11] 2))
        have hpr12 := fun W' hG => rd_arr (w := W0cccbp) (c := #[.int .i64 v6, .int .i64 v8, .int .i64 v11]) (T := 2) (xs := [v6, v8, v11]) (p := p) rfl hpz W' hG
        have hpz := Nat.lt_of_lt_of_le hpz (show W0cccbp.heap.size ≤ (W0cccbp.alloc (.cells #[.int .i64 v6, .int .i64 v8, .int .i64 v11] 2)).heap.size by simp)
        generalize hWW : W0cccbp.alloc (.cells #[.int .i64 v6, .int .i64 v8, .int .i64 v11] 2) = W0cccbq at D hpz hpr12 ⊢
        clear hWW
        have hHeld := And.intro D.l0 D.l1
        generalize W0cccbp.heap.size = G12 at hpr12 ⊢
        refine hK.out _ _ (.inr hHeld) ?_
        clear hK K
        refine MAny.ready (rs := [13]) (by kernel_rfl) (by simp) ?_
        refine MReady.cons rfl (fun K hK => ?_) MReady.nil
        go_simp
        go_wp2_with (go_at_call 49; refine (HP.out (some ⟨G12, 0, none⟩) 3 [v6, v8, v11] W0cccbq D.src hpr12 (by simp) (by simp)).mono ?_; rintro e W0cccbr ⟨v13, rfl, _, hsx, hGx⟩)
        have D := D.call hsx hGx
        have hHeld := And.intro D.l0 D.l1
        have hpz := Nat.lt_of_lt_of_le hpz hGx.size
        clear hsx hGx hpr12
        refine hK.out _ _ (.inr hHeld) ?_
        clear hK K
        have r0 : W0cccbr.cell? ⟨w.heap.size, 0, none⟩ = some (.slice none 0 0) := D.res.cellAt 0 (by decide)
        have r1 : W0cccbr.cell? ⟨w.heap.size, 1, none⟩ = some (.slice none 0 0) := D.res.cellAt 1 (by decide)
        have y0 : ∀ a, (W0cccbr.setCell ⟨w.heap.size, 0, none⟩ a).cell? ⟨w.heap.size, 0, none⟩ = some a := fun a => World.cell?_setCell_same _ _ _ r0
        have y1 : ∀ a c, ((W0cccbr.setCell ⟨w.heap.size, 0, none⟩ a).setCell ⟨w.heap.size, 1, none⟩ c).cell? ⟨w.heap.size, 1, none⟩ = some c := fun a c => World.cell?_setCell_same _ _ _ ((cell_set_other (by simp)).trans r1)
        have y2 : ∀ a c, ((W0cccbr.setCell ⟨w.heap.size, 0, none⟩ a).setCell ⟨w.heap.size, 1, none⟩ c).cell? ⟨w.heap.size, 0, none⟩ = some a := fun a c => (cell_set_other (by simp)).trans (y0 a)
        have f0 := D.res.frozenAt 0
        have f1 := D.res.frozenAt 1
        have hF := D.fin hB1 (.slice a0 ns.length c0) (.slice a1 ws.length c1)
        have hH2 : ((W0cccbr.setCell ⟨w.heap.size, 0, none⟩ (.slice a0 ns.length c0)).setCell ⟨w.heap.size, 1, none⟩ (.slice a1 ws.length c1)).cell? ⟨lb, 0, none⟩ = some (.slice a0 ns.length c0) ∧ ((W0cccbr.setCell ⟨w.heap.size, 0, none⟩ (.slice a0 ns.length c0)).setCell ⟨w.heap.size, 1, none⟩ (.slice a1 ws.length c1)).cell? ⟨lb, 1, none⟩ = some (.slice a1 ws.length c1) := by
          exact ⟨(cell_set_other (by simp)).trans ((cell_set_other (by simp)).trans D.l0), (cell_set_other (by simp)).trans ((cell_set_other (by simp)).trans D.l1)⟩
        have HF := Lib.hid hF
        clear hF
        refine MAny.ready (rs := [14]) (by kernel_rfl) (by simp) ?_
        refine MReady.cons rfl (fun K hK => ?_) MReady.nil
        go_simp
        refine hK.out _ _ (.inr hH2) ?_
        clear hK K
        refine MAny.ready (rs := [15]) (by kernel_rfl) (by simp) ?_
        refine MReady.cons rfl (fun K hK => ?_) MReady.nil
        go_simp
        refine hK.out _ _ (.inr hH2) ?_
        clear hK K
        refine MAny.ready (rs := [16]) (by kernel_rfl) (by simp) ?_
        refine MReady.cons rfl (fun K hK => ?_) MReady.nil
        go_simp
        refine hK.out _ _ (.inl rfl) ?_
        clear hK K
        refine MAny.done (by kernel_rfl) ?_ _
        try simp only [List.getElem_toArray, List.getElem_cons_succ, List.getElem_cons_zero]
        go_wp2
        refine bodyPost_ret_by (v := .tuple #[.agg #[.slice a0 ns.length c0, .slice a1 ws.length c1], .int .i64 v3, .int .i64 v13]) ?_ rfl ?_
        · simp [results, go_sem, y1, y2]
        · exact ⟨a0, a1, c0, c1, ns, ws, _, _, rfl, HF.out.1.base hw2, HF.out.2⟩
      · go_simp
        have D := D.below ((Below.refl _ W0cc).alloc (Nat.le_refl _) (.cells #[.int .i64 (-1), .int .i64 0, .int .i64 1000, .int .i64 1001] 2))
        have hpr10 := fun W' hG => rd_arr (w := W0cc) (c := #[.int .i64 (-1), .int .i64 0, .int .i64 1000, .int .i64 1001]) (T := 2) (xs := [-1, 0, 1000, 1001]) (p := p) rfl hpz W' hG
        have hpz := Nat.lt_of_lt_of_le hpz (show W0cc.heap.size ≤ (W0cc.alloc (.cells #[.int .i64 (-1), .int .i64 0, .int .i64 1000, .int .i64 1001] 2)).heap.size by simp)
        generalize hWW : W0cc.alloc (.cells #[.int .i64 (-1), .int .i64 0, .int .i64 1000, .int .i64 1001] 2) = W0ccb at D hpz hpr10 ⊢
        clear hWW
        have hHeld := And.intro D.l0 D.l1
        generalize W0cc.heap.size = G10 at hpr10 ⊢
        refine hK.out _ _ (.inr hHeld) ?_
        clear hK K
        refine MAny.ready (rs := [8]) (by kernel_rfl) (by simp) ?_
        refine MReady.cons rfl (fun K hK => ?_) MReady.nil
        go_simp
        go_wp2_with (go_at_call 44; refine (HN.out 20 W0ccb (by decide) (by decide) D.src).mono ?_; rintro e W0ccbc ⟨v8, rfl, v8a, v8b, hsx, hGx⟩)
        have D := D.call hsx hGx
        clear hsx
        have hHeld := And.intro D.l0 D.l1
        have hpr10 := fun W' hG => hpr10 W' (gT hGx hG)
        have hpz := Nat.lt_of_lt_of_le hpz hGx.size
        clear hGx
        refine hK.out _ _ (.inr hHeld) ?_
        clear hK K
        refine MAny.ready (rs := [11]) (by kernel_rfl) (by simp) ?_
        refine MReady.cons rfl (fun K hK => ?_) MReady.nil
        go_simp
        go_wp2_with (go_at_call 49; refine (HP.out (some ⟨G10, 0, none⟩) 4 [-1, 0, 1000, 1001] W0ccbc D.src hpr10 (by simp) (by simp)).mono ?_; rintro e W0ccbcp ⟨v11, rfl, _, hsx, hGx⟩)
        have D := D.call hsx hGx
        have hHeld := And.intro D.l0 D.l1
        have hpz := Nat.lt_of_lt_of_le hpz hGx.size
        clear hsx hGx hpr10
        refine hK.out _ _ (.inr hHeld) ?_
        clear hK K
        refine MAny.ready (rs := [12]) (by kernel_rfl) (by simp) ?_
        refine MReady.cons rfl (fun K hK => ?_) MReady.nil
        go_simp
        have D := D.below ((Below.refl _ W0ccbcp).alloc (Nat.le_refl _) (.cells #[.int .i64 v6, .int .i64 v8, .int .i64 v11] 2))
        have hpr12 := fun W' hG => rd_arr (w := W0ccbcp) (c := #[.int .i64 v6, .int .i64 v8, .int .i64 v11]) (T := 2) (xs := [v6, v8, v11]) (p := p) rfl hpz W' hG
        have hpz := Nat.lt_of_lt_of_le hpz (show W0ccbcp.heap.size ≤ (W0ccbcp.alloc (.cells #[.int .i64 v6, .int .i64 v8, .int .i64 v11] 2)).heap.size by simp)
        generalize hWW : W0ccbcp.alloc (.cells #[.int .i64 v6, .int .i64 v8, .int .i64 v11] 2) = W0ccbcq at D hpz hpr12 ⊢
        clear hWW
        have hHeld := And.intro D.l0 D.l1
        generalize W0ccbcp.heap.size = G12 at hpr12 ⊢
        refine hK.out _ _ (.inr hHeld) ?_
        clear hK K
        refine MAny.ready (rs := [13]) (by kernel_rfl) (by simp) ?_
        refine MReady.cons rfl (fun K hK => ?_) MReady.nil
        go_simp
        go_wp2_with (go_at_call 49; refine (HP.out (some ⟨G12, 0, none⟩) 3 [v6, v8, v11] W0ccbcq D.src hpr12 (by simp) (by simp)).mono ?_; rintro e W0ccbcr ⟨v13, rfl, _, hsx, hGx⟩)
        have D := D.call hsx hGx
        have hHeld := And.intro D.l0 D.l1
        have hpz := Nat.lt_of_lt_of_le hpz hGx.size
        clear hsx hGx hpr12
        refine hK.out _ _ (.inr hHeld) ?_
        clear hK K
        have r0 : W0ccbcr.cell? ⟨w.heap.size, 0, none⟩ = some (.slice none 0 0) := D.res.cellAt 0 (by decide)
        have r1 : W0ccbcr.cell? ⟨w.heap.size, 1, none⟩ = some (.slice none 0 0) := D.res.cellAt 1 (by decide)
        have y0 : ∀ a, (W0ccbcr.setCell ⟨w.heap.size, 0, none⟩ a).cell? ⟨w.heap.size, 0, none⟩ = some a := fun a => World.cell?_setCell_same _ _ _ r0
        have y1 : ∀ a c, ((W0ccbcr.setCell ⟨w.heap.size, 0, none⟩ a).setCell ⟨w.heap.size, 1, none⟩ c).cell? ⟨w.heap.size, 1, none⟩ = some c := fun a c => World.cell?_setCell_same _ _ _ ((cell_set_other (by simp)).trans r1)
        have y2 : ∀ a c, ((W0ccbcr.setCell ⟨w.heap.size, 0, none⟩ a).setCell ⟨w.heap.size, 1, none⟩ c).cell? ⟨w.heap.size, 0, none⟩ = some a := fun a c => (cell_set_other (by simp)).trans (y0 a)
        have f0 := D.res.frozenAt 0
        have f1 := D.res.frozenAt 1
        have hF := D.fin hB1 (.slice a0 ns.length c0) (.slice a1 ws.length c1)
        have hH2 : ((W0ccbcr.setCell ⟨w.heap.size, 0, none⟩ (.slice a0 ns.length c0)).setCell ⟨w.heap.size, 1, none⟩ (.slice a1 ws.length c1)).cell? ⟨lb, 0, none⟩ = some (.slice a0 ns.length c0) ∧ ((W0ccbcr.setCell ⟨w.heap.size, 0, none⟩ (.slice a0 ns.length c0)).setCell ⟨w.heap.size, 1, none⟩ (.slice a1 ws.length c1)).cell? ⟨lb, 1, none⟩ = some (.slice a1 ws.length c1) := by
          exact ⟨(cell_set_other (by simp)).trans ((cell_set_other (by simp)).trans D.l0), (cell_set_other (by simp)).trans ((cell_set_other (by simp)).trans D.l1)⟩
        have HF := Lib.hid hF
        clear hF
        refine MAny.ready (rs := [14]) (by kernel_rfl) (by simp) ?_
        refine MReady.cons rfl (fun K hK => ?_) MReady.nil
        go_simp
        refine hK.out _ _ (.inr hH2) ?_
        clear hK K
        refine MAny.ready (rs := [15]) (by kernel_rfl) (by simp) ?_
        refine MReady.cons rfl (fun K hK => ?_) MReady.nil
        go_simp
        refine hK.out _ _ (.inr hH2) ?_
        clear hK K
        refine MAny.ready (rs := [16]) (by kernel_rfl) (by simp) ?_
        refine MReady.cons rfl (fun K hK => ?_) MReady.nil
        go_simp
        refine hK.out _ _ (.inl rfl) ?_
        clear hK K
        refine MAny.done (by kernel_rfl) ?_ _
        try simp only [List.getElem_toArray, List.getElem_cons_succ, List.getElem_cons_zero]
        go_wp2
        refine bodyPost_ret_by (v := .tuple #[.agg #[.slice a0 ns.length c0, .slice a1 ws.length c1], .int .i64 v3, .int .i64 v13]) ?_ rfl ?_
        · simp [results, go_sem, y1, y2]
        · exact ⟨a0, a1, c0, c1, ns, ws, _, _, rfl, HF.out.1.base hw2, HF.out.2⟩
    · go_simp
      have D := D.below ((Below.refl _ W0c).alloc (Nat.le_refl _) (.cells #[.int .i64 (-1), .int .i64 0, .int .i64 1000, .int .i64 1001] 2))
      have hpr10 := fun W' hG => rd_arr (w := W0c) (c := #[.int .i64 (-1), .int .i64 0, .int .i64 1000, .int .i64 1001]) (T := 2) (xs := [-1, 0, 1000, 1001]) (p := p) rfl hpz W' hG
      have hpz := Nat.lt_of_lt_of_le hpz (show W0c.heap.size ≤ (W0c.alloc (.cells #[.int .i64 (-1), .int .i64 0, .int .i64 1000, .int .i64 1001] 2)).heap.size by simp)
      generalize hWW : W0c.alloc (.cells #[.int .i64 (-1), .int .i64 0, .int .i64 1000, .int .i64 1001] 2) = W0cb at D hpz hpr10 ⊢
      clear hWW
      have hHeld := And.intro D.l0 D.l1
      generalize W0c.heap.size = G10 at hpr10 ⊢
      refine hK.out _ _ (.inr hHeld) ?_
      clear hK K
      refine MAny.ready (rs := [6]) (by kernel_rfl) (by simp) ?_
      refine MReady.cons rfl (fun K hK => ?_) MReady.nil
      go_simp
      go_wp2_with (go_at_call 44; refine (HN.out 20 W0cb (by decide) (by decide) D.src).mono ?_; rintro e W0cbc ⟨v6, rfl, v6a, v6b, hsx, hGx⟩)
      have D := D.call hsx hGx
      clear hsx
      have hHeld := And.intro D.l0 D.l1
      have hpr10 := fun W' hG => hpr10 W' (gT hGx hG)
      have hpz := Nat.lt_of_lt_of_le hpz hGx.size
      clear hGx
      refine hK.out _ _ (.inr hHeld) ?_
      clear hK K
      refine MAny.ready (rs := [8]) (by kernel_rfl) (by simp) ?_
      refine MReady.cons rfl (fun K hK => ?_) MReady.nil
      go_simp
      go_wp2_with (go_at_call 44; refine (HN.out 20 W0cbc (by decide) (by decide) D.src).mono ?_; rintro e W0cbcc ⟨v8, rfl, v8a, v8b, hsx, hGx⟩)
      have D := D.call hsx hGx
      clear hsx
      have hHeld := And.intro D.l0 D.l1
      have hpr10 := fun W' hG => hpr10 W' (gT hGx hG)
      have hpz := Nat.lt_of_lt_of_le hpz hGx.size
      clear hGx
      refine hK.out _ _ (.inr hHeld) ?_
      clear hK K
      refine MAny.ready (rs := [11]) (by kernel_rfl) (by simp) ?_
      refine MReady.cons rfl (fun K hK => ?_) MReady.nil
      go_simp
      go_wp2_with (go_at_call 49; refine (HP.out (some ⟨G10, 0, none⟩) 4 [-1, 0, 1000, 1001] W0cbcc D.src hpr10 (by simp) (by simp)).mono ?_; rintro e W0cbccp ⟨v11, rfl, _, hsx, hGx⟩)
      have D := D.call hsx hGx
      have hHeld := And.intro D.l0 D.l1
      have hpz := Nat.lt_of_lt_of_le hpz hGx.size
      clear hsx hGx hpr10
      refine hK.out _ _ (.inr hHeld) ?_
      clear hK K
      refine MAny.ready (rs := [12]) (by kernel_rfl) (by simp) ?_
      refine MReady.cons rfl (fun K hK => ?_) MReady.nil
      go_simp
      have D := D.below ((Below.refl _ W0cbccp).alloc (Nat.le_refl _) (.cells #[.int .i64 v6, .int .i64 v8, .int .i64 v11] 2))
      have hpr12 := fun W' hG => rd_arr (w := W0cbccp) (c := #[.int .i64 v6, .int .i64 v8, .int .i64 v11]) (T := 2) (xs := [v6, v8, v11]) (p := p) rfl hpz W' hG
      have hpz := Nat.lt_of_lt_of_le hpz (show W0cbccp.heap.size ≤ (W0cbccp.alloc (.cells #[.int .i64 v6, .int .i64 v8, .int .i64 v11] 2)).heap.size by simp)
      generalize hWW : W0cbccp.alloc (.cells #[.int .i64 v6, .int .i64 v8, .int .i64 v11] 2) = W0cbccq at D hpz hpr12 ⊢
      clear hWW
      have hHeld := And.intro D.l0 D.l1
      generalize W0cbccp.heap.size = G12 at hpr12 ⊢
      refine hK.out _ _ (.inr hHeld) ?_
      clear hK K
      refine MAny.ready (rs := [13]) (by kernel_rfl) (by simp) ?_
      refine MReady.cons rfl (fun K hK => ?_) MReady.nil
      go_simp
      go_wp2_with (go_at_call 49; refine (HP.out (some ⟨G12, 0, none⟩) 3 [v6, v8, v11] W0cbccq D.src hpr12 (by simp) (by simp)).mono ?_; rintro e W0cbccr ⟨v13, rfl, _, hsx, hGx⟩)
      have D := D.call hsx hGx
      have hHeld := And.intro D.l0 D.l1
      have hpz := Nat.lt_of_lt_of_le hpz hGx.size
      clear hsx hGx hpr12
      refine hK.out _ _ (.inr hHeld) ?_
      clear hK K
      have r0 : W0cbccr.cell? ⟨w.heap.size, 0, none⟩ = some (.slice none 0 0) := D.res.cellAt 0 (by decide)
      have r1 : W0cbccr.cell? ⟨w.heap.size, 1, none⟩ = some (.slice none 0 0) := D.res.cellAt 1 (by decide)
      have y0 : ∀ a, (W0cbccr.setCell ⟨w.heap.size, 0, none⟩ a).cell? ⟨w.heap.size, 0, none⟩ = some a := fun a => World.cell?_setCell_same _ _ _ r0
      have y1 : ∀ a c, ((W0cbccr.setCell ⟨w.heap.size, 0, none⟩ a).setCell ⟨w.heap.size, 1, none⟩ c).cell? ⟨w.heap.size, 1, none⟩ = some c := fun a c => World.cell?_setCell_same _ _ _ ((cell_set_other (by simp)).trans r1)
      have y2 : ∀ a c, ((W0cbccr.setCell ⟨w.heap.size, 0, none⟩ a).setCell ⟨w.heap.size, 1, none⟩ c).cell? ⟨w.heap.size, 0, none⟩ = some a := fun a c => (cell_set_other (by simp)).trans (y0 a)
      have f0 := D.res.frozenAt 0
      have f1 := D.res.frozenAt 1
      have hF := D.fin hB1 (.slice a0 ns.length c0) (.slice a1 ws.length c1)
      have hH2 : ((W0cbccr.setCell ⟨w.heap.size, 0, none⟩ (.slice a0 ns.length c0)).setCell ⟨w.heap.size, 1, none⟩ (.slice a1 ws.length c1)).cell? ⟨lb, 0, none⟩ = some (.slice a0 ns.length c0) ∧ ((W0cbccr.setCell ⟨w.heap.size, 0, none⟩ (.slice a0 ns.length c0)).setCell ⟨w.heap.size, 1, none⟩ (.slice a1 ws.length c1)).cell? ⟨lb, 1, none⟩ = some (.slice a1 ws.length c1) := by
        exact ⟨(cell_set_other (by simp)).trans ((cell_set_other (by simp)).trans D.l0), (cell_set_other (by simp)).trans ((cell_set_other (by simp)).trans D.l1)⟩
      have HF := Lib.hid hF
      clear hF
      refine MAny.ready (rs := [14]) (by kernel_rfl) (by simp) ?_
      refine MReady.cons rfl (fun K hK => ?_) MReady.nil
      go_simp
      refine hK.out _ _ (.inr hH2) ?_
      clear hK K
      refine MAny.ready (rs := [15]) (by kernel_rfl) (by simp) ?_
      refine MReady.cons rfl (fun K hK => ?_) MReady.nil
      go_simp
      refine hK.out _ _ (.inr hH2) ?_
      clear hK K
      refine MAny.ready (rs := [16]) (by kernel_rfl) (by simp) ?_
      refine MReady.cons rfl (fun K hK => ?_) MReady.nil
      go_simp
      refine hK.out _ _ (.inl rfl) ?_
      clear hK K
      refine MAny.done (by kernel_rfl) ?_ _
      try simp only [List.getElem_toArray, List.getElem_cons_succ, List.getElem_cons_zero]
      go_wp2
      refine bodyPost_ret_by (v := .tuple #[.agg #[.slice a0 ns.length c0, .slice a1 ws.length c1], .int .i64 v3, .int .i64 v13]) ?_ rfl ?_
      · simp [results, go_sem, y1, y2]
      · exact ⟨a0, a1, c0, c1, ns, ws, _, _, rfl, HF.out.1.base hw2, HF.out.2⟩
  · go_simp
    have D := D.below ((Below.refl _ W0).alloc (Nat.le_refl _) (.cells #[.int .i64 (-1), .int .i64 0, .int .i64 1000, .int .i64 1001] 2))
    have hpr10 := fun W' hG => rd_arr (w := W0) (c := #[.int .i64 (-1), .int .i64 0, .int .i64 1000, .int .i64 1001]) (T := 2) (xs := [-1, 0, 1000, 1001]) (p := p) rfl hpz W' hG
    have hpz := Nat.lt_of_lt_of_le hpz (show W0.heap.size ≤ (W0.alloc (.cells #[.int .i64 (-1), .int .i64 0, .int .i64 1000, .int .i64 1001] 2)).heap.size by simp)
    generalize hWW : W0.alloc (.cells #[.int .i64 (-1), .int .i64 0, .int .i64 1000, .int .i64 1001] 2) = W0b at D hpz hpr10 ⊢
    clear hWW
    have hHeld := And.intro D.l0 D.l1
    generalize W0.heap.size = G10 at hpr10 ⊢
    refine hK.out _ _ (.inr hHeld) ?_
    clear hK K
    refine MAny.ready (rs := [3]) (by kernel_rfl) (by simp) ?_
    refine MReady.cons rfl (fun K hK => ?_) MReady.nil
    go_simp
    go_wp2_with (go_at_call 48; refine (HD.out W0b D.src).mono ?_; rintro e W0bc ⟨v3, rfl, hsx, hGx⟩)
    have D := D.call hsx hGx
    clear hsx
    have hHeld := And.intro D.l0 D.l1
    have hpr10 := fun W' hG => hpr10 W' (gT hGx hG)
    have hpz := Nat.lt_of_lt_of_le hpz hGx.size
    clear hGx
    refine hK.out _ _ (.inr hHeld) ?_
    clear hK K
    refine MAny.ready (rs := [6]) (by kernel_rfl) (by simp) ?_
    refine MReady.cons rfl (fun K hK => ?_) MReady.nil
    go_simp
    go_wp2_with (go_at_call 44; refine (HN.out 20 W0bc (by decide) (by decide) D.src).mono ?_; rintro e W0bcc ⟨v6, rfl, v6a, v6b, hsx, hGx⟩)
    have D := D.call hsx hGx
    clear hsx
    have hHeld := And.intro D.l0 D.l1
    have hpr10 := fun W' hG => hpr10 W' (gT hGx hG)
    have hpz := Nat.lt_of_lt_of_le hpz hGx.size
    clear hGx
    refine hK.out _ _ (.inr hHeld) ?_
    clear hK K
    refine MAny.ready (rs := [8]) (by kernel_rfl) (by simp) ?_
    refine MReady.cons rfl (fun K hK => ?_) MReady.nil
    go_simp
    go_wp2_with (go_at_call 44; refine (HN.out 20 W0bcc (by decide) (by decide) D.src).mono ?_; rintro e W0bccc ⟨v8, rfl, v8a, v8b, hsx, hGx⟩)
    have D := D.call hsx hGx
    clear hsx
    have hHeld := And.intro D.l0 D.l1
    have hpr10 := fun W' hG => hpr10 W' (gT hGx hG)
    have hpz := Nat.lt_of_lt_of_le hpz hGx.size
    clear hGx
    refine hK.out _ _ (.inr hHeld) ?_
    clear hK K
    refine MAny.ready (rs := [11]) (by kernel_rfl) (by simp) ?_
    refine MReady.cons rfl (fun K hK => ?_) MReady.nil
    go_simp
    go_wp2_with (go_at_call 49; refine (HP.out (some ⟨G10, 0, none⟩) 4 [-1, 0, 1000, 1001] W0bccc D.src hpr10 (by simp) (by simp)).mono ?_; rintro e W0bcccp ⟨v11, rfl, _, hsx, hGx⟩)
    have D := D.call hsx hGx
    have hHeld := And.intro D.l0 D.l1
    have hpz := Nat.lt_of_lt_of_le hpz hGx.size
    clear hsx hGx hpr10
    refine hK.out _ _ (.inr hHeld) ?_
    clear hK K
    refine MAny.ready (rs := [12]) (by kernel_rfl) (by simp) ?_
    refine MReady.cons rfl (fun K hK => ?_) MReady.nil
    go_simp
    have D := D.below ((Below.refl _ W0bcccp).alloc (Nat.le_refl _) (.cells #[.int .i64 v6, .int .i64 v8, .int .i64 v11] 2))
    have hpr12 := fun W' hG => rd_arr (w := W0bcccp) (c := #[.int .i64 v6, .int .i64 v8, .int .i64 v11]) (T := 2) (xs := [v6, v8, v11]) (p := p) rfl hpz W' hG
    have hpz := Nat.lt_of_lt_of_le hpz (show W0bcccp.heap.size ≤ (W0bcccp.alloc (.cells #[.int .i64 v6, .int .i64 v8, .int .i64 v11] 2)).heap.size by simp)
    generalize hWW : W0bcccp.alloc (.cells #[.int .i64 v6, .int .i64 v8, .int .i64 v11] 2) = W0bcccq at D hpz hpr12 ⊢
    clear hWW
    have hHeld := And.intro D.l0 D.l1
    generalize W0bcccp.heap.size = G12 at hpr12 ⊢
    refine hK.out _ _ (.inr hHeld) ?_
    clear hK K
    refine MAny.ready (rs := [13]) (by kernel_rfl) (by simp) ?_
    refine MReady.cons rfl (fun K hK => ?_) MReady.nil
    go_simp
    go_wp2_with (go_at_call 49; refine (HP.out (some ⟨G12, 0, none⟩) 3 [v6, v8, v11] W0bcccq D.src hpr12 (by simp) (by simp)).mono ?_; rintro e W0bcccr ⟨v13, rfl, _, hsx, hGx⟩)
    have D := D.call hsx hGx
    have hHeld := And.intro D.l0 D.l1
    have hpz := Nat.lt_of_lt_of_le hpz hGx.size
    clear hsx hGx hpr12
    refine hK.out _ _ (.inr hHeld) ?_
    clear hK K
    have r0 : W0bcccr.cell? ⟨w.heap.size, 0, none⟩ = some (.slice none 0 0) := D.res.cellAt 0 (by decide)
    have r1 : W0bcccr.cell? ⟨w.heap.size, 1, none⟩ = some (.slice none 0 0) := D.res.cellAt 1 (by decide)
    have y0 : ∀ a, (W0bcccr.setCell ⟨w.heap.size, 0, none⟩ a).cell? ⟨w.heap.size, 0, none⟩ = some a := fun a => World.cell?_setCell_same _ _ _ r0
    have y1 : ∀ a c, ((W0bcccr.setCell ⟨w.heap.size, 0, none⟩ a).setCell ⟨w.heap.size, 1, none⟩ c).cell? ⟨w.heap.size, 1, none⟩ = some c := fun a c => World.cell?_setCell_same _ _ _ ((cell_set_other (by simp)).trans r1)
    have y2 : ∀ a c, ((W0bcccr.setCell ⟨w.heap.size, 0, none⟩ a).setCell ⟨w.heap.size, 1, none⟩ c).cell? ⟨w.heap.size, 0, none⟩ = some a := fun a c => (cell_set_other (by simp)).trans (y0 a)
    have f0 := D.res.frozenAt 0
    have f1 := D.res.frozenAt 1
    have hF := D.fin hB1 (.slice a0 ns.length c0) (.slice a1 ws.length c1)
    have hH2 : ((W0bcccr.setCell ⟨w.heap.size, 0, none⟩ (.slice a0 ns.length c0)).setCell ⟨w.heap.size, 1, none⟩ (.slice a1 ws.length c1)).cell? ⟨lb, 0, none⟩ = some (.slice a0 ns.length c0) ∧ ((W0bcccr.setCell ⟨w.heap.size, 0, none⟩ (.slice a0 ns.length c0)).setCell ⟨w.heap.size, 1, none⟩ (.slice a1 ws.length c1)).cell? ⟨lb, 1, none⟩ = some (.slice a1 ws.length c1) := by
      exact ⟨(cell_set_other (by simp)).trans ((cell_set_other (by simp)).trans D.l0), (cell_set_other (by simp)).trans ((cell_set_other (by simp)).trans D.l1)⟩
    have HF := Lib.hid hF
    clear hF
    refine MAny.ready (rs := [14]) (by kernel_rfl) (by simp) ?_
    refine MReady.cons rfl (fun K hK => ?_) MReady.nil
    go_simp
    refine hK.out _ _ (.inr hH2) ?_
    clear hK K
    refine MAny.ready (rs := [15]) (by kernel_rfl) (by simp) ?_
    refine MReady.cons rfl (fun K hK => ?_) MReady.nil
    go_simp
    refine hK.out _ _ (.inr hH2) ?_
    clear hK K
    refine MAny.ready (rs := [16]) (by kernel_rfl) (by simp) ?_
    refine MReady.cons rfl (fun K hK => ?_) MReady.nil
    go_simp
    refine hK.out _ _ (.inl rfl) ?_
    clear hK K
    refine MAny.done (by kernel_rfl) ?_ _
    try simp only [List.getElem_toArray, List.getElem_cons_succ, List.getElem_cons_zero]
    go_wp2
    refine bodyPost_ret_by (v := .tuple #[.agg #[.slice a0 ns.length c0, .slice a1 ws.length c1], .int .i64 v3, .int .i64 v13]) ?_ rfl ?_
    · simp [results, go_sem, y1, y2]
    · exact ⟨a0, a1, c0, c1, ns, ws, _, _, rfl, HF.out.1.base hw2, HF.out.2⟩
end Go.Proofs.YtihmacmieofbgaaDoor
