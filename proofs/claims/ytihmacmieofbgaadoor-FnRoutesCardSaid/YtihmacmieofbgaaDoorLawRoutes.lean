/- Walk: the law FnRoutes. -/
import Derived.Test.YtihmacmieofbgaaDoorDrawR
import Derived.Test.YtihmacmieofbgaaDoorDice
import Derived.Test.YtihmacmieofbgaaDoorRtLaw
import Derived.Test.YtihmacmieofbgaaDoorRoute
import Derived.Test.YtihmacmieofbgaaDoorLandImpl
import Derived.Deep.RegionHeldLaw
namespace Go.Proofs.YtihmacmieofbgaaDoor
open Go.ChangeShapes Go.WideShapes Go.ChangeAt Go.RowKit Go.IntWalk

theorem own_capV {w : World} {B k n c : Nat} {E : TypeId} {a : Option Addr} {xs : List Value} (h : w.ownsRow B E k (.slice a n c) n xs) : n ≤ c ∧ c ≤ 9223372036854775807 := by
  rcases h.2 with ⟨e0, h0⟩ | ⟨g', cap', cur, e0, hb, hg, hn, hm, _⟩
  · injection e0 with _ e1 e2
    omega
  · injection e0 with _ _ e3
    subst e3
    exact ⟨hn, hm⟩
theorem LandD.args {B : Nat} {w : World} {a0 a1 : Option Addr} {c0 c1 : Nat} {ns : List ByteArray} {ws : List Wy} (h : LandD B w a0 a1 c0 c1 ns ws) :
    ns.length ≤ c0 ∧ c0 ≤ 9223372036854775807 ∧ ns.length ≤ 1048576 ∧ Rd encS w a0 ns ∧ (∀ m ∈ ns, m.size ≤ 1048576) ∧ ws.length ≤ 1048576 ∧ Rd encWy w a1 ws := by
  obtain ⟨h1, h2, h3, h4, h5⟩ := h
  have hc := own_capV h4
  exact ⟨hc.1, hc.2, by omega, Rd.of_own encS_len (by decide) h4, fun m hm => by have := h3 m hm; omega, by omega, Rd.of_own encWy_len (by decide) h5⟩

set_option maxRecDepth 100000 in
set_option maxHeartbeats 8000000 in
theorem lawRoutes_any (cs : Option Addr) (cap : Nat) (bs : List Int) (w : World) (_hl : bs.length ≤ maxLen) (hx : Rd encB w cs bs) (hb : ∀ m ∈ bs, goodB m) :
    Calls Tryd.prog 3 #[.slice cs bs.length cap] w fun e w' => e = .returned (.bool true) ∧ Below w.heap.size w w' := by
  have HBIG := Lib.hid (big_any cs cap bs.length w)
  by_cases hbig : 4096 < bs.length
  · have HBIG := Lib.hid ((show decide (4096 < bs.length) = true by simpa using hbig) ▸ HBIG.out)
    go_enter Tryd.func3, Tryd.ntmps3
    go_wp2_with fail
    refine HBIG.out.mono ?_
    rintro e w1 ⟨rfl, rfl⟩
    go_wp2
    go_ret
    exact ⟨rfl, Below.refl _ _⟩
  have HBIG := Lib.hid ((show decide (4096 < bs.length) = false by simpa using hbig) ▸ HBIG.out)
  have hl : bs.length ≤ 4096 := by omega
  have HDT := Lib.hid (drawRoute_any cs cap bs w hx hb hl)
  have HDU := Lib.hid (fun W (h : Below w.heap.size w W) => drawUseless_any cs cap bs W (hx.below h) hb hl)
  have HDN := Lib.hid (fun W (h : Below w.heap.size w W) => drawNamed_any cs cap bs W (hx.below h) hb hl)
  go_enter Tryd.func3, Tryd.ntmps3
  go_wp2_with fail
  refine HBIG.out.mono ?_
  rintro e w0 ⟨rfl, rfl⟩
  go_wp2_with fail
  refine HDT.out.mono ?_
  rintro e w1 ⟨a0, a1, c0, c1, ns, ws, x, y, rfl, hL, hB⟩
  clear HBIG HDT hbig
  have HTI := Lib.hid (fun a b W (h : LandD w.heap.size W a0 a1 c0 c1 ns ws) => implTravelDays_any a0 a1 c0 c1 ns ws a b W h.args.1 h.args.2.1 h.args.2.2.1 h.args.2.2.2.1 h.args.2.2.2.2.1 h.args.2.2.2.2.2.1 h.args.2.2.2.2.2.2)
  have HRI := Lib.hid (fun W (h : LandD w.heap.size W a0 a1 c0 c1 ns ws) => implRoute_any a0 a1 c0 c1 ns ws x y W h.args.1 h.args.2.1 h.args.2.2.1 h.args.2.2.2.1 h.args.2.2.2.2.1 h.args.2.2.2.2.2.1 h.args.2.2.2.2.2.2)
  have HRS := Lib.hid (fun W (h : LandD w.heap.size W a0 a1 c0 c1 ns ws) => specRoute_any a0 a1 c0 c1 ns ws x y W h.args.1 h.args.2.1 h.args.2.2.1 h.args.2.2.2.1 h.args.2.2.2.2.1 h.args.2.2.2.2.2.1 h.args.2.2.2.2.2.2)
  have HRL := Lib.hid (fun h => rt_law (ps := ns) (ws := ws) (x := x) (y := y) h)
  have hrl := routeR_len ns ws x y
  generalize routeR ns ws x y = RR at HRI HRS HRL hrl
  obtain ⟨rs, bad⟩ := RR
  simp only at HRI HRS HRL hrl
  generalize hW : w1.alloc (.cells #[.slice a0 ns.length c0, .slice a1 ws.length c1] 27) = W1
  have hB1 : Below w1.heap.size w1 W1 := by rw [← hW]; exact (Below.refl _ _).alloc (Nat.le_refl _) _
  have A0 : W1.cell? ⟨w1.heap.size, 0, none⟩ = some (.slice a0 ns.length c0) := by rw [← hW]; exact World.cell?_alloc_at _ _ _ _ rfl
  have A1 : W1.cell? ⟨w1.heap.size, 1, none⟩ = some (.slice a1 ws.length c1) := by rw [← hW]; exact World.cell?_alloc_at _ _ _ _ rfl
  have hla : w1.heap.size < W1.heap.size := by rw [← hW]; simp
  have hL := hL.below hB1
  have hB := stepB hB hB1 hB.size
  clear hB1
  go_wp2_with fail
  clear hW
  refine (HRI.out _ hL).mono ?_
  rintro e W2 ⟨br, cr, rfl, orr, hB1⟩
  have orr := own_base orr hB.size
  have hL := hL.below hB1
  have A0 := (hB1.cell (p := ⟨w1.heap.size, 0, none⟩) hla).trans A0
  have A1 := (hB1.cell (p := ⟨w1.heap.size, 1, none⟩) hla).trans A1
  have hla := Nat.lt_of_lt_of_le hla hB1.size
  have hB := stepB hB hB1 hB.size
  clear hB1
  go_wp2_with fail
  refine (HRS.out _ hL).mono ?_
  rintro e W3 ⟨bt, ct, rfl, ot, hB1⟩
  have ot := own_base ot hB.size
  have hL := hL.below hB1
  have A0 := (hB1.cell (p := ⟨w1.heap.size, 0, none⟩) hla).trans A0
  have A1 := (hB1.cell (p := ⟨w1.heap.size, 1, none⟩) hla).trans A1
  have hla := Nat.lt_of_lt_of_le hla hB1.size
  have orr := own_below orr hB1
  have hB := stepB hB hB1 hB.size
  clear hB1
  go_wp2_with fail
  refine (HDU.out _ hB).mono ?_
  rintro e W4 ⟨b0, b1, d0, d1, ms, vs, rfl, hM, hB1⟩
  have hM := hM.base hB.size
  have hL := hL.below hB1
  have A0 := (hB1.cell (p := ⟨w1.heap.size, 0, none⟩) hla).trans A0
  have A1 := (hB1.cell (p := ⟨w1.heap.size, 1, none⟩) hla).trans A1
  have hla := Nat.lt_of_lt_of_le hla hB1.size
  have orr := own_below orr hB1
  have ot := own_below ot hB1
  have hB := stepB hB hB1 hB.size
  clear hB1
  have HUI := Lib.hid (fun W (h : LandD w.heap.size W b0 b1 d0 d1 ms vs) => implUseless_any b0 b1 d0 d1 ms vs  W h.args.1 h.args.2.1 h.args.2.2.1 h.args.2.2.2.1 h.args.2.2.2.2.1 h.args.2.2.2.2.2.1 h.args.2.2.2.2.2.2)
  have HUS := Lib.hid (fun W (h : LandD w.heap.size W b0 b1 d0 d1 ms vs) => specUseless_any b0 b1 d0 d1 ms vs  W h.args.1 h.args.2.1 h.args.2.2.1 h.args.2.2.2.1 h.args.2.2.2.2.1 h.args.2.2.2.2.2.1 h.args.2.2.2.2.2.2)
  have HMI := Lib.hid (fun a b W (h : LandD w.heap.size W b0 b1 d0 d1 ms vs) => implTravelDays_any b0 b1 d0 d1 ms vs a b W h.args.1 h.args.2.1 h.args.2.2.1 h.args.2.2.2.1 h.args.2.2.2.2.1 h.args.2.2.2.2.2.1 h.args.2.2.2.2.2.2)
  have HUL := Lib.hid (fun z hz => useless_law (ps := ms) (ws := vs) (x := z) hz)
  have hul := uselessR_len ms vs hM.args.2.2.2.2.2.1
  generalize uselessR ms vs = RU at HUI HUS HUL hul
  obtain ⟨xs, one⟩ := RU
  generalize travR ms vs = TM at HMI HUL
  simp only at HUI HUS HUL hul
  generalize hW : W4.alloc (.cells #[.slice b0 ms.length d0, .slice b1 vs.length d1] 27) = W5
  have hB1 : Below W4.heap.size W4 W5 := by rw [← hW]; exact (Below.refl _ _).alloc (Nat.le_refl _) _
  have B0 : W5.cell? ⟨W4.heap.size, 0, none⟩ = some (.slice b0 ms.length d0) := by rw [← hW]; exact World.cell?_alloc_at _ _ _ _ rfl
  have B1 : W5.cell? ⟨W4.heap.size, 1, none⟩ = some (.slice b1 vs.length d1) := by rw [← hW]; exact World.cell?_alloc_at _ _ _ _ rfl
  have hma : W4.heap.size < W5.heap.size := by rw [← hW]; simp
  have hM := hM.below hB1
  have hL := hL.below hB1
  have A0 := (hB1.cell (p := ⟨w1.heap.size, 0, none⟩) hla).trans A0
  have A1 := (hB1.cell (p := ⟨w1.heap.size, 1, none⟩) hla).trans A1
  have hla := Nat.lt_of_lt_of_le hla hB1.size
  have orr := own_below orr hB1
  have ot := own_below ot hB1
  have hB := stepB hB hB1 hB.size
  clear hB1
  go_wp2_with fail
  clear hW
  refine (HUI.out _ hM).mono ?_
  rintro e W6 ⟨bx, cx, rfl, ox, hB1⟩
  have ox := own_base ox hB.size
  have hL := hL.below hB1
  have hM := hM.below hB1
  have A0 := (hB1.cell (p := ⟨w1.heap.size, 0, none⟩) hla).trans A0
  have A1 := (hB1.cell (p := ⟨w1.heap.size, 1, none⟩) hla).trans A1
  have B0 := (hB1.cell (p := ⟨W4.heap.size, 0, none⟩) hma).trans B0
  have B1 := (hB1.cell (p := ⟨W4.heap.size, 1, none⟩) hma).trans B1
  have hla := Nat.lt_of_lt_of_le hla hB1.size
  have hma := Nat.lt_of_lt_of_le hma hB1.size
  have orr := own_below orr hB1
  have ot := own_below ot hB1
  have hB := stepB hB hB1 hB.size
  clear hB1
  go_wp2_with fail
  refine (HUS.out _ hM).mono ?_
  rintro e W7 ⟨bo, co, rfl, oo, hB1⟩
  have oo := own_base oo hB.size
  have hL := hL.below hB1
  have hM := hM.below hB1
  have A0 := (hB1.cell (p := ⟨w1.heap.size, 0, none⟩) hla).trans A0
  have A1 := (hB1.cell (p := ⟨w1.heap.size, 1, none⟩) hla).trans A1
  have B0 := (hB1.cell (p := ⟨W4.heap.size, 0, none⟩) hma).trans B0
  have B1 := (hB1.cell (p := ⟨W4.heap.size, 1, none⟩) hma).trans B1
  have hla := Nat.lt_of_lt_of_le hla hB1.size
  have hma := Nat.lt_of_lt_of_le hma hB1.size
  have orr := own_below orr hB1
  have ot := own_below ot hB1
  have ox := own_below ox hB1
  have hB := stepB hB hB1 hB.size
  clear hB1
  go_wp2_with fail
  refine (HDN.out _ hB).mono ?_
  rintro e W8 ⟨e0, e1, f0, f1, os, us, s, rfl, hO, hB1⟩
  have hO := hO.base hB.size
  have hL := hL.below hB1
  have hM := hM.below hB1
  have A0 := (hB1.cell (p := ⟨w1.heap.size, 0, none⟩) hla).trans A0
  have A1 := (hB1.cell (p := ⟨w1.heap.size, 1, none⟩) hla).trans A1
  have B0 := (hB1.cell (p := ⟨W4.heap.size, 0, none⟩) hma).trans B0
  have B1 := (hB1.cell (p := ⟨W4.heap.size, 1, none⟩) hma).trans B1
  have hla := Nat.lt_of_lt_of_le hla hB1.size
  have hma := Nat.lt_of_lt_of_le hma hB1.size
  have orr := own_below orr hB1
  have ot := own_below ot hB1
  have ox := own_below ox hB1
  have oo := own_below oo hB1
  have hB := stepB hB hB1 hB.size
  clear hB1
  have HNI := Lib.hid (fun W (h : LandD w.heap.size W e0 e1 f0 f1 os us) => implPlaceNamed_any e0 e1 f0 f1 os us s W h.args.1 h.args.2.1 h.args.2.2.1 h.args.2.2.2.1 h.args.2.2.2.2.1 h.args.2.2.2.2.2.1 h.args.2.2.2.2.2.2)
  have HNS := Lib.hid (fun W (h : LandD w.heap.size W e0 e1 f0 f1 os us) => specPlaceNamed_any e0 e1 f0 f1 os us s W h.args.1 h.args.2.1 h.args.2.2.1 h.args.2.2.2.1 h.args.2.2.2.2.1 h.args.2.2.2.2.2.1 h.args.2.2.2.2.2.2)
  have HNL := Lib.hid (fun h => named_law (ps := os) (ws := us) (s := s) h)
  generalize placeNamedR os us s = RN at HNI HNS HNL
  obtain ⟨pp, three⟩ := RN
  simp only at HNI HNS HNL
  generalize hW : W8.alloc (.cells #[.slice e0 os.length f0, .slice e1 us.length f1] 27) = W9
  have hB1 : Below W8.heap.size W8 W9 := by rw [← hW]; exact (Below.refl _ _).alloc (Nat.le_refl _) _
  have O0 : W9.cell? ⟨W8.heap.size, 0, none⟩ = some (.slice e0 os.length f0) := by rw [← hW]; exact World.cell?_alloc_at _ _ _ _ rfl
  have O1 : W9.cell? ⟨W8.heap.size, 1, none⟩ = some (.slice e1 us.length f1) := by rw [← hW]; exact World.cell?_alloc_at _ _ _ _ rfl
  have hxa : W8.heap.size < W9.heap.size := by rw [← hW]; simp
  have hO := hO.below hB1
  have hL := hL.below hB1
  have hM := hM.below hB1
  have A0 := (hB1.cell (p := ⟨w1.heap.size, 0, none⟩) hla).trans A0
  have A1 := (hB1.cell (p := ⟨w1.heap.size, 1, none⟩) hla).trans A1
  have B0 := (hB1.cell (p := ⟨W4.heap.size, 0, none⟩) hma).trans B0
  have B1 := (hB1.cell (p := ⟨W4.heap.size, 1, none⟩) hma).trans B1
  have hla := Nat.lt_of_lt_of_le hla hB1.size
  have hma := Nat.lt_of_lt_of_le hma hB1.size
  have orr := own_below orr hB1
  have ot := own_below ot hB1
  have ox := own_below ox hB1
  have oo := own_below oo hB1
  have hB := stepB hB hB1 hB.size
  clear hB1
  go_wp2_with fail
  clear hW
  refine (HNI.out _ hO).mono ?_
  rintro e W10 ⟨rfl, hB1⟩
  have hL := hL.below hB1
  have hM := hM.below hB1
  have hO := hO.below hB1
  have A0 := (hB1.cell (p := ⟨w1.heap.size, 0, none⟩) hla).trans A0
  have A1 := (hB1.cell (p := ⟨w1.heap.size, 1, none⟩) hla).trans A1
  have B0 := (hB1.cell (p := ⟨W4.heap.size, 0, none⟩) hma).trans B0
  have B1 := (hB1.cell (p := ⟨W4.heap.size, 1, none⟩) hma).trans B1
  have O0 := (hB1.cell (p := ⟨W8.heap.size, 0, none⟩) hxa).trans O0
  have O1 := (hB1.cell (p := ⟨W8.heap.size, 1, none⟩) hxa).trans O1
  have hla := Nat.lt_of_lt_of_le hla hB1.size
  have hma := Nat.lt_of_lt_of_le hma hB1.size
  have hxa := Nat.lt_of_lt_of_le hxa hB1.size
  have orr := own_below orr hB1
  have ot := own_below ot hB1
  have ox := own_below ox hB1
  have oo := own_below oo hB1
  have hB := stepB hB hB1 hB.size
  clear hB1
  go_wp2_with fail
  refine (HNS.out _ hO).mono ?_
  rintro e W11 ⟨rfl, hB1⟩
  have hL := hL.below hB1
  have hM := hM.below hB1
  have hO := hO.below hB1
  have A0 := (hB1.cell (p := ⟨w1.heap.size, 0, none⟩) hla).trans A0
  have A1 := (hB1.cell (p := ⟨w1.heap.size, 1, none⟩) hla).trans A1
  have B0 := (hB1.cell (p := ⟨W4.heap.size, 0, none⟩) hma).trans B0
  have B1 := (hB1.cell (p := ⟨W4.heap.size, 1, none⟩) hma).trans B1
  have O0 := (hB1.cell (p := ⟨W8.heap.size, 0, none⟩) hxa).trans O0
  have O1 := (hB1.cell (p := ⟨W8.heap.size, 1, none⟩) hxa).trans O1
  have hla := Nat.lt_of_lt_of_le hla hB1.size
  have hma := Nat.lt_of_lt_of_le hma hB1.size
  have hxa := Nat.lt_of_lt_of_le hxa hB1.size
  have orr := own_below orr hB1
  have ot := own_below ot hB1
  have ox := own_below ox hB1
  have oo := own_below oo hB1
  have hB := stepB hB hB1 hB.size
  clear hB1
  have q1 : (bad != bad) = false := by simp
  have q2 : (one != one) = false := by simp
  have q3 : (three != three) = false := by simp
  have q4 : (pp != pp) = false := by simp
  have HLK := Lib.hid (fun W (h : Below W11.heap.size W11 W) => likeInts_self br bt cr ct rs W (by omega) ((Rd.of_own encI_len (by decide) orr).below h) ((Rd.of_own encI_len (by decide) ot).below h))
  have HLU := Lib.hid (fun W (h : Below W11.heap.size W11 W) => likeInts_self bx bo cx co xs W (by omega) ((Rd.of_own encI_len (by decide) ox).below h) ((Rd.of_own encI_len (by decide) oo).below h))
  go_upto_region 12 with (fail)
  refine wp_region_later0 W11 ?_
  repeat (go_big_quiet_step (fail))
  go_big_quiet_step ((go_at_call 16; exact Later.call (Nat.le_refl _) (HLK.out _ (Later.prop _))))
  repeat (go_big_quiet_step (fail))
  go_big_quiet_step ((go_at_call 16; exact Later.call (Nat.le_refl _) (HLU.out _ (Later.prop _))))
  repeat (go_big_quiet_step (fail))
  refine wpQuiet_nil ?_
  intro z
  have hB1 := z.prop
  generalize z.val = W12 at hB1
  clear HLK HLU q2 q3 q4 HRI HRS HUI HUS HNI HNS HDU HDN
  have hL := hL.below hB1
  have hM := hM.below hB1
  have hO := hO.below hB1
  have A0 := (hB1.cell (p := ⟨w1.heap.size, 0, none⟩) hla).trans A0
  have A1 := (hB1.cell (p := ⟨w1.heap.size, 1, none⟩) hla).trans A1
  have B0 := (hB1.cell (p := ⟨W4.heap.size, 0, none⟩) hma).trans B0
  have B1 := (hB1.cell (p := ⟨W4.heap.size, 1, none⟩) hma).trans B1
  have O0 := (hB1.cell (p := ⟨W8.heap.size, 0, none⟩) hxa).trans O0
  have O1 := (hB1.cell (p := ⟨W8.heap.size, 1, none⟩) hxa).trans O1
  have hla := Nat.lt_of_lt_of_le hla hB1.size
  have hma := Nat.lt_of_lt_of_le hma hB1.size
  have hxa := Nat.lt_of_lt_of_le hxa hB1.size
  have orr := own_below orr hB1
  have ot := own_below ot hB1
  have ox := own_below ox hB1
  have oo := own_below oo hB1
  have hB := stepB hB hB1 hB.size
  clear hB1
  clear ot oo
  have HZ : Hid (∀ W, Below W12.heap.size W12 W → LandD w.heap.size W a0 a1 c0 c1 ns ws ∧ LandD w.heap.size W b0 b1 d0 d1 ms vs ∧ W.cell? ⟨w1.heap.size, 0, none⟩ = some (.slice a0 ns.length c0) ∧ W.cell? ⟨w1.heap.size, 1, none⟩ = some (.slice a1 ws.length c1) ∧ W.cell? ⟨W4.heap.size, 0, none⟩ = some (.slice b0 ms.length d0) ∧ W.cell? ⟨W4.heap.size, 1, none⟩ = some (.slice b1 vs.length d1) ∧ w1.heap.size < W.heap.size ∧ W4.heap.size < W.heap.size ∧ Rd encI W br rs ∧ Rd encI W bx xs ∧ Below w.heap.size w W) := fun W h => ⟨hL.below h, hM.below h, (h.cell (p := ⟨w1.heap.size, 0, none⟩) hla).trans A0, (h.cell (p := ⟨w1.heap.size, 1, none⟩) hla).trans A1, (h.cell (p := ⟨W4.heap.size, 0, none⟩) hma).trans B0, (h.cell (p := ⟨W4.heap.size, 1, none⟩) hma).trans B1, Nat.lt_of_lt_of_le hla h.size, Nat.lt_of_lt_of_le hma h.size, (Rd.of_own encI_len (by decide) orr).below h, (Rd.of_own encI_len (by decide) ox).below h, stepB hB h hB.size⟩
  clear hL hM A0 A1 B0 B1 hla hma ox orr hB
  generalize w1.heap.size = la at HZ ⊢
  generalize W4.heap.size = ma at HZ ⊢
  go_upto_region 14 with (fail)
  go_cut [121] from 111 to 121 (fun t wd => t = .bool false ∧ W12 = wd)
  case first =>
    by_cases h3 : three = 0
    · obtain ⟨v, mm, hv, hvl, hmm, hms⟩ := HNL.out h3
      subst h3
      subst hv
      obtain ⟨bb, off, hbe, hbb, cc0⟩ := hO.args.2.2.2.1.s hmm
      subst hbe
      have hvl' : (v : Int) < (os.length : Int) := by omega
      have hms' : (mm.toList == s.toList) = true := by rw [hms]; simp
      clear hmm
      go_wp2
      go_meet
      case rel => exact ⟨by simp, rfl⟩
    · have h3' : (three == 0) = false := by simpa using h3
      go_wp2
      go_meet
      case rel => exact ⟨rfl, rfl⟩
  case rest =>
    obtain ⟨rfl, rfl⟩ := hcut
    clear hO O0 O1 hxa HNL
    go_upto_block 0 with (fail)
    go_cut [] from 21 to 169 (fun wd => Below W12.heap.size W12 wd)
    case first =>
      go_wp2
      go_loopw [21] (fun i wr => ∃ k : Nat, (one = 0 → k ≤ xs.length) ∧ i = .int .i64 k ∧ Below W12.heap.size W12 wr) (fun i _ => xs.length - (intOf i).toNat)
      case atStart => exact ⟨0, fun _ => Nat.zero_le _, rfl, Below.refl _ _⟩
      case round =>
        obtain ⟨k, hk, rfl, hBk⟩ := hrel
        by_cases hone : one = 0
        · subst hone
          have hk := hk rfl
          by_cases hlt : k < xs.length
          · have hlt' : (k : Int) < (xs.length : Int) := by omega
            have hm := List.getElem?_eq_getElem hlt
            have hmem := List.getElem_mem hlt
            generalize xs[k] = zz at hm hmem
            obtain ⟨v, m, rfl, hv, hvm, g1, g2⟩ := HUL.out zz hmem
            obtain ⟨_, hM, _, _, B0, B1, _, hma, _, rx, hB⟩ := HZ.out wr hBk
            obtain ⟨b, off, hbx, hbb, cx0⟩ := rx.i hm
            subst hbx
            obtain ⟨bv, ov, hbw, hbv, cv0, cv1, cv2⟩ := hM.args.2.2.2.2.2.2.wy hvm
            subst hbw
            obtain ⟨m1, m2, days⟩ := m
            simp only at g1 g2 cv0 cv1 cv2
            have hv' : (v : Int) < (vs.length : Int) := by omega
            have HX := Lib.hid (fun W h => HMI.out m1 m2 W h)
            generalize TM m1 m2 = r at g1 g2 HX
            obtain ⟨own, five⟩ := r
            simp only at g1 g2 HX
            subst g1
            have g2' : decide (days ≤ own) = false := by simp; omega
            clear hm hmem rx hvm g2
            go_upto_region 19 with (fail)
            have hMd := hM.below (Below.refl _ wr).drew
            go_region_held_law (fun w' => w'.cell? ⟨ma, 0, none⟩ = some (.slice b0 ms.length d0) ∧ w'.cell? ⟨ma, 1, none⟩ = some (.slice (some ⟨bv, ov, none⟩) vs.length d1) ∧ w'.cell? ⟨b, off + k, none⟩ = some (.int .i64 v) ∧ w'.cell? ⟨bv, ov + v * 3, none⟩ = some (.int .i64 m1) ∧ w'.cell? ⟨bv, ov + v * 3 + 1, none⟩ = some (.int .i64 m2)) (first | exact ⟨B0, B1, cx0, cv0, cv1⟩ | exact ⟨(hB6.cell (p := ⟨ma, 0, none⟩) hma).trans B0, (hB6.cell (p := ⟨ma, 1, none⟩) hma).trans B1, (hB6.cell (p := ⟨b, off + k, none⟩) hbb).trans cx0, (hB6.cell (p := ⟨bv, ov + v * 3, none⟩) hbv).trans cv0, (hB6.cell (p := ⟨bv, ov + v * 3 + 1, none⟩) hbv).trans cv1⟩) (first | (go_at_call 17; refine (HX.out _ hMd).mono ?_; rintro e w6 ⟨rfl, hB6⟩) | fail)
            have hBs := stepB (Below.refl _ wr).drew hB6 (Nat.le_refl _)
            have hBk := stepB hBk hBs hBk.size
            have B1 := (hBs.cell (p := ⟨ma, 1, none⟩) hma).trans B1
            have cx0 := (hBs.cell (p := ⟨b, off + k, none⟩) hbb).trans cx0
            have cv2 := (hBs.cell (p := ⟨bv, ov + v * 3 + 2, none⟩) hbv).trans cv2
            have hma := Nat.lt_of_lt_of_le hma hBs.size
            have hbb := Nat.lt_of_lt_of_le hbb hBs.size
            have hbv := Nat.lt_of_lt_of_le hbv hBs.size
            clear hB6 hBs hMd HX cv0 cv1 B0 hM
            have E1 := Later.cell B1 hma
            have EX := Later.cell cx0 hbb
            have EV := Later.cell cv2 hbv
            go_wp2_with fail
            refine wp_region_later w6 (by kernel_rfl) (by kernel_rfl) ?_
            repeat (go_big_quiet_step (fail))
            refine wpQuiet_nil ?_
            intro z
            have hz := z.prop
            generalize z.val = w7 at hz
            clear E1 EX EV B1 cx0 cv2
            have hBk := stepB hBk hz hBk.size
            go_wp2
            go_roundw
            case rel => exact ⟨k + 1, fun _ => by omega, by go_num, hBk⟩
            case measure => simp [intOf]; omega
          · have hlt' : decide ((k : Int) < (xs.length : Int)) = false := by simp; omega
            go_wp2
            go_meet
            case rel => exact hBk
        · have hone' : (one == 0) = false := by simpa using hone
          go_wp2
          go_meet
          case rel => exact hBk
    case rest =>
      clear HUL HMI
      have HZ := Lib.hid (fun W h => HZ.out W (stepB hcut h hcut.size))
      clear hcut
      by_cases hbad : bad = 0
      · obtain ⟨b, rfl, hb, hA, hr0, hxy, hRt⟩ := HRL.out hbad
        subst hbad
        have hA := Lib.hid hA
        clear HRL
        obtain ⟨hL, _, A0, A1, _, _, hla, _, _, _, hB⟩ := HZ.out wc (Below.refl _ _)
        have HT := Lib.hid (fun W h => HTI.out x b W h)
        go_wp2_with fail
        refine (HT.out _ hL).mono ?_
        rintro e W13 ⟨rfl, hB1⟩
        have hBS := hB1
        clear hL A0 A1 hla hB HT hB1
        have hl0 : 0 < rs.length := (List.getElem?_eq_some_iff.1 hr0).1
        go_wp2
        go_loopw [26, 27] (fun tot i wr => ∃ (k : Nat) (t : Int), tot = .int .i64 t ∧ i = .int .i64 ((k : Int) + 1) ∧ k + 1 ≤ rs.length ∧ RtAt ns ws rs b k t ∧ Below wc.heap.size wc wr) (fun _ i _ => rs.length - (intOf i).toNat)
        case atStart => exact ⟨0, 0, rfl, rfl, hl0, hRt, hBS⟩
        case round =>
          clear hBS hRt
          obtain ⟨k, t, rfl, rfl, hk, hRt, hBk⟩ := hrel
          obtain ⟨hL, _, A0, A1, _, _, hla, _, rr, _, hB⟩ := HZ.out wr hBk
          by_cases hlt : k + 1 < rs.length
          · have hlt' : (k : Int) + 1 < (rs.length : Int) := by omega
            obtain ⟨v, u, hv, hu, hz, hRn⟩ := rt_next hA.out hb hRt hlt
            obtain ⟨b1, off, hbx, hbb, cv⟩ := rr.i hv
            subst hbx
            obtain ⟨b2, off2, hbx, _, cu⟩ := rr.i hu
            cases hbx
            have hbd1 := rt_bd hA.out hb hRt
            have hbd2 := rt_bd hA.out hb hRn
            have HX := Lib.hid (fun W h => HTI.out v u W h)
            generalize travR ns ws v u = r at hz hRn hbd2 HX
            obtain ⟨step, seven⟩ := r
            simp only at hz hRn hbd2 HX
            subst hz
            have v1 := i64_in (t + step) (by omega)
            have v2 := i64_in (k : Int) (by omega)
            have hlt0 : (k : Int) < (rs.length : Int) := by omega
            clear hv hu rr hRt
            go_upto_region 29 with (fail)
            have hLd := hL.below (Below.refl _ wr).drew
            go_region_held_law (fun w' => w'.cell? ⟨la, 0, none⟩ = some (.slice a0 ns.length c0) ∧ w'.cell? ⟨la, 1, none⟩ = some (.slice a1 ws.length c1) ∧ w'.cell? ⟨b1, off + k, none⟩ = some (.int .i64 v) ∧ w'.cell? ⟨b1, off + (k + 1), none⟩ = some (.int .i64 u)) (first | exact ⟨A0, A1, cv, cu⟩ | exact ⟨(hB6.cell (p := ⟨la, 0, none⟩) hla).trans A0, (hB6.cell (p := ⟨la, 1, none⟩) hla).trans A1, (hB6.cell (p := ⟨b1, off + k, none⟩) hbb).trans cv, (hB6.cell (p := ⟨b1, off + (k + 1), none⟩) hbb).trans cu⟩) (first | (go_at_call 17; refine (HX.out _ hLd).mono ?_; rintro e w6 ⟨rfl, hB6⟩) | fail)
            have hBs := stepB (Below.refl _ wr).drew hB6 (Nat.le_refl _)
            have hBk := stepB hBk hBs hBk.size
            clear hB6 hBs hLd HX cv cu A0 A1 hL
            go_wp2
            go_roundw
            case rel => exact ⟨k + 1, t + step, rfl, by go_num, by omega, hRn, hBk⟩
            case measure => simp [intOf]; omega
          · have hlt' : decide ((k : Int) + 1 < (rs.length : Int)) = false := by simp; omega
            obtain ⟨h1, h2⟩ := rt_end hA.out hb hRt (by omega)
            rw [hr0] at h2
            simp only [Option.getD_some] at h2
            subst h2
            have hkl : k + 1 = rs.length := by omega
            obtain ⟨b1, off, hbx, hbb, cv⟩ := rr.i hr0
            subst hbx
            obtain ⟨b2, off2, hbx, _, cu⟩ := rr.i h1
            cases hbx
            have q4 : ((travR ns ws x b).2 == 0) = true := by simpa using hxy
            have v4 := i64_in ((rs.length : Int) - 1) (by omega)
            have v5 : (rs.length : Int) - 1 = (k : Int) := by omega
            have v6 : (k : Int) < (rs.length : Int) := by omega
            have v7 : (0 : Int) < (rs.length : Int) := by omega
            rw [Nat.add_zero] at cv
            clear hL A0 A1 rr hRt h1
            go_wp2
            go_ret
            exact ⟨rfl, hB⟩
      · have hbad' : (bad != 0) = true := by simpa using hbad
        obtain ⟨_, _, _, _, _, _, _, _, _, _, hB⟩ := HZ.out wc (Below.refl _ _)
        go_wp2
        go_ret
        exact ⟨rfl, hB⟩

end Go.Proofs.YtihmacmieofbgaaDoor
