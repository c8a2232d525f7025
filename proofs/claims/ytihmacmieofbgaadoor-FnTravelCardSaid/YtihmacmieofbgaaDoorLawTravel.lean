/- Walk: the law FnTravel. Printed by gen_lawtrav.py. -/
import Derived.Test.YtihmacmieofbgaaDoorDrawT
import Derived.Test.YtihmacmieofbgaaDoorDice
import Derived.Test.YtihmacmieofbgaaDoorTrvPlain
import Derived.Test.YtihmacmieofbgaaDoorLandImpl
import Derived.Deep.RegionHeldLaw
namespace Go.Proofs.YtihmacmieofbgaaDoor
open Go.ChangeShapes Go.WideShapes Go.ChangeAt Go.RowKit Go.IntWalk

theorem own_capV {w : World} {B k n c : Nat} {E : TypeId} {a : Option Addr} {xs : List Value} (h : w.ownsRow B E k (.slice a n c) n xs) : n ≤ c ∧ c ≤ 9223372036854775807 := by
  rcases h.2 with ⟨e0, h0⟩ | ⟨g', cap', cur, e0, hb, hg, hn, hm, _⟩
  · injection e0 with _ e1 e2
    omega
  · injection e0 with _ _ e3
    subst e3
    exact ⟨hn, hm⟩
theorem LandD.args {B : Nat} {w : World} {a0 a1 : Option Addr} {c0 c1 : Nat} {ns : List ByteArray} {ws : List Wy} (h : LandD B w a0 a1 c0 c1 ns ws) :
    ns.length ≤ c0 ∧ c0 ≤ 9223372036854775807 ∧ ns.length ≤ 1048576 ∧ Rd encS w a0 ns ∧ (∀ m ∈ ns, m.size ≤ 1048576) ∧ ws.length ≤ 1048576 ∧ Rd encWy w a1 ws := by
  obtain ⟨h1, h2, h3, h4, h5⟩ := h
  have hc := own_capV h4
  exact ⟨hc.1, hc.2, by omega, Rd.of_own encS_len (by decide) h4, fun m hm => by have := h3 m hm; omega, by omega, Rd.of_own encWy_len (by decide) h5⟩

set_option maxRecDepth 100000 in
set_option maxHeartbeats 8000000 in
theorem lawTravel_any (cs : Option Addr) (cap : Nat) (bs : List Int) (w : World) (_hl : bs.length ≤ maxLen) (hx : Rd encB w cs bs) (hb : ∀ m ∈ bs, goodB m) :
    Calls Tryd.prog 4 #[.slice cs bs.length cap] w fun e w' => e = .returned (.bool true) ∧ Below w.heap.size w w' := by
  have HBIG := Lib.hid (big_any cs cap bs.length w)
  by_cases hbig : 4096 < bs.length
  · have HBIG := Lib.hid ((show decide (4096 < bs.length) = true by simpa using hbig) ▸ HBIG.out)
    go_enter Tryd.func4, Tryd.ntmps4
    go_wp2_with fail
    refine HBIG.out.mono ?_
    rintro e w1 ⟨rfl, rfl⟩
    go_wp2
    go_ret
    exact ⟨rfl, Below.refl _ _⟩
  have HBIG := Lib.hid ((show decide (4096 < bs.length) = false by simpa using hbig) ▸ HBIG.out)
  have hl : bs.length ≤ 4096 := by omega
  have HDT := Lib.hid (drawTravel_any cs cap bs w hx hb hl)
  go_enter Tryd.func4, Tryd.ntmps4
  go_wp2_with fail
  refine HBIG.out.mono ?_
  rintro e w0 ⟨rfl, rfl⟩
  go_wp2_with fail
  refine HDT.out.mono ?_
  rintro e w1 ⟨a0, a1, c0, c1, ns, ws, x, y, rfl, hL, hB⟩
  clear HBIG HDT hbig
  have HTI := Lib.hid (fun a b W (h : LandD w.heap.size W a0 a1 c0 c1 ns ws) => implTravelDays_any a0 a1 c0 c1 ns ws a b W h.args.1 h.args.2.1 h.args.2.2.1 h.args.2.2.2.1 h.args.2.2.2.2.1 h.args.2.2.2.2.2.1 h.args.2.2.2.2.2.2)
  have HTS := Lib.hid (fun a b W (h : LandD w.heap.size W a0 a1 c0 c1 ns ws) => specTravelDays_any a0 a1 c0 c1 ns ws a b W h.args.1 h.args.2.1 h.args.2.2.1 h.args.2.2.2.1 h.args.2.2.2.2.1 h.args.2.2.2.2.2.1 h.args.2.2.2.2.2.2)
  generalize hW : w1.alloc (.cells #[.slice a0 ns.length c0, .slice a1 ws.length c1] 27) = W1
  have hB1 : Below w1.heap.size w1 W1 := by rw [← hW]; exact (Below.refl _ _).alloc (Nat.le_refl _) _
  have A0 : W1.cell? ⟨w1.heap.size, 0, none⟩ = some (.slice a0 ns.length c0) := by rw [← hW]; exact World.cell?_alloc_at _ _ _ _ rfl
  have A1 : W1.cell? ⟨w1.heap.size, 1, none⟩ = some (.slice a1 ws.length c1) := by rw [← hW]; exact World.cell?_alloc_at _ _ _ _ rfl
  have hla : w1.heap.size < W1.heap.size := by rw [← hW]; simp
  have hL := hL.below hB1
  have hB := stepB hB hB1 hB.size
  clear hB1
  go_wp2_with fail
  clear hW
  refine (HTI.out x y _ hL).mono ?_
  rintro e W2 ⟨rfl, hB1⟩
  have hL := hL.below hB1
  have A0 := (hB1.cell (p := ⟨w1.heap.size, 0, none⟩) hla).trans A0
  have A1 := (hB1.cell (p := ⟨w1.heap.size, 1, none⟩) hla).trans A1
  have hla := Nat.lt_of_lt_of_le hla hB1.size
  have hB := stepB hB hB1 hB.size
  clear hB1
  go_wp2_with fail
  refine (HTS.out x y _ hL).mono ?_
  rintro e W3 ⟨rfl, hB1⟩
  have hL := hL.below hB1
  have A0 := (hB1.cell (p := ⟨w1.heap.size, 0, none⟩) hla).trans A0
  have A1 := (hB1.cell (p := ⟨w1.heap.size, 1, none⟩) hla).trans A1
  have hla := Nat.lt_of_lt_of_le hla hB1.size
  have hB := stepB hB hB1 hB.size
  clear hB1

  have HDW := Lib.hid (fun W (h : Below w.heap.size w W) => drawWithin_any cs cap bs W (hx.below h) hb hl)
  go_wp2_with fail
  refine (HDW.out _ hB).mono ?_
  rintro e W4 ⟨b0, b1, d0, d1, ms, vs, p, days, rfl, hM, hB1⟩
  have hM := hM.base hB.size

  have hL := hL.below hB1
  have A0 := (hB1.cell (p := ⟨w1.heap.size, 0, none⟩) hla).trans A0
  have A1 := (hB1.cell (p := ⟨w1.heap.size, 1, none⟩) hla).trans A1
  have hla := Nat.lt_of_lt_of_le hla hB1.size
  have hB := stepB hB hB1 hB.size
  clear hB1

  have HPI := Lib.hid (fun W (h : LandD w.heap.size W b0 b1 d0 d1 ms vs) => implWithin_any b0 b1 d0 d1 ms vs p days W h.args.1 h.args.2.1 h.args.2.2.1 h.args.2.2.2.1 h.args.2.2.2.2.1 h.args.2.2.2.2.2.1 h.args.2.2.2.2.2.2)
  have HPS := Lib.hid (fun W (h : LandD w.heap.size W b0 b1 d0 d1 ms vs) => specWithin_any b0 b1 d0 d1 ms vs p days W h.args.1 h.args.2.1 h.args.2.2.1 h.args.2.2.2.1 h.args.2.2.2.2.1 h.args.2.2.2.2.2.1 h.args.2.2.2.2.2.2)
  have HFI := Lib.hid (fun W (h : LandD w.heap.size W b0 b1 d0 d1 ms vs) => implFarthest_any b0 b1 d0 d1 ms vs p W h.args.1 h.args.2.1 h.args.2.2.1 h.args.2.2.2.1 h.args.2.2.2.2.1 h.args.2.2.2.2.2.1 h.args.2.2.2.2.2.2)
  have HFS := Lib.hid (fun W (h : LandD w.heap.size W b0 b1 d0 d1 ms vs) => specFarthest_any b0 b1 d0 d1 ms vs p W h.args.1 h.args.2.1 h.args.2.2.1 h.args.2.2.2.1 h.args.2.2.2.2.1 h.args.2.2.2.2.2.1 h.args.2.2.2.2.2.2)
  have HCI := Lib.hid (fun W (h : LandD w.heap.size W b0 b1 d0 d1 ms vs) => implIsConnected_any b0 b1 d0 d1 ms vs W h.args.1 h.args.2.1 h.args.2.2.1 h.args.2.2.2.1 h.args.2.2.2.2.1 h.args.2.2.2.2.2.1 h.args.2.2.2.2.2.2)
  have HCS := Lib.hid (fun W (h : LandD w.heap.size W b0 b1 d0 d1 ms vs) => specIsConnected_any b0 b1 d0 d1 ms vs W h.args.1 h.args.2.1 h.args.2.2.1 h.args.2.2.2.1 h.args.2.2.2.2.1 h.args.2.2.2.2.2.1 h.args.2.2.2.2.2.2)
  have HMI := Lib.hid (fun a b W (h : LandD w.heap.size W b0 b1 d0 d1 ms vs) => implTravelDays_any b0 b1 d0 d1 ms vs a b W h.args.1 h.args.2.1 h.args.2.2.1 h.args.2.2.2.1 h.args.2.2.2.2.1 h.args.2.2.2.2.2.1 h.args.2.2.2.2.2.2)
  have HLI := Lib.hid (fun W (h : LandD w.heap.size W b0 b1 d0 d1 ms vs) => conn_land ms vs ▸ implIsLand_any b0 b1 d0 d1 ms vs W h.args.1 h.args.2.1 h.args.2.2.1 h.args.2.2.2.1 h.args.2.2.2.2.1 h.args.2.2.2.2.2.1 h.args.2.2.2.2.2.2)
  have HTRI := Lib.hid (fun k hf hk => trav_tri (ps := ns) (ws := ws) (a := x) (b := y) (k := k) hf hk)
  have HWF := Lib.hid (fun z hf hz => within_fact (ps := ms) (ws := vs) (p := p) (days := days) (x := z) hf hz)
  have hlen1 := Lib.hid (fun hf => trav_len (ps := ns) (ws := ws) (a := x) (b := y) hf)
  clear HDW
  have HVL := Lib.hid (fun a b => trav_val (ps := ns) (ws := ws) (a := a) (b := b))
  have hwl := withinR_len ms vs p days
  generalize withinR ms vs p days (codeL ms vs [p]) = RW at HPI HPS HWF hwl
  obtain ⟨xs, one⟩ := RW
  generalize farR ms vs p (codeL ms vs [p]) = RF at HFI HFS HWF
  obtain ⟨fa, most, three⟩ := RF
  generalize connR ms vs = RC at HCI HCS HLI
  obtain ⟨cc, five⟩ := RC
  generalize travR ms vs = TM at HMI HWF
  generalize travR ns ws = TN at HTI HTS HTRI HVL hlen1 ⊢
  simp only at HPI HPS HFI HFS HCI HCS HLI HWF hwl
  generalize hW : W4.alloc (.cells #[.slice b0 ms.length d0, .slice b1 vs.length d1] 27) = W5
  have hB1 : Below W4.heap.size W4 W5 := by rw [← hW]; exact (Below.refl _ _).alloc (Nat.le_refl _) _
  have B0 : W5.cell? ⟨W4.heap.size, 0, none⟩ = some (.slice b0 ms.length d0) := by rw [← hW]; exact World.cell?_alloc_at _ _ _ _ rfl
  have B1 : W5.cell? ⟨W4.heap.size, 1, none⟩ = some (.slice b1 vs.length d1) := by rw [← hW]; exact World.cell?_alloc_at _ _ _ _ rfl
  have hma : W4.heap.size < W5.heap.size := by rw [← hW]; simp
  have hM := hM.below hB1

  have hL := hL.below hB1
  have A0 := (hB1.cell (p := ⟨w1.heap.size, 0, none⟩) hla).trans A0
  have A1 := (hB1.cell (p := ⟨w1.heap.size, 1, none⟩) hla).trans A1
  have hla := Nat.lt_of_lt_of_le hla hB1.size
  have hB := stepB hB hB1 hB.size
  clear hB1

  go_wp2_with fail
  clear hW
  refine (HPI.out _ hM).mono ?_
  rintro e W6 ⟨bx, cx, rfl, ox, hB1⟩
  have ox := own_base ox hB.size
  have hL := hL.below hB1
  have hM := hM.below hB1
  have A0 := (hB1.cell (p := ⟨w1.heap.size, 0, none⟩) hla).trans A0
  have A1 := (hB1.cell (p := ⟨w1.heap.size, 1, none⟩) hla).trans A1
  have B0 := (hB1.cell (p := ⟨W4.heap.size, 0, none⟩) hma).trans B0
  have B1 := (hB1.cell (p := ⟨W4.heap.size, 1, none⟩) hma).trans B1
  have hla := Nat.lt_of_lt_of_le hla hB1.size
  have hma := Nat.lt_of_lt_of_le hma hB1.size
  have hB := stepB hB hB1 hB.size
  clear hB1
  go_wp2_with fail
  refine (HPS.out _ hM).mono ?_
  rintro e W7 ⟨bo, co, rfl, oo, hB1⟩
  have oo := own_base oo hB.size
  have hL := hL.below hB1
  have hM := hM.below hB1
  have A0 := (hB1.cell (p := ⟨w1.heap.size, 0, none⟩) hla).trans A0
  have A1 := (hB1.cell (p := ⟨w1.heap.size, 1, none⟩) hla).trans A1
  have B0 := (hB1.cell (p := ⟨W4.heap.size, 0, none⟩) hma).trans B0
  have B1 := (hB1.cell (p := ⟨W4.heap.size, 1, none⟩) hma).trans B1
  have hla := Nat.lt_of_lt_of_le hla hB1.size
  have hma := Nat.lt_of_lt_of_le hma hB1.size
  have ox := own_below ox hB1
  have hB := stepB hB hB1 hB.size
  clear hB1
  go_wp2_with fail
  refine (HFI.out _ hM).mono ?_
  rintro e W8 ⟨rfl, hB1⟩
  have hL := hL.below hB1
  have hM := hM.below hB1
  have A0 := (hB1.cell (p := ⟨w1.heap.size, 0, none⟩) hla).trans A0
  have A1 := (hB1.cell (p := ⟨w1.heap.size, 1, none⟩) hla).trans A1
  have B0 := (hB1.cell (p := ⟨W4.heap.size, 0, none⟩) hma).trans B0
  have B1 := (hB1.cell (p := ⟨W4.heap.size, 1, none⟩) hma).trans B1
  have hla := Nat.lt_of_lt_of_le hla hB1.size
  have hma := Nat.lt_of_lt_of_le hma hB1.size
  have ox := own_below ox hB1
  have oo := own_below oo hB1
  have hB := stepB hB hB1 hB.size
  clear hB1
  go_wp2_with fail
  refine (HFS.out _ hM).mono ?_
  rintro e W9 ⟨rfl, hB1⟩
  have hL := hL.below hB1
  have hM := hM.below hB1
  have A0 := (hB1.cell (p := ⟨w1.heap.size, 0, none⟩) hla).trans A0
  have A1 := (hB1.cell (p := ⟨w1.heap.size, 1, none⟩) hla).trans A1
  have B0 := (hB1.cell (p := ⟨W4.heap.size, 0, none⟩) hma).trans B0
  have B1 := (hB1.cell (p := ⟨W4.heap.size, 1, none⟩) hma).trans B1
  have hla := Nat.lt_of_lt_of_le hla hB1.size
  have hma := Nat.lt_of_lt_of_le hma hB1.size
  have ox := own_below ox hB1
  have oo := own_below oo hB1
  have hB := stepB hB hB1 hB.size
  clear hB1
  go_wp2_with fail
  refine (HCI.out _ hM).mono ?_
  rintro e W10 ⟨rfl, hB1⟩
  have hL := hL.below hB1
  have hM := hM.below hB1
  have A0 := (hB1.cell (p := ⟨w1.heap.size, 0, none⟩) hla).trans A0
  have A1 := (hB1.cell (p := ⟨w1.heap.size, 1, none⟩) hla).trans A1
  have B0 := (hB1.cell (p := ⟨W4.heap.size, 0, none⟩) hma).trans B0
  have B1 := (hB1.cell (p := ⟨W4.heap.size, 1, none⟩) hma).trans B1
  have hla := Nat.lt_of_lt_of_le hla hB1.size
  have hma := Nat.lt_of_lt_of_le hma hB1.size
  have ox := own_below ox hB1
  have oo := own_below oo hB1
  have hB := stepB hB hB1 hB.size
  clear hB1
  go_wp2_with fail
  refine (HCS.out _ hM).mono ?_
  rintro e W11 ⟨rfl, hB1⟩
  have hL := hL.below hB1
  have hM := hM.below hB1
  have A0 := (hB1.cell (p := ⟨w1.heap.size, 0, none⟩) hla).trans A0
  have A1 := (hB1.cell (p := ⟨w1.heap.size, 1, none⟩) hla).trans A1
  have B0 := (hB1.cell (p := ⟨W4.heap.size, 0, none⟩) hma).trans B0
  have B1 := (hB1.cell (p := ⟨W4.heap.size, 1, none⟩) hma).trans B1
  have hla := Nat.lt_of_lt_of_le hla hB1.size
  have hma := Nat.lt_of_lt_of_le hma hB1.size
  have ox := own_below ox hB1
  have oo := own_below oo hB1
  have hB := stepB hB hB1 hB.size
  clear hB1

  have q1 : ((TN x y).2 != (TN x y).2) = false := by simp
  have q2 : ((TN x y).1 != (TN x y).1) = false := by simp
  have q3 : (one != one) = false := by simp
  have q4 : (three != three) = false := by simp
  have q5 : (fa != fa) = false := by simp
  have q6 : (most != most) = false := by simp
  have q7 : (five != five) = false := by simp
  have q8 : (cc != cc) = false := by simp
  have q9 : ((five == 0) != (five == 0)) = false := by simp
  have HLK := Lib.hid (fun W (h : Below W11.heap.size W11 W) => likeInts_self bx bo cx co xs W (by omega) ((Rd.of_own encI_len (by decide) ox).below h) ((Rd.of_own encI_len (by decide) oo).below h))
  have E0 := Later.cell B0 hma
  have E1 := Later.cell B1 hma
  go_upto_region 13 with (fail)
  refine wp_region_later0 W11 ?_
  repeat (go_big_quiet_step ((first | (go_at_call 16; exact Later.call (Nat.le_refl _) (HLK.out _ (Later.prop _))) | (go_at_call 27; exact Later.call (Nat.le_refl _) (HLI.out _ (hM.below (Later.prop _)))))))
  refine wpQuiet_nil ?_
  intro z
  have hB1 := z.prop
  generalize z.val = W12 at hB1
  clear E0 E1 HLK HLI HPI HPS HFI HFS HCI HCS q2 q3 q4 q5 q6 q7 q8 q9

  have hL := hL.below hB1
  have hM := hM.below hB1
  have A0 := (hB1.cell (p := ⟨w1.heap.size, 0, none⟩) hla).trans A0
  have A1 := (hB1.cell (p := ⟨w1.heap.size, 1, none⟩) hla).trans A1
  have B0 := (hB1.cell (p := ⟨W4.heap.size, 0, none⟩) hma).trans B0
  have B1 := (hB1.cell (p := ⟨W4.heap.size, 1, none⟩) hma).trans B1
  have hla := Nat.lt_of_lt_of_le hla hB1.size
  have hma := Nat.lt_of_lt_of_le hma hB1.size
  have ox := own_below ox hB1
  have hB := stepB hB hB1 hB.size
  clear hB1

  clear oo
  go_upto_block 0 with (fail)
  have HZ : Hid (∀ W, Below W12.heap.size W12 W → LandD w.heap.size W a0 a1 c0 c1 ns ws ∧ LandD w.heap.size W b0 b1 d0 d1 ms vs ∧ W.cell? ⟨w1.heap.size, 0, none⟩ = some (.slice a0 ns.length c0) ∧ W.cell? ⟨w1.heap.size, 1, none⟩ = some (.slice a1 ws.length c1) ∧ W.cell? ⟨W4.heap.size, 0, none⟩ = some (.slice b0 ms.length d0) ∧ W.cell? ⟨W4.heap.size, 1, none⟩ = some (.slice b1 vs.length d1) ∧ w1.heap.size < W.heap.size ∧ W4.heap.size < W.heap.size ∧ Rd encI W bx xs ∧ Below w.heap.size w W) := fun W h => ⟨hL.below h, hM.below h, (h.cell (p := ⟨w1.heap.size, 0, none⟩) hla).trans A0, (h.cell (p := ⟨w1.heap.size, 1, none⟩) hla).trans A1, (h.cell (p := ⟨W4.heap.size, 0, none⟩) hma).trans B0, (h.cell (p := ⟨W4.heap.size, 1, none⟩) hma).trans B1, Nat.lt_of_lt_of_le hla h.size, Nat.lt_of_lt_of_le hma h.size, (Rd.of_own encI_len (by decide) ox).below h, stepB hB h hB.size⟩
  clear hL hM A0 A1 B0 B1 hla hma ox hB
  generalize w1.heap.size = la at HZ ⊢
  generalize W4.heap.size = ma at HZ ⊢
  go_cut [] from 27 to 185 (fun wd => Below W12.heap.size W12 wd)
  case first =>
    go_wp2
    go_loopw [27] (fun i wr => ∃ k : Nat, (one = 0 → k ≤ xs.length) ∧ i = .int .i64 k ∧ Below W12.heap.size W12 wr) (fun i _ => xs.length - (intOf i).toNat)
    case atStart => exact ⟨0, fun _ => Nat.zero_le _, rfl, Below.refl _ _⟩
    case round =>
      obtain ⟨k, hk, rfl, hBk⟩ := hrel
      by_cases hone : one = 0
      · subst hone
        have hk := hk rfl
        by_cases hlt : k < xs.length
        · have hlt' : (k : Int) < (xs.length : Int) := by omega
          have hm := List.getElem?_eq_getElem hlt
          have hmem := List.getElem_mem hlt
          generalize xs[k] = zz at hm hmem
          obtain ⟨g1, g2, g3⟩ := HWF.out zz rfl hmem
          obtain ⟨_, hM, _, _, B0, B1, _, hma, rx, hB⟩ := HZ.out wr hBk
          obtain ⟨b, off, hbx, hbb, cx0⟩ := rx.i hm
          subst hbx
          have HX := Lib.hid (fun W h => HMI.out p zz W h)
          generalize TM p zz = v at g1 g2 g3 HX
          obtain ⟨own, seven⟩ := v
          simp only at g1 g2 g3 HX
          subst g1
          have g2' : decide (days < own) = false := by simpa using g2
          have g3' : decide (most < own) = false := by simpa using g3
          clear hm hmem rx
          go_upto_region 18 with (fail)
          have hMd := hM.below (Below.refl _ wr).drew
          go_region_held_law (fun w' => w'.cell? ⟨ma, 0, none⟩ = some (.slice b0 ms.length d0) ∧ w'.cell? ⟨ma, 1, none⟩ = some (.slice b1 vs.length d1) ∧ w'.cell? ⟨b, off + k, none⟩ = some (.int .i64 zz)) (first | exact ⟨B0, B1, cx0⟩ | exact ⟨(hB6.cell (p := ⟨ma, 0, none⟩) hma).trans B0, (hB6.cell (p := ⟨ma, 1, none⟩) hma).trans B1, (hB6.cell (p := ⟨b, off + k, none⟩) hbb).trans cx0⟩) (first | (go_at_call 17; refine (HX.out _ hMd).mono ?_; rintro e w6 ⟨rfl, hB6⟩) | fail)
          have hBk := stepB hBk (stepB (Below.refl _ wr).drew hB6 (Nat.le_refl _)) hBk.size
          clear hB6 hMd HX B0 B1 cx0
          go_wp2
          go_roundw
          case rel => exact ⟨k + 1, fun _ => by omega, by go_num, hBk⟩
          case measure => simp [intOf]; omega
        · have hlt' : decide ((k : Int) < (xs.length : Int)) = false := by simp; omega
          go_wp2
          go_meet
          case rel => exact hBk
      · have hone' : (one == 0) = false := by simpa using hone
        go_wp2
        go_meet
        case rel => exact hBk
  case rest =>
    obtain ⟨hL, _, A0, A1, _, _, hla, _, _, hB⟩ := HZ.out wc hcut
    clear HZ hcut HWF HMI
    by_cases hbad : (TN x y).2 = 0
    · have hne := Lib.hid (hlen1.out hbad)
      have HTR := Lib.hid (fun k hk => HTRI.out k hbad hk)
      have hbad' : ((TN x y).2 != 0) = false := by simpa using hbad
      have HYX := Lib.hid (fun W h => HTI.out y x W h)
      have h01 := (HTR.out 0 hne.out).1
      have h02 := (HTR.out 0 hne.out).2.1
      have hvv := HVL.out x y
      generalize hv : TN y x = v at h01 h02 HYX
      obtain ⟨nb, eb⟩ := v
      simp only at h01 h02 HYX
      subst h01 h02
      clear hv
      go_wp2_with fail
      refine (HYX.out _ hL).mono ?_
      rintro e W13 ⟨rfl, hB1⟩
      have hL := hL.below hB1
      have A0 := (hB1.cell (p := ⟨la, 0, none⟩) hla).trans A0
      have A1 := (hB1.cell (p := ⟨la, 1, none⟩) hla).trans A1
      have hla := Nat.lt_of_lt_of_le hla hB1.size
      have hB := stepB hB hB1 hB.size
      clear hB1
      have hne' := hne.out
      have HRO := Lib.hid (fun W h => roll_any cs cap bs 1401 W (by decide) (hx.below h) hb hl)
      have HBE := Lib.hid (fun pd B W h1 h2 h3 => below_any cs cap bs pd B ns.length w W (by omega) hx hb hl h1 h2 h3)
      have hBd := stepB hB (Below.refl _ W13).drew hB.size
      go_upto_region 24 with (fail)
      go_region_held_law (fun w' => w'.cell? ⟨la, 0, none⟩ = some (.slice a0 ns.length c0)) (first | exact A0 | exact (hB6.cell (p := ⟨la, 0, none⟩) hla).trans A0 | exact (gcell hG7 (p := ⟨la, 0, none⟩) (Nat.lt_of_lt_of_le hla hB6.size) (fun g e => by cases e; exact Nat.ne_of_lt (Nat.lt_of_lt_of_le hla hpd))).trans ((hB6.cell (p := ⟨la, 0, none⟩) hla).trans A0)) (first | (go_at_call 28; refine (HRO.out _ hBd).mono ?_; rintro e w6 ⟨pd, rfl, hD6, hB6⟩; have hpd : W13.heap.size ≤ pd := (by obtain ⟨_, _, _, ho⟩ := hD6; exact (own_lt ho).1)) | (go_at_call 29; refine (HBE.out pd _ _ (stepB hBd hB6 hBd.size) hBd.size hD6).mono ?_; rintro e w7 ⟨kk, rfl, hk0, hk1, hB7, hG7⟩) | fail)
      have hBW : Below W13.heap.size W13 w7 := (stepB (Below.refl _ W13).drew hB6 (Nat.le_refl _)).grown hG7 hB6.size (fun g e => by cases e; exact hpd)
      have hL := hL.below hBW
      have A0 := (hBW.cell (p := ⟨la, 0, none⟩) hla).trans A0
      have A1 := (hBW.cell (p := ⟨la, 1, none⟩) hla).trans A1
      have hla := Nat.lt_of_lt_of_le hla hBW.size
      have hB := stepB hB hBW hB.size
      clear hBW hB6 hG7 hD6 hB7 hBd hpd HRO HBE
      obtain ⟨k, rfl⟩ : ∃ k : Nat, kk = k := ⟨kk.toNat, by omega⟩
      obtain ⟨_, _, h3⟩ := HTR.out k (by omega)
      have hu := HVL.out x k
      have hw := HVL.out k y
      have HXK := Lib.hid (fun W h => HTI.out x k W h)
      have HKY := Lib.hid (fun W h => HTI.out k y W h)
      clear HTR HTRI HTI HTS HVL hlen1 HYX
      generalize TN x y = vxy at h3 hvv hbad hbad' ⊢
      generalize TN x k = vxk at h3 HXK hu
      generalize TN k y = vky at h3 HKY hw
      obtain ⟨nn, bad⟩ := vxy
      obtain ⟨u, nine⟩ := vxk
      obtain ⟨v, ten⟩ := vky
      simp only at h3 hvv hbad hbad' HXK HKY hu hw
      subst hbad
      have v1 := i64_in (u + v) (by omega)
      go_wp2_with fail
      refine (HXK.out _ hL).mono ?_
      rintro e W14 ⟨rfl, hB1⟩
      have hL := hL.below hB1
      have A0 := (hB1.cell (p := ⟨la, 0, none⟩) hla).trans A0
      have A1 := (hB1.cell (p := ⟨la, 1, none⟩) hla).trans A1
      have hla := Nat.lt_of_lt_of_le hla hB1.size
      have hB := stepB hB hB1 hB.size
      clear hB1
      go_wp2_with fail
      refine (HKY.out _ hL).mono ?_
      rintro e W15 ⟨rfl, hB1⟩
      have hB := stepB hB hB1 hB.size
      clear hB1 hL A0 A1 HXK HKY
      rcases h3 with h3 | ⟨h3, h4, h5⟩
      · subst h3
        go_wp2
        go_ret
        exact ⟨rfl, hB⟩
      · subst h3 h4
        have h5' : decide (nn ≤ u + v) = true := by simpa using h5
        go_wp2
        go_ret
        exact ⟨rfl, hB⟩
    · have hbad' : ((TN x y).2 != 0) = true := by simpa using hbad
      go_wp2
      go_ret
      exact ⟨rfl, hB⟩

end Go.Proofs.YtihmacmieofbgaaDoor
