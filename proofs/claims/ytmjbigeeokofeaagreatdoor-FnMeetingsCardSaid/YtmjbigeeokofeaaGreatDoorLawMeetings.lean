/- Walk: the law FnMeetings. Printed by gen_lawmtg.py. -/
import Derived.Test.YtmjbigeeokofeaaGreatDoorDmt
import Derived.Test.YtmjbigeeokofeaaGreatDoorMtgP
import Derived.Test.YtmjbigeeokofeaaGreatDoorDice
import Derived.Test.YtmjbigeeokofeaaGreatDoorSetH
namespace Go.Proofs.YtmjbigeeokofeaaGreatDoor
open Go.ChangeShapes Go.WideShapes Go.ChangeAt Go.RowKit Go.IntWalk

theorem meetR_code (ps : List ByteArray) (ws : List Wy) (xs ys : List St) (z c : Int) : (meetR ps ws xs ys z c).2 = c := by
  unfold meetR
  split
  · rename_i h; exact h.symm
  · rfl
set_option maxRecDepth 100000 in
set_option maxHeartbeats 16000000 in
theorem lawMeetings_any (cs : Option Addr) (cap : Nat) (bs : List Int) (w : World) (_hl : bs.length ≤ maxLen) (hx : Rd encB w cs bs) (hb : ∀ m ∈ bs, goodB m) :
    Calls Tryz.prog 3 #[.slice cs bs.length cap] w fun e w' => e = .returned (.bool true) ∧ Below w.heap.size w w' := by
  have HBIG := Lib.hid (big_any cs cap bs.length w)
  by_cases hbig : 4096 < bs.length
  · have HBIG := Lib.hid ((show decide (4096 < bs.length) = true by simpa using hbig) ▸ HBIG.out)
    go_enter Tryz.func3, Tryz.ntmps3
    go_wp2_with fail
    refine HBIG.out.mono ?_
    rintro e w1 ⟨rfl, rfl⟩
    go_wp2
    go_ret
    exact ⟨rfl, Below.refl _ _⟩
  have HBIG := Lib.hid ((show decide (4096 < bs.length) = false by simpa using hbig) ▸ HBIG.out)
  have hl : bs.length ≤ 4096 := by omega
  go_enter Tryz.func3, Tryz.ntmps3
  go_wp2_with fail
  refine HBIG.out.mono ?_
  rintro e w0 ⟨rfl, rfl⟩
  clear HBIG hbig
  go_wp2_with fail
  refine (drawCouldMeet_any cs cap bs w hx hb hl).mono ?_
  rintro e w1 ⟨a0, a1, c0, c1, ns, ws, g, c, sts, g2, c2, st2, z, rfl, L1, hsl, hsl2, hz, o1, o2, hB⟩
  generalize hW : w1.alloc (.cells #[.slice a0 ns.length c0, .slice a1 ws.length c1] 27) = W3
  have hB1 : Below w1.heap.size w1 W3 := by rw [← hW]; exact belowA _ _
  have A0 : W3.cell? ⟨w1.heap.size, 0, none⟩ = some (.slice a0 ns.length c0) := by rw [← hW]; exact World.cell?_alloc_at _ _ _ _ rfl
  have A1 : W3.cell? ⟨w1.heap.size, 1, none⟩ = some (.slice a1 ws.length c1) := by rw [← hW]; exact World.cell?_alloc_at _ _ _ _ rfl
  have hla : w1.heap.size < W3.heap.size := by rw [← hW]; simp
  have L1 := L1.below hB1
  have o1 := own_below o1 hB1
  have o2 := own_below o2 hB1
  have hB := stepB hB hB1 hB.size
  clear hB1
  have HMI := Lib.hid (fun W (h0 : Rd encS W a0 ns) (h1 : Rd encWy W a1 ws) (h2 : Rd encSt W (some ⟨g, 0, none⟩) sts) (h3 : Rd encSt W (some ⟨g2, 0, none⟩) st2) => implMeet_any a0 a1 (some ⟨g, 0, none⟩) (some ⟨g2, 0, none⟩) c0 c1 c c2 ns ws sts st2 z W L1.cap.1 L1.cap.2 (by have := L1.n1; omega) h0 (fun m hm => by have := L1.n3 m hm; omega) (by have := L1.n2; omega) h1 (by omega) h2 (by omega) h3)
  have HMS := Lib.hid (fun W (h0 : Rd encS W a0 ns) (h1 : Rd encWy W a1 ws) (h2 : Rd encSt W (some ⟨g, 0, none⟩) sts) (h3 : Rd encSt W (some ⟨g2, 0, none⟩) st2) => specMeet_any a0 a1 (some ⟨g, 0, none⟩) (some ⟨g2, 0, none⟩) c0 c1 c c2 ns ws sts st2 z W L1.cap.1 L1.cap.2 (by have := L1.n1; omega) h0 (fun m hm => by have := L1.n3 m hm; omega) (by have := L1.n2; omega) h1 (by omega) h2 (by omega) h3)
  have hXc := meetR_code ns ws sts st2 z (codeM ns ws sts st2 z)
  have hlw := fun h x hx => meet_law (ps := ns) (ws := ws) (a := sts) (b := st2) (n := z) (x := x) h hx
  have lX := meetR_len ns ws sts st2 z (codeM ns ws sts st2 z) (by have := L1.n1; omega)
  obtain ⟨⟨X1, X2⟩, hX⟩ : ∃ R, meetR ns ws sts st2 z (codeM ns ws sts st2 z) = R := ⟨_, rfl⟩
  rw [hX] at HMI HMS lX hXc hlw
  dsimp only at HMI HMS lX hXc hlw
  have HLW := Lib.hid hlw
  have HXC := Lib.hid hXc
  clear hX hlw hXc
  go_wp2_with fail
  clear hW
  refine (HMI.out _ L1.rd0 L1.rd1 (Rd.of_own encSt_len (by decide) o1) (Rd.of_own encSt_len (by decide) o2)).mono ?_
  rintro e W4 ⟨bq1, eq1, rfl, q1, hB1⟩
  have q1 := own_base q1 hB.size
  have A0 := (hB1.cell (p := ⟨w1.heap.size, 0, none⟩) hla).trans A0
  have A1 := (hB1.cell (p := ⟨w1.heap.size, 1, none⟩) hla).trans A1
  have hla := Nat.lt_of_lt_of_le hla hB1.size
  have L1 := L1.below hB1
  have o1 := own_below o1 hB1
  have o2 := own_below o2 hB1
  have hB := stepB hB hB1 hB.size
  clear hB1
  go_wp2_with fail
  refine (HMS.out _ L1.rd0 L1.rd1 (Rd.of_own encSt_len (by decide) o1) (Rd.of_own encSt_len (by decide) o2)).mono ?_
  rintro e W5 ⟨bq2, eq2, rfl, q2, hB1⟩
  have q2 := own_base q2 hB.size
  have A0 := (hB1.cell (p := ⟨w1.heap.size, 0, none⟩) hla).trans A0
  have A1 := (hB1.cell (p := ⟨w1.heap.size, 1, none⟩) hla).trans A1
  have hla := Nat.lt_of_lt_of_le hla hB1.size
  have L1 := L1.below hB1
  have o1 := own_below o1 hB1
  have o2 := own_below o2 hB1
  have q1 := own_below q1 hB1
  have hB := stepB hB hB1 hB.size
  clear hB1
  go_wp2_with fail
  refine (drawSlackAfter_any cs cap bs _ (hx.below hB) hb hl).mono ?_
  rintro e W6 ⟨a0', a1', c0', c1', ns', ws', g', c', sts', z', rfl, L2, hsl', hz', o3, hB1⟩
  have L2 := L2.base hB.size
  have o3 := own_base o3 hB.size
  have A0 := (hB1.cell (p := ⟨w1.heap.size, 0, none⟩) hla).trans A0
  have A1 := (hB1.cell (p := ⟨w1.heap.size, 1, none⟩) hla).trans A1
  have hla := Nat.lt_of_lt_of_le hla hB1.size
  have L1 := L1.below hB1
  have o1 := own_below o1 hB1
  have o2 := own_below o2 hB1
  have q1 := own_below q1 hB1
  have q2 := own_below q2 hB1
  have hB := stepB hB hB1 hB.size
  clear hB1
  generalize hW : W6.alloc (.cells #[.slice a0' ns'.length c0', .slice a1' ws'.length c1'] 27) = W7
  have hB1 : Below W6.heap.size W6 W7 := by rw [← hW]; exact belowA _ _
  have B0 : W7.cell? ⟨W6.heap.size, 0, none⟩ = some (.slice a0' ns'.length c0') := by rw [← hW]; exact World.cell?_alloc_at _ _ _ _ rfl
  have B1 : W7.cell? ⟨W6.heap.size, 1, none⟩ = some (.slice a1' ws'.length c1') := by rw [← hW]; exact World.cell?_alloc_at _ _ _ _ rfl
  have hlb : W6.heap.size < W7.heap.size := by rw [← hW]; simp
  have A0 := (hB1.cell (p := ⟨w1.heap.size, 0, none⟩) hla).trans A0
  have A1 := (hB1.cell (p := ⟨w1.heap.size, 1, none⟩) hla).trans A1
  have hla := Nat.lt_of_lt_of_le hla hB1.size
  have L1 := L1.below hB1
  have L2 := L2.below hB1
  have o1 := own_below o1 hB1
  have o2 := own_below o2 hB1
  have q1 := own_below q1 hB1
  have q2 := own_below q2 hB1
  have o3 := own_below o3 hB1
  have hB := stepB hB hB1 hB.size
  clear hB1
  have HSI := Lib.hid (fun W (h0 : Rd encS W a0' ns') (h1 : Rd encWy W a1' ws') (h2 : Rd encSt W (some ⟨g', 0, none⟩) sts') => implSlack_any a0' a1' (some ⟨g', 0, none⟩) c0' c1' c' ns' ws' sts' z' W (by omega) L2.cap.1 L2.cap.2 (by have := L2.n1; omega) h0 (fun m hm => by have := L2.n3 m hm; omega) (by have := L2.n2; omega) h1 (by omega) h2)
  have HSS := Lib.hid (fun W (h0 : Rd encS W a0' ns') (h1 : Rd encWy W a1' ws') (h2 : Rd encSt W (some ⟨g', 0, none⟩) sts') => specSlack_any a0' a1' (some ⟨g', 0, none⟩) c0' c1' c' ns' ws' sts' z' W (by omega) L2.cap.1 L2.cap.2 (by have := L2.n1; omega) h0 (fun m hm => by have := L2.n3 m hm; omega) (by have := L2.n2; omega) h1 (by omega) h2)
  have hsll := slack_law (ps := ns') (ws := ws') (xs := sts') (z := z')
  obtain ⟨⟨Y1, Y2⟩, hY⟩ : ∃ R, slackR ns' ws' sts' z' (codeI ns' ws' sts' (inB z' 0 ((sts'.length : Int) - 2))) = R := ⟨_, rfl⟩
  rw [hY] at HSI HSS hsll
  dsimp only at HSI HSS hsll
  have HSL := Lib.hid hsll
  clear hY hsll
  go_wp2_with fail
  clear hW
  refine (HSI.out _ L2.rd0 L2.rd1 (Rd.of_own encSt_len (by decide) o3)).mono ?_
  rintro e W8 ⟨rfl, hB1⟩
  have A0 := (hB1.cell (p := ⟨w1.heap.size, 0, none⟩) hla).trans A0
  have A1 := (hB1.cell (p := ⟨w1.heap.size, 1, none⟩) hla).trans A1
  have B0 := (hB1.cell (p := ⟨W6.heap.size, 0, none⟩) hlb).trans B0
  have B1 := (hB1.cell (p := ⟨W6.heap.size, 1, none⟩) hlb).trans B1
  have hla := Nat.lt_of_lt_of_le hla hB1.size
  have hlb := Nat.lt_of_lt_of_le hlb hB1.size
  have L1 := L1.below hB1
  have L2 := L2.below hB1
  have o1 := own_below o1 hB1
  have o2 := own_below o2 hB1
  have q1 := own_below q1 hB1
  have q2 := own_below q2 hB1
  have o3 := own_below o3 hB1
  have hB := stepB hB hB1 hB.size
  clear hB1
  go_wp2_with fail
  refine (HSS.out _ L2.rd0 L2.rd1 (Rd.of_own encSt_len (by decide) o3)).mono ?_
  rintro e W9 ⟨rfl, hB1⟩
  have A0 := (hB1.cell (p := ⟨w1.heap.size, 0, none⟩) hla).trans A0
  have A1 := (hB1.cell (p := ⟨w1.heap.size, 1, none⟩) hla).trans A1
  have B0 := (hB1.cell (p := ⟨W6.heap.size, 0, none⟩) hlb).trans B0
  have B1 := (hB1.cell (p := ⟨W6.heap.size, 1, none⟩) hlb).trans B1
  have hla := Nat.lt_of_lt_of_le hla hB1.size
  have hlb := Nat.lt_of_lt_of_le hlb hB1.size
  have L1 := L1.below hB1
  have L2 := L2.below hB1
  have o1 := own_below o1 hB1
  have o2 := own_below o2 hB1
  have q1 := own_below q1 hB1
  have q2 := own_below q2 hB1
  have o3 := own_below o3 hB1
  have hB := stepB hB hB1 hB.size
  clear hB1
  go_wp2_with fail
  refine (drawCouldBeDays_any cs cap bs _ (hx.below hB) hb hl).mono ?_
  rintro e W10 ⟨a02, a12, c02, c12, ns2, ws2, g4, c4, sts4, z4, rfl, L3, hsl4, o4, hB1⟩
  have L3 := L3.base hB.size
  have o4 := own_base o4 hB.size
  have A0 := (hB1.cell (p := ⟨w1.heap.size, 0, none⟩) hla).trans A0
  have A1 := (hB1.cell (p := ⟨w1.heap.size, 1, none⟩) hla).trans A1
  have B0 := (hB1.cell (p := ⟨W6.heap.size, 0, none⟩) hlb).trans B0
  have B1 := (hB1.cell (p := ⟨W6.heap.size, 1, none⟩) hlb).trans B1
  have hla := Nat.lt_of_lt_of_le hla hB1.size
  have hlb := Nat.lt_of_lt_of_le hlb hB1.size
  have L1 := L1.below hB1
  have L2 := L2.below hB1
  have o1 := own_below o1 hB1
  have o2 := own_below o2 hB1
  have q1 := own_below q1 hB1
  have q2 := own_below q2 hB1
  have o3 := own_below o3 hB1
  have hB := stepB hB hB1 hB.size
  clear hB1
  generalize hW : W10.alloc (.cells #[.slice a02 ns2.length c02, .slice a12 ws2.length c12] 27) = W11
  have hB1 : Below W10.heap.size W10 W11 := by rw [← hW]; exact belowA _ _
  have C0 : W11.cell? ⟨W10.heap.size, 0, none⟩ = some (.slice a02 ns2.length c02) := by rw [← hW]; exact World.cell?_alloc_at _ _ _ _ rfl
  have C1 : W11.cell? ⟨W10.heap.size, 1, none⟩ = some (.slice a12 ws2.length c12) := by rw [← hW]; exact World.cell?_alloc_at _ _ _ _ rfl
  have hlc : W10.heap.size < W11.heap.size := by rw [← hW]; simp
  have A0 := (hB1.cell (p := ⟨w1.heap.size, 0, none⟩) hla).trans A0
  have A1 := (hB1.cell (p := ⟨w1.heap.size, 1, none⟩) hla).trans A1
  have B0 := (hB1.cell (p := ⟨W6.heap.size, 0, none⟩) hlb).trans B0
  have B1 := (hB1.cell (p := ⟨W6.heap.size, 1, none⟩) hlb).trans B1
  have hla := Nat.lt_of_lt_of_le hla hB1.size
  have hlb := Nat.lt_of_lt_of_le hlb hB1.size
  have L1 := L1.below hB1
  have L2 := L2.below hB1
  have L3 := L3.below hB1
  have o1 := own_below o1 hB1
  have o2 := own_below o2 hB1
  have q1 := own_below q1 hB1
  have q2 := own_below q2 hB1
  have o3 := own_below o3 hB1
  have o4 := own_below o4 hB1
  have hB := stepB hB hB1 hB.size
  clear hB1
  have HCI := Lib.hid (fun W (h0 : Rd encS W a02 ns2) (h1 : Rd encWy W a12 ws2) (h2 : Rd encSt W (some ⟨g4, 0, none⟩) sts4) => implCbDays_any a02 a12 (some ⟨g4, 0, none⟩) c02 c12 c4 ns2 ws2 sts4 z4 W L3.cap.1 L3.cap.2 (by have := L3.n1; omega) h0 (fun m hm => by have := L3.n3 m hm; omega) (by have := L3.n2; omega) h1 (by omega) h2)
  have HCS := Lib.hid (fun W (h0 : Rd encS W a02 ns2) (h1 : Rd encWy W a12 ws2) (h2 : Rd encSt W (some ⟨g4, 0, none⟩) sts4) => specCbDays_any a02 a12 (some ⟨g4, 0, none⟩) c02 c12 c4 ns2 ws2 sts4 z4 W L3.cap.1 L3.cap.2 (by have := L3.n1; omega) h0 (fun m hm => by have := L3.n3 m hm; omega) (by have := L3.n2; omega) h1 (by omega) h2)
  have lZ := cbdR_len' ns2 ws2 sts4 z4 (placeB ns2.length z4) (by omega)
  obtain ⟨⟨Z1, Z2⟩, hZ⟩ : ∃ R, cbdR ns2 ws2 sts4 z4 (codeI ns2 ws2 sts4 (placeB ns2.length z4)) = R := ⟨_, rfl⟩
  rw [hZ] at HCI HCS lZ
  dsimp only at HCI HCS lZ
  clear hZ
  go_wp2_with fail
  clear hW
  refine (HCI.out _ L3.rd0 L3.rd1 (Rd.of_own encSt_len (by decide) o4)).mono ?_
  rintro e W12 ⟨bq3, eq3, rfl, q3, hB1⟩
  have q3 := own_base q3 hB.size
  have A0 := (hB1.cell (p := ⟨w1.heap.size, 0, none⟩) hla).trans A0
  have A1 := (hB1.cell (p := ⟨w1.heap.size, 1, none⟩) hla).trans A1
  have B0 := (hB1.cell (p := ⟨W6.heap.size, 0, none⟩) hlb).trans B0
  have B1 := (hB1.cell (p := ⟨W6.heap.size, 1, none⟩) hlb).trans B1
  have C0 := (hB1.cell (p := ⟨W10.heap.size, 0, none⟩) hlc).trans C0
  have C1 := (hB1.cell (p := ⟨W10.heap.size, 1, none⟩) hlc).trans C1
  have hla := Nat.lt_of_lt_of_le hla hB1.size
  have hlb := Nat.lt_of_lt_of_le hlb hB1.size
  have hlc := Nat.lt_of_lt_of_le hlc hB1.size
  have L1 := L1.below hB1
  have L2 := L2.below hB1
  have L3 := L3.below hB1
  have o1 := own_below o1 hB1
  have o2 := own_below o2 hB1
  have q1 := own_below q1 hB1
  have q2 := own_below q2 hB1
  have o3 := own_below o3 hB1
  have o4 := own_below o4 hB1
  have hB := stepB hB hB1 hB.size
  clear hB1
  go_wp2_with fail
  refine (HCS.out _ L3.rd0 L3.rd1 (Rd.of_own encSt_len (by decide) o4)).mono ?_
  rintro e W13 ⟨bq4, eq4, rfl, q4, hB1⟩
  have q4 := own_base q4 hB.size
  have A0 := (hB1.cell (p := ⟨w1.heap.size, 0, none⟩) hla).trans A0
  have A1 := (hB1.cell (p := ⟨w1.heap.size, 1, none⟩) hla).trans A1
  have B0 := (hB1.cell (p := ⟨W6.heap.size, 0, none⟩) hlb).trans B0
  have B1 := (hB1.cell (p := ⟨W6.heap.size, 1, none⟩) hlb).trans B1
  have C0 := (hB1.cell (p := ⟨W10.heap.size, 0, none⟩) hlc).trans C0
  have C1 := (hB1.cell (p := ⟨W10.heap.size, 1, none⟩) hlc).trans C1
  have hla := Nat.lt_of_lt_of_le hla hB1.size
  have hlb := Nat.lt_of_lt_of_le hlb hB1.size
  have hlc := Nat.lt_of_lt_of_le hlc hB1.size
  have L1 := L1.below hB1
  have L2 := L2.below hB1
  have L3 := L3.below hB1
  have o1 := own_below o1 hB1
  have o2 := own_below o2 hB1
  have q1 := own_below q1 hB1
  have q2 := own_below q2 hB1
  have o3 := own_below o3 hB1
  have o4 := own_below o4 hB1
  have q3 := own_below q3 hB1
  have hB := stepB hB hB1 hB.size
  clear hB1
  have nX2 := (show (X2 != X2) = false by simp)
  have nY2 := (show (Y2 != Y2) = false by simp)
  have nY1 := (show (Y1 != Y1) = false by simp)
  have nZ2 := (show (Z2 != Z2) = false by simp)
  have K1 := Lib.hid (fun W (hh : Rd encI W bq1 X1 ∧ Rd encI W bq2 X1) => likeInts_self bq1 bq2 eq1 eq2 X1 W (by omega) hh.1 hh.2)
  have K2 := Lib.hid (fun W (hh : Rd encSp W bq3 Z1 ∧ Rd encSp W bq4 Z1) => likeSpans_self bq3 bq4 eq3 eq4 Z1 W (by omega) hh.1 hh.2)
  clear HMI HMS HSI HSS HCI HCS
  go_wp2_with fail
  refine (K1.out _ ⟨Rd.of_own encI_len (by decide) q1, Rd.of_own encI_len (by decide) q2⟩).mono ?_
  rintro e W14 ⟨rfl, hB1⟩
  have A0 := (hB1.cell (p := ⟨w1.heap.size, 0, none⟩) hla).trans A0
  have A1 := (hB1.cell (p := ⟨w1.heap.size, 1, none⟩) hla).trans A1
  have B0 := (hB1.cell (p := ⟨W6.heap.size, 0, none⟩) hlb).trans B0
  have B1 := (hB1.cell (p := ⟨W6.heap.size, 1, none⟩) hlb).trans B1
  have C0 := (hB1.cell (p := ⟨W10.heap.size, 0, none⟩) hlc).trans C0
  have C1 := (hB1.cell (p := ⟨W10.heap.size, 1, none⟩) hlc).trans C1
  have hla := Nat.lt_of_lt_of_le hla hB1.size
  have hlb := Nat.lt_of_lt_of_le hlb hB1.size
  have hlc := Nat.lt_of_lt_of_le hlc hB1.size
  have L1 := L1.below hB1
  have L2 := L2.below hB1
  have L3 := L3.below hB1
  have o1 := own_below o1 hB1
  have o2 := own_below o2 hB1
  have q1 := own_below q1 hB1
  have q2 := own_below q2 hB1
  have o3 := own_below o3 hB1
  have o4 := own_below o4 hB1
  have q3 := own_below q3 hB1
  have q4 := own_below q4 hB1
  have hB := stepB hB hB1 hB.size
  clear hB1
  go_wp2_with fail
  refine (K2.out _ ⟨Rd.of_own encSp_len (by decide) q3, Rd.of_own encSp_len (by decide) q4⟩).mono ?_
  rintro e W15 ⟨rfl, hB1⟩
  have A0 := (hB1.cell (p := ⟨w1.heap.size, 0, none⟩) hla).trans A0
  have A1 := (hB1.cell (p := ⟨w1.heap.size, 1, none⟩) hla).trans A1
  have B0 := (hB1.cell (p := ⟨W6.heap.size, 0, none⟩) hlb).trans B0
  have B1 := (hB1.cell (p := ⟨W6.heap.size, 1, none⟩) hlb).trans B1
  have C0 := (hB1.cell (p := ⟨W10.heap.size, 0, none⟩) hlc).trans C0
  have C1 := (hB1.cell (p := ⟨W10.heap.size, 1, none⟩) hlc).trans C1
  have hla := Nat.lt_of_lt_of_le hla hB1.size
  have hlb := Nat.lt_of_lt_of_le hlb hB1.size
  have hlc := Nat.lt_of_lt_of_le hlc hB1.size
  have L1 := L1.below hB1
  have L2 := L2.below hB1
  have L3 := L3.below hB1
  have o1 := own_below o1 hB1
  have o2 := own_below o2 hB1
  have q1 := own_below q1 hB1
  have q2 := own_below q2 hB1
  have o3 := own_below o3 hB1
  have o4 := own_below o4 hB1
  have q3 := own_below q3 hB1
  have q4 := own_below q4 hB1
  have hB := stepB hB hB1 hB.size
  clear hB1
  clear K1 K2 q2 q3 q4 o3 o4 L2 L3 B0 B1 C0 C1 hlb hlc
  have HCB := Lib.hid (fun a3 c3 (xs : List St) x (hl3 : xs.length ≤ 5) W (h0 : Rd encS W a0 ns) (h1 : Rd encWy W a1 ws) (h2 : Rd encSt W a3 xs) => implCbOne_any a0 a1 a3 c0 c1 c3 ns ws xs x z W L1.cap.1 L1.cap.2 (by have := L1.n1; omega) h0 (fun m hm => by have := L1.n3 m hm; omega) (by have := L1.n2; omega) h1 (by omega) h2)
  obtain hY0 | ⟨hY0, hneg⟩ : (Y2 == 0) = false ∨ ((Y2 == 0) = true ∧ decide (Y1 < 0) = false) := by
    by_cases h : Y2 = 0
    · exact .inr ⟨by simpa using h, by simpa using HSL.out h⟩
    · exact .inl (by simpa using h)
  · by_cases hX0 : X2 = 0
    · have hlw := Lib.hid (HLW.out (HXC.out.symm.trans hX0))
      have hX1 : (X2 == 0) = true := by simpa using hX0
      clear hX0
      go_wp2
      go_loopw [25] (fun i wr => ∃ k : Nat, k ≤ X1.length ∧ i = .int .i64 k ∧ Below W15.heap.size W15 wr) (fun i _ => X1.length - (intOf i).toNat)
      case atStart => exact ⟨0, Nat.zero_le _, rfl, Below.refl _ _⟩
      case round =>
        obtain ⟨k, hk, rfl, hB1⟩ := hrel
        have hC := hB1
        have A0 := (hB1.cell (p := ⟨w1.heap.size, 0, none⟩) hla).trans A0
        have A1 := (hB1.cell (p := ⟨w1.heap.size, 1, none⟩) hla).trans A1
        have hla := Nat.lt_of_lt_of_le hla hB1.size
        have L1 := L1.below hB1
        have o1 := own_below o1 hB1
        have o2 := own_below o2 hB1
        have q1 := own_below q1 hB1
        have hB := stepB hB hB1 hB.size
        clear hB1
        by_cases hlt : k < X1.length
        · have hk1 : (k : Int) < (X1.length : Int) := by omega
          have hm := List.getElem?_eq_getElem hlt
          generalize X1[k] = x at hm
          obtain ⟨hc1, hc2⟩ := hlw.out x (List.mem_of_getElem? hm)
          obtain ⟨b, off, rfl, hb2, d0⟩ := (Rd.of_own encI_len (by decide) q1).i hm
          have HB1 := Lib.hid (fun W h0 h1 h2 => hc1 ▸ HCB.out (some ⟨g, 0, none⟩) c sts x hsl W h0 h1 h2)
          have HB2 := Lib.hid (fun W h0 h1 h2 => hc2 ▸ HCB.out (some ⟨g2, 0, none⟩) c2 st2 x hsl2 W h0 h1 h2)
          clear hc1 hc2 hm
          go_upto_region 17 with (fail)
          refine MAny.region (S := fun w' => w'.cell? ⟨w1.heap.size, 0, none⟩ = some (.slice a0 ns.length c0) ∧ w'.cell? ⟨w1.heap.size, 1, none⟩ = some (.slice a1 ws.length c1) ∧ w'.cell? ⟨b, off + k, none⟩ = some (.int .i64 x)) (last := 12) (by kernel_rfl) ?_
          have hB1 := (Below.refl wr.heap.size wr).drew
          have d0 := (hB1.cell (p := ⟨b, _, none⟩) hb2).trans d0
          have hb2 := Nat.lt_of_lt_of_le hb2 hB1.size
          have A0 := (hB1.cell (p := ⟨w1.heap.size, 0, none⟩) hla).trans A0
          have A1 := (hB1.cell (p := ⟨w1.heap.size, 1, none⟩) hla).trans A1
          have hla := Nat.lt_of_lt_of_le hla hB1.size
          have L1 := L1.below hB1
          have o1 := own_below o1 hB1
          have o2 := own_below o2 hB1
          have q1 := own_below q1 hB1
          have hC := stepB hC hB1 hC.size
          have hB := stepB hB hB1 hB.size
          clear hB1
          generalize wr.drew = V0 at A0 A1 hla L1 o1 o2 q1 hB hC hb2 d0 ⊢
          have hHeld := And.intro A0 (And.intro A1 d0)
          have HS2 : Calls Tryz.prog 18 #[.agg #[.slice a0 ns.length c0, .slice a1 ws.length c1], .slice (some ⟨g, 0, none⟩) sts.length c, .int .i64 x, .int .i64 z] V0 _ := HB1.out V0 L1.rd0 L1.rd1 (Rd.of_own encSt_len (by decide) o1)
          have HS2 := Lib.hid HS2
          refine MAny.take (i := 0) (v := ?_) rfl (by kernel_rfl) (by kernel_rfl) (by kernel_rfl) (fun _ _ _ h => h) (by kernel_rfl) (Or.inl ⟨by rfl, ?_⟩) (by assumption) ?_
          rotate_left
          · (intro w' hSw; (try dsimp only at hSw); go_simp; try (with_reducible rfl))
          try simp only [Act.put, List.setIfInBounds_toArray]
          refine MAny.take (i := 1) (v := ?_) rfl (by kernel_rfl) (by kernel_rfl) (by kernel_rfl) (fun _ _ _ h => h) (by kernel_rfl) (Or.inl ⟨by rfl, ?_⟩) (by assumption) ?_
          rotate_left
          · (intro w' hSw; (try dsimp only at hSw); go_simp; try (with_reducible rfl))
          try simp only [Act.put]
          refine MAny.take (i := 2) (v := ?_) rfl (by kernel_rfl) (by kernel_rfl) (by kernel_rfl) (fun _ _ _ h => h) (by kernel_rfl) (Or.inl ⟨by rfl, ?_⟩) (by assumption) ?_
          rotate_left
          · (intro w' hSw; (try dsimp only at hSw); go_simp; try (with_reducible rfl))
          try simp only [Act.put]
          refine MAny.take (i := 3) (v := ?_) rfl (by kernel_rfl) (by kernel_rfl) (by kernel_rfl) (fun _ _ _ h => h) (by kernel_rfl) (Or.inl ⟨by rfl, ?_⟩) (by assumption) ?_
          rotate_left
          · (intro w' hSw; (try dsimp only at hSw); go_simp; try (with_reducible rfl))
          try simp only [Act.put]
          refine MAny.take (i := 4) (v := ?_) rfl (by kernel_rfl) (by kernel_rfl) (by kernel_rfl) (fun _ _ _ h => h) (by kernel_rfl) (Or.inl ⟨by rfl, ?_⟩) (by assumption) ?_
          rotate_left
          · (intro w' hSw; (try dsimp only at hSw); go_simp; try (with_reducible rfl))
          try simp only [Act.put]
          refine MAny.take (i := 5) (v := ?_) rfl (by kernel_rfl) (by kernel_rfl) (by kernel_rfl) (fun _ _ _ h => h) (by kernel_rfl) (Or.inl ⟨by rfl, ?_⟩) (by assumption) ?_
          rotate_left
          · (intro w' hSw; (try dsimp only at hSw); go_simp; try (with_reducible rfl))
          try simp only [Act.put]
          refine MAny.take (i := 6) (v := ?_) rfl (by kernel_rfl) (by kernel_rfl) (by kernel_rfl) (fun _ _ _ h => h) (by kernel_rfl) (Or.inl ⟨by rfl, ?_⟩) (by assumption) ?_
          rotate_left
          · (intro w' hSw; (try dsimp only at hSw); go_simp; try (with_reducible rfl))
          try simp only [Act.put]
          refine MAny.ready (rs := [7]) (by kernel_rfl) (by simp) ?_
          refine MReady.cons rfl (fun K hK => ?_) MReady.nil
          go_simp
          go_wp2_with (go_at_call 18; refine HS2.out.mono ?_; rintro e V3 ⟨rfl, hB1⟩)
          have d0 := (hB1.cell (p := ⟨b, _, none⟩) hb2).trans d0
          have hb2 := Nat.lt_of_lt_of_le hb2 hB1.size
          have A0 := (hB1.cell (p := ⟨w1.heap.size, 0, none⟩) hla).trans A0
          have A1 := (hB1.cell (p := ⟨w1.heap.size, 1, none⟩) hla).trans A1
          have hla := Nat.lt_of_lt_of_le hla hB1.size
          have L1 := L1.below hB1
          have o1 := own_below o1 hB1
          have o2 := own_below o2 hB1
          have q1 := own_below q1 hB1
          have hC := stepB hC hB1 hC.size
          have hB := stepB hB hB1 hB.size
          clear hB1
          have hHeld := And.intro A0 (And.intro A1 d0)
          refine hK.out _ _ (.inr hHeld) ?_
          clear hK K
          refine MAny.take (i := 8) (v := ?_) rfl (by kernel_rfl) (by kernel_rfl) (by kernel_rfl) (fun _ _ _ h => h) (by kernel_rfl) (Or.inl ⟨by rfl, ?_⟩) (by assumption) ?_
          rotate_left
          · (intro w' hSw; (try dsimp only at hSw); go_simp; try (with_reducible rfl))
          try simp only [Act.put, List.setIfInBounds_toArray]
          refine MAny.take (i := 9) (v := ?_) rfl (by kernel_rfl) (by kernel_rfl) (by kernel_rfl) (fun _ _ _ h => h) (by kernel_rfl) (Or.inl ⟨by rfl, ?_⟩) (by assumption) ?_
          rotate_left
          · (intro w' hSw; (try dsimp only at hSw); go_simp; try (with_reducible rfl))
          try simp only [Act.put]
          refine MAny.take (i := 10) (v := ?_) rfl (by kernel_rfl) (by kernel_rfl) (by kernel_rfl) (fun _ _ _ h => h) (by kernel_rfl) (Or.inl ⟨by rfl, ?_⟩) (by assumption) ?_
          rotate_left
          · (intro w' hSw; (try dsimp only at hSw); go_simp; try (with_reducible rfl))
          try simp only [Act.put]
          refine MAny.ready (rs := [11]) (by kernel_rfl) (by simp) ?_
          refine MReady.cons rfl (fun K hK => ?_) MReady.nil
          go_simp
          refine hK.out _ _ (.inr hHeld) ?_
          clear hK K
          refine MAny.ready (rs := [12]) (by kernel_rfl) (by simp) ?_
          refine MReady.cons rfl (fun K hK => ?_) MReady.nil
          go_simp
          refine hK.out _ _ (.inl rfl) ?_
          clear hK K
          refine MAny.done (by kernel_rfl) ?_ _
          try simp only [List.getElem_toArray, List.getElem_cons_succ, List.getElem_cons_zero]
          clear hHeld HS2
          go_upto_region 18 with (fail)
          refine MAny.region (S := fun w' => w'.cell? ⟨w1.heap.size, 0, none⟩ = some (.slice a0 ns.length c0) ∧ w'.cell? ⟨w1.heap.size, 1, none⟩ = some (.slice a1 ws.length c1) ∧ w'.cell? ⟨b, off + k, none⟩ = some (.int .i64 x)) (last := 12) (by kernel_rfl) ?_
          have hB1 := (Below.refl V3.heap.size V3).drew
          have d0 := (hB1.cell (p := ⟨b, _, none⟩) hb2).trans d0
          have hb2 := Nat.lt_of_lt_of_le hb2 hB1.size
          have A0 := (hB1.cell (p := ⟨w1.heap.size, 0, none⟩) hla).trans A0
          have A1 := (hB1.cell (p := ⟨w1.heap.size, 1, none⟩) hla).trans A1
          have hla := Nat.lt_of_lt_of_le hla hB1.size
          have L1 := L1.below hB1
          have o1 := own_below o1 hB1
          have o2 := own_below o2 hB1
          have q1 := own_below q1 hB1
          have hC := stepB hC hB1 hC.size
          have hB := stepB hB hB1 hB.size
          clear hB1
          generalize V3.drew = V0 at A0 A1 hla L1 o1 o2 q1 hB hC hb2 d0 ⊢
          have hHeld := And.intro A0 (And.intro A1 d0)
          have HS2 : Calls Tryz.prog 18 #[.agg #[.slice a0 ns.length c0, .slice a1 ws.length c1], .slice (some ⟨g2, 0, none⟩) st2.length c2, .int .i64 x, .int .i64 z] V0 _ := HB2.out V0 L1.rd0 L1.rd1 (Rd.of_own encSt_len (by decide) o2)
          have HS2 := Lib.hid HS2
          refine MAny.take (i := 0) (v := ?_) rfl (by kernel_rfl) (by kernel_rfl) (by kernel_rfl) (fun _ _ _ h => h) (by kernel_rfl) (Or.inl ⟨by rfl, ?_⟩) (by assumption) ?_
          rotate_left
          · (intro w' hSw; (try dsimp only at hSw); go_simp; try (with_reducible rfl))
          try simp only [Act.put, List.setIfInBounds_toArray]
          refine MAny.take (i := 1) (v := ?_) rfl (by kernel_rfl) (by kernel_rfl) (by kernel_rfl) (fun _ _ _ h => h) (by kernel_rfl) (Or.inl ⟨by rfl, ?_⟩) (by assumption) ?_
          rotate_left
          · (intro w' hSw; (try dsimp only at hSw); go_simp; try (with_reducible rfl))
          try simp only [Act.put]
          refine MAny.take (i := 2) (v := ?_) rfl (by kernel_rfl) (by kernel_rfl) (by kernel_rfl) (fun _ _ _ h => h) (by kernel_rfl) (Or.inl ⟨by rfl, ?_⟩) (by assumption) ?_
          rotate_left
          · (intro w' hSw; (try dsimp only at hSw); go_simp; try (with_reducible rfl))
          try simp only [Act.put]
          refine MAny.take (i := 3) (v := ?_) rfl (by kernel_rfl) (by kernel_rfl) (by kernel_rfl) (fun _ _ _ h => h) (by kernel_rfl) (Or.inl ⟨by rfl, ?_⟩) (by assumption) ?_
          rotate_left
          · (intro w' hSw; (try dsimp only at hSw); go_simp; try (with_reducible rfl))
          try simp only [Act.put]
          refine MAny.take (i := 4) (v := ?_) rfl (by kernel_rfl) (by kernel_rfl) (by kernel_rfl) (fun _ _ _ h => h) (by kernel_rfl) (Or.inl ⟨by rfl, ?_⟩) (by assumption) ?_
          rotate_left
          · (intro w' hSw; (try dsimp only at hSw); go_simp; try (with_reducible rfl))
          try simp only [Act.put]
          refine MAny.take (i := 5) (v := ?_) rfl (by kernel_rfl) (by kernel_rfl) (by kernel_rfl) (fun _ _ _ h => h) (by kernel_rfl) (Or.inl ⟨by rfl, ?_⟩) (by assumption) ?_
          rotate_left
          · (intro w' hSw; (try dsimp only at hSw); go_simp; try (with_reducible rfl))
          try simp only [Act.put]
          refine MAny.take (i := 6) (v := ?_) rfl (by kernel_rfl) (by kernel_rfl) (by kernel_rfl) (fun _ _ _ h => h) (by kernel_rfl) (Or.inl ⟨by rfl, ?_⟩) (by assumption) ?_
          rotate_left
          · (intro w' hSw; (try dsimp only at hSw); go_simp; try (with_reducible rfl))
          try simp only [Act.put]
          refine MAny.ready (rs := [7]) (by kernel_rfl) (by simp) ?_
          refine MReady.cons rfl (fun K hK => ?_) MReady.nil
          go_simp
          go_wp2_with (go_at_call 18; refine HS2.out.mono ?_; rintro e V3 ⟨rfl, hB1⟩)
          have d0 := (hB1.cell (p := ⟨b, _, none⟩) hb2).trans d0
          have hb2 := Nat.lt_of_lt_of_le hb2 hB1.size
          have A0 := (hB1.cell (p := ⟨w1.heap.size, 0, none⟩) hla).trans A0
          have A1 := (hB1.cell (p := ⟨w1.heap.size, 1, none⟩) hla).trans A1
          have hla := Nat.lt_of_lt_of_le hla hB1.size
          have L1 := L1.below hB1
          have o1 := own_below o1 hB1
          have o2 := own_below o2 hB1
          have q1 := own_below q1 hB1
          have hC := stepB hC hB1 hC.size
          have hB := stepB hB hB1 hB.size
          clear hB1
          have hHeld := And.intro A0 (And.intro A1 d0)
          refine hK.out _ _ (.inr hHeld) ?_
          clear hK K
          refine MAny.take (i := 8) (v := ?_) rfl (by kernel_rfl) (by kernel_rfl) (by kernel_rfl) (fun _ _ _ h => h) (by kernel_rfl) (Or.inl ⟨by rfl, ?_⟩) (by assumption) ?_
          rotate_left
          · (intro w' hSw; (try dsimp only at hSw); go_simp; try (with_reducible rfl))
          try simp only [Act.put, List.setIfInBounds_toArray]
          refine MAny.take (i := 9) (v := ?_) rfl (by kernel_rfl) (by kernel_rfl) (by kernel_rfl) (fun _ _ _ h => h) (by kernel_rfl) (Or.inl ⟨by rfl, ?_⟩) (by assumption) ?_
          rotate_left
          · (intro w' hSw; (try dsimp only at hSw); go_simp; try (with_reducible rfl))
          try simp only [Act.put]
          refine MAny.take (i := 10) (v := ?_) rfl (by kernel_rfl) (by kernel_rfl) (by kernel_rfl) (fun _ _ _ h => h) (by kernel_rfl) (Or.inl ⟨by rfl, ?_⟩) (by assumption) ?_
          rotate_left
          · (intro w' hSw; (try dsimp only at hSw); go_simp; try (with_reducible rfl))
          try simp only [Act.put]
          refine MAny.ready (rs := [11]) (by kernel_rfl) (by simp) ?_
          refine MReady.cons rfl (fun K hK => ?_) MReady.nil
          go_simp
          refine hK.out _ _ (.inr hHeld) ?_
          clear hK K
          refine MAny.ready (rs := [12]) (by kernel_rfl) (by simp) ?_
          refine MReady.cons rfl (fun K hK => ?_) MReady.nil
          go_simp
          refine hK.out _ _ (.inl rfl) ?_
          clear hK K
          refine MAny.done (by kernel_rfl) ?_ _
          try simp only [List.getElem_toArray, List.getElem_cons_succ, List.getElem_cons_zero]
          clear hHeld HS2
          go_wp2
          go_roundw
          case rel => exact ⟨k + 1, by omega, by go_num, hC⟩
          case measure => simp [intOf]; omega
        · have hk1 : decide ((k : Int) < (X1.length : Int)) = false := by simp; omega
          go_wp2
          go_ret
          exact ⟨rfl, hB⟩
    · have hX1 : (X2 == 0) = false := by simpa using hX0
      go_wp2
      go_loopw [25] (fun i wr => i = .int .i64 0 ∧ Below w.heap.size w wr) (fun _ _ => 0)
      case atStart => exact ⟨rfl, hB⟩
      case round =>
        obtain ⟨rfl, hB1⟩ := hrel
        go_wp2
        go_ret
        exact ⟨rfl, hB1⟩
  · by_cases hX0 : X2 = 0
    · have hlw := Lib.hid (HLW.out (HXC.out.symm.trans hX0))
      have hX1 : (X2 == 0) = true := by simpa using hX0
      clear hX0
      go_wp2
      go_loopw [25] (fun i wr => ∃ k : Nat, k ≤ X1.length ∧ i = .int .i64 k ∧ Below W15.heap.size W15 wr) (fun i _ => X1.length - (intOf i).toNat)
      case atStart => exact ⟨0, Nat.zero_le _, rfl, Below.refl _ _⟩
      case round =>
        obtain ⟨k, hk, rfl, hB1⟩ := hrel
        have hC := hB1
        have A0 := (hB1.cell (p := ⟨w1.heap.size, 0, none⟩) hla).trans A0
        have A1 := (hB1.cell (p := ⟨w1.heap.size, 1, none⟩) hla).trans A1
        have hla := Nat.lt_of_lt_of_le hla hB1.size
        have L1 := L1.below hB1
        have o1 := own_below o1 hB1
        have o2 := own_below o2 hB1
        have q1 := own_below q1 hB1
        have hB := stepB hB hB1 hB.size
        clear hB1
        by_cases hlt : k < X1.length
        · have hk1 : (k : Int) < (X1.length : Int) := by omega
          have hm := List.getElem?_eq_getElem hlt
          generalize X1[k] = x at hm
          obtain ⟨hc1, hc2⟩ := hlw.out x (List.mem_of_getElem? hm)
          obtain ⟨b, off, rfl, hb2, d0⟩ := (Rd.of_own encI_len (by decide) q1).i hm
          have HB1 := Lib.hid (fun W h0 h1 h2 => hc1 ▸ HCB.out (some ⟨g, 0, none⟩) c sts x hsl W h0 h1 h2)
          have HB2 := Lib.hid (fun W h0 h1 h2 => hc2 ▸ HCB.out (some ⟨g2, 0, none⟩) c2 st2 x hsl2 W h0 h1 h2)
          clear hc1 hc2 hm
          go_upto_region 17 with (fail)
          refine MAny.region (S := fun w' => w'.cell? ⟨w1.heap.size, 0, none⟩ = some (.slice a0 ns.length c0) ∧ w'.cell? ⟨w1.heap.size, 1, none⟩ = some (.slice a1 ws.length c1) ∧ w'.cell? ⟨b, off + k, none⟩ = some (.int .i64 x)) (last := 12) (by kernel_rfl) ?_
          have hB1 := (Below.refl wr.heap.size wr).drew
          have d0 := (hB1.cell (p := ⟨b, _, none⟩) hb2).trans d0
          have hb2 := Nat.lt_of_lt_of_le hb2 hB1.size
          have A0 := (hB1.cell (p := ⟨w1.heap.size, 0, none⟩) hla).trans A0
          have A1 := (hB1.cell (p := ⟨w1.heap.size, 1, none⟩) hla).trans A1
          have hla := Nat.lt_of_lt_of_le hla hB1.size
          have L1 := L1.below hB1
          have o1 := own_below o1 hB1
          have o2 := own_below o2 hB1
          have q1 := own_below q1 hB1
          have hC := stepB hC hB1 hC.size
          have hB := stepB hB hB1 hB.size
          clear hB1
          generalize wr.drew = V0 at A0 A1 hla L1 o1 o2 q1 hB hC hb2 d0 ⊢
          have hHeld := And.intro A0 (And.intro A1 d0)
          have HS2 : Calls Tryz.prog 18 #[.agg #[.slice a0 ns.length c0, .slice a1 ws.length c1], .slice (some ⟨g, 0, none⟩) sts.length c, .int .i64 x, .int .i64 z] V0 _ := HB1.out V0 L1.rd0 L1.rd1 (Rd.of_own encSt_len (by decide) o1)
          have HS2 := Lib.hid HS2
          refine MAny.take (i := 0) (v := ?_) rfl (by kernel_rfl) (by kernel_rfl) (by kernel_rfl) (fun _ _ _ h => h) (by kernel_rfl) (Or.inl ⟨by rfl, ?_⟩) (by assumption) ?_
          rotate_left
          · (intro w' hSw; (try dsimp only at hSw); go_simp; try (with_reducible rfl))
          try simp only [Act.put, List.setIfInBounds_toArray]
          refine MAny.take (i := 1) (v := ?_) rfl (by kernel_rfl) (by kernel_rfl) (by kernel_rfl) (fun _ _ _ h => h) (by kernel_rfl) (Or.inl ⟨by rfl, ?_⟩) (by assumption) ?_
          rotate_left
          · (intro w' hSw; (try dsimp only at hSw); go_simp; try (with_reducible rfl))
          try simp only [Act.put]
          refine MAny.take (i := 2) (v := ?_) rfl (by kernel_rfl) (by kernel_rfl) (by kernel_rfl) (fun _ _ _ h => h) (by kernel_rfl) (Or.inl ⟨by rfl, ?_⟩) (by assumption) ?_
          rotate_left
          · (intro w' hSw; (try dsimp only at hSw); go_simp; try (with_reducible rfl))
          try simp only [Act.put]
          refine MAny.take (i := 3) (v := ?_) rfl (by kernel_rfl) (by kernel_rfl) (by kernel_rfl) (fun _ _ _ h => h) (by kernel_rfl) (Or.inl ⟨by rfl, ?_⟩) (by assumption) ?_
          rotate_left
          · (intro w' hSw; (try dsimp only at hSw); go_simp; try (with_reducible rfl))
          try simp only [Act.put]
          refine MAny.take (i := 4) (v := ?_) rfl (by kernel_rfl) (by kernel_rfl) (by kernel_rfl) (fun _ _ _ h => h) (by kernel_rfl) (Or.inl ⟨by rfl, ?_⟩) (by assumption) ?_
          rotate_left
          · (intro w' hSw; (try dsimp only at hSw); go_simp; try (with_reducible rfl))
          try simp only [Act.put]
          refine MAny.take (i := 5) (v := ?_) rfl (by kernel_rfl) (by kernel_rfl) (by kernel_rfl) (fun _ _ _ h => h) (by kernel_rfl) (Or.inl ⟨by rfl, ?_⟩) (by assumption) ?_
          rotate_left
          · (intro w' hSw; (try dsimp only at hSw); go_simp; try (with_reducible rfl))
          try simp only [Act.put]
          refine MAny.take (i := 6) (v := ?_) rfl (by kernel_rfl) (by kernel_rfl) (by kernel_rfl) (fun _ _ _ h => h) (by kernel_rfl) (Or.inl ⟨by rfl, ?_⟩) (by assumption) ?_
          rotate_left
          · (intro w' hSw; (try dsimp only at hSw); go_simp; try (with_reducible rfl))
          try simp only [Act.put]
          refine MAny.ready (rs := [7]) (by kernel_rfl) (by simp) ?_
          refine MReady.cons rfl (fun K hK => ?_) MReady.nil
          go_simp
          go_wp2_with (go_at_call 18; refine HS2.out.mono ?_; rintro e V3 ⟨rfl, hB1⟩)
          have d0 := (hB1.cell (p := ⟨b, _, none⟩) hb2).trans d0
          have hb2 := Nat.lt_of_lt_of_le hb2 hB1.size
          have A0 := (hB1.cell (p := ⟨w1.heap.size, 0, none⟩) hla).trans A0
          have A1 := (hB1.cell (p := ⟨w1.heap.size, 1, none⟩) hla).trans A1
          have hla := Nat.lt_of_lt_of_le hla hB1.size
          have L1 := L1.below hB1
          have o1 := own_below o1 hB1
          have o2 := own_below o2 hB1
          have q1 := own_below q1 hB1
          have hC := stepB hC hB1 hC.size
          have hB := stepB hB hB1 hB.size
          clear hB1
          have hHeld := And.intro A0 (And.intro A1 d0)
          refine hK.out _ _ (.inr hHeld) ?_
          clear hK K
          refine MAny.take (i := 8) (v := ?_) rfl (by kernel_rfl) (by kernel_rfl) (by kernel_rfl) (fun _ _ _ h => h) (by kernel_rfl) (Or.inl ⟨by rfl, ?_⟩) (by assumption) ?_
          rotate_left
          · (intro w' hSw; (try dsimp only at hSw); go_simp; try (with_reducible rfl))
          try simp only [Act.put, List.setIfInBounds_toArray]
          refine MAny.take (i := 9) (v := ?_) rfl (by kernel_rfl) (by kernel_rfl) (by kernel_rfl) (fun _ _ _ h => h) (by kernel_rfl) (Or.inl ⟨by rfl, ?_⟩) (by assumption) ?_
          rotate_left
          · (intro w' hSw; (try dsimp only at hSw); go_simp; try (with_reducible rfl))
          try simp only [Act.put]
          refine MAny.take (i := 10) (v := ?_) rfl (by kernel_rfl) (by kernel_rfl) (by kernel_rfl) (fun _ _ _ h => h) (by kernel_rfl) (Or.inl ⟨by rfl, ?_⟩) (by assumption) ?_
          rotate_left
          · (intro w' hSw; (try dsimp only at hSw); go_simp; try (with_reducible rfl))
          try simp only [Act.put]
          refine MAny.ready (rs := [11]) (by kernel_rfl) (by simp) ?_
          refine MReady.cons rfl (fun K hK => ?_) MReady.nil
          go_simp
          refine hK.out _ _ (.inr hHeld) ?_
          clear hK K
          refine MAny.ready (rs := [12]) (by kernel_rfl) (by simp) ?_
          refine MReady.cons rfl (fun K hK => ?_) MReady.nil
          go_simp
          refine hK.out _ _ (.inl rfl) ?_
          clear hK K
          refine MAny.done (by kernel_rfl) ?_ _
          try simp only [List.getElem_toArray, List.getElem_cons_succ, List.getElem_cons_zero]
          clear hHeld HS2
          go_upto_region 18 with (fail)
          refine MAny.region (S := fun w' => w'.cell? ⟨w1.heap.size, 0, none⟩ = some (.slice a0 ns.length c0) ∧ w'.cell? ⟨w1.heap.size, 1, none⟩ = some (.slice a1 ws.length c1) ∧ w'.cell? ⟨b, off + k, none⟩ = some (.int .i64 x)) (last := 12) (by kernel_rfl) ?_
          have hB1 := (Below.refl V3.heap.size V3).drew
          have d0 := (hB1.cell (p := ⟨b, _, none⟩) hb2).trans d0
          have hb2 := Nat.lt_of_lt_of_le hb2 hB1.size
          have A0 := (hB1.cell (p := ⟨w1.heap.size, 0, none⟩) hla).trans A0
          have A1 := (hB1.cell (p := ⟨w1.heap.size, 1, none⟩) hla).trans A1
          have hla := Nat.lt_of_lt_of_le hla hB1.size
          have L1 := L1.below hB1
          have o1 := own_below o1 hB1
          have o2 := own_below o2 hB1
          have q1 := own_below q1 hB1
          have hC := stepB hC hB1 hC.size
          have hB := stepB hB hB1 hB.size
          clear hB1
          generalize V3.drew = V0 at A0 A1 hla L1 o1 o2 q1 hB hC hb2 d0 ⊢
          have hHeld := And.intro A0 (And.intro A1 d0)
          have HS2 : Calls Tryz.prog 18 #[.agg #[.slice a0 ns.length c0, .slice a1 ws.length c1], .slice (some ⟨g2, 0, none⟩) st2.length c2, .int .i64 x, .int .i64 z] V0 _ := HB2.out V0 L1.rd0 L1.rd1 (Rd.of_own encSt_len (by decide) o2)
          have HS2 := Lib.hid HS2
          refine MAny.take (i := 0) (v := ?_) rfl (by kernel_rfl) (by kernel_rfl) (by kernel_rfl) (fun _ _ _ h => h) (by kernel_rfl) (Or.inl ⟨by rfl, ?_⟩) (by assumption) ?_
          rotate_left
          · (intro w' hSw; (try dsimp only at hSw); go_simp; try (with_reducible rfl))
          try simp only [Act.put, List.setIfInBounds_toArray]
          refine MAny.take (i := 1) (v := ?_) rfl (by kernel_rfl) (by kernel_rfl) (by kernel_rfl) (fun _ _ _ h => h) (by kernel_rfl) (Or.inl ⟨by rfl, ?_⟩) (by assumption) ?_
          rotate_left
          · (intro w' hSw; (try dsimp only at hSw); go_simp; try (with_reducible rfl))
          try simp only [Act.put]
          refine MAny.take (i := 2) (v := ?_) rfl (by kernel_rfl) (by kernel_rfl) (by kernel_rfl) (fun _ _ _ h => h) (by kernel_rfl) (Or.inl ⟨by rfl, ?_⟩) (by assumption) ?_
          rotate_left
          · (intro w' hSw; (try dsimp only at hSw); go_simp; try (with_reducible rfl))
          try simp only [Act.put]
          refine MAny.take (i := 3) (v := ?_) rfl (by kernel_rfl) (by kernel_rfl) (by kernel_rfl) (fun _ _ _ h => h) (by kernel_rfl) (Or.inl ⟨by rfl, ?_⟩) (by assumption) ?_
          rotate_left
          · (intro w' hSw; (try dsimp only at hSw); go_simp; try (with_reducible rfl))
          try simp only [Act.put]
          refine MAny.take (i := 4) (v := ?_) rfl (by kernel_rfl) (by kernel_rfl) (by kernel_rfl) (fun _ _ _ h => h) (by kernel_rfl) (Or.inl ⟨by rfl, ?_⟩) (by assumption) ?_
          rotate_left
          · (intro w' hSw; (try dsimp only at hSw); go_simp; try (with_reducible rfl))
          try simp only [Act.put]
          refine MAny.take (i := 5) (v := ?_) rfl (by kernel_rfl) (by kernel_rfl) (by kernel_rfl) (fun _ _ _ h => h) (by kernel_rfl) (Or.inl ⟨by rfl, ?_⟩) (by assumption) ?_
          rotate_left
          · (intro w' hSw; (try dsimp only at hSw); go_simp; try (with_reducible rfl))
          try simp only [Act.put]
          refine MAny.take (i := 6) (v := ?_) rfl (by kernel_rfl) (by kernel_rfl) (by kernel_rfl) (fun _ _ _ h => h) (by kernel_rfl) (Or.inl ⟨by rfl, ?_⟩) (by assumption) ?_
          rotate_left
          · (intro w' hSw; (try dsimp only at hSw); go_simp; try (with_reducible rfl))
          try simp only [Act.put]
          refine MAny.ready (rs := [7]) (by kernel_rfl) (by simp) ?_
          refine MReady.cons rfl (fun K hK => ?_) MReady.nil
          go_simp
          go_wp2_with (go_at_call 18; refine HS2.out.mono ?_; rintro e V3 ⟨rfl, hB1⟩)
          have d0 := (hB1.cell (p := ⟨b, _, none⟩) hb2).trans d0
          have hb2 := Nat.lt_of_lt_of_le hb2 hB1.size
          have A0 := (hB1.cell (p := ⟨w1.heap.size, 0, none⟩) hla).trans A0
          have A1 := (hB1.cell (p := ⟨w1.heap.size, 1, none⟩) hla).trans A1
          have hla := Nat.lt_of_lt_of_le hla hB1.size
          have L1 := L1.below hB1
          have o1 := own_below o1 hB1
          have o2 := own_below o2 hB1
          have q1 := own_below q1 hB1
          have hC := stepB hC hB1 hC.size
          have hB := stepB hB hB1 hB.size
          clear hB1
          have hHeld := And.intro A0 (And.intro A1 d0)
          refine hK.out _ _ (.inr hHeld) ?_
          clear hK K
          refine MAny.take (i := 8) (v := ?_) rfl (by kernel_rfl) (by kernel_rfl) (by kernel_rfl) (fun _ _ _ h => h) (by kernel_rfl) (Or.inl ⟨by rfl, ?_⟩) (by assumption) ?_
          rotate_left
          · (intro w' hSw; (try dsimp only at hSw); go_simp; try (with_reducible rfl))
          try simp only [Act.put, List.setIfInBounds_toArray]
          refine MAny.take (i := 9) (v := ?_) rfl (by kernel_rfl) (by kernel_rfl) (by kernel_rfl) (fun _ _ _ h => h) (by kernel_rfl) (Or.inl ⟨by rfl, ?_⟩) (by assumption) ?_
          rotate_left
          · (intro w' hSw; (try dsimp only at hSw); go_simp; try (with_reducible rfl))
          try simp only [Act.put]
          refine MAny.take (i := 10) (v := ?_) rfl (by kernel_rfl) (by kernel_rfl) (by kernel_rfl) (fun _ _ _ h => h) (by kernel_rfl) (Or.inl ⟨by rfl, ?_⟩) (by assumption) ?_
          rotate_left
          · (intro w' hSw; (try dsimp only at hSw); go_simp; try (with_reducible rfl))
          try simp only [Act.put]
          refine MAny.ready (rs := [11]) (by kernel_rfl) (by simp) ?_
          refine MReady.cons rfl (fun K hK => ?_) MReady.nil
          go_simp
          refine hK.out _ _ (.inr hHeld) ?_
          clear hK K
          refine MAny.ready (rs := [12]) (by kernel_rfl) (by simp) ?_
          refine MReady.cons rfl (fun K hK => ?_) MReady.nil
          go_simp
          refine hK.out _ _ (.inl rfl) ?_
          clear hK K
          refine MAny.done (by kernel_rfl) ?_ _
          try simp only [List.getElem_toArray, List.getElem_cons_succ, List.getElem_cons_zero]
          clear hHeld HS2
          go_wp2
          go_roundw
          case rel => exact ⟨k + 1, by omega, by go_num, hC⟩
          case measure => simp [intOf]; omega
        · have hk1 : decide ((k : Int) < (X1.length : Int)) = false := by simp; omega
          go_wp2
          go_ret
          exact ⟨rfl, hB⟩
    · have hX1 : (X2 == 0) = false := by simpa using hX0
      go_wp2
      go_loopw [25] (fun i wr => i = .int .i64 0 ∧ Below w.heap.size w wr) (fun _ _ => 0)
      case atStart => exact ⟨rfl, hB⟩
      case round =>
        obtain ⟨rfl, hB1⟩ := hrel
        go_wp2
        go_ret
        exact ⟨rfl, hB1⟩
end Go.Proofs.YtmjbigeeokofeaaGreatDoor
