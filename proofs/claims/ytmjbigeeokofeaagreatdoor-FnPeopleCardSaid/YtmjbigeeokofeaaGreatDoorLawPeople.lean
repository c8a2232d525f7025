/- Walk: the law FnPeople. Printed by gen_lawppl.py. -/
import Derived.Test.YtmjbigeeokofeaaGreatDoorDpl
import Derived.Test.YtmjbigeeokofeaaGreatDoorPplP
import Derived.Test.YtmjbigeeokofeaaGreatDoorDice
namespace Go.Proofs.YtmjbigeeokofeaaGreatDoor
open Go.ChangeShapes Go.WideShapes Go.ChangeAt Go.RowKit Go.IntWalk

set_option maxHeartbeats 1000000 in
theorem hasInt_any (a : Option Addr) (ca : Nat) (xs : List Int) (z : Int) (w : World) (hl : xs.length ≤ 2097152) (hx : Rd encI w a xs) (hz : z ∈ xs) :
    Calls Tryz.prog 34 #[.slice a xs.length ca, .int .i64 z] w fun e w' => e = .returned (.bool true) ∧ Below w.heap.size w w' := by
  have hB0 := Below.refl w.heap.size w
  have hD : Hid (z ∈ xs.drop 0) := by unfold Hid; simpa using hz
  clear hz
  go_enter Tryz.func34, Tryz.ntmps34
  go_wp2
  go_loopw [5] (fun i wr => ∃ k : Nat, k ≤ xs.length ∧ i = .int .i64 k ∧ Hid (z ∈ xs.drop k) ∧ Below w.heap.size w wr) (fun i _ => xs.length - (intOf i).toNat)
  case atStart => exact ⟨0, Nat.zero_le _, rfl, hD, hB0⟩
  case round =>
    clear hB0 hD
    obtain ⟨k, hk, rfl, hD, hB⟩ := hrel
    have hlt : k < xs.length := by
      rcases Nat.lt_or_ge k xs.length with h | h
      · exact h
      · have := hD.out; rw [List.drop_eq_nil_of_le h] at this; cases this
    have hk1 : (k : Int) < (xs.length : Int) := by omega
    have hm := List.getElem?_eq_getElem hlt
    have hd := List.drop_eq_getElem_cons hlt
    generalize xs[k] = m at hm hd
    obtain ⟨b, off, rfl, hb, c0⟩ := (hx.below hB).i hm
    by_cases e : m = z
    · subst e
      clear hm hd
      go_wp2
      go_ret
      exact ⟨rfl, hB⟩
    · have e' : (m == z) = false := by simpa using e
      have hD : Hid (z ∈ xs.drop (k + 1)) := by
        have := hD.out
        rw [hd] at this
        rcases List.mem_cons.1 this with h | h
        · exact absurd h.symm e
        · exact h
      clear hm hd
      go_wp2
      go_roundw
      case rel => exact ⟨k + 1, by omega, by go_num, hD, hB⟩
      case measure => simp [intOf]; omega
set_option maxRecDepth 100000 in
set_option maxHeartbeats 16000000 in
theorem lawPeople_any (cs : Option Addr) (cap : Nat) (bs : List Int) (w : World) (_hl : bs.length ≤ maxLen) (hx : Rd encB w cs bs) (hb : ∀ m ∈ bs, goodB m) :
    Calls Tryz.prog 4 #[.slice cs bs.length cap] w fun e w' => e = .returned (.bool true) ∧ Below w.heap.size w w' := by
  have HBIG := Lib.hid (big_any cs cap bs.length w)
  by_cases hbig : 4096 < bs.length
  · have HBIG := Lib.hid ((show decide (4096 < bs.length) = true by simpa using hbig) ▸ HBIG.out)
    go_enter Tryz.func4, Tryz.ntmps4
    go_wp2_with fail
    refine HBIG.out.mono ?_
    rintro e w1 ⟨rfl, rfl⟩
    go_wp2
    go_ret
    exact ⟨rfl, Below.refl _ _⟩
  have HBIG := Lib.hid ((show decide (4096 < bs.length) = false by simpa using hbig) ▸ HBIG.out)
  have hl : bs.length ≤ 4096 := by omega
  go_enter Tryz.func4, Tryz.ntmps4
  go_wp2_with fail
  refine HBIG.out.mono ?_
  rintro e w0 ⟨rfl, rfl⟩
  clear HBIG hbig
  go_wp2_with fail
  refine (drawVacantDays_any cs cap bs w hx hb hl).mono ?_
  rintro e W2 ⟨g, h, c, d, ps, ts, o, rfl, P0, ho13, hB⟩
  generalize hW : W2.alloc (.cells #[.slice (some ⟨g, 0, none⟩) ps.length c, .slice (some ⟨h, 0, none⟩) ts.length d] 48) = W3
  have hB1 : Below W2.heap.size W2 W3 := by rw [← hW]; exact belowA _ _
  have A0 : W3.cell? ⟨W2.heap.size, 0, none⟩ = some (.slice (some ⟨g, 0, none⟩) ps.length c) := by rw [← hW]; exact World.cell?_alloc_at _ _ _ _ rfl
  have A1 : W3.cell? ⟨W2.heap.size, 1, none⟩ = some (.slice (some ⟨h, 0, none⟩) ts.length d) := by rw [← hW]; exact World.cell?_alloc_at _ _ _ _ rfl
  have hla : W2.heap.size < W3.heap.size := by rw [← hW]; simp
  have P0 := P0.below hB1
  have hB := stepB hB hB1 hB.size
  clear hB1
  have HVI := Lib.hid (fun W (Z0 : Rd encPs W (some ⟨g, 0, none⟩) ps ∧ Rd encTm W (some ⟨h, 0, none⟩) ts) => implVacant_any (some ⟨g, 0, none⟩) (some ⟨h, 0, none⟩) c d ps ts o W (by have := P0.1; omega) Z0.1 (fun m hm => by have := (P0.2.2.1 m hm).1; unfold szPs; omega) (by have := P0.2.1; omega) Z0.2 (fun m hm => by have h9 := P0.2.2.2.1 m hm; have := h9.1; have := h9.2.1; unfold szTm; omega))
  have HVS := Lib.hid (fun W (Z0 : Rd encPs W (some ⟨g, 0, none⟩) ps ∧ Rd encTm W (some ⟨h, 0, none⟩) ts) => specVacant_any (some ⟨g, 0, none⟩) (some ⟨h, 0, none⟩) c d ps ts o W (by have := P0.1; omega) Z0.1 (fun m hm => by have := (P0.2.2.1 m hm).1; unfold szPs; omega) (by have := P0.2.1; omega) Z0.2 (fun m hm => by have h9 := P0.2.2.2.1 m hm; have := h9.1; have := h9.2.1; unfold szTm; omega))
  obtain ⟨⟨V1, V2⟩, hV⟩ : ∃ R, vacantR ps ts o = R := ⟨_, rfl⟩
  have lV := vacantR_len ps ts o
  rw [hV] at HVI HVS lV
  dsimp only at HVI HVS lV
  go_wp2_with fail
  clear hW
  refine (HVI.out _ P0.rd).mono ?_
  rintro e W4 ⟨bq1, eq1, rfl, q1, hB1⟩
  have q1 := own_base q1 hB.size
  have A0 := (hB1.cell (p := ⟨W2.heap.size, 0, none⟩) hla).trans A0
  have A1 := (hB1.cell (p := ⟨W2.heap.size, 1, none⟩) hla).trans A1
  have hla := Nat.lt_of_lt_of_le hla hB1.size
  have P0 := P0.below hB1
  have hB := stepB hB hB1 hB.size
  clear hB1
  go_wp2_with fail
  refine (HVS.out _ P0.rd).mono ?_
  rintro e W5 ⟨bq2, eq2, rfl, q2, hB1⟩
  have q2 := own_base q2 hB.size
  have A0 := (hB1.cell (p := ⟨W2.heap.size, 0, none⟩) hla).trans A0
  have A1 := (hB1.cell (p := ⟨W2.heap.size, 1, none⟩) hla).trans A1
  have hla := Nat.lt_of_lt_of_le hla hB1.size
  have P0 := P0.below hB1
  have q1 := own_below q1 hB1
  have hB := stepB hB hB1 hB.size
  clear hB1
  have HSI := Lib.hid (fun W (Z0 : Rd encPs W (some ⟨g, 0, none⟩) ps ∧ Rd encTm W (some ⟨h, 0, none⟩) ts) => implShared_any (some ⟨g, 0, none⟩) (some ⟨h, 0, none⟩) c d ps ts o W (by have := P0.1; omega) Z0.1 (fun m hm => by have := (P0.2.2.1 m hm).1; unfold szPs; omega) (by have := P0.2.1; omega) Z0.2 (fun m hm => by have h9 := P0.2.2.2.1 m hm; have := h9.1; have := h9.2.1; unfold szTm; omega))
  have HSS := Lib.hid (fun W (Z0 : Rd encPs W (some ⟨g, 0, none⟩) ps ∧ Rd encTm W (some ⟨h, 0, none⟩) ts) => specShared_any (some ⟨g, 0, none⟩) (some ⟨h, 0, none⟩) c d ps ts o W (by have := P0.1; omega) Z0.1 (fun m hm => by have := (P0.2.2.1 m hm).1; unfold szPs; omega) (by have := P0.2.1; omega) Z0.2 (fun m hm => by have h9 := P0.2.2.2.1 m hm; have := h9.1; have := h9.2.1; unfold szTm; omega))
  obtain ⟨⟨S1, S2⟩, hS⟩ : ∃ R, sharedR ps ts o = R := ⟨_, rfl⟩
  have lS := sharedR_len ps ts o
  rw [hS] at HSI HSS lS
  dsimp only at HSI HSS lS
  go_wp2_with fail
  refine (HSI.out _ P0.rd).mono ?_
  rintro e W6 ⟨bq3, eq3, rfl, q3, hB1⟩
  have q3 := own_base q3 hB.size
  have A0 := (hB1.cell (p := ⟨W2.heap.size, 0, none⟩) hla).trans A0
  have A1 := (hB1.cell (p := ⟨W2.heap.size, 1, none⟩) hla).trans A1
  have hla := Nat.lt_of_lt_of_le hla hB1.size
  have P0 := P0.below hB1
  have q1 := own_below q1 hB1
  have q2 := own_below q2 hB1
  have hB := stepB hB hB1 hB.size
  clear hB1
  go_wp2_with fail
  refine (HSS.out _ P0.rd).mono ?_
  rintro e W7 ⟨bq4, eq4, rfl, q4, hB1⟩
  have q4 := own_base q4 hB.size
  have A0 := (hB1.cell (p := ⟨W2.heap.size, 0, none⟩) hla).trans A0
  have A1 := (hB1.cell (p := ⟨W2.heap.size, 1, none⟩) hla).trans A1
  have hla := Nat.lt_of_lt_of_le hla hB1.size
  have P0 := P0.below hB1
  have q1 := own_below q1 hB1
  have q2 := own_below q2 hB1
  have q3 := own_below q3 hB1
  have hB := stepB hB hB1 hB.size
  clear hB1
  go_wp2_with fail
  refine (drawHoldersOn_any cs cap bs _ (hx.below hB) hb hl).mono ?_
  rintro e W8 ⟨g1, h1, c1, d1, ps1, ts1, o1, n, rfl, P1, ho113, hB1⟩
  have P1 := P1.base hB.size
  have A0 := (hB1.cell (p := ⟨W2.heap.size, 0, none⟩) hla).trans A0
  have A1 := (hB1.cell (p := ⟨W2.heap.size, 1, none⟩) hla).trans A1
  have hla := Nat.lt_of_lt_of_le hla hB1.size
  have P0 := P0.below hB1
  have q1 := own_below q1 hB1
  have q2 := own_below q2 hB1
  have q3 := own_below q3 hB1
  have q4 := own_below q4 hB1
  have hB := stepB hB hB1 hB.size
  clear hB1
  generalize hW : W8.alloc (.cells #[.slice (some ⟨g1, 0, none⟩) ps1.length c1, .slice (some ⟨h1, 0, none⟩) ts1.length d1] 48) = W9
  have hB1 : Below W8.heap.size W8 W9 := by rw [← hW]; exact belowA _ _
  have B0 : W9.cell? ⟨W8.heap.size, 0, none⟩ = some (.slice (some ⟨g1, 0, none⟩) ps1.length c1) := by rw [← hW]; exact World.cell?_alloc_at _ _ _ _ rfl
  have B1 : W9.cell? ⟨W8.heap.size, 1, none⟩ = some (.slice (some ⟨h1, 0, none⟩) ts1.length d1) := by rw [← hW]; exact World.cell?_alloc_at _ _ _ _ rfl
  have hlb : W8.heap.size < W9.heap.size := by rw [← hW]; simp
  have A0 := (hB1.cell (p := ⟨W2.heap.size, 0, none⟩) hla).trans A0
  have A1 := (hB1.cell (p := ⟨W2.heap.size, 1, none⟩) hla).trans A1
  have hla := Nat.lt_of_lt_of_le hla hB1.size
  have P0 := P0.below hB1
  have P1 := P1.below hB1
  have q1 := own_below q1 hB1
  have q2 := own_below q2 hB1
  have q3 := own_below q3 hB1
  have q4 := own_below q4 hB1
  have hB := stepB hB hB1 hB.size
  clear hB1
  have HHI := Lib.hid (fun W (Z0 : Rd encPs W (some ⟨g1, 0, none⟩) ps1 ∧ Rd encTm W (some ⟨h1, 0, none⟩) ts1) => implHolders_any (some ⟨g1, 0, none⟩) (some ⟨h1, 0, none⟩) c1 d1 ps1 ts1 o1 n W (by have := P1.1; omega) Z0.1 (fun m hm => by have := (P1.2.2.1 m hm).1; unfold szPs; omega) (by have := P1.2.1; omega) Z0.2 (fun m hm => by have h9 := P1.2.2.2.1 m hm; have := h9.1; have := h9.2.1; unfold szTm; omega))
  have HHS := Lib.hid (fun W (Z0 : Rd encPs W (some ⟨g1, 0, none⟩) ps1 ∧ Rd encTm W (some ⟨h1, 0, none⟩) ts1) => specHolders_any (some ⟨g1, 0, none⟩) (some ⟨h1, 0, none⟩) c1 d1 ps1 ts1 o1 n W (by have := P1.1; omega) Z0.1 (fun m hm => by have := (P1.2.2.1 m hm).1; unfold szPs; omega) (by have := P1.2.1; omega) Z0.2 (fun m hm => by have h9 := P1.2.2.2.1 m hm; have := h9.1; have := h9.2.1; unfold szTm; omega))
  obtain ⟨⟨X1, X2⟩, hX⟩ : ∃ R, holdersR ps1 ts1 o1 n = R := ⟨_, rfl⟩
  have lX := holdersR_len ps1 ts1 o1 n (by have := P1.1; omega)
  rw [hX] at HHI HHS lX
  dsimp only at HHI HHS lX
  go_wp2_with fail
  clear hW
  refine (HHI.out _ P1.rd).mono ?_
  rintro e W10 ⟨bq5, eq5, rfl, q5, hB1⟩
  have q5 := own_base q5 hB.size
  have A0 := (hB1.cell (p := ⟨W2.heap.size, 0, none⟩) hla).trans A0
  have A1 := (hB1.cell (p := ⟨W2.heap.size, 1, none⟩) hla).trans A1
  have B0 := (hB1.cell (p := ⟨W8.heap.size, 0, none⟩) hlb).trans B0
  have B1 := (hB1.cell (p := ⟨W8.heap.size, 1, none⟩) hlb).trans B1
  have hla := Nat.lt_of_lt_of_le hla hB1.size
  have hlb := Nat.lt_of_lt_of_le hlb hB1.size
  have P0 := P0.below hB1
  have P1 := P1.below hB1
  have q1 := own_below q1 hB1
  have q2 := own_below q2 hB1
  have q3 := own_below q3 hB1
  have q4 := own_below q4 hB1
  have hB := stepB hB hB1 hB.size
  clear hB1
  go_wp2_with fail
  refine (HHS.out _ P1.rd).mono ?_
  rintro e W11 ⟨bq6, eq6, rfl, q6, hB1⟩
  have q6 := own_base q6 hB.size
  have A0 := (hB1.cell (p := ⟨W2.heap.size, 0, none⟩) hla).trans A0
  have A1 := (hB1.cell (p := ⟨W2.heap.size, 1, none⟩) hla).trans A1
  have B0 := (hB1.cell (p := ⟨W8.heap.size, 0, none⟩) hlb).trans B0
  have B1 := (hB1.cell (p := ⟨W8.heap.size, 1, none⟩) hlb).trans B1
  have hla := Nat.lt_of_lt_of_le hla hB1.size
  have hlb := Nat.lt_of_lt_of_le hlb hB1.size
  have P0 := P0.below hB1
  have P1 := P1.below hB1
  have q1 := own_below q1 hB1
  have q2 := own_below q2 hB1
  have q3 := own_below q3 hB1
  have q4 := own_below q4 hB1
  have q5 := own_below q5 hB1
  have hB := stepB hB hB1 hB.size
  clear hB1
  go_wp2_with fail
  refine (drawLivingOn_any cs cap bs _ (hx.below hB) hb hl).mono ?_
  rintro e W12 ⟨g2, h2, c2, d2, ps2, ts2, n2, rfl, P2, hB1⟩
  have P2 := P2.base hB.size
  have A0 := (hB1.cell (p := ⟨W2.heap.size, 0, none⟩) hla).trans A0
  have A1 := (hB1.cell (p := ⟨W2.heap.size, 1, none⟩) hla).trans A1
  have B0 := (hB1.cell (p := ⟨W8.heap.size, 0, none⟩) hlb).trans B0
  have B1 := (hB1.cell (p := ⟨W8.heap.size, 1, none⟩) hlb).trans B1
  have hla := Nat.lt_of_lt_of_le hla hB1.size
  have hlb := Nat.lt_of_lt_of_le hlb hB1.size
  have P0 := P0.below hB1
  have P1 := P1.below hB1
  have q1 := own_below q1 hB1
  have q2 := own_below q2 hB1
  have q3 := own_below q3 hB1
  have q4 := own_below q4 hB1
  have q5 := own_below q5 hB1
  have q6 := own_below q6 hB1
  have hB := stepB hB hB1 hB.size
  clear hB1
  generalize hW : W12.alloc (.cells #[.slice (some ⟨g2, 0, none⟩) ps2.length c2, .slice (some ⟨h2, 0, none⟩) ts2.length d2] 48) = W13
  have hB1 : Below W12.heap.size W12 W13 := by rw [← hW]; exact belowA _ _
  have C0 : W13.cell? ⟨W12.heap.size, 0, none⟩ = some (.slice (some ⟨g2, 0, none⟩) ps2.length c2) := by rw [← hW]; exact World.cell?_alloc_at _ _ _ _ rfl
  have C1 : W13.cell? ⟨W12.heap.size, 1, none⟩ = some (.slice (some ⟨h2, 0, none⟩) ts2.length d2) := by rw [← hW]; exact World.cell?_alloc_at _ _ _ _ rfl
  have hlc : W12.heap.size < W13.heap.size := by rw [← hW]; simp
  have A0 := (hB1.cell (p := ⟨W2.heap.size, 0, none⟩) hla).trans A0
  have A1 := (hB1.cell (p := ⟨W2.heap.size, 1, none⟩) hla).trans A1
  have B0 := (hB1.cell (p := ⟨W8.heap.size, 0, none⟩) hlb).trans B0
  have B1 := (hB1.cell (p := ⟨W8.heap.size, 1, none⟩) hlb).trans B1
  have hla := Nat.lt_of_lt_of_le hla hB1.size
  have hlb := Nat.lt_of_lt_of_le hlb hB1.size
  have P0 := P0.below hB1
  have P1 := P1.below hB1
  have P2 := P2.below hB1
  have q1 := own_below q1 hB1
  have q2 := own_below q2 hB1
  have q3 := own_below q3 hB1
  have q4 := own_below q4 hB1
  have q5 := own_below q5 hB1
  have q6 := own_below q6 hB1
  have hB := stepB hB hB1 hB.size
  clear hB1
  have HLI := Lib.hid (fun W (Z0 : Rd encPs W (some ⟨g2, 0, none⟩) ps2 ∧ Rd encTm W (some ⟨h2, 0, none⟩) ts2) => implLiving_any (some ⟨g2, 0, none⟩) (some ⟨h2, 0, none⟩) c2 d2 ps2 ts2 n2 W (by have := P2.1; omega) Z0.1 (fun m hm => by have := (P2.2.2.1 m hm).1; unfold szPs; omega) (by have := P2.2.1; omega) Z0.2 (fun m hm => by have h9 := P2.2.2.2.1 m hm; have := h9.1; have := h9.2.1; unfold szTm; omega))
  have HLS := Lib.hid (fun W (Z0 : Rd encPs W (some ⟨g2, 0, none⟩) ps2 ∧ Rd encTm W (some ⟨h2, 0, none⟩) ts2) => specLiving_any (some ⟨g2, 0, none⟩) (some ⟨h2, 0, none⟩) c2 d2 ps2 ts2 n2 W (by have := P2.1; omega) Z0.1 (fun m hm => by have := (P2.2.2.1 m hm).1; unfold szPs; omega) (by have := P2.2.1; omega) Z0.2 (fun m hm => by have h9 := P2.2.2.2.1 m hm; have := h9.1; have := h9.2.1; unfold szTm; omega))
  obtain ⟨⟨Y1, Y2⟩, hY⟩ : ∃ R, livingR ps2 ts2 n2 = R := ⟨_, rfl⟩
  have lY := livingR_len ps2 ts2 n2 (by have := P2.1; omega)
  rw [hY] at HLI HLS lY
  dsimp only at HLI HLS lY
  go_wp2_with fail
  clear hW
  refine (HLI.out _ P2.rd).mono ?_
  rintro e W14 ⟨bq7, eq7, rfl, q7, hB1⟩
  have q7 := own_base q7 hB.size
  have A0 := (hB1.cell (p := ⟨W2.heap.size, 0, none⟩) hla).trans A0
  have A1 := (hB1.cell (p := ⟨W2.heap.size, 1, none⟩) hla).trans A1
  have B0 := (hB1.cell (p := ⟨W8.heap.size, 0, none⟩) hlb).trans B0
  have B1 := (hB1.cell (p := ⟨W8.heap.size, 1, none⟩) hlb).trans B1
  have C0 := (hB1.cell (p := ⟨W12.heap.size, 0, none⟩) hlc).trans C0
  have C1 := (hB1.cell (p := ⟨W12.heap.size, 1, none⟩) hlc).trans C1
  have hla := Nat.lt_of_lt_of_le hla hB1.size
  have hlb := Nat.lt_of_lt_of_le hlb hB1.size
  have hlc := Nat.lt_of_lt_of_le hlc hB1.size
  have P0 := P0.below hB1
  have P1 := P1.below hB1
  have P2 := P2.below hB1
  have q1 := own_below q1 hB1
  have q2 := own_below q2 hB1
  have q3 := own_below q3 hB1
  have q4 := own_below q4 hB1
  have q5 := own_below q5 hB1
  have q6 := own_below q6 hB1
  have hB := stepB hB hB1 hB.size
  clear hB1
  go_wp2_with fail
  refine (HLS.out _ P2.rd).mono ?_
  rintro e W15 ⟨bq8, eq8, rfl, q8, hB1⟩
  have q8 := own_base q8 hB.size
  have A0 := (hB1.cell (p := ⟨W2.heap.size, 0, none⟩) hla).trans A0
  have A1 := (hB1.cell (p := ⟨W2.heap.size, 1, none⟩) hla).trans A1
  have B0 := (hB1.cell (p := ⟨W8.heap.size, 0, none⟩) hlb).trans B0
  have B1 := (hB1.cell (p := ⟨W8.heap.size, 1, none⟩) hlb).trans B1
  have C0 := (hB1.cell (p := ⟨W12.heap.size, 0, none⟩) hlc).trans C0
  have C1 := (hB1.cell (p := ⟨W12.heap.size, 1, none⟩) hlc).trans C1
  have hla := Nat.lt_of_lt_of_le hla hB1.size
  have hlb := Nat.lt_of_lt_of_le hlb hB1.size
  have hlc := Nat.lt_of_lt_of_le hlc hB1.size
  have P0 := P0.below hB1
  have P1 := P1.below hB1
  have P2 := P2.below hB1
  have q1 := own_below q1 hB1
  have q2 := own_below q2 hB1
  have q3 := own_below q3 hB1
  have q4 := own_below q4 hB1
  have q5 := own_below q5 hB1
  have q6 := own_below q6 hB1
  have q7 := own_below q7 hB1
  have hB := stepB hB hB1 hB.size
  clear hB1
  go_wp2_with fail
  refine (drawOfficeDays_any cs cap bs _ (hx.below hB) hb hl).mono ?_
  rintro e W16 ⟨g3, h3, c3, d3, ps3, ts3, o3, nm, rfl, P3, ho313, hnm13, hB1⟩
  have P3 := P3.base hB.size
  have A0 := (hB1.cell (p := ⟨W2.heap.size, 0, none⟩) hla).trans A0
  have A1 := (hB1.cell (p := ⟨W2.heap.size, 1, none⟩) hla).trans A1
  have B0 := (hB1.cell (p := ⟨W8.heap.size, 0, none⟩) hlb).trans B0
  have B1 := (hB1.cell (p := ⟨W8.heap.size, 1, none⟩) hlb).trans B1
  have C0 := (hB1.cell (p := ⟨W12.heap.size, 0, none⟩) hlc).trans C0
  have C1 := (hB1.cell (p := ⟨W12.heap.size, 1, none⟩) hlc).trans C1
  have hla := Nat.lt_of_lt_of_le hla hB1.size
  have hlb := Nat.lt_of_lt_of_le hlb hB1.size
  have hlc := Nat.lt_of_lt_of_le hlc hB1.size
  have P0 := P0.below hB1
  have P1 := P1.below hB1
  have P2 := P2.below hB1
  have q1 := own_below q1 hB1
  have q2 := own_below q2 hB1
  have q3 := own_below q3 hB1
  have q4 := own_below q4 hB1
  have q5 := own_below q5 hB1
  have q6 := own_below q6 hB1
  have q7 := own_below q7 hB1
  have q8 := own_below q8 hB1
  have hB := stepB hB hB1 hB.size
  clear hB1
  generalize hW : W16.alloc (.cells #[.slice (some ⟨g3, 0, none⟩) ps3.length c3, .slice (some ⟨h3, 0, none⟩) ts3.length d3] 48) = W17
  have hB1 : Below W16.heap.size W16 W17 := by rw [← hW]; exact belowA _ _
  have E0 : W17.cell? ⟨W16.heap.size, 0, none⟩ = some (.slice (some ⟨g3, 0, none⟩) ps3.length c3) := by rw [← hW]; exact World.cell?_alloc_at _ _ _ _ rfl
  have E1 : W17.cell? ⟨W16.heap.size, 1, none⟩ = some (.slice (some ⟨h3, 0, none⟩) ts3.length d3) := by rw [← hW]; exact World.cell?_alloc_at _ _ _ _ rfl
  have hle : W16.heap.size < W17.heap.size := by rw [← hW]; simp
  have A0 := (hB1.cell (p := ⟨W2.heap.size, 0, none⟩) hla).trans A0
  have A1 := (hB1.cell (p := ⟨W2.heap.size, 1, none⟩) hla).trans A1
  have B0 := (hB1.cell (p := ⟨W8.heap.size, 0, none⟩) hlb).trans B0
  have B1 := (hB1.cell (p := ⟨W8.heap.size, 1, none⟩) hlb).trans B1
  have C0 := (hB1.cell (p := ⟨W12.heap.size, 0, none⟩) hlc).trans C0
  have C1 := (hB1.cell (p := ⟨W12.heap.size, 1, none⟩) hlc).trans C1
  have hla := Nat.lt_of_lt_of_le hla hB1.size
  have hlb := Nat.lt_of_lt_of_le hlb hB1.size
  have hlc := Nat.lt_of_lt_of_le hlc hB1.size
  have P0 := P0.below hB1
  have P1 := P1.below hB1
  have P2 := P2.below hB1
  have P3 := P3.below hB1
  have q1 := own_below q1 hB1
  have q2 := own_below q2 hB1
  have q3 := own_below q3 hB1
  have q4 := own_below q4 hB1
  have q5 := own_below q5 hB1
  have q6 := own_below q6 hB1
  have q7 := own_below q7 hB1
  have q8 := own_below q8 hB1
  have hB := stepB hB hB1 hB.size
  clear hB1
  have HOI := Lib.hid (fun W (Z0 : Rd encPs W (some ⟨g3, 0, none⟩) ps3 ∧ Rd encTm W (some ⟨h3, 0, none⟩) ts3) => implOffice_any (some ⟨g3, 0, none⟩) (some ⟨h3, 0, none⟩) c3 d3 ps3 ts3 o3 nm W (by have := P3.1; omega) Z0.1 (fun m hm => by have := (P3.2.2.1 m hm).1; unfold szPs; omega) (by have := P3.2.1; omega) Z0.2 (fun m hm => by have h9 := P3.2.2.2.1 m hm; have := h9.1; have := h9.2.1; unfold szTm; omega))
  have HOS := Lib.hid (fun W (Z0 : Rd encPs W (some ⟨g3, 0, none⟩) ps3 ∧ Rd encTm W (some ⟨h3, 0, none⟩) ts3) => specOffice_any (some ⟨g3, 0, none⟩) (some ⟨h3, 0, none⟩) c3 d3 ps3 ts3 o3 nm W (by have := P3.1; omega) Z0.1 (fun m hm => by have := (P3.2.2.1 m hm).1; unfold szPs; omega) (by have := P3.2.1; omega) Z0.2 (fun m hm => by have h9 := P3.2.2.2.1 m hm; have := h9.1; have := h9.2.1; unfold szTm; omega))
  obtain ⟨⟨F1, F2⟩, hF⟩ : ∃ R, officeR ps3 ts3 o3 nm = R := ⟨_, rfl⟩
  have lF := officeR_len ps3 ts3 o3 nm (by have := P3.2.1; omega)
  rw [hF] at HOI HOS lF
  dsimp only at HOI HOS lF
  go_wp2_with fail
  clear hW
  refine (HOI.out _ P3.rd).mono ?_
  rintro e W18 ⟨bq9, eq9, rfl, q9, hB1⟩
  have q9 := own_base q9 hB.size
  have A0 := (hB1.cell (p := ⟨W2.heap.size, 0, none⟩) hla).trans A0
  have A1 := (hB1.cell (p := ⟨W2.heap.size, 1, none⟩) hla).trans A1
  have B0 := (hB1.cell (p := ⟨W8.heap.size, 0, none⟩) hlb).trans B0
  have B1 := (hB1.cell (p := ⟨W8.heap.size, 1, none⟩) hlb).trans B1
  have C0 := (hB1.cell (p := ⟨W12.heap.size, 0, none⟩) hlc).trans C0
  have C1 := (hB1.cell (p := ⟨W12.heap.size, 1, none⟩) hlc).trans C1
  have E0 := (hB1.cell (p := ⟨W16.heap.size, 0, none⟩) hle).trans E0
  have E1 := (hB1.cell (p := ⟨W16.heap.size, 1, none⟩) hle).trans E1
  have hla := Nat.lt_of_lt_of_le hla hB1.size
  have hlb := Nat.lt_of_lt_of_le hlb hB1.size
  have hlc := Nat.lt_of_lt_of_le hlc hB1.size
  have hle := Nat.lt_of_lt_of_le hle hB1.size
  have P0 := P0.below hB1
  have P1 := P1.below hB1
  have P2 := P2.below hB1
  have P3 := P3.below hB1
  have q1 := own_below q1 hB1
  have q2 := own_below q2 hB1
  have q3 := own_below q3 hB1
  have q4 := own_below q4 hB1
  have q5 := own_below q5 hB1
  have q6 := own_below q6 hB1
  have q7 := own_below q7 hB1
  have q8 := own_below q8 hB1
  have hB := stepB hB hB1 hB.size
  clear hB1
  go_wp2_with fail
  refine (HOS.out _ P3.rd).mono ?_
  rintro e W19 ⟨bq10, eq10, rfl, q10, hB1⟩
  have q10 := own_base q10 hB.size
  have A0 := (hB1.cell (p := ⟨W2.heap.size, 0, none⟩) hla).trans A0
  have A1 := (hB1.cell (p := ⟨W2.heap.size, 1, none⟩) hla).trans A1
  have B0 := (hB1.cell (p := ⟨W8.heap.size, 0, none⟩) hlb).trans B0
  have B1 := (hB1.cell (p := ⟨W8.heap.size, 1, none⟩) hlb).trans B1
  have C0 := (hB1.cell (p := ⟨W12.heap.size, 0, none⟩) hlc).trans C0
  have C1 := (hB1.cell (p := ⟨W12.heap.size, 1, none⟩) hlc).trans C1
  have E0 := (hB1.cell (p := ⟨W16.heap.size, 0, none⟩) hle).trans E0
  have E1 := (hB1.cell (p := ⟨W16.heap.size, 1, none⟩) hle).trans E1
  have hla := Nat.lt_of_lt_of_le hla hB1.size
  have hlb := Nat.lt_of_lt_of_le hlb hB1.size
  have hlc := Nat.lt_of_lt_of_le hlc hB1.size
  have hle := Nat.lt_of_lt_of_le hle hB1.size
  have P0 := P0.below hB1
  have P1 := P1.below hB1
  have P2 := P2.below hB1
  have P3 := P3.below hB1
  have q1 := own_below q1 hB1
  have q2 := own_below q2 hB1
  have q3 := own_below q3 hB1
  have q4 := own_below q4 hB1
  have q5 := own_below q5 hB1
  have q6 := own_below q6 hB1
  have q7 := own_below q7 hB1
  have q8 := own_below q8 hB1
  have q9 := own_below q9 hB1
  have hB := stepB hB hB1 hB.size
  clear hB1
  have hE : isPeopleB ps ts = (V2 == 0) := by
    have := congrArg Prod.snd hV
    rw [vacant_code] at this
    simp only at this
    rw [← this]
    cases isPeopleB ps ts <;> rfl
  have HIP := Lib.hid (fun W (Z0 : Rd encPs W (some ⟨g, 0, none⟩) ps ∧ Rd encTm W (some ⟨h, 0, none⟩) ts) => hE ▸ implIsPeople_any (some ⟨g, 0, none⟩) (some ⟨h, 0, none⟩) c d ps ts W (by have := P0.1; omega) Z0.1 (fun m hm => by have := (P0.2.2.1 m hm).1; unfold szPs; omega) (by have := P0.2.1; omega) Z0.2 (fun m hm => by have h9 := P0.2.2.2.1 m hm; have := h9.1; have := h9.2.1; unfold szTm; omega))
  have nV := (show (V2 != V2) = false by simp)
  have nS := (show (S2 != S2) = false by simp)
  have nX := (show (X2 != X2) = false by simp)
  have nY := (show (Y2 != Y2) = false by simp)
  have nF := (show (F2 != F2) = false by simp)
  have K1 := Lib.hid (fun W (hh : Rd encSp W bq1 V1 ∧ Rd encSp W bq2 V1) => likeSpans_self bq1 bq2 eq1 eq2 V1 W (by omega) hh.1 hh.2)
  have K2 := Lib.hid (fun W (hh : Rd encSp W bq3 S1 ∧ Rd encSp W bq4 S1) => likeSpans_self bq3 bq4 eq3 eq4 S1 W (by omega) hh.1 hh.2)
  have K3 := Lib.hid (fun W (hh : Rd encI W bq5 X1 ∧ Rd encI W bq6 X1) => likeInts_self bq5 bq6 eq5 eq6 X1 W (by omega) hh.1 hh.2)
  have K4 := Lib.hid (fun W (hh : Rd encI W bq7 Y1 ∧ Rd encI W bq8 Y1) => likeInts_self bq7 bq8 eq7 eq8 Y1 W (by omega) hh.1 hh.2)
  have K5 := Lib.hid (fun W (hh : Rd encSp W bq9 F1 ∧ Rd encSp W bq10 F1) => likeSpans_self bq9 bq10 eq9 eq10 F1 W (by omega) hh.1 hh.2)
  clear hE HVI HVS HSI HSS HHI HHS HLI HLS HOI HOS
  go_wp2_with fail
  refine (K1.out _ ⟨Rd.of_own encSp_len (by decide) q1, Rd.of_own encSp_len (by decide) q2⟩).mono ?_
  rintro e W20 ⟨rfl, hB1⟩
  have A0 := (hB1.cell (p := ⟨W2.heap.size, 0, none⟩) hla).trans A0
  have A1 := (hB1.cell (p := ⟨W2.heap.size, 1, none⟩) hla).trans A1
  have B0 := (hB1.cell (p := ⟨W8.heap.size, 0, none⟩) hlb).trans B0
  have B1 := (hB1.cell (p := ⟨W8.heap.size, 1, none⟩) hlb).trans B1
  have C0 := (hB1.cell (p := ⟨W12.heap.size, 0, none⟩) hlc).trans C0
  have C1 := (hB1.cell (p := ⟨W12.heap.size, 1, none⟩) hlc).trans C1
  have E0 := (hB1.cell (p := ⟨W16.heap.size, 0, none⟩) hle).trans E0
  have E1 := (hB1.cell (p := ⟨W16.heap.size, 1, none⟩) hle).trans E1
  have hla := Nat.lt_of_lt_of_le hla hB1.size
  have hlb := Nat.lt_of_lt_of_le hlb hB1.size
  have hlc := Nat.lt_of_lt_of_le hlc hB1.size
  have hle := Nat.lt_of_lt_of_le hle hB1.size
  have P0 := P0.below hB1
  have P1 := P1.below hB1
  have P2 := P2.below hB1
  have P3 := P3.below hB1
  have q1 := own_below q1 hB1
  have q2 := own_below q2 hB1
  have q3 := own_below q3 hB1
  have q4 := own_below q4 hB1
  have q5 := own_below q5 hB1
  have q6 := own_below q6 hB1
  have q7 := own_below q7 hB1
  have q8 := own_below q8 hB1
  have q9 := own_below q9 hB1
  have q10 := own_below q10 hB1
  have hB := stepB hB hB1 hB.size
  clear hB1
  go_wp2_with fail
  refine (K2.out _ ⟨Rd.of_own encSp_len (by decide) q3, Rd.of_own encSp_len (by decide) q4⟩).mono ?_
  rintro e W21 ⟨rfl, hB1⟩
  have A0 := (hB1.cell (p := ⟨W2.heap.size, 0, none⟩) hla).trans A0
  have A1 := (hB1.cell (p := ⟨W2.heap.size, 1, none⟩) hla).trans A1
  have B0 := (hB1.cell (p := ⟨W8.heap.size, 0, none⟩) hlb).trans B0
  have B1 := (hB1.cell (p := ⟨W8.heap.size, 1, none⟩) hlb).trans B1
  have C0 := (hB1.cell (p := ⟨W12.heap.size, 0, none⟩) hlc).trans C0
  have C1 := (hB1.cell (p := ⟨W12.heap.size, 1, none⟩) hlc).trans C1
  have E0 := (hB1.cell (p := ⟨W16.heap.size, 0, none⟩) hle).trans E0
  have E1 := (hB1.cell (p := ⟨W16.heap.size, 1, none⟩) hle).trans E1
  have hla := Nat.lt_of_lt_of_le hla hB1.size
  have hlb := Nat.lt_of_lt_of_le hlb hB1.size
  have hlc := Nat.lt_of_lt_of_le hlc hB1.size
  have hle := Nat.lt_of_lt_of_le hle hB1.size
  have P0 := P0.below hB1
  have P1 := P1.below hB1
  have P2 := P2.below hB1
  have P3 := P3.below hB1
  have q1 := own_below q1 hB1
  have q2 := own_below q2 hB1
  have q3 := own_below q3 hB1
  have q4 := own_below q4 hB1
  have q5 := own_below q5 hB1
  have q6 := own_below q6 hB1
  have q7 := own_below q7 hB1
  have q8 := own_below q8 hB1
  have q9 := own_below q9 hB1
  have q10 := own_below q10 hB1
  have hB := stepB hB hB1 hB.size
  clear hB1
  go_wp2_with fail
  refine (K3.out _ ⟨Rd.of_own encI_len (by decide) q5, Rd.of_own encI_len (by decide) q6⟩).mono ?_
  rintro e W22 ⟨rfl, hB1⟩
  have A0 := (hB1.cell (p := ⟨W2.heap.size, 0, none⟩) hla).trans A0
  have A1 := (hB1.cell (p := ⟨W2.heap.size, 1, none⟩) hla).trans A1
  have B0 := (hB1.cell (p := ⟨W8.heap.size, 0, none⟩) hlb).trans B0
  have B1 := (hB1.cell (p := ⟨W8.heap.size, 1, none⟩) hlb).trans B1
  have C0 := (hB1.cell (p := ⟨W12.heap.size, 0, none⟩) hlc).trans C0
  have C1 := (hB1.cell (p := ⟨W12.heap.size, 1, none⟩) hlc).trans C1
  have E0 := (hB1.cell (p := ⟨W16.heap.size, 0, none⟩) hle).trans E0
  have E1 := (hB1.cell (p := ⟨W16.heap.size, 1, none⟩) hle).trans E1
  have hla := Nat.lt_of_lt_of_le hla hB1.size
  have hlb := Nat.lt_of_lt_of_le hlb hB1.size
  have hlc := Nat.lt_of_lt_of_le hlc hB1.size
  have hle := Nat.lt_of_lt_of_le hle hB1.size
  have P0 := P0.below hB1
  have P1 := P1.below hB1
  have P2 := P2.below hB1
  have P3 := P3.below hB1
  have q1 := own_below q1 hB1
  have q2 := own_below q2 hB1
  have q3 := own_below q3 hB1
  have q4 := own_below q4 hB1
  have q5 := own_below q5 hB1
  have q6 := own_below q6 hB1
  have q7 := own_below q7 hB1
  have q8 := own_below q8 hB1
  have q9 := own_below q9 hB1
  have q10 := own_below q10 hB1
  have hB := stepB hB hB1 hB.size
  clear hB1
  go_wp2_with fail
  refine (K4.out _ ⟨Rd.of_own encI_len (by decide) q7, Rd.of_own encI_len (by decide) q8⟩).mono ?_
  rintro e W23 ⟨rfl, hB1⟩
  have A0 := (hB1.cell (p := ⟨W2.heap.size, 0, none⟩) hla).trans A0
  have A1 := (hB1.cell (p := ⟨W2.heap.size, 1, none⟩) hla).trans A1
  have B0 := (hB1.cell (p := ⟨W8.heap.size, 0, none⟩) hlb).trans B0
  have B1 := (hB1.cell (p := ⟨W8.heap.size, 1, none⟩) hlb).trans B1
  have C0 := (hB1.cell (p := ⟨W12.heap.size, 0, none⟩) hlc).trans C0
  have C1 := (hB1.cell (p := ⟨W12.heap.size, 1, none⟩) hlc).trans C1
  have E0 := (hB1.cell (p := ⟨W16.heap.size, 0, none⟩) hle).trans E0
  have E1 := (hB1.cell (p := ⟨W16.heap.size, 1, none⟩) hle).trans E1
  have hla := Nat.lt_of_lt_of_le hla hB1.size
  have hlb := Nat.lt_of_lt_of_le hlb hB1.size
  have hlc := Nat.lt_of_lt_of_le hlc hB1.size
  have hle := Nat.lt_of_lt_of_le hle hB1.size
  have P0 := P0.below hB1
  have P1 := P1.below hB1
  have P2 := P2.below hB1
  have P3 := P3.below hB1
  have q1 := own_below q1 hB1
  have q2 := own_below q2 hB1
  have q3 := own_below q3 hB1
  have q4 := own_below q4 hB1
  have q5 := own_below q5 hB1
  have q6 := own_below q6 hB1
  have q7 := own_below q7 hB1
  have q8 := own_below q8 hB1
  have q9 := own_below q9 hB1
  have q10 := own_below q10 hB1
  have hB := stepB hB hB1 hB.size
  clear hB1
  go_wp2_with fail
  refine (K5.out _ ⟨Rd.of_own encSp_len (by decide) q9, Rd.of_own encSp_len (by decide) q10⟩).mono ?_
  rintro e W24 ⟨rfl, hB1⟩
  have A0 := (hB1.cell (p := ⟨W2.heap.size, 0, none⟩) hla).trans A0
  have A1 := (hB1.cell (p := ⟨W2.heap.size, 1, none⟩) hla).trans A1
  have B0 := (hB1.cell (p := ⟨W8.heap.size, 0, none⟩) hlb).trans B0
  have B1 := (hB1.cell (p := ⟨W8.heap.size, 1, none⟩) hlb).trans B1
  have C0 := (hB1.cell (p := ⟨W12.heap.size, 0, none⟩) hlc).trans C0
  have C1 := (hB1.cell (p := ⟨W12.heap.size, 1, none⟩) hlc).trans C1
  have E0 := (hB1.cell (p := ⟨W16.heap.size, 0, none⟩) hle).trans E0
  have E1 := (hB1.cell (p := ⟨W16.heap.size, 1, none⟩) hle).trans E1
  have hla := Nat.lt_of_lt_of_le hla hB1.size
  have hlb := Nat.lt_of_lt_of_le hlb hB1.size
  have hlc := Nat.lt_of_lt_of_le hlc hB1.size
  have hle := Nat.lt_of_lt_of_le hle hB1.size
  have P0 := P0.below hB1
  have P1 := P1.below hB1
  have P2 := P2.below hB1
  have P3 := P3.below hB1
  have q1 := own_below q1 hB1
  have q2 := own_below q2 hB1
  have q3 := own_below q3 hB1
  have q4 := own_below q4 hB1
  have q5 := own_below q5 hB1
  have q6 := own_below q6 hB1
  have q7 := own_below q7 hB1
  have q8 := own_below q8 hB1
  have q9 := own_below q9 hB1
  have q10 := own_below q10 hB1
  have hB := stepB hB hB1 hB.size
  clear hB1
  go_wp2_with fail
  refine (HIP.out _ P0.rd).mono ?_
  rintro e W25 ⟨rfl, hB1⟩
  have A0 := (hB1.cell (p := ⟨W2.heap.size, 0, none⟩) hla).trans A0
  have A1 := (hB1.cell (p := ⟨W2.heap.size, 1, none⟩) hla).trans A1
  have B0 := (hB1.cell (p := ⟨W8.heap.size, 0, none⟩) hlb).trans B0
  have B1 := (hB1.cell (p := ⟨W8.heap.size, 1, none⟩) hlb).trans B1
  have C0 := (hB1.cell (p := ⟨W12.heap.size, 0, none⟩) hlc).trans C0
  have C1 := (hB1.cell (p := ⟨W12.heap.size, 1, none⟩) hlc).trans C1
  have E0 := (hB1.cell (p := ⟨W16.heap.size, 0, none⟩) hle).trans E0
  have E1 := (hB1.cell (p := ⟨W16.heap.size, 1, none⟩) hle).trans E1
  have hla := Nat.lt_of_lt_of_le hla hB1.size
  have hlb := Nat.lt_of_lt_of_le hlb hB1.size
  have hlc := Nat.lt_of_lt_of_le hlc hB1.size
  have hle := Nat.lt_of_lt_of_le hle hB1.size
  have P0 := P0.below hB1
  have P1 := P1.below hB1
  have P2 := P2.below hB1
  have P3 := P3.below hB1
  have q1 := own_below q1 hB1
  have q2 := own_below q2 hB1
  have q3 := own_below q3 hB1
  have q4 := own_below q4 hB1
  have q5 := own_below q5 hB1
  have q6 := own_below q6 hB1
  have q7 := own_below q7 hB1
  have q8 := own_below q8 hB1
  have q9 := own_below q9 hB1
  have q10 := own_below q10 hB1
  have hB := stepB hB hB1 hB.size
  clear hB1
  clear K1 K2 K3 K4 K5 HIP
  go_upto_if 191 with (fail)
  go_cut [] from 192 to 214 (fun wd => Below W25.heap.size W25 wd)
  case first =>
    by_cases h0 : X2 = 0
    · subst h0
      have hliv := holders_living (ps := ps1) (ts := ts1) (o := o1) (n := n) (congrArg Prod.snd hX)
      rw [hX] at hliv
      have lL := livingR_len ps1 ts1 n (by have := P1.1; omega)
      have HLV := Lib.hid (fun W (Z0 : Rd encPs W (some ⟨g1, 0, none⟩) ps1 ∧ Rd encTm W (some ⟨h1, 0, none⟩) ts1) => implLiving_any (some ⟨g1, 0, none⟩) (some ⟨h1, 0, none⟩) c1 d1 ps1 ts1 n W (by have := P1.1; omega) Z0.1 (fun m hm => by have := (P1.2.2.1 m hm).1; unfold szPs; omega) (by have := P1.2.1; omega) Z0.2 (fun m hm => by have h9 := P1.2.2.2.1 m hm; have := h9.1; have := h9.2.1; unfold szTm; omega))
      obtain ⟨⟨L1, L2⟩, hL⟩ : ∃ R, livingR ps1 ts1 n = R := ⟨_, rfl⟩
      rw [hL] at hliv HLV lL
      dsimp only at hliv HLV lL
      obtain ⟨hl2, hmem⟩ := hliv
      subst hl2
      have hB := Below.refl W25.heap.size W25
      clear hL
      go_wp2_with fail
      refine (HLV.out _ P1.rd).mono ?_
      rintro e W26 ⟨bq11, eq11, rfl, q11, hB1⟩
      have q11 := own_base q11 hB.size
      have A0 := (hB1.cell (p := ⟨W2.heap.size, 0, none⟩) hla).trans A0
      have A1 := (hB1.cell (p := ⟨W2.heap.size, 1, none⟩) hla).trans A1
      have B0 := (hB1.cell (p := ⟨W8.heap.size, 0, none⟩) hlb).trans B0
      have B1 := (hB1.cell (p := ⟨W8.heap.size, 1, none⟩) hlb).trans B1
      have hla := Nat.lt_of_lt_of_le hla hB1.size
      have hlb := Nat.lt_of_lt_of_le hlb hB1.size
      have P0 := P0.below hB1
      have P1 := P1.below hB1
      have q1 := own_below q1 hB1
      have q3 := own_below q3 hB1
      have q5 := own_below q5 hB1
      have hB := stepB hB hB1 hB.size
      clear hB1
      have HH := Lib.hid (fun W (hh : Rd encI W bq11 L1) z (hz : z ∈ L1) => hasInt_any bq11 eq11 L1 z W (by omega) hh hz)
      have hBn := Lib.hid hB
      go_wp2
      go_loopw [35] (fun i wr => ∃ k : Nat, k ≤ X1.length ∧ i = .int .i64 k ∧ Below W26.heap.size W26 wr) (fun i _ => X1.length - (intOf i).toNat)
      case atStart => exact ⟨0, Nat.zero_le _, rfl, Below.refl _ _⟩
      case round =>
        obtain ⟨k, hk, rfl, hB1⟩ := hrel
        have hC := hB1
        have A0 := (hB1.cell (p := ⟨W2.heap.size, 0, none⟩) hla).trans A0
        have A1 := (hB1.cell (p := ⟨W2.heap.size, 1, none⟩) hla).trans A1
        have B0 := (hB1.cell (p := ⟨W8.heap.size, 0, none⟩) hlb).trans B0
        have B1 := (hB1.cell (p := ⟨W8.heap.size, 1, none⟩) hlb).trans B1
        have hla := Nat.lt_of_lt_of_le hla hB1.size
        have hlb := Nat.lt_of_lt_of_le hlb hB1.size
        have P0 := P0.below hB1
        have P1 := P1.below hB1
        have q1 := own_below q1 hB1
        have q3 := own_below q3 hB1
        have q5 := own_below q5 hB1
        have q11 := own_below q11 hB1
        have hB := stepB hB hB1 hB.size
        clear hB1
        by_cases hlt : k < X1.length
        · have hk1 : (k : Int) < (X1.length : Int) := by omega
          have hm := List.getElem?_eq_getElem hlt
          generalize X1[k] = z at hm
          have hz := hmem z (List.mem_of_getElem? hm)
          obtain ⟨b, off, rfl, hb2, c0⟩ := (Rd.of_own encI_len (by decide) q5).i hm
          clear hm
          go_wp2_with fail
          refine (HH.out _ (Rd.of_own encI_len (by decide) q11) z hz).mono ?_
          rintro e U1 ⟨rfl, hB1⟩
          have A0 := (hB1.cell (p := ⟨W2.heap.size, 0, none⟩) hla).trans A0
          have A1 := (hB1.cell (p := ⟨W2.heap.size, 1, none⟩) hla).trans A1
          have B0 := (hB1.cell (p := ⟨W8.heap.size, 0, none⟩) hlb).trans B0
          have B1 := (hB1.cell (p := ⟨W8.heap.size, 1, none⟩) hlb).trans B1
          have hla := Nat.lt_of_lt_of_le hla hB1.size
          have hlb := Nat.lt_of_lt_of_le hlb hB1.size
          have P0 := P0.below hB1
          have P1 := P1.below hB1
          have q1 := own_below q1 hB1
          have q3 := own_below q3 hB1
          have q5 := own_below q5 hB1
          have q11 := own_below q11 hB1
          have hC := stepB hC hB1 hC.size
          have hB := stepB hB hB1 hB.size
          clear hB1
          go_wp2
          go_roundw
          case rel => exact ⟨k + 1, by omega, by go_num, hC⟩
          case measure => simp [intOf]; omega
        · have hk1 : decide ((k : Int) < (X1.length : Int)) = false := by simp; omega
          go_wp2
          go_meet
          case rel => exact hB
    · have h0' : (X2 == 0) = false := by simpa using h0
      go_wp2
      go_meet
      case rel => exact Below.refl _ _
  case rest =>
    have hB1 := hcut
    have A0 := (hB1.cell (p := ⟨W2.heap.size, 0, none⟩) hla).trans A0
    have A1 := (hB1.cell (p := ⟨W2.heap.size, 1, none⟩) hla).trans A1
    have hla := Nat.lt_of_lt_of_le hla hB1.size
    have P0 := P0.below hB1
    have q1 := own_below q1 hB1
    have q3 := own_below q3 hB1
    have hB := stepB hB hB1 hB.size
    clear hB1
    have hvc := congrArg Prod.snd hV
    have hsc := congrArg Prod.snd hS
    rw [vacant_code] at hvc
    rw [shared_code] at hsc
    by_cases hpp : isPeopleB ps ts = true
    · rw [if_pos hpp] at hvc hsc
      simp only at hvc hsc
      subst hvc
      subst hsc
      simp only [show ((0 : Int) == 0) = true from rfl]
      have hvl := vacant_law (ps := ps) (ts := ts) (o := o) (congrArg Prod.snd hV)
      have hsl := shared_law (ps := ps) (ts := ts) (o := o) (congrArg Prod.snd hS)
      rw [hV] at hvl
      rw [hS] at hsl
      dsimp only at hvl hsl
      have hvl := Lib.hid hvl
      have hsl := Lib.hid hsl
      clear hV hS hpp
      go_wp2
      go_loopw [36] (fun i wr => ∃ k : Nat, k ≤ V1.length ∧ i = .int .i64 k ∧ Below wc.heap.size wc wr) (fun i _ => V1.length - (intOf i).toNat)
      case atStart => exact ⟨0, Nat.zero_le _, rfl, Below.refl _ _⟩
      case round =>
        obtain ⟨k36, hk, rfl, hB1⟩ := hrel
        have hC := hB1
        have A0 := (hB1.cell (p := ⟨W2.heap.size, 0, none⟩) hla).trans A0
        have A1 := (hB1.cell (p := ⟨W2.heap.size, 1, none⟩) hla).trans A1
        have hla := Nat.lt_of_lt_of_le hla hB1.size
        have P0 := P0.below hB1
        have q1 := own_below q1 hB1
        have q3 := own_below q3 hB1
        have hB := stepB hB hB1 hB.size
        clear hB1
        by_cases hlt : k36 < V1.length
        · have hk1 : (k36 : Int) < (V1.length : Int) := by omega
          have hm := List.getElem?_eq_getElem hlt
          generalize V1[k36] = m at hm
          have hlaw := hvl.out m (List.mem_of_getElem? hm)
          obtain ⟨b, off, rfl, hb2, c0, c1⟩ := (Rd.of_own encSp_len (by decide) q1).sp hm
          have HHO := Lib.hid (fun W (Z0 : Rd encPs W (some ⟨g, 0, none⟩) ps ∧ Rd encTm W (some ⟨h, 0, none⟩) ts) => implHolders_any (some ⟨g, 0, none⟩) (some ⟨h, 0, none⟩) c d ps ts o m.to W (by have := P0.1; omega) Z0.1 (fun m hm => by have := (P0.2.2.1 m hm).1; unfold szPs; omega) (by have := P0.2.1; omega) Z0.2 (fun m hm => by have h9 := P0.2.2.2.1 m hm; have := h9.1; have := h9.2.1; unfold szTm; omega))
          rw [hlaw] at HHO
          dsimp only at HHO
          clear hlaw hm
          go_upto_region 29 with (fail)
          refine MAny.region (S := fun w' => w'.cell? ⟨W2.heap.size, 0, none⟩ = some (.slice (some ⟨g, 0, none⟩) ps.length c) ∧ w'.cell? ⟨W2.heap.size, 1, none⟩ = some (.slice (some ⟨h, 0, none⟩) ts.length d) ∧ w'.cell? ⟨b, off + k36 * 2 + 1, none⟩ = some (.int .i64 m.to)) (last := 12) (by kernel_rfl) ?_
          have hB1 := (Below.refl wr.heap.size wr).drew
          have c1 := (hB1.cell (p := ⟨b, _, none⟩) hb2).trans c1
          have hb2 := Nat.lt_of_lt_of_le hb2 hB1.size
          have A0 := (hB1.cell (p := ⟨W2.heap.size, 0, none⟩) hla).trans A0
          have A1 := (hB1.cell (p := ⟨W2.heap.size, 1, none⟩) hla).trans A1
          have hla := Nat.lt_of_lt_of_le hla hB1.size
          have P0 := P0.below hB1
          have q1 := own_below q1 hB1
          have q3 := own_below q3 hB1
          have hC := stepB hC hB1 hC.size
          have hB := stepB hB hB1 hB.size
          clear hB1
          generalize wr.drew = V0 at A0 A1 hla P0 q1 q3 hB hC hb2 c1 ⊢
          have hHeld := And.intro A0 (And.intro A1 c1)
          have HS2 := Lib.hid (HHO.out V0 P0.rd)
          clear HHO
          refine MAny.take (i := 0) (v := ?_) rfl (by kernel_rfl) (by kernel_rfl) (by kernel_rfl) (fun _ _ _ h => h) (by kernel_rfl) (Or.inl ⟨by rfl, ?_⟩) (by assumption) ?_
          rotate_left
          · (intro w' hSw; (try dsimp only at hSw); go_simp; try (with_reducible rfl))
          try simp only [Act.put, List.setIfInBounds_toArray]
          refine MAny.take (i := 1) (v := ?_) rfl (by kernel_rfl) (by kernel_rfl) (by kernel_rfl) (fun _ _ _ h => h) (by kernel_rfl) (Or.inl ⟨by rfl, ?_⟩) (by assumption) ?_
          rotate_left
          · (intro w' hSw; (try dsimp only at hSw); go_simp; try (with_reducible rfl))
          try simp only [Act.put]
          refine MAny.take (i := 2) (v := ?_) rfl (by kernel_rfl) (by kernel_rfl) (by kernel_rfl) (fun _ _ _ h => h) (by kernel_rfl) (Or.inl ⟨by rfl, ?_⟩) (by assumption) ?_
          rotate_left
          · (intro w' hSw; (try dsimp only at hSw); go_simp; try (with_reducible rfl))
          try simp only [Act.put]
          refine MAny.take (i := 3) (v := ?_) rfl (by kernel_rfl) (by kernel_rfl) (by kernel_rfl) (fun _ _ _ h => h) (by kernel_rfl) (Or.inl ⟨by rfl, ?_⟩) (by assumption) ?_
          rotate_left
          · (intro w' hSw; (try dsimp only at hSw); go_simp; try (with_reducible rfl))
          try simp only [Act.put]
          refine MAny.take (i := 4) (v := ?_) rfl (by kernel_rfl) (by kernel_rfl) (by kernel_rfl) (fun _ _ _ h => h) (by kernel_rfl) (Or.inl ⟨by rfl, ?_⟩) (by assumption) ?_
          rotate_left
          · (intro w' hSw; (try dsimp only at hSw); go_simp; try (with_reducible rfl))
          try simp only [Act.put]
          refine MAny.take (i := 5) (v := ?_) rfl (by kernel_rfl) (by kernel_rfl) (by kernel_rfl) (fun _ _ _ h => h) (by kernel_rfl) (Or.inl ⟨by rfl, ?_⟩) (by assumption) ?_
          rotate_left
          · (intro w' hSw; (try dsimp only at hSw); go_simp; try (with_reducible rfl))
          try simp only [Act.put]
          refine MAny.take (i := 6) (v := ?_) rfl (by kernel_rfl) (by kernel_rfl) (by kernel_rfl) (fun _ _ _ h => h) (by kernel_rfl) (Or.inl ⟨by rfl, ?_⟩) (by assumption) ?_
          rotate_left
          · (intro w' hSw; (try dsimp only at hSw); go_simp; try (with_reducible rfl))
          try simp only [Act.put]
          refine MAny.ready (rs := [7]) (by kernel_rfl) (by simp) ?_
          refine MReady.cons rfl (fun K hK => ?_) MReady.nil
          go_simp
          go_wp2_with (go_at_call 25; refine HS2.out.mono ?_; rintro e V3 ⟨b6, e6, rfl, _, hB1⟩)
          have c1 := (hB1.cell (p := ⟨b, _, none⟩) hb2).trans c1
          have A0 := (hB1.cell (p := ⟨W2.heap.size, 0, none⟩) hla).trans A0
          have A1 := (hB1.cell (p := ⟨W2.heap.size, 1, none⟩) hla).trans A1
          have hla := Nat.lt_of_lt_of_le hla hB1.size
          have P0 := P0.below hB1
          have q1 := own_below q1 hB1
          have q3 := own_below q3 hB1
          have hC := stepB hC hB1 hC.size
          have hB := stepB hB hB1 hB.size
          clear hB1
          have hHeld := And.intro A0 (And.intro A1 c1)
          refine hK.out _ _ (.inr hHeld) ?_
          clear hK K
          refine MAny.take (i := 8) (v := ?_) rfl (by kernel_rfl) (by kernel_rfl) (by kernel_rfl) (fun _ _ _ h => h) (by kernel_rfl) (Or.inl ⟨by rfl, ?_⟩) (by assumption) ?_
          rotate_left
          · (intro w' hSw; (try dsimp only at hSw); go_simp; try (with_reducible rfl))
          try simp only [Act.put, List.setIfInBounds_toArray]
          refine MAny.take (i := 9) (v := ?_) rfl (by kernel_rfl) (by kernel_rfl) (by kernel_rfl) (fun _ _ _ h => h) (by kernel_rfl) (Or.inl ⟨by rfl, ?_⟩) (by assumption) ?_
          rotate_left
          · (intro w' hSw; (try dsimp only at hSw); go_simp; try (with_reducible rfl))
          try simp only [Act.put]
          refine MAny.take (i := 10) (v := ?_) rfl (by kernel_rfl) (by kernel_rfl) (by kernel_rfl) (fun _ _ _ h => h) (by kernel_rfl) (Or.inl ⟨by rfl, ?_⟩) (by assumption) ?_
          rotate_left
          · (intro w' hSw; (try dsimp only at hSw); go_simp; try (with_reducible rfl))
          try simp only [Act.put]
          refine MAny.ready (rs := [11]) (by kernel_rfl) (by simp) ?_
          refine MReady.cons rfl (fun K hK => ?_) MReady.nil
          go_simp
          refine hK.out _ _ (.inr hHeld) ?_
          clear hK K
          refine MAny.ready (rs := [12]) (by kernel_rfl) (by simp) ?_
          refine MReady.cons rfl (fun K hK => ?_) MReady.nil
          go_simp
          refine hK.out _ _ (.inl rfl) ?_
          clear hK K
          refine MAny.done (by kernel_rfl) ?_ _
          try simp only [List.getElem_toArray, List.getElem_cons_succ, List.getElem_cons_zero]
          clear hHeld HS2
          go_wp2
          go_roundw
          case rel => exact ⟨k36 + 1, by omega, by go_num, hC⟩
          case measure => simp [intOf]; omega
        · have hk1 : decide ((k36 : Int) < (V1.length : Int)) = false := by simp; omega
          generalize hwq : wr = wq at A0 A1 hla P0 q1 q3 hB ⊢
          clear hwq hC hk1
          go_wp2
          go_loopw [39] (fun i wr => ∃ k : Nat, k ≤ S1.length ∧ i = .int .i64 k ∧ Below wq.heap.size wq wr) (fun i _ => S1.length - (intOf i).toNat)
          case atStart => exact ⟨0, Nat.zero_le _, rfl, Below.refl _ _⟩
          case round =>
            obtain ⟨k39, hk, rfl, hB1⟩ := hrel
            have hC := hB1
            have A0 := (hB1.cell (p := ⟨W2.heap.size, 0, none⟩) hla).trans A0
            have A1 := (hB1.cell (p := ⟨W2.heap.size, 1, none⟩) hla).trans A1
            have hla := Nat.lt_of_lt_of_le hla hB1.size
            have P0 := P0.below hB1
            have q1 := own_below q1 hB1
            have q3 := own_below q3 hB1
            have hB := stepB hB hB1 hB.size
            clear hB1
            by_cases hlt : k39 < S1.length
            · have hk1 : (k39 : Int) < (S1.length : Int) := by omega
              have hm := List.getElem?_eq_getElem hlt
              generalize S1[k39] = m at hm
              have hlaw := hsl.out m (List.mem_of_getElem? hm)
              obtain ⟨b, off, rfl, hb2, c0, c1⟩ := (Rd.of_own encSp_len (by decide) q3).sp hm
              have HHO := Lib.hid (fun W (Z0 : Rd encPs W (some ⟨g, 0, none⟩) ps ∧ Rd encTm W (some ⟨h, 0, none⟩) ts) => implHolders_any (some ⟨g, 0, none⟩) (some ⟨h, 0, none⟩) c d ps ts o m.fr W (by have := P0.1; omega) Z0.1 (fun m hm => by have := (P0.2.2.1 m hm).1; unfold szPs; omega) (by have := P0.2.1; omega) Z0.2 (fun m hm => by have h9 := P0.2.2.2.1 m hm; have := h9.1; have := h9.2.1; unfold szTm; omega))
              obtain ⟨⟨T1, T2⟩, hT⟩ : ∃ R, holdersR ps ts o m.fr = R := ⟨_, rfl⟩
              rw [hT] at HHO hlaw
              dsimp only at HHO hlaw
              obtain ⟨ht2, ht1⟩ := hlaw
              subst ht2
              have hT1 : (((T1.length : Nat) : Int) == 0) = false := by
                have : T1.length ≠ 0 := fun e => ht1 (List.length_eq_zero_iff.1 e)
                simp; exact ht1
              have hT2 : (T1.length == 0) = false := by simpa using ht1
              clear hT hm ht1
              go_upto_region 35 with (fail)
              refine MAny.region (S := fun w' => w'.cell? ⟨W2.heap.size, 0, none⟩ = some (.slice (some ⟨g, 0, none⟩) ps.length c) ∧ w'.cell? ⟨W2.heap.size, 1, none⟩ = some (.slice (some ⟨h, 0, none⟩) ts.length d) ∧ w'.cell? ⟨b, off + k39 * 2, none⟩ = some (.int .i64 m.fr)) (last := 12) (by kernel_rfl) ?_
              have hB1 := (Below.refl wr.heap.size wr).drew
              have c0 := (hB1.cell (p := ⟨b, _, none⟩) hb2).trans c0
              have hb2 := Nat.lt_of_lt_of_le hb2 hB1.size
              have A0 := (hB1.cell (p := ⟨W2.heap.size, 0, none⟩) hla).trans A0
              have A1 := (hB1.cell (p := ⟨W2.heap.size, 1, none⟩) hla).trans A1
              have hla := Nat.lt_of_lt_of_le hla hB1.size
              have P0 := P0.below hB1
              have q1 := own_below q1 hB1
              have q3 := own_below q3 hB1
              have hC := stepB hC hB1 hC.size
              have hB := stepB hB hB1 hB.size
              clear hB1
              generalize wr.drew = V0 at A0 A1 hla P0 q1 q3 hB hC hb2 c0 ⊢
              have hHeld := And.intro A0 (And.intro A1 c0)
              have HS2 := Lib.hid (HHO.out V0 P0.rd)
              clear HHO
              refine MAny.take (i := 0) (v := ?_) rfl (by kernel_rfl) (by kernel_rfl) (by kernel_rfl) (fun _ _ _ h => h) (by kernel_rfl) (Or.inl ⟨by rfl, ?_⟩) (by assumption) ?_
              rotate_left
              · (intro w' hSw; (try dsimp only at hSw); go_simp; try (with_reducible rfl))
              try simp only [Act.put, List.setIfInBounds_toArray]
              refine MAny.take (i := 1) (v := ?_) rfl (by kernel_rfl) (by kernel_rfl) (by kernel_rfl) (fun _ _ _ h => h) (by kernel_rfl) (Or.inl ⟨by rfl, ?_⟩) (by assumption) ?_
              rotate_left
              · (intro w' hSw; (try dsimp only at hSw); go_simp; try (with_reducible rfl))
              try simp only [Act.put]
              refine MAny.take (i := 2) (v := ?_) rfl (by kernel_rfl) (by kernel_rfl) (by kernel_rfl) (fun _ _ _ h => h) (by kernel_rfl) (Or.inl ⟨by rfl, ?_⟩) (by assumption) ?_
              rotate_left
              · (intro w' hSw; (try dsimp only at hSw); go_simp; try (with_reducible rfl))
              try simp only [Act.put]
              refine MAny.take (i := 3) (v := ?_) rfl (by kernel_rfl) (by kernel_rfl) (by kernel_rfl) (fun _ _ _ h => h) (by kernel_rfl) (Or.inl ⟨by rfl, ?_⟩) (by assumption) ?_
              rotate_left
              · (intro w' hSw; (try dsimp only at hSw); go_simp; try (with_reducible rfl))
              try simp only [Act.put]
              refine MAny.take (i := 4) (v := ?_) rfl (by kernel_rfl) (by kernel_rfl) (by kernel_rfl) (fun _ _ _ h => h) (by kernel_rfl) (Or.inl ⟨by rfl, ?_⟩) (by assumption) ?_
              rotate_left
              · (intro w' hSw; (try dsimp only at hSw); go_simp; try (with_reducible rfl))
              try simp only [Act.put]
              refine MAny.take (i := 5) (v := ?_) rfl (by kernel_rfl) (by kernel_rfl) (by kernel_rfl) (fun _ _ _ h => h) (by kernel_rfl) (Or.inl ⟨by rfl, ?_⟩) (by assumption) ?_
              rotate_left
              · (intro w' hSw; (try dsimp only at hSw); go_simp; try (with_reducible rfl))
              try simp only [Act.put]
              refine MAny.take (i := 6) (v := ?_) rfl (by kernel_rfl) (by kernel_rfl) (by kernel_rfl) (fun _ _ _ h => h) (by kernel_rfl) (Or.inl ⟨by rfl, ?_⟩) (by assumption) ?_
              rotate_left
              · (intro w' hSw; (try dsimp only at hSw); go_simp; try (with_reducible rfl))
              try simp only [Act.put]
              refine MAny.ready (rs := [7]) (by kernel_rfl) (by simp) ?_
              refine MReady.cons rfl (fun K hK => ?_) MReady.nil
              go_simp
              go_wp2_with (go_at_call 25; refine HS2.out.mono ?_; rintro e V3 ⟨b6, e6, rfl, _, hB1⟩)
              have c0 := (hB1.cell (p := ⟨b, _, none⟩) hb2).trans c0
              have A0 := (hB1.cell (p := ⟨W2.heap.size, 0, none⟩) hla).trans A0
              have A1 := (hB1.cell (p := ⟨W2.heap.size, 1, none⟩) hla).trans A1
              have hla := Nat.lt_of_lt_of_le hla hB1.size
              have P0 := P0.below hB1
              have q1 := own_below q1 hB1
              have q3 := own_below q3 hB1
              have hC := stepB hC hB1 hC.size
              have hB := stepB hB hB1 hB.size
              clear hB1
              have hHeld := And.intro A0 (And.intro A1 c0)
              refine hK.out _ _ (.inr hHeld) ?_
              clear hK K
              refine MAny.take (i := 8) (v := ?_) rfl (by kernel_rfl) (by kernel_rfl) (by kernel_rfl) (fun _ _ _ h => h) (by kernel_rfl) (Or.inl ⟨by rfl, ?_⟩) (by assumption) ?_
              rotate_left
              · (intro w' hSw; (try dsimp only at hSw); go_simp; try (with_reducible rfl))
              try simp only [Act.put, List.setIfInBounds_toArray]
              refine MAny.take (i := 9) (v := ?_) rfl (by kernel_rfl) (by kernel_rfl) (by kernel_rfl) (fun _ _ _ h => h) (by kernel_rfl) (Or.inl ⟨by rfl, ?_⟩) (by assumption) ?_
              rotate_left
              · (intro w' hSw; (try dsimp only at hSw); go_simp; try (with_reducible rfl))
              try simp only [Act.put]
              refine MAny.take (i := 10) (v := ?_) rfl (by kernel_rfl) (by kernel_rfl) (by kernel_rfl) (fun _ _ _ h => h) (by kernel_rfl) (Or.inl ⟨by rfl, ?_⟩) (by assumption) ?_
              rotate_left
              · (intro w' hSw; (try dsimp only at hSw); go_simp; try (with_reducible rfl))
              try simp only [Act.put]
              refine MAny.ready (rs := [11]) (by kernel_rfl) (by simp) ?_
              refine MReady.cons rfl (fun K hK => ?_) MReady.nil
              go_simp
              refine hK.out _ _ (.inr hHeld) ?_
              clear hK K
              refine MAny.ready (rs := [12]) (by kernel_rfl) (by simp) ?_
              refine MReady.cons rfl (fun K hK => ?_) MReady.nil
              go_simp
              refine hK.out _ _ (.inl rfl) ?_
              clear hK K
              refine MAny.done (by kernel_rfl) ?_ _
              try simp only [List.getElem_toArray, List.getElem_cons_succ, List.getElem_cons_zero]
              clear hHeld HS2
              go_wp2
              go_roundw
              case rel => exact ⟨k39 + 1, by omega, by go_num, hC⟩
              case measure => simp [intOf]; omega
            · have hk1 : decide ((k39 : Int) < (S1.length : Int)) = false := by simp; omega
              go_wp2
              go_ret
              exact ⟨rfl, hB⟩
    · rw [if_neg hpp] at hvc hsc
      simp only at hvc hsc
      subst hvc
      subst hsc
      go_wp2
      go_loopw [36] (fun i wr => i = .int .i64 0 ∧ Below w.heap.size w wr) (fun _ _ => 0)
      case atStart => exact ⟨rfl, hB⟩
      case round =>
        obtain ⟨rfl, hB1⟩ := hrel
        go_wp2
        go_loopw [39] (fun i wr => i = .int .i64 0 ∧ Below w.heap.size w wr) (fun _ _ => 0)
        case atStart => exact ⟨rfl, hB1⟩
        case round =>
          obtain ⟨rfl, hB1⟩ := hrel
          go_wp2
          go_ret
          exact ⟨rfl, hB1⟩
end Go.Proofs.YtmjbigeeokofeaaGreatDoor
