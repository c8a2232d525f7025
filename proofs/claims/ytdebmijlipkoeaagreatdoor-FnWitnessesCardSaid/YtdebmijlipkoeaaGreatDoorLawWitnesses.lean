/- Walk: the law FnWitnesses. Printed by gen_lawwit.py. -/
import Derived.Test.YtdebmijlipkoeaaGreatDoorDwt
import Derived.Test.YtdebmijlipkoeaaGreatDoorWitP
import Derived.Test.YtdebmijlipkoeaaGreatDoorMeetT
import Derived.Test.YtdebmijlipkoeaaGreatDoorDice
namespace Go.Proofs.YtdebmijlipkoeaaGreatDoor
open Go.ChangeShapes Go.WideShapes Go.ChangeAt Go.RowKit Go.IntWalk

theorem rd_part {w : World} {g k : Nat} {m : Wt} {ws : List Wt} (h : Rd encWt w (some ⟨g, 0, none⟩) ws) (hm : ws[k]? = some m) : Rd encWt w (some ⟨g, k * 2, none⟩) [m] := by
  intro i x hi
  obtain ⟨b, off, ha, hb, hc⟩ := h k m hm
  injection ha with ha
  injection ha with ha1 ha2
  subst ha1; subst ha2
  match i, hi with
  | 0, hi =>
    injection hi with hi
    subst hi
    exact ⟨g, k * 2, rfl, hb, fun j v hv => by have h2 := hc j v hv; rw [encWt_len] at h2; simpa using h2⟩
theorem own_cap3 {w : World} {base : Nat} {E : TypeId} {k g n cap : Nat} {xs : List Value} (h : w.ownsRow base E k (.slice (some ⟨g, 0, none⟩) n cap) n xs) : n ≤ cap ∧ cap ≤ 9223372036854775807 := by
  rcases h.2 with ⟨e, _⟩ | ⟨g', cap', cur, e, _, _, h1, h2, _⟩
  · cases e
  · injection e with e1 e2 e3
    subst e3
    exact ⟨h1, h2⟩
theorem codeW_true {ps : List Ps} {ts : List Tm} {l : List Wt} {b : Bool} (h : codeW ps ts l b = 0) : codeW ps ts l true = 0 := by
  obtain ⟨h1, h2, _⟩ := codeW_zero h
  rw [h2] at h
  exact h
theorem codeW_one {ps : List Ps} {ts : List Tm} {l : List Wt} {b : Bool} {m : Wt} (h : codeW ps ts l b = 0) (hm : m ∈ l) : codeW ps ts [m] true = 0 := by
  obtain ⟨h1, _, _, h4⟩ := codeW_zero h
  have h5 := List.all_eq_true.1 h4 m hm
  unfold codeW
  rw [if_pos h1]
  simp [h5]
theorem absR_code {ps : List Ps} {ts : List Tm} {l : List Wt} {n c : Int} : (absR ps ts l n c).2 = c := by
  unfold absR
  split
  · rename_i h; exact h.symm
  · rfl
theorem signR_code {ps : List Ps} {ts : List Tm} {l : List Wt} {c : Int} : (signR ps ts l c).2 = c := by
  unfold signR
  split
  · rename_i h; exact h.symm
  · rfl
theorem signR_ok {ps : List Ps} {ts : List Tm} {l : List Wt} (h : codeW ps ts l true = 0) : signR ps ts l (codeW ps ts l true) = (signL ps ts l, 0) := by
  unfold signR; rw [if_pos h]
theorem absR_ok {ps : List Ps} {ts : List Tm} {l : List Wt} {n : Int} {b : Bool} (h : codeW ps ts l b = 0) : absR ps ts l n (codeW ps ts l b) = (jxl (pA ps ts l n) l.length, 0) := by
  unfold absR; rw [if_pos h]
set_option maxRecDepth 100000 in
set_option maxHeartbeats 8000000 in
theorem lawWitnesses_any (cs : Option Addr) (cap : Nat) (bs : List Int) (w : World) (_hl : bs.length ≤ maxLen) (hx : Rd encB w cs bs) (hb : ∀ m ∈ bs, goodB m) :
    Calls Tryz.prog 4 #[.slice cs bs.length cap] w fun e w' => e = .returned (.bool true) ∧ Below w.heap.size w w' := by
  have HBIG := Lib.hid (big_any cs cap bs.length w)
  by_cases hbig : 4096 < bs.length
  · have HBIG := Lib.hid ((show decide (4096 < bs.length) = true by simpa using hbig) ▸ HBIG.out)
    go_enter Tryz.func4, Tryz.ntmps4
    go_wp2_with fail
    refine HBIG.out.mono ?_
    rintro e w1 ⟨rfl, rfl⟩
    go_wp2
    go_ret
    exact ⟨rfl, Below.refl _ _⟩
  have HBIG := Lib.hid ((show decide (4096 < bs.length) = false by simpa using hbig) ▸ HBIG.out)
  have hl : bs.length ≤ 4096 := by omega
  go_enter Tryz.func4, Tryz.ntmps4
  go_wp2_with fail
  refine HBIG.out.mono ?_
  rintro e w0 ⟨rfl, rfl⟩
  clear HBIG hbig
  go_wp2_with fail
  refine (drawSigningDays_any cs cap bs w hx hb hl).mono ?_
  rintro e w1 ⟨g, h, c, d, ps, ts, g3, c3, ws, rfl, P0, hwl, hwo, own, hB⟩
  generalize hW : w1.alloc (.cells #[.slice (some ⟨g, 0, none⟩) ps.length c, .slice (some ⟨h, 0, none⟩) ts.length d] 48) = W2
  have hB1 : Below w1.heap.size w1 W2 := by rw [← hW]; exact belowA _ _
  have A0 : W2.cell? ⟨w1.heap.size, 0, none⟩ = some (.slice (some ⟨g, 0, none⟩) ps.length c) := by rw [← hW]; exact World.cell?_alloc_at _ _ _ _ rfl
  have A1 : W2.cell? ⟨w1.heap.size, 1, none⟩ = some (.slice (some ⟨h, 0, none⟩) ts.length d) := by rw [← hW]; exact World.cell?_alloc_at _ _ _ _ rfl
  have hla : w1.heap.size < W2.heap.size := by rw [← hW]; simp
  have P0 := P0.below hB1
  have own := own_below own hB1
  have hB := stepB hB hB1 hB.size
  clear hB1
  have HSI := Lib.hid (fun W (Z0 : Rd encPs W (some ⟨g, 0, none⟩) ps ∧ Rd encTm W (some ⟨h, 0, none⟩) ts) (Z1 : Rd encWt W (some ⟨g3, 0, none⟩) ws) => implSigning_any (some ⟨g, 0, none⟩) (some ⟨h, 0, none⟩) c d ps ts (some ⟨g3, 0, none⟩) c3 ws W (by have := P0.1; omega) Z0.1 (fun m hm => by have := (P0.2.2.1 m hm).1; unfold szPs; omega) (by have := P0.2.1; omega) Z0.2 (fun m hm => by have h9 := P0.2.2.2.1 m hm; have := h9.1; have := h9.2.1; unfold szTm; omega) (by omega) Z1)
  have HSS := Lib.hid (fun W (Z0 : Rd encPs W (some ⟨g, 0, none⟩) ps ∧ Rd encTm W (some ⟨h, 0, none⟩) ts) (Z1 : Rd encWt W (some ⟨g3, 0, none⟩) ws) => specSigning_any (some ⟨g, 0, none⟩) (some ⟨h, 0, none⟩) c d ps ts (some ⟨g3, 0, none⟩) c3 ws W (by have := P0.1; omega) Z0.1 (fun m hm => by have := (P0.2.2.1 m hm).1; unfold szPs; omega) (by have := P0.2.1; omega) Z0.2 (fun m hm => by have h9 := P0.2.2.2.1 m hm; have := h9.1; have := h9.2.1; unfold szTm; omega) (by omega) Z1)
  obtain ⟨R, hR⟩ : ∃ R, signR ps ts ws (codeW ps ts ws true) = R := ⟨_, rfl⟩
  have hRl := signR_len ps ts ws
  rw [hR] at HSI HSS hRl
  obtain ⟨R1, R2⟩ := R
  dsimp only at HSI HSS hRl
  go_wp2_with fail
  clear hW
  refine (HSI.out _ P0.rd (Rd.of_own encWt_len (by decide) own)).mono ?_
  rintro e W3 ⟨b1, e1, rfl, o1, hB1⟩
  have o1 := own_base o1 hB.size
  have A0 := (hB1.cell (p := ⟨w1.heap.size, 0, none⟩) hla).trans A0
  have A1 := (hB1.cell (p := ⟨w1.heap.size, 1, none⟩) hla).trans A1
  have hla := Nat.lt_of_lt_of_le hla hB1.size
  have P0 := P0.below hB1
  have own := own_below own hB1
  have hB := stepB hB hB1 hB.size
  clear hB1
  go_wp2_with fail
  refine (HSS.out _ P0.rd (Rd.of_own encWt_len (by decide) own)).mono ?_
  rintro e W4 ⟨b2, e2, rfl, o2, hB1⟩
  have o2 := own_base o2 hB.size
  have A0 := (hB1.cell (p := ⟨w1.heap.size, 0, none⟩) hla).trans A0
  have A1 := (hB1.cell (p := ⟨w1.heap.size, 1, none⟩) hla).trans A1
  have hla := Nat.lt_of_lt_of_le hla hB1.size
  have P0 := P0.below hB1
  have own := own_below own hB1
  have o1 := own_below o1 hB1
  have hB := stepB hB hB1 hB.size
  clear hB1
  go_wp2_with fail
  refine (drawAbsentWitnesses_any cs cap bs _ (hx.below hB) hb hl).mono ?_
  rintro e W5 ⟨g', h', c', d', ps', ts', g4, c4, ws', n, rfl, P1, hwl', hwo', own', hn, hB1⟩
  have P1 := P1.base hB.size
  have own' := own_base own' hB.size
  have A0 := (hB1.cell (p := ⟨w1.heap.size, 0, none⟩) hla).trans A0
  have A1 := (hB1.cell (p := ⟨w1.heap.size, 1, none⟩) hla).trans A1
  have hla := Nat.lt_of_lt_of_le hla hB1.size
  have P0 := P0.below hB1
  have own := own_below own hB1
  have o1 := own_below o1 hB1
  have o2 := own_below o2 hB1
  have hB := stepB hB hB1 hB.size
  clear hB1
  generalize hW : W5.alloc (.cells #[.slice (some ⟨g', 0, none⟩) ps'.length c', .slice (some ⟨h', 0, none⟩) ts'.length d'] 48) = W6
  have hB1 : Below W5.heap.size W5 W6 := by rw [← hW]; exact belowA _ _
  have B0 : W6.cell? ⟨W5.heap.size, 0, none⟩ = some (.slice (some ⟨g', 0, none⟩) ps'.length c') := by rw [← hW]; exact World.cell?_alloc_at _ _ _ _ rfl
  have B1 : W6.cell? ⟨W5.heap.size, 1, none⟩ = some (.slice (some ⟨h', 0, none⟩) ts'.length d') := by rw [← hW]; exact World.cell?_alloc_at _ _ _ _ rfl
  have hlb : W5.heap.size < W6.heap.size := by rw [← hW]; simp
  have A0 := (hB1.cell (p := ⟨w1.heap.size, 0, none⟩) hla).trans A0
  have A1 := (hB1.cell (p := ⟨w1.heap.size, 1, none⟩) hla).trans A1
  have hla := Nat.lt_of_lt_of_le hla hB1.size
  have P0 := P0.below hB1
  have P1 := P1.below hB1
  have own := own_below own hB1
  have o1 := own_below o1 hB1
  have o2 := own_below o2 hB1
  have own' := own_below own' hB1
  have hB := stepB hB hB1 hB.size
  clear hB1
  have HAI := Lib.hid (fun W (Z0 : Rd encPs W (some ⟨g', 0, none⟩) ps' ∧ Rd encTm W (some ⟨h', 0, none⟩) ts') (Z1 : Rd encWt W (some ⟨g4, 0, none⟩) ws') => implAbsent_any (some ⟨g', 0, none⟩) (some ⟨h', 0, none⟩) c' d' ps' ts' (some ⟨g4, 0, none⟩) c4 ws' n W (by have := P1.1; omega) Z0.1 (fun m hm => by have := (P1.2.2.1 m hm).1; unfold szPs; omega) (by have := P1.2.1; omega) Z0.2 (fun m hm => by have h9 := P1.2.2.2.1 m hm; have := h9.1; have := h9.2.1; unfold szTm; omega) (by omega) Z1)
  have HAS := Lib.hid (fun W (Z0 : Rd encPs W (some ⟨g', 0, none⟩) ps' ∧ Rd encTm W (some ⟨h', 0, none⟩) ts') (Z1 : Rd encWt W (some ⟨g4, 0, none⟩) ws') => specAbsent_any (some ⟨g', 0, none⟩) (some ⟨h', 0, none⟩) c' d' ps' ts' (some ⟨g4, 0, none⟩) c4 ws' n W (by have := P1.1; omega) Z0.1 (fun m hm => by have := (P1.2.2.1 m hm).1; unfold szPs; omega) (by have := P1.2.1; omega) Z0.2 (fun m hm => by have h9 := P1.2.2.2.1 m hm; have := h9.1; have := h9.2.1; unfold szTm; omega) (by omega) Z1)
  have HSI2 := Lib.hid (fun W (Z0 : Rd encPs W (some ⟨g', 0, none⟩) ps' ∧ Rd encTm W (some ⟨h', 0, none⟩) ts') (Z1 : Rd encWt W (some ⟨g4, 0, none⟩) ws') => implSigning_any (some ⟨g', 0, none⟩) (some ⟨h', 0, none⟩) c' d' ps' ts' (some ⟨g4, 0, none⟩) c4 ws' W (by have := P1.1; omega) Z0.1 (fun m hm => by have := (P1.2.2.1 m hm).1; unfold szPs; omega) (by have := P1.2.1; omega) Z0.2 (fun m hm => by have h9 := P1.2.2.2.1 m hm; have := h9.1; have := h9.2.1; unfold szTm; omega) (by omega) Z1)
  obtain ⟨X, hX⟩ : ∃ X, absR ps' ts' ws' n (codeW ps' ts' ws' (dayB n)) = X := ⟨_, rfl⟩
  have hXl := absR_len ps' ts' ws' n (codeW ps' ts' ws' (dayB n)) (by omega)
  rw [hX] at HAI HAS hXl
  obtain ⟨X1, X2⟩ := X
  dsimp only at HAI HAS hXl
  go_wp2_with fail
  clear hW
  refine (HAI.out _ P1.rd (Rd.of_own encWt_len (by decide) own')).mono ?_
  rintro e W7 ⟨b3, e3, rfl, o3, hB1⟩
  have o3 := own_base o3 hB.size
  have A0 := (hB1.cell (p := ⟨w1.heap.size, 0, none⟩) hla).trans A0
  have A1 := (hB1.cell (p := ⟨w1.heap.size, 1, none⟩) hla).trans A1
  have B0 := (hB1.cell (p := ⟨W5.heap.size, 0, none⟩) hlb).trans B0
  have B1 := (hB1.cell (p := ⟨W5.heap.size, 1, none⟩) hlb).trans B1
  have hla := Nat.lt_of_lt_of_le hla hB1.size
  have hlb := Nat.lt_of_lt_of_le hlb hB1.size
  have P0 := P0.below hB1
  have P1 := P1.below hB1
  have own := own_below own hB1
  have o1 := own_below o1 hB1
  have o2 := own_below o2 hB1
  have own' := own_below own' hB1
  have hB := stepB hB hB1 hB.size
  clear hB1
  go_wp2_with fail
  refine (HAS.out _ P1.rd (Rd.of_own encWt_len (by decide) own')).mono ?_
  rintro e W8 ⟨b4, e4, rfl, o4, hB1⟩
  have o4 := own_base o4 hB.size
  have A0 := (hB1.cell (p := ⟨w1.heap.size, 0, none⟩) hla).trans A0
  have A1 := (hB1.cell (p := ⟨w1.heap.size, 1, none⟩) hla).trans A1
  have B0 := (hB1.cell (p := ⟨W5.heap.size, 0, none⟩) hlb).trans B0
  have B1 := (hB1.cell (p := ⟨W5.heap.size, 1, none⟩) hlb).trans B1
  have hla := Nat.lt_of_lt_of_le hla hB1.size
  have hlb := Nat.lt_of_lt_of_le hlb hB1.size
  have P0 := P0.below hB1
  have P1 := P1.below hB1
  have own := own_below own hB1
  have o1 := own_below o1 hB1
  have o2 := own_below o2 hB1
  have own' := own_below own' hB1
  have o3 := own_below o3 hB1
  have hB := stepB hB hB1 hB.size
  clear hB1
  have q1 : (R2 != R2) = false := by simp
  have q2 : (X2 != X2) = false := by simp
  have HL1 := Lib.hid (fun W (hh : Rd encSp W b1 R1 ∧ Rd encSp W b2 R1) => likeSpans_self b1 b2 e1 e2 R1 W (by omega) hh.1 hh.2)
  have HL2 := Lib.hid (fun W (hh : Rd encI W b3 X1 ∧ Rd encI W b4 X1) => likeInts_self b3 b4 e3 e4 X1 W (by omega) hh.1 hh.2)
  go_wp2_with fail
  refine (HL1.out _ ⟨Rd.of_own encSp_len (by decide) o1, Rd.of_own encSp_len (by decide) o2⟩).mono ?_
  rintro e W9 ⟨rfl, hB1⟩
  have A0 := (hB1.cell (p := ⟨w1.heap.size, 0, none⟩) hla).trans A0
  have A1 := (hB1.cell (p := ⟨w1.heap.size, 1, none⟩) hla).trans A1
  have B0 := (hB1.cell (p := ⟨W5.heap.size, 0, none⟩) hlb).trans B0
  have B1 := (hB1.cell (p := ⟨W5.heap.size, 1, none⟩) hlb).trans B1
  have hla := Nat.lt_of_lt_of_le hla hB1.size
  have hlb := Nat.lt_of_lt_of_le hlb hB1.size
  have P0 := P0.below hB1
  have P1 := P1.below hB1
  have own := own_below own hB1
  have o1 := own_below o1 hB1
  have o2 := own_below o2 hB1
  have own' := own_below own' hB1
  have o3 := own_below o3 hB1
  have o4 := own_below o4 hB1
  have hB := stepB hB hB1 hB.size
  clear hB1
  go_wp2_with fail
  refine (HL2.out _ ⟨Rd.of_own encI_len (by decide) o3, Rd.of_own encI_len (by decide) o4⟩).mono ?_
  rintro e W10 ⟨rfl, hB1⟩
  have A0 := (hB1.cell (p := ⟨w1.heap.size, 0, none⟩) hla).trans A0
  have A1 := (hB1.cell (p := ⟨w1.heap.size, 1, none⟩) hla).trans A1
  have B0 := (hB1.cell (p := ⟨W5.heap.size, 0, none⟩) hlb).trans B0
  have B1 := (hB1.cell (p := ⟨W5.heap.size, 1, none⟩) hlb).trans B1
  have hla := Nat.lt_of_lt_of_le hla hB1.size
  have hlb := Nat.lt_of_lt_of_le hlb hB1.size
  have P0 := P0.below hB1
  have P1 := P1.below hB1
  have own := own_below own hB1
  have o1 := own_below o1 hB1
  have own' := own_below own' hB1
  have o3 := own_below o3 hB1
  have o4 := own_below o4 hB1
  have hB := stepB hB hB1 hB.size
  clear hB1
  clear o2 o3 o4 HL1 HL2 HAI HAS HSS
  go_upto_if 85 with (fail)
  go_cut [] from 86 to 110 (fun wd => Below W10.heap.size W10 wd)
  case first =>
    by_cases h0 : X2 = 0
    · subst h0
      have hc : codeW ps' ts' ws' (dayB n) = 0 := by have := congrArg Prod.snd hX; rw [absR_code] at this; exact this
      obtain ⟨hpp, hday, _, _⟩ := codeW_zero hc
      have hX2 := hX.symm.trans (absR_ok hc)
      have hR2 := signR_ok (codeW_true hc)
      rw [hR2] at HSI2
      have hsg := signL_facts hpp ws'
      have hshort := signL_short (ps := ps') (ts := ts') (l := ws') (by have := P1.2.1; omega) (codeW_zero hc).2.2.1
      have hset := isSetP_of hsg.1 hsg.2.1
      have habs := sign_absent hpp ws' hday
      have hXlen : X1.length = (jxl (pA ps' ts' ws' n) ws'.length).length := congrArg List.length (congrArg Prod.fst hX2)
      rw [← hXlen] at habs
      generalize signL ps' ts' ws' = S' at HSI2 hshort hset habs
      have hE : hasB S' n = (((X1.length : Nat) : Int) == 0) := by
        rw [habs]
        by_cases hz : X1.length = 0
        · simp [hz]
        · simp [hz]
      clear hsg hX2 hR2 hXlen habs
      have hB := Below.refl W10.heap.size W10
      go_wp2_with fail
      refine (HSI2.out _ P1.rd (Rd.of_own encWt_len (by decide) own')).mono ?_
      rintro e W11 ⟨b5, e5, rfl, o5, hB1⟩
      have o5 := own_base o5 hB.size
      have A0 := (hB1.cell (p := ⟨w1.heap.size, 0, none⟩) hla).trans A0
      have A1 := (hB1.cell (p := ⟨w1.heap.size, 1, none⟩) hla).trans A1
      have B0 := (hB1.cell (p := ⟨W5.heap.size, 0, none⟩) hlb).trans B0
      have B1 := (hB1.cell (p := ⟨W5.heap.size, 1, none⟩) hlb).trans B1
      have hla := Nat.lt_of_lt_of_le hla hB1.size
      have hlb := Nat.lt_of_lt_of_le hlb hB1.size
      have P0 := P0.below hB1
      have P1 := P1.below hB1
      have own := own_below own hB1
      have o1 := own_below o1 hB1
      have own' := own_below own' hB1
      have hB := stepB hB hB1 hB.size
      clear hB1
      have HH := Lib.hid (fun W (hh : Rd encSp W b5 S') => hE ▸ hasDayC_any b5 e5 S' n W hshort hh hset hday)
      clear hE
      go_wp2_with fail
      refine (HH.out _ (Rd.of_own encSp_len (by decide) o5)).mono ?_
      rintro e W12 ⟨rfl, hB1⟩
      have A0 := (hB1.cell (p := ⟨w1.heap.size, 0, none⟩) hla).trans A0
      have A1 := (hB1.cell (p := ⟨w1.heap.size, 1, none⟩) hla).trans A1
      have B0 := (hB1.cell (p := ⟨W5.heap.size, 0, none⟩) hlb).trans B0
      have B1 := (hB1.cell (p := ⟨W5.heap.size, 1, none⟩) hlb).trans B1
      have hla := Nat.lt_of_lt_of_le hla hB1.size
      have hlb := Nat.lt_of_lt_of_le hlb hB1.size
      have P0 := P0.below hB1
      have P1 := P1.below hB1
      have own := own_below own hB1
      have o1 := own_below o1 hB1
      have own' := own_below own' hB1
      have o5 := own_below o5 hB1
      have hB := stepB hB hB1 hB.size
      clear hB1
      go_wp2
      go_meet
      case rel => exact hB
    · have h0' : (X2 == 0) = false := by simpa using h0
      go_wp2
      go_meet
      case rel => exact Below.refl _ _
  case rest =>
    have hB1 := hcut
    have A0 := (hB1.cell (p := ⟨w1.heap.size, 0, none⟩) hla).trans A0
    have A1 := (hB1.cell (p := ⟨w1.heap.size, 1, none⟩) hla).trans A1
    have hla := Nat.lt_of_lt_of_le hla hB1.size
    have P0 := P0.below hB1
    have own := own_below own hB1
    have o1 := own_below o1 hB1
    have hB := stepB hB hB1 hB.size
    clear hB1
    by_cases hc : R2 = 0
    · subst hc
      have hcw : codeW ps ts ws true = 0 := by have := congrArg Prod.snd hR; rw [signR_code] at this; exact this
      have hRR : R1 = signL ps ts ws := (congrArg Prod.fst (hR.symm.trans (signR_ok hcw)))
      have hpp := (codeW_zero hcw).1
      have hw12 := (codeW_zero hcw).2.2.1
      go_wp2
      go_loopw [20] (fun i wr => ∃ k : Nat, k ≤ ws.length ∧ i = .int .i64 k ∧ Below wc.heap.size wc wr) (fun i _ => ws.length - (intOf i).toNat)
      case atStart => exact ⟨0, Nat.zero_le _, rfl, Below.refl _ _⟩
      case round =>
        obtain ⟨k, hk, rfl, hB1⟩ := hrel
        have hC := hB1
        have A0 := (hB1.cell (p := ⟨w1.heap.size, 0, none⟩) hla).trans A0
        have A1 := (hB1.cell (p := ⟨w1.heap.size, 1, none⟩) hla).trans A1
        have hla := Nat.lt_of_lt_of_le hla hB1.size
        have P0 := P0.below hB1
        have own := own_below own hB1
        have o1 := own_below o1 hB1
        have hB := stepB hB hB1 hB.size
        clear hB1
        by_cases hlt : k < ws.length
        · have hk1 : (k : Int) < (ws.length : Int) := by omega
          obtain ⟨m, hm⟩ : ∃ m, ws[k]? = some m := ⟨_, List.getElem?_eq_getElem hlt⟩
          have hmem := List.mem_of_getElem? hm
          have hone := sign_one hpp hmem
          have hc1 := codeW_one hcw hmem
          have hs1 := signL_facts hpp [m]
          have hs2 := signL_facts hpp ws
          have hsh1 := signL_short (ps := ps) (ts := ts) (l := [m]) (by have := P0.2.1; omega) (by simp)
          have hsh2 := signL_short (ps := ps) (ts := ts) (l := ws) (by have := P0.2.1; omega) hw12
          have hset1 := isSetP_of hs1.1 hs1.2.1
          have hset2 := isSetP_of hs2.1 hs2.2.1
          have hcap := own_cap3 own
          have HS1 := Lib.hid (fun W q (Z0 : Rd encPs W (some ⟨g, 0, none⟩) ps ∧ Rd encTm W (some ⟨h, 0, none⟩) ts) (Z1 : Rd encWt W (some ⟨g3, k * 2, none⟩) [m]) => (signR_ok hc1) ▸ implSigning_any (some ⟨g, 0, none⟩) (some ⟨h, 0, none⟩) c d ps ts (some ⟨g3, k * 2, none⟩) q [m] W (by have := P0.1; omega) Z0.1 (fun m hm => by have := (P0.2.2.1 m hm).1; unfold szPs; omega) (by have := P0.2.1; omega) Z0.2 (fun m hm => by have h9 := P0.2.2.2.1 m hm; have := h9.1; have := h9.2.1; unfold szTm; omega) (by simp) Z1)
          have hRh := Lib.hid hRR
          clear hRR hR
          have v1 := i64_in ((k : Int) + 1) (by omega)
          clear hs1 hs2 hRl hc1
          generalize signL ps ts [m] = S1 at HS1 hsh1 hset1 hone
          rw [← hRh.out] at hsh2 hset2 hone
          have hk2 : (0 : Int) ≤ (k : Int) + 1 := by omega
          have hk3 : (k : Int) + 1 ≤ (c3 : Int) := by have := hcap.1; omega
          have hk4 : ¬ c3 = k := by have := hcap.1; omega
          have hk5 : (c3 = k) = False := eq_false hk4
          go_upto_region 19 with (fail)
          refine MAny.region (S := fun w' => w'.cell? ⟨w1.heap.size, 0, none⟩ = some (.slice (some ⟨g, 0, none⟩) ps.length c) ∧ w'.cell? ⟨w1.heap.size, 1, none⟩ = some (.slice (some ⟨h, 0, none⟩) ts.length d)) (last := 11) (by kernel_rfl) ?_
          have hB1 := (Below.refl wr.heap.size wr).drew
          have A0 := (hB1.cell (p := ⟨w1.heap.size, 0, none⟩) hla).trans A0
          have A1 := (hB1.cell (p := ⟨w1.heap.size, 1, none⟩) hla).trans A1
          have hla := Nat.lt_of_lt_of_le hla hB1.size
          have P0 := P0.below hB1
          have own := own_below own hB1
          have o1 := own_below o1 hB1
          have hC := stepB hC hB1 hC.size
          have hB := stepB hB hB1 hB.size
          clear hB1
          generalize wr.drew = V0 at A0 A1 hla P0 own o1 hB hC ⊢
          have hHeld := And.intro A0 A1
          have HS2 : Calls Tryz.prog 21 #[.agg #[.slice (some ⟨g, 0, none⟩) ps.length c, .slice (some ⟨h, 0, none⟩) ts.length d], .slice (some ⟨g3, k * 2, none⟩) 1 (c3 - k)] V0 _ := HS1.out V0 (c3 - k) P0.rd (rd_part (Rd.of_own encWt_len (by decide) own) hm)
          have HS2 := Lib.hid HS2
          refine MAny.take (i := 0) (v := ?_) rfl (by kernel_rfl) (by kernel_rfl) (by kernel_rfl) (fun _ _ _ h => h) (by kernel_rfl) (Or.inl ⟨by rfl, ?_⟩) (by assumption) ?_
          rotate_left
          · (intro w' hSw; (try dsimp only at hSw); go_simp; try (with_reducible rfl))
          try simp only [Act.put, List.setIfInBounds_toArray]
          refine MAny.take (i := 1) (v := ?_) rfl (by kernel_rfl) (by kernel_rfl) (by kernel_rfl) (fun _ _ _ h => h) (by kernel_rfl) (Or.inl ⟨by rfl, ?_⟩) (by assumption) ?_
          rotate_left
          · (intro w' hSw; (try dsimp only at hSw); go_simp; try (with_reducible rfl))
          try simp only [Act.put]
          refine MAny.take (i := 2) (v := ?_) rfl (by kernel_rfl) (by kernel_rfl) (by kernel_rfl) (fun _ _ _ h => h) (by kernel_rfl) (Or.inl ⟨by rfl, ?_⟩) (by assumption) ?_
          rotate_left
          · (intro w' hSw; (try dsimp only at hSw); go_simp; try (with_reducible rfl))
          try simp only [Act.put]
          refine MAny.take (i := 3) (v := ?_) rfl (by kernel_rfl) (by kernel_rfl) (by kernel_rfl) (fun _ _ _ h => h) (by kernel_rfl) (Or.inl ⟨by rfl, ?_⟩) (by assumption) ?_
          rotate_left
          · (intro w' hSw; (try dsimp only at hSw); go_simp; try (with_reducible rfl))
          try simp only [Act.put]
          refine MAny.take (i := 4) (v := ?_) rfl (by kernel_rfl) (by kernel_rfl) (by kernel_rfl) (fun _ _ _ h => h) (by kernel_rfl) (Or.inl ⟨by rfl, ?_⟩) (by assumption) ?_
          rotate_left
          · (intro w' hSw; (try dsimp only at hSw); go_simp; try (with_reducible rfl))
          try simp only [Act.put]
          refine MAny.take (i := 5) (v := ?_) rfl (by kernel_rfl) (by kernel_rfl) (by kernel_rfl) (fun _ _ _ h => h) (by kernel_rfl) (Or.inl ⟨by rfl, ?_⟩) (by assumption) ?_
          rotate_left
          · (intro w' hSw; (try dsimp only at hSw); go_simp; try (with_reducible rfl))
          try simp only [Act.put]
          refine MAny.ready (rs := [6]) (by kernel_rfl) (by simp) ?_
          refine MReady.cons rfl (fun K hK => ?_) MReady.nil
          go_simp
          go_wp2_with (go_at_call 21; refine HS2.out.mono ?_; rintro e V1 ⟨b6, e6, rfl, o6, hB1⟩)
          have o6 := own_base o6 hB.size
          have A0 := (hB1.cell (p := ⟨w1.heap.size, 0, none⟩) hla).trans A0
          have A1 := (hB1.cell (p := ⟨w1.heap.size, 1, none⟩) hla).trans A1
          have hla := Nat.lt_of_lt_of_le hla hB1.size
          have P0 := P0.below hB1
          have own := own_below own hB1
          have o1 := own_below o1 hB1
          have hC := stepB hC hB1 hC.size
          have hB := stepB hB hB1 hB.size
          clear hB1
          have hHeld := And.intro A0 A1
          refine hK.out _ _ (.inr hHeld) ?_
          clear hK K
          refine MAny.take (i := 7) (v := ?_) rfl (by kernel_rfl) (by kernel_rfl) (by kernel_rfl) (fun _ _ _ h => h) (by kernel_rfl) (Or.inl ⟨by rfl, ?_⟩) (by assumption) ?_
          rotate_left
          · (intro w' hSw; (try dsimp only at hSw); go_simp; try (with_reducible rfl))
          try simp only [Act.put, List.setIfInBounds_toArray]
          refine MAny.take (i := 8) (v := ?_) rfl (by kernel_rfl) (by kernel_rfl) (by kernel_rfl) (fun _ _ _ h => h) (by kernel_rfl) (Or.inl ⟨by rfl, ?_⟩) (by assumption) ?_
          rotate_left
          · (intro w' hSw; (try dsimp only at hSw); go_simp; try (with_reducible rfl))
          try simp only [Act.put]
          refine MAny.take (i := 9) (v := ?_) rfl (by kernel_rfl) (by kernel_rfl) (by kernel_rfl) (fun _ _ _ h => h) (by kernel_rfl) (Or.inl ⟨by rfl, ?_⟩) (by assumption) ?_
          rotate_left
          · (intro w' hSw; (try dsimp only at hSw); go_simp; try (with_reducible rfl))
          try simp only [Act.put]
          refine MAny.ready (rs := [10]) (by kernel_rfl) (by simp) ?_
          refine MReady.cons rfl (fun K hK => ?_) MReady.nil
          go_simp
          refine hK.out _ _ (.inr hHeld) ?_
          clear hK K
          refine MAny.ready (rs := [11]) (by kernel_rfl) (by simp) ?_
          refine MReady.cons rfl (fun K hK => ?_) MReady.nil
          go_simp
          refine hK.out _ _ (.inl rfl) ?_
          clear hK K
          refine MAny.done (by kernel_rfl) ?_ _
          try simp only [List.getElem_toArray, List.getElem_cons_succ, List.getElem_cons_zero]
          have HMT := Lib.hid (fun W (hh : Rd encSp W b6 S1 ∧ Rd encSp W b1 R1) => hone ▸ meetSets_any b6 b1 e6 e1 S1 R1 W hsh1 hsh2 hh.1 hh.2 hset1 hset2 (by rw [hone]; exact hsh2))
          have HL3 := Lib.hid (fun b7 e7 W (hh : Rd encSp W (some ⟨b7, 0, none⟩) R1 ∧ Rd encSp W b1 R1) => likeSpans_self (some ⟨b7, 0, none⟩) b1 e7 e1 R1 W (by omega) hh.1 hh.2)
          clear hone hHeld HS2 HS1 hset1 hset2 hsh1
          go_wp2_with fail
          refine (HMT.out _ ⟨Rd.of_own encSp_len (by decide) o6, Rd.of_own encSp_len (by decide) o1⟩).mono ?_
          rintro e V2 ⟨b7, e7, rfl, o7, hB1⟩
          have o7 := own_base o7 hB.size
          have A0 := (hB1.cell (p := ⟨w1.heap.size, 0, none⟩) hla).trans A0
          have A1 := (hB1.cell (p := ⟨w1.heap.size, 1, none⟩) hla).trans A1
          have hla := Nat.lt_of_lt_of_le hla hB1.size
          have P0 := P0.below hB1
          have own := own_below own hB1
          have o1 := own_below o1 hB1
          have o6 := own_below o6 hB1
          have hC := stepB hC hB1 hC.size
          have hB := stepB hB hB1 hB.size
          clear hB1
          go_wp2_with fail
          refine (HL3.out b7 e7 _ ⟨Rd.of_own encSp_len (by decide) o7, Rd.of_own encSp_len (by decide) o1⟩).mono ?_
          rintro e V3 ⟨rfl, hB1⟩
          have A0 := (hB1.cell (p := ⟨w1.heap.size, 0, none⟩) hla).trans A0
          have A1 := (hB1.cell (p := ⟨w1.heap.size, 1, none⟩) hla).trans A1
          have hla := Nat.lt_of_lt_of_le hla hB1.size
          have P0 := P0.below hB1
          have own := own_below own hB1
          have o1 := own_below o1 hB1
          have o6 := own_below o6 hB1
          have hC := stepB hC hB1 hC.size
          have hB := stepB hB hB1 hB.size
          clear hB1
          go_wp2
          go_roundw
          case rel => exact ⟨k + 1, by omega, by go_num, hC⟩
          case measure => simp [intOf]; omega
        · have hlt' : decide ((k : Int) < (ws.length : Int)) = false := by simp; omega
          go_wp2
          go_ret
          exact ⟨rfl, hB⟩
    · have hc' : (R2 == 0) = false := by simpa using hc
      go_wp2
      go_loopw [20] (fun i wr => i = .int .i64 0 ∧ Below w.heap.size w wr) (fun _ _ => 0)
      case atStart => exact ⟨rfl, hB⟩
      case round =>
        obtain ⟨rfl, hB1⟩ := hrel
        go_wp2
        go_ret
        exact ⟨rfl, hB1⟩
end Go.Proofs.YtdebmijlipkoeaaGreatDoor
