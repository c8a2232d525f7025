/- Walks: AbsentWitnesses. Printed by gen_wit2.py. -/
import Derived.Test.YtdebmijlipkoeaaGreatDoorWits
namespace Go.Proofs.YtdebmijlipkoeaaGreatDoor
open Go.ChangeShapes Go.WideShapes Go.ChangeAt Go.RowKit

def pA (ps : List Ps) (ts : List Tm) (l : List Wt) (n : Int) (i : Nat) : Bool := match l[i]? with
  | some m => !hasB (witL ps ts m) n
  | none => false
theorem pA_at {ps : List Ps} {ts : List Tm} {l : List Wt} {n : Int} {i : Nat} {m : Wt} (h : l[i]? = some m) : pA ps ts l n i = !hasB (witL ps ts m) n := by unfold pA; rw [h]
def absR (ps : List Ps) (ts : List Tm) (l : List Wt) (n c : Int) : List Int × Int := if c = 0 then (jxl (pA ps ts l n) l.length, 0) else ([], c)
theorem absR_len (ps : List Ps) (ts : List Tm) (l : List Wt) (n : Int) (c : Int) (h : l.length ≤ 1048576) : (absR ps ts l n c).1.length ≤ 1048576 := by
  unfold absR
  split
  · exact Nat.le_trans (jxl_len _ _) h
  · simp

set_option maxRecDepth 100000 in
set_option maxHeartbeats 4000000 in
theorem specAbsent_any (a0 a1 : Option Addr) (cap0 cap1 : Nat) (xs0 : List Ps) (xs1 : List Tm) (a2 : Option Addr) (cap2 : Nat) (xs2 : List Wt) (n : Int) (w : World) (hl0 : xs0.length ≤ 1048576) (hx0 : Rd encPs w a0 xs0) (hs0 : ∀ m ∈ xs0, szPs m ≤ 1048576) (hl1 : xs1.length ≤ 1048576) (hx1 : Rd encTm w a1 xs1) (hs1 : ∀ m ∈ xs1, szTm m ≤ 1048576) (hl2 : xs2.length ≤ 1048576) (hx2 : Rd encWt w a2 xs2) :
    Calls Tryz.prog 25 #[.agg #[.slice a0 xs0.length cap0, .slice a1 xs1.length cap1], .slice a2 xs2.length cap2, .int .i64 n] w fun e w' => ∃ b c, e = .returned (.tuple #[.slice b (absR xs0 xs1 xs2 n (codeW xs0 xs1 xs2 (dayB n))).1.length c, .int .i64 (absR xs0 xs1 xs2 n (codeW xs0 xs1 xs2 (dayB n))).2]) ∧
      w'.ownsRow w.heap.size 2 1 (.slice b (absR xs0 xs1 xs2 n (codeW xs0 xs1 xs2 (dayB n))).1.length c) (absR xs0 xs1 xs2 n (codeW xs0 xs1 xs2 (dayB n))).1.length ((absR xs0 xs1 xs2 n (codeW xs0 xs1 xs2 (dayB n))).1.flatMap encI) ∧ Below w.heap.size w w' := by
  obtain ⟨i0, hi, hz0, hz1, hz2⟩ := info_parts infoI
  have hA0 : At w [.slice a0 xs0.length cap0, .slice a1 xs1.length cap1] (w.alloc (.cells #[.slice a0 xs0.length cap0, .slice a1 xs1.length cap1] 48)) := At.start _ _ _
  have HC := Lib.hid (fun W (hB : Below w.heap.size w W) => l13Code_any a0 a1 cap0 cap1 xs0 xs1 a2 cap2 xs2 (dayB n) W hl0 (hx0.below hB) hs0 hl1 (hx1.below hB) hs1 hl2 (hx2.below hB))
  have HD := Lib.hid (fun W => l01Day_any n W)
  have hfacts := Lib.hid (codeW_zero (ps := xs0) (ts := xs1) (l := xs2) (b := dayB n))
  have hRz : Hid (codeW xs0 xs1 xs2 (dayB n) = 0 → absR xs0 xs1 xs2 n (codeW xs0 xs1 xs2 (dayB n)) = (jxl (pA xs0 xs1 xs2 n) xs2.length, 0)) := fun hc => by unfold absR; rw [if_pos hc]
  have hRn : Hid (codeW xs0 xs1 xs2 (dayB n) ≠ 0 → absR xs0 xs1 xs2 n (codeW xs0 xs1 xs2 (dayB n)) = ([], codeW xs0 xs1 xs2 (dayB n))) := fun hc => by unfold absR; rw [if_neg hc]
  generalize codeW xs0 xs1 xs2 (dayB n) = c at HC hfacts hRz hRn ⊢
  generalize dayB n = dn at HC HD hfacts
  go_enter Tryz.func25, Tryz.ntmps25
  go_wp2_with fail
  generalize hW : w.alloc (.cells #[.slice a0 xs0.length cap0, .slice a1 xs1.length cap1] 48) = W at hA0 ⊢
  have b0 := hA0.cell 0 _ rfl
  have b1 := hA0.cell 1 _ rfl
  have hs := hA0.size
  clear hW
  go_region_held_law (fun w' => w'.cell? ⟨w.heap.size, 0, none⟩ = some (.slice a0 xs0.length cap0) ∧ w'.cell? ⟨w.heap.size, 1, none⟩ = some (.slice a1 xs1.length cap1)) (first | exact ⟨b0, b1⟩ | exact ⟨(hB6.cell (p := ⟨w.heap.size, 0, none⟩) hs).trans b0, (hB6.cell (p := ⟨w.heap.size, 1, none⟩) hs).trans b1⟩) (first | (go_at_call 66; refine (HD.out _).mono ?_; rintro e w5 ⟨rfl, rfl⟩) | (go_at_call 86; refine (HC.out _ (hA0.step (Below.refl _ W).drew).below).mono ?_; rintro e w6 ⟨rfl, hB6⟩) | fail)
  have hA1 := hA0.step (stepB (Below.refl _ W).drew hB6 (Nat.le_refl _))
  clear hA0 hB6 b0 b1 hs HC HD
  generalize w6 = w1 at hA1 ⊢
  by_cases hc : c = 0
  · subst hc
    obtain ⟨h1, hdn, h2, hok⟩ := hfacts.out rfl
    subst hdn
    have hR := Lib.hid (hRz.out rfl)
    have hbd := people_bd h1
    have HPV := Lib.hid (fun i m (h : xs2[i]? = some m) => pA_at (ps := xs0) (ts := xs1) (n := n) h)
    have HW := Lib.hid (fun m W (hB : Below w.heap.size w W) (hp : 0 ≤ personIx xs0 m.person) => l13Could_any a0 a1 cap0 cap1 xs0 xs1 m W h1 hp hl0 (hx0.below hB) (by omega) (hx1.below hB))
    have HWL := Lib.hid (fun m => witL_len h1 m)
    have HOK := Lib.hid (fun m (h : m ∈ xs2) => of_decide_eq_true (List.all_eq_true.1 hok m h))
    generalize pA xs0 xs1 xs2 n = p at HPV hR
    clear hok h1 hbd hfacts hRz hRn
    have hBo : Below w1.heap.size w1 (w1.alloc (.cells #[] 2)) := (Below.refl _ w1).alloc (Nat.le_refl _) _
    have hA2 := hA1.step hBo
    have hown0 := World.ownsRow_made w1 #[] 0 (show w.heap.size + 1 ≤ w1.heap.size from hA1.size) (by decide) rfl (e := 2) (size := 1)
    clear hBo hA1
    go_wp2
    go_loopw [9, 10] (fun o i wr => ∃ (k g c : Nat), k ≤ xs2.length ∧ i = .int .i64 k ∧ o = .slice (some ⟨g, 0, none⟩) (jxl p k).length c ∧ wr.ownsRow (w.heap.size + 1) 2 1 (.slice (some ⟨g, 0, none⟩) (jxl p k).length c) (jxl p k).length ((jxl p k).flatMap encI) ∧ At w [.slice a0 xs0.length cap0, .slice a1 xs1.length cap1] wr) (fun _ i _ => xs2.length - (intOf i).toNat)
    case atStart => exact ⟨0, _, _, Nat.zero_le _, rfl, rfl, hown0, hA2⟩
    case round =>
      clear hown0 hA2
      obtain ⟨k, g, c, hk, rfl, rfl, hown, hAt⟩ := hrel
      have hlen := jxl_len p k
      have b0 := hAt.cell 0 _ rfl
      have b1 := hAt.cell 1 _ rfl
      have hs := hAt.size
      by_cases hlt : k < xs2.length
      · have hk1 : (k : Int) < (xs2.length : Int) := by omega
        have hm := List.getElem?_eq_getElem hlt
        generalize xs2[k] = m at hm
        obtain ⟨b, off, rfl, hb, c0, c1⟩ := (hx2.below hAt.below).wt hm
        have hp := HOK.out m (List.mem_of_getElem? hm)
        have hpk := HPV.out k m hm
        have hwl := HWL.out m
        have HWm := Lib.hid (fun W hB => HW.out m W hB hp)
        have HH := Lib.hid (fun a cap W h => l02Has_any a cap _ (witL xs0 xs1 m) n W rfl (by omega) h)
        have hz : Below wr.heap.size wr wr.drew := (Below.refl _ wr).drew
        clear hm hp
        cases hbb : hasB (witL xs0 xs1 m) n
        · have HH := Lib.hid (fun a cap W h => hbb ▸ HH.out a cap W h)
          rw [hbb] at hpk
          have hst := Lib.hid (jxl_yes hpk)
          clear hpk hbb
          generalize witL xs0 xs1 m = L at HWm HH hwl
          generalize jxl p k = out at hown hst hlen ⊢
          go_wp2_with fail
          go_region_held_law (fun w' => w'.cell? ⟨w.heap.size, 0, none⟩ = some (.slice a0 xs0.length cap0) ∧ w'.cell? ⟨w.heap.size, 1, none⟩ = some (.slice a1 xs1.length cap1) ∧ w'.cell? ⟨b, off + k * 2, none⟩ = some (.string m.person) ∧ w'.cell? ⟨b, off + k * 2 + 1, none⟩ = some (.string m.office)) (first | exact ⟨b0, b1, c0, c1⟩ | exact ⟨(hB6.cell (p := ⟨w.heap.size, 0, none⟩) hs).trans b0, (hB6.cell (p := ⟨w.heap.size, 1, none⟩) hs).trans b1, (hB6.cell (p := ⟨b, off + k * 2, none⟩) hb).trans c0, (hB6.cell (p := ⟨b, off + k * 2 + 1, none⟩) hb).trans c1⟩ | exact ⟨(hB7.cell (p := ⟨w.heap.size, 0, none⟩) (Nat.lt_of_lt_of_le hs hB6.size)).trans ((hB6.cell (p := ⟨w.heap.size, 0, none⟩) hs).trans b0), (hB7.cell (p := ⟨w.heap.size, 1, none⟩) (Nat.lt_of_lt_of_le hs hB6.size)).trans ((hB6.cell (p := ⟨w.heap.size, 1, none⟩) hs).trans b1), (hB7.cell (p := ⟨b, off + k * 2, none⟩) (Nat.lt_of_lt_of_le hb hB6.size)).trans ((hB6.cell (p := ⟨b, off + k * 2, none⟩) hb).trans c0), (hB7.cell (p := ⟨b, off + k * 2 + 1, none⟩) (Nat.lt_of_lt_of_le hb hB6.size)).trans ((hB6.cell (p := ⟨b, off + k * 2 + 1, none⟩) hb).trans c1)⟩) (first | (go_at_call 90; refine (HWm.out _ (hAt.step hz).below).mono ?_; rintro e w6 ⟨g6, c6, rfl, ho6, hB6⟩) | (go_at_call 89; refine (HH.out _ _ _ (Rd.of_own encSp_len (by decide) ho6)).mono ?_; rintro e w7 ⟨rfl, hB7⟩) | fail)
          have hz7 : Below wr.heap.size wr w7 := stepB (stepB hz hB6 (Nat.le_refl _)) hB7 hB6.size
          have hown := own_below hown hz7
          have hAt := hAt.step hz7
          have hs := hAt.size
          clear hz hz7 hB6 hB7 ho6 b0 b1 c0 c1 hb
          go_wp2_with (at_builtin; refine wpList_append_own _ rfl _ _ 31 rfl (w.heap.size + 1) 2 i0 (.int .i64 0) 1 8 Tryz.underlying31 hi hz0 hz1 hz2 rfl (by decide) _ _ _ rfl (hown.alloc _) ⟨w7.heap.size, 0, none⟩ 1 1 [.int .i64 k] rfl rfl (cell_one_new _ _ _) ?c2 ?c3 ?c4 ?c5 ?_)
          case c2 => intro u hu; simp at hu; subst hu; rfl
          case c3 => unfold maxLen; omega
          case c4 => omega
          case c5 => first | omega | (simp; omega)
          intro v' w5 hown' hgr _
          have hA5 := (hAt.step ((Below.refl _ w7).alloc (Nat.le_refl _) (.cells #[.int .i64 k] 2))).grown hgr (fun x hx => (hown.lt x hx).1)
          obtain ⟨g', c', rfl⟩ := formJ hown' (by omega)
          clear hgr hown hAt
          go_wp2
          go_roundw
          case rel => exact ⟨k + 1, g', c', by omega, by go_num, by rw [hst.out, List.length_append]; rfl, by rw [hst.out, List.length_append, List.flatMap_append]; exact hown', hA5⟩
          case measure => simp [intOf]; omega
        · have HH := Lib.hid (fun a cap W h => hbb ▸ HH.out a cap W h)
          rw [hbb] at hpk
          have hst := Lib.hid (jxl_no hpk)
          clear hpk hbb
          generalize witL xs0 xs1 m = L at HWm HH hwl
          go_wp2_with fail
          go_region_held_law (fun w' => w'.cell? ⟨w.heap.size, 0, none⟩ = some (.slice a0 xs0.length cap0) ∧ w'.cell? ⟨w.heap.size, 1, none⟩ = some (.slice a1 xs1.length cap1) ∧ w'.cell? ⟨b, off + k * 2, none⟩ = some (.string m.person) ∧ w'.cell? ⟨b, off + k * 2 + 1, none⟩ = some (.string m.office)) (first | exact ⟨b0, b1, c0, c1⟩ | exact ⟨(hB6.cell (p := ⟨w.heap.size, 0, none⟩) hs).trans b0, (hB6.cell (p := ⟨w.heap.size, 1, none⟩) hs).trans b1, (hB6.cell (p := ⟨b, off + k * 2, none⟩) hb).trans c0, (hB6.cell (p := ⟨b, off + k * 2 + 1, none⟩) hb).trans c1⟩ | exact ⟨(hB7.cell (p := ⟨w.heap.size, 0, none⟩) (Nat.lt_of_lt_of_le hs hB6.size)).trans ((hB6.cell (p := ⟨w.heap.size, 0, none⟩) hs).trans b0), (hB7.cell (p := ⟨w.heap.size, 1, none⟩) (Nat.lt_of_lt_of_le hs hB6.size)).trans ((hB6.cell (p := ⟨w.heap.size, 1, none⟩) hs).trans b1), (hB7.cell (p := ⟨b, off + k * 2, none⟩) (Nat.lt_of_lt_of_le hb hB6.size)).trans ((hB6.cell (p := ⟨b, off + k * 2, none⟩) hb).trans c0), (hB7.cell (p := ⟨b, off + k * 2 + 1, none⟩) (Nat.lt_of_lt_of_le hb hB6.size)).trans ((hB6.cell (p := ⟨b, off + k * 2 + 1, none⟩) hb).trans c1)⟩) (first | (go_at_call 90; refine (HWm.out _ (hAt.step hz).below).mono ?_; rintro e w6 ⟨g6, c6, rfl, ho6, hB6⟩) | (go_at_call 89; refine (HH.out _ _ _ (Rd.of_own encSp_len (by decide) ho6)).mono ?_; rintro e w7 ⟨rfl, hB7⟩) | fail)
          have hz7 : Below wr.heap.size wr w7 := stepB (stepB hz hB6 (Nat.le_refl _)) hB7 hB6.size
          have hown := own_below hown hz7
          have hAt := hAt.step hz7
          have hs := hAt.size
          clear hz hz7 hB6 hB7 ho6 b0 b1 c0 c1 hb
          go_wp2
          go_roundw
          case rel => exact ⟨k + 1, g, c, by omega, by go_num, by rw [hst.out], by rw [hst.out]; exact hown, hAt⟩
          case measure => simp [intOf]; omega
      · obtain rfl : k = xs2.length := by omega
        go_wp2
        go_ret2
        rw [hR.out]
        exact ⟨_, _, rfl, own_base hown (by omega), hAt.below⟩
  · have hR := Lib.hid (hRn.out hc)
    have hc2 : (c != 0) = true := by simpa using hc
    clear hfacts hRz hRn
    go_wp2
    go_ret2
    rw [hR.out]
    exact ⟨none, 0, rfl, World.ownsRow_nil _ _ _ _, hA1.below⟩

set_option maxRecDepth 100000 in
set_option maxHeartbeats 4000000 in
theorem implAbsent_any (a0 a1 : Option Addr) (cap0 cap1 : Nat) (xs0 : List Ps) (xs1 : List Tm) (a2 : Option Addr) (cap2 : Nat) (xs2 : List Wt) (n : Int) (w : World) (hl0 : xs0.length ≤ 1048576) (hx0 : Rd encPs w a0 xs0) (hs0 : ∀ m ∈ xs0, szPs m ≤ 1048576) (hl1 : xs1.length ≤ 1048576) (hx1 : Rd encTm w a1 xs1) (hs1 : ∀ m ∈ xs1, szTm m ≤ 1048576) (hl2 : xs2.length ≤ 1048576) (hx2 : Rd encWt w a2 xs2) :
    Calls Tryz.prog 24 #[.agg #[.slice a0 xs0.length cap0, .slice a1 xs1.length cap1], .slice a2 xs2.length cap2, .int .i64 n] w fun e w' => ∃ b c, e = .returned (.tuple #[.slice b (absR xs0 xs1 xs2 n (codeW xs0 xs1 xs2 (dayB n))).1.length c, .int .i64 (absR xs0 xs1 xs2 n (codeW xs0 xs1 xs2 (dayB n))).2]) ∧
      w'.ownsRow w.heap.size 2 1 (.slice b (absR xs0 xs1 xs2 n (codeW xs0 xs1 xs2 (dayB n))).1.length c) (absR xs0 xs1 xs2 n (codeW xs0 xs1 xs2 (dayB n))).1.length ((absR xs0 xs1 xs2 n (codeW xs0 xs1 xs2 (dayB n))).1.flatMap encI) ∧ Below w.heap.size w w' := by
  obtain ⟨i0, hi, hz0, hz1, hz2⟩ := info_parts infoI
  have hA0 : At w [.slice a0 xs0.length cap0, .slice a1 xs1.length cap1] ((w.alloc (.cells #[.slice a0 xs0.length cap0, .slice a1 xs1.length cap1] 48)).alloc (.cells #[.int .i64 n] 2)) := (At.start w _ _).step ((Below.refl _ _).alloc (Nat.le_refl _) _)
  have hrd : Rd encI ((w.alloc (.cells #[.slice a0 xs0.length cap0, .slice a1 xs1.length cap1] 48)).alloc (.cells #[.int .i64 n] 2)) (some ⟨w.heap.size + 1, 0, none⟩) [n] := by
    intro i x hi
    refine ⟨w.heap.size + 1, 0, rfl, by simp, fun j v hv => ?_⟩
    rw [World.cell?_alloc_at _ _ _ _ (by simp)]
    match i, hi with
    | 0, hi => cases hi; match j, hv with | 0, hv => cases hv; rfl
  have HRD := Lib.hid hrd
  have HC := Lib.hid (fun W (hB : Below w.heap.size w W) (hr : Rd encI W (some ⟨w.heap.size + 1, 0, none⟩) [n]) => checkPeopleW_any a0 a1 (some ⟨w.heap.size + 1, 0, none⟩) cap0 cap1 1 xs0 xs1 [n] xs2.length W hl0 (hx0.below hB) hs0 hl1 (hx1.below hB) hs1 (by simp) hr)
  have hcw : codeW xs0 xs1 xs2 (dayB n) = if isPeopleB xs0 xs1 then (if decide (xs2.length ≤ 12) && ([n] : List Int).all dayB then (if xs2.all (okW xs0) then 0 else 4) else 2) else 1 := by unfold codeW; simp [Bool.and_comm]
  clear hrd
  generalize hC : (if isPeopleB xs0 xs1 then (if decide (xs2.length ≤ 12) && ([n] : List Int).all dayB then (0 : Int) else 2) else 1) = C at HC
  by_cases hc : C = 0
  · subst hc
    have h1 : isPeopleB xs0 xs1 = true := by
      cases h : isPeopleB xs0 xs1
      · rw [h] at hC; simp at hC
      · rfl
    have h3 : (decide (xs2.length ≤ 12) && ([n] : List Int).all dayB) = true := by
      rw [h1] at hC
      cases h : (decide (xs2.length ≤ 12) && ([n] : List Int).all dayB)
      · rw [h] at hC; simp at hC
      · rfl
    have h2 : xs2.length ≤ 12 := by
      simp only [Bool.and_eq_true, decide_eq_true_eq] at h3
      exact h3.1
    have hR : Hid (absR xs0 xs1 xs2 n (codeW xs0 xs1 xs2 (dayB n)) = if xs2.all (okW xs0) then (jxl (pA xs0 xs1 xs2 n) xs2.length, 0) else ([], 4)) := by
      unfold Hid
      rw [hcw, h1, h3]
      cases xs2.all (okW xs0) <;> rfl
    have hbd := people_bd h1
    have HPV := Lib.hid (fun i m (h : xs2[i]? = some m) => pA_at (ps := xs0) (ts := xs1) (n := n) h)
    have HW := Lib.hid (fun m W (hB : Below w.heap.size w W) => witnessDays_any a0 a1 cap0 cap1 xs0 xs1 m W h1 hl0 (hx0.below hB) (by omega) (hx1.below hB))
    have HWL := Lib.hid (fun m => witL_len h1 m)
    have HOK : Hid (∀ m : Wt, okW xs0 m = decide (0 ≤ personIx xs0 m.person)) := fun _ => rfl
    clear hC hcw h1 h3 hbd
    generalize absR xs0 xs1 xs2 n _ = Q at hR ⊢
    generalize pA xs0 xs1 xs2 n = p at HPV hR
    go_enter Tryz.func24, Tryz.ntmps24
    go_wp2_with fail
    refine (HC.out _ hA0.below HRD.out).mono ?_
    rintro e w1 ⟨rfl, hB1⟩
    have hA1 := hA0.step hB1
    have hBo : Below w1.heap.size w1 (w1.alloc (.cells #[] 2)) := (Below.refl _ w1).alloc (Nat.le_refl _) _
    have hA2 := hA1.step hBo
    have hown0 := World.ownsRow_made w1 #[] 0 (show w.heap.size + 1 ≤ w1.heap.size from hA1.size) (by decide) rfl (e := 2) (size := 1)
    clear hA0 hB1 HC hA1 hBo HRD
    go_wp2
    go_loopw [9, 26] (fun o i wr => ∃ (k g c : Nat), k ≤ xs2.length ∧ i = .int .i64 k ∧ o = .slice (some ⟨g, 0, none⟩) (jxl p k).length c ∧ wr.ownsRow (w.heap.size + 1) 2 1 (.slice (some ⟨g, 0, none⟩) (jxl p k).length c) (jxl p k).length ((jxl p k).flatMap encI) ∧ At w [.slice a0 xs0.length cap0, .slice a1 xs1.length cap1] wr ∧ Hid (xs2.all (okW xs0) = (xs2.drop k).all (okW xs0))) (fun _ i _ => xs2.length - (intOf i).toNat)
    case atStart => exact ⟨0, _, _, Nat.zero_le _, rfl, rfl, hown0, hA2, rfl⟩
    case round =>
      clear hown0 hA2
      obtain ⟨k, g, c, hk, rfl, rfl, hown, hAt, hH⟩ := hrel
      have hlen := jxl_len p k
      by_cases hlt : k < xs2.length
      · have hk1 : (k : Int) < (xs2.length : Int) := by omega
        have hm := List.getElem?_eq_getElem hlt
        generalize xs2[k] = m at hm
        obtain ⟨b, off, rfl, hb, c0, c1⟩ := (hx2.below hAt.below).wt hm
        have hpk := HPV.out k m hm
        have hwl := HWL.out m
        have hd := Lib.hid (all_drop (okW xs0) hm)
        have hok := Lib.hid (HOK.out m)
        have HWm := Lib.hid (fun W hB => HW.out m W hB)
        have HH := Lib.hid (fun a cap W h => hasDay_any a cap _ (witL xs0 xs1 m) n W rfl (by omega) h)
        clear hm
        go_upto_region 8 with (fail)
        generalize hW : wr.alloc (.cells #[.string m.person, .string m.office] 110) = W
        have hBW : Below wr.heap.size wr W := by rw [← hW]; go_grown
        have D0 : W.cell? ⟨wr.heap.size, 0, none⟩ = some (.string m.person) := by rw [← hW]; exact World.cell?_alloc_at _ _ _ _ rfl
        have D1 : W.cell? ⟨wr.heap.size, 1, none⟩ = some (.string m.office) := by rw [← hW]; exact World.cell?_alloc_at _ _ _ _ rfl
        have hown := own_below hown hBW
        have hAt := hAt.step hBW
        have b0 := hAt.cell 0 _ rfl
        have b1 := hAt.cell 1 _ rfl
        clear hW c0 c1 hb hBW
        by_cases hp : personIx xs0 m.person < 0
        · have hok : Hid (okW xs0 m = false) := hok.out.trans (decide_eq_false (by omega))
          go_wp2_with fail
          refine (HWm.out _ hAt.below).mono ?_
          rintro e w3 ⟨_, h3, hB3⟩
          obtain rfl := h3 hp
          go_wp2
          go_ret2
          rw [hR.out, hH.out, hd.out, hok.out]
          exact ⟨none, 0, rfl, World.ownsRow_nil _ _ _ _, (hAt.step hB3).below⟩
        · have hok : Hid (okW xs0 m = true) := hok.out.trans (decide_eq_true (by omega))
          have hH' : Hid (xs2.all (okW xs0) = (xs2.drop (k + 1)).all (okW xs0)) := by unfold Hid; rw [hH.out, hd.out, hok.out]; rfl
          clear hH hd hok
          go_wp2_with fail
          refine (HWm.out _ hAt.below).mono ?_
          rintro e w3 ⟨h3, _, hB3⟩
          obtain ⟨g3, c3, rfl, ho3⟩ := h3 (by omega)
          have hown := own_below hown hB3
          have hAt := hAt.step hB3
          have hrd3 := Rd.of_own encSp_len (by decide) ho3
          clear h3 hB3 D0 D1 b0 b1 hp
          cases hbb : hasB (witL xs0 xs1 m) n
          · have HH := Lib.hid (fun a cap W h => hbb ▸ HH.out a cap W h)
            rw [hbb] at hpk
            have hst := Lib.hid (jxl_yes hpk)
            clear hpk hbb
            generalize witL xs0 xs1 m = L at HH hwl hrd3 ⊢
            generalize jxl p k = out at hown hst hlen ⊢
            go_wp2_with fail
            refine (HH.out _ _ _ hrd3).mono ?_
            rintro e w4 ⟨rfl, hB4⟩
            have hown := own_below hown hB4
            have hAt := hAt.step hB4
            have hs := hAt.size
            clear hB4 hrd3 ho3
            go_wp2_with (at_builtin; refine wpList_append_own _ rfl _ _ 31 rfl (w.heap.size + 1) 2 i0 (.int .i64 0) 1 8 Tryz.underlying31 hi hz0 hz1 hz2 rfl (by decide) _ _ _ rfl (hown.alloc _) ⟨w4.heap.size, 0, none⟩ 1 1 [.int .i64 k] rfl rfl (cell_one_new _ _ _) ?c2 ?c3 ?c4 ?c5 ?_)
            case c2 => intro u hu; simp at hu; subst hu; rfl
            case c3 => unfold maxLen; omega
            case c4 => omega
            case c5 => first | omega | (simp; omega)
            intro v' w5 hown' hgr _
            have hA5 := (hAt.step ((Below.refl _ w4).alloc (Nat.le_refl _) (.cells #[.int .i64 k] 2))).grown hgr (fun x hx => (hown.lt x hx).1)
            obtain ⟨g', c', rfl⟩ := formJ hown' (by omega)
            clear hgr hown hAt
            go_wp2
            go_roundw
            case rel => exact ⟨k + 1, g', c', by omega, by go_num, by rw [hst.out, List.length_append]; rfl, by rw [hst.out, List.length_append, List.flatMap_append]; exact hown', hA5, hH'⟩
            case measure => simp [intOf]; omega
          · have HH := Lib.hid (fun a cap W h => hbb ▸ HH.out a cap W h)
            rw [hbb] at hpk
            have hst := Lib.hid (jxl_no hpk)
            clear hpk hbb
            generalize witL xs0 xs1 m = L at HH hwl hrd3 ⊢
            go_wp2_with fail
            refine (HH.out _ _ _ hrd3).mono ?_
            rintro e w4 ⟨rfl, hB4⟩
            have hown := own_below hown hB4
            have hAt := hAt.step hB4
            clear hB4 hrd3 ho3
            go_wp2
            go_roundw
            case rel => exact ⟨k + 1, g, c, by omega, by go_num, by rw [hst.out], by rw [hst.out]; exact hown, hAt, hH'⟩
            case measure => simp [intOf]; omega
      · obtain rfl : k = xs2.length := by omega
        have hH : Hid (xs2.all (okW xs0) = true) := by unfold Hid; rw [hH.out, List.drop_eq_nil_of_le (by omega)]; rfl
        go_wp2
        go_ret2
        rw [hR.out, hH.out]
        exact ⟨_, _, rfl, own_base hown (by omega), hAt.below⟩
  · have hR : Hid (absR xs0 xs1 xs2 n (codeW xs0 xs1 xs2 (dayB n)) = ([], C)) := by
      unfold Hid
      rw [hcw]
      rw [← hC] at hc ⊢
      cases h1 : isPeopleB xs0 xs1
      · rfl
      · rw [h1] at hc
        cases h2 : (decide (xs2.length ≤ 12) && ([n] : List Int).all dayB)
        · rfl
        · rw [h2] at hc; simp at hc
    have hc2 : (C != 0) = true := by simpa using hc
    clear hC hcw
    go_enter Tryz.func24, Tryz.ntmps24
    go_wp2_with fail
    refine (HC.out _ hA0.below HRD.out).mono ?_
    rintro e w1 ⟨rfl, hB1⟩
    go_wp2
    go_ret2
    rw [hR.out]
    exact ⟨none, 0, rfl, World.ownsRow_nil _ _ _ _, (hA0.step hB1).below⟩
end Go.Proofs.YtdebmijlipkoeaaGreatDoor
