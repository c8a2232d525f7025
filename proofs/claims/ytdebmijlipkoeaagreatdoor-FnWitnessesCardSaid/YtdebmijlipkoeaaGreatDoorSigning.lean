/- Walks: SigningDays. Printed by gen_wit2.py. -/
import Derived.Test.YtdebmijlipkoeaaGreatDoorWits
namespace Go.Proofs.YtdebmijlipkoeaaGreatDoor
open Go.ChangeShapes Go.WideShapes Go.ChangeAt Go.RowKit

def sgStep (ps : List Ps) (ts : List Tm) (out : List Sp) (m : Wt) : List Sp := met out (witL ps ts m)
def signL (ps : List Ps) (ts : List Tm) (l : List Wt) : List Sp := l.foldl (sgStep ps ts) [⟨0, 730499⟩]
def signR (ps : List Ps) (ts : List Tm) (l : List Wt) (c : Int) : List Sp × Int := if c = 0 then (signL ps ts l, 0) else ([], c)
theorem sg_len {ps : List Ps} {ts : List Tm} (h : isPeopleB ps ts = true) : ∀ (l : List Wt) (out : List Sp), (l.foldl (sgStep ps ts) out).length ≤ out.length + 60 * l.length
  | [], out => by simp
  | m :: l, out => by
    have h1 := sg_len h l (sgStep ps ts out m)
    have h2 := met_len out (witL ps ts m)
    have h3 := witL_len h m
    have h4 : (sgStep ps ts out m).length = (met out (witL ps ts m)).length := rfl
    simp only [List.foldl_cons, List.length_cons]
    omega
theorem signR_len (ps : List Ps) (ts : List Tm) (l : List Wt) : (signR ps ts l (codeW ps ts l true)).1.length ≤ 1048576 := by
  unfold signR
  split
  · rename_i h
    obtain ⟨h1, _, h2, _⟩ := codeW_zero h
    have := sg_len h1 l [⟨0, 730499⟩]
    show (signL ps ts l).length ≤ 1048576
    unfold signL
    simp only [List.length_cons, List.length_nil] at this
    omega
  · simp

theorem l13All_any (w : World) : Calls Tryz.prog 138 #[] w fun e w' => ∃ g c, e = .returned (.slice (some ⟨g, 0, none⟩) ([⟨0, 730499⟩] : List Sp).length c) ∧ w'.ownsRow w.heap.size 73 2 (.slice (some ⟨g, 0, none⟩) ([⟨0, 730499⟩] : List Sp).length c) ([⟨0, 730499⟩] : List Sp).length (([⟨0, 730499⟩] : List Sp).flatMap encSp) ∧ Below w.heap.size w w' := by
  go_enter Tryz.func138, Tryz.ntmps138
  go_wp2
  go_ret
  exact ⟨_, _, rfl, own_one w (.int .i64 0) (.int .i64 730499) _, (Below.refl _ _).alloc (Nat.le_refl _) _⟩

set_option maxRecDepth 100000 in
set_option maxHeartbeats 4000000 in
theorem l13Signing_any (a0 a1 : Option Addr) (cap0 cap1 : Nat) (xs0 : List Ps) (xs1 : List Tm) (a2 : Option Addr) (cap2 : Nat) (xs2 : List Wt) (w : World) (hA : isPeopleB xs0 xs1 = true) (h12 : xs2.length ≤ 12) (hok : xs2.all (okW xs0) = true) (hl0 : xs0.length ≤ 1048576) (hx0 : Rd encPs w a0 xs0) (hl1 : xs1.length ≤ 1048574) (hx1 : Rd encTm w a1 xs1) (hx2 : Rd encWt w a2 xs2) :
    Calls Tryz.prog 87 #[.agg #[.slice a0 xs0.length cap0, .slice a1 xs1.length cap1], .slice a2 xs2.length cap2] w fun e w' => ∃ g c, e = .returned (.slice (some ⟨g, 0, none⟩) (signL xs0 xs1 xs2).length c) ∧ w'.ownsRow w.heap.size 73 2 (.slice (some ⟨g, 0, none⟩) (signL xs0 xs1 xs2).length c) (signL xs0 xs1 xs2).length ((signL xs0 xs1 xs2).flatMap encSp) ∧ Below w.heap.size w w' := by
  have HW := Lib.hid (fun m W (hB : Below w.heap.size w W) (hp : 0 ≤ personIx xs0 m.person) => l13Could_any a0 a1 cap0 cap1 xs0 xs1 m W hA hp hl0 (hx0.below hB) hl1 (hx1.below hB))
  have HWL := Lib.hid (fun m => witL_len hA m)
  have HOK := Lib.hid (fun m (h : m ∈ xs2) => of_decide_eq_true (List.all_eq_true.1 hok m h))
  have HMT := Lib.hid (fun a b cap cap' (xs ys : List Sp) W (h1 : xs.length ≤ 1048576) (h2 : ys.length ≤ 1048576) hx hy => l02Meet_any a b cap cap' xs.length ys.length xs ys W rfl rfl h1 h2 hx hy)
  have hG : Hid (signL xs0 xs1 xs2 = (xs2.drop 0).foldl (sgStep xs0 xs1) [⟨0, 730499⟩]) := rfl
  have HST : Hid (∀ out m, sgStep xs0 xs1 out m = met out (witL xs0 xs1 m)) := fun _ _ => rfl
  clear hok hA
  generalize signL xs0 xs1 xs2 = R at hG ⊢
  go_enter Tryz.func87, Tryz.ntmps87
  go_wp2_with fail
  generalize hW : w.alloc (.cells #[.slice a0 xs0.length cap0, .slice a1 xs1.length cap1] 48) = W
  have hA0 : At w [.slice a0 xs0.length cap0, .slice a1 xs1.length cap1] W := hW ▸ At.start _ _ _
  clear hW
  refine (l13All_any W).mono ?_
  rintro e w1 ⟨g0, c0, rfl, ho1, hB1⟩
  have hA1 := hA0.step hB1
  have ho1 := own_base ho1 hA0.below.size
  clear hA0 hB1
  go_wp2
  go_loopw [5, 6] (fun s i wr => ∃ (k g c : Nat) (out : List Sp), k ≤ xs2.length ∧ i = .int .i64 k ∧ s = .slice (some ⟨g, 0, none⟩) out.length c ∧ wr.ownsRow w.heap.size 73 2 (.slice (some ⟨g, 0, none⟩) out.length c) out.length (out.flatMap encSp) ∧ At w [.slice a0 xs0.length cap0, .slice a1 xs1.length cap1] wr ∧ Hid (R = (xs2.drop k).foldl (sgStep xs0 xs1) out) ∧ out.length ≤ 1 + 60 * k) (fun _ i _ => xs2.length - (intOf i).toNat)
  case atStart => exact ⟨0, g0, c0, [⟨0, 730499⟩], Nat.zero_le _, rfl, rfl, ho1, hA1, hG, by simp⟩
  case round =>
    clear ho1 hA1 hG
    obtain ⟨k, g, c, out, hk, rfl, rfl, hown, hAt, hM, hlo⟩ := hrel
    have b0 := hAt.cell 0 _ rfl
    have b1 := hAt.cell 1 _ rfl
    have hs := hAt.size
    by_cases hlt : k < xs2.length
    · have hk1 : (k : Int) < (xs2.length : Int) := by omega
      have hm := List.getElem?_eq_getElem hlt
      generalize xs2[k] = m at hm
      obtain ⟨b, off, rfl, hb, c0, c1⟩ := (hx2.below hAt.below).wt hm
      have hp := HOK.out m (List.mem_of_getElem? hm)
      have hst := Lib.hid (hM.out.trans (by rw [drop_at hm, List.foldl_cons, HST.out]))
      have hwl := HWL.out m
      have HWm := Lib.hid (fun W hB => HW.out m W hB hp)
      have hz : Below wr.heap.size wr wr.drew := (Below.refl _ wr).drew
      generalize witL xs0 xs1 m = L at HWm hst hwl
      have hml := met_len out L
      clear hM hm hp
      go_wp2_with fail
      go_region_held_law (fun w' => w'.cell? ⟨w.heap.size, 0, none⟩ = some (.slice a0 xs0.length cap0) ∧ w'.cell? ⟨w.heap.size, 1, none⟩ = some (.slice a1 xs1.length cap1) ∧ w'.cell? ⟨b, off + k * 2, none⟩ = some (.string m.person) ∧ w'.cell? ⟨b, off + k * 2 + 1, none⟩ = some (.string m.office)) (first | exact ⟨b0, b1, c0, c1⟩ | exact ⟨(hB6.cell (p := ⟨w.heap.size, 0, none⟩) hs).trans b0, (hB6.cell (p := ⟨w.heap.size, 1, none⟩) hs).trans b1, (hB6.cell (p := ⟨b, off + k * 2, none⟩) hb).trans c0, (hB6.cell (p := ⟨b, off + k * 2 + 1, none⟩) hb).trans c1⟩ | exact ⟨(hB7.cell (p := ⟨w.heap.size, 0, none⟩) (Nat.lt_of_lt_of_le hs hB6.size)).trans ((hB6.cell (p := ⟨w.heap.size, 0, none⟩) hs).trans b0), (hB7.cell (p := ⟨w.heap.size, 1, none⟩) (Nat.lt_of_lt_of_le hs hB6.size)).trans ((hB6.cell (p := ⟨w.heap.size, 1, none⟩) hs).trans b1), (hB7.cell (p := ⟨b, off + k * 2, none⟩) (Nat.lt_of_lt_of_le hb hB6.size)).trans ((hB6.cell (p := ⟨b, off + k * 2, none⟩) hb).trans c0), (hB7.cell (p := ⟨b, off + k * 2 + 1, none⟩) (Nat.lt_of_lt_of_le hb hB6.size)).trans ((hB6.cell (p := ⟨b, off + k * 2 + 1, none⟩) hb).trans c1)⟩) (first | (go_at_call 90; refine (HWm.out _ (hAt.step hz).below).mono ?_; rintro e w6 ⟨g6, c6, rfl, ho6, hB6⟩) | (go_at_call 101; refine (HMT.out _ _ _ _ out L _ (by omega) (by omega) (Rd.of_own encSp_len (by decide) (own_below (own_below hown hz) hB6)) (Rd.of_own encSp_len (by decide) ho6)).mono ?_; rintro e w7 ⟨g7, c7, rfl, ho7, hB7⟩) | fail)
      have hz7 : Below wr.heap.size wr w7 := stepB (stepB hz hB6 (Nat.le_refl _)) hB7 hB6.size
      have hown' := own_base ho7 (Nat.le_trans hAt.below.size (Nat.le_trans (Nat.le_refl _) hB6.size))
      have hAt := hAt.step hz7
      generalize met out L = out' at hown' hst hml ⊢
      clear hz hz7 hB6 hB7 ho6 ho7 hown b0 b1 c0 c1 hb hs
      go_wp2
      go_roundw
      case rel => exact ⟨k + 1, g7, c7, out', by omega, by go_num, rfl, hown', hAt, hst, by omega⟩
      case measure => simp [intOf]; omega
    · have hM := Lib.hid (hM.out.trans (by rw [List.drop_eq_nil_of_le (by omega), List.foldl_nil]))
      go_wp2
      go_ret
      rw [hM.out]
      exact ⟨_, _, rfl, hown, hAt.below⟩

set_option maxRecDepth 100000 in
set_option maxHeartbeats 4000000 in
theorem specSigning_any (a0 a1 : Option Addr) (cap0 cap1 : Nat) (xs0 : List Ps) (xs1 : List Tm) (a2 : Option Addr) (cap2 : Nat) (xs2 : List Wt) (w : World) (hl0 : xs0.length ≤ 1048576) (hx0 : Rd encPs w a0 xs0) (hs0 : ∀ m ∈ xs0, szPs m ≤ 1048576) (hl1 : xs1.length ≤ 1048576) (hx1 : Rd encTm w a1 xs1) (hs1 : ∀ m ∈ xs1, szTm m ≤ 1048576) (hl2 : xs2.length ≤ 1048576) (hx2 : Rd encWt w a2 xs2) :
    Calls Tryz.prog 22 #[.agg #[.slice a0 xs0.length cap0, .slice a1 xs1.length cap1], .slice a2 xs2.length cap2] w fun e w' => ∃ b c, e = .returned (.tuple #[.slice b (signR xs0 xs1 xs2 (codeW xs0 xs1 xs2 true)).1.length c, .int .i64 (signR xs0 xs1 xs2 (codeW xs0 xs1 xs2 true)).2]) ∧
      w'.ownsRow w.heap.size 73 2 (.slice b (signR xs0 xs1 xs2 (codeW xs0 xs1 xs2 true)).1.length c) (signR xs0 xs1 xs2 (codeW xs0 xs1 xs2 true)).1.length ((signR xs0 xs1 xs2 (codeW xs0 xs1 xs2 true)).1.flatMap encSp) ∧ Below w.heap.size w w' := by
  have hA0 : At w [.slice a0 xs0.length cap0, .slice a1 xs1.length cap1] (w.alloc (.cells #[.slice a0 xs0.length cap0, .slice a1 xs1.length cap1] 48)) := At.start _ _ _
  have HC := Lib.hid (fun W (hB : Below w.heap.size w W) => l13Code_any a0 a1 cap0 cap1 xs0 xs1 a2 cap2 xs2 true W hl0 (hx0.below hB) hs0 hl1 (hx1.below hB) hs1 hl2 (hx2.below hB))
  by_cases hc : codeW xs0 xs1 xs2 true = 0
  · obtain ⟨h1, _, h2, h3⟩ := codeW_zero hc
    have hR : Hid (signR xs0 xs1 xs2 (codeW xs0 xs1 xs2 true) = (signL xs0 xs1 xs2, 0)) := by unfold Hid signR; rw [if_pos hc]
    have hbd := people_bd h1
    have HG := Lib.hid (fun W (hB : Below w.heap.size w W) => l13Signing_any a0 a1 cap0 cap1 xs0 xs1 a2 cap2 xs2 W h1 h2 h3 hl0 (hx0.below hB) (by omega) (hx1.below hB) (hx2.below hB))
    rw [hc] at HC
    clear hc h1 h3
    go_enter Tryz.func22, Tryz.ntmps22
    go_wp2_with fail
    refine (HC.out _ hA0.below).mono ?_
    rintro e w1 ⟨rfl, hB1⟩
    have hA1 := hA0.step hB1
    have b0 := hA1.cell 0 _ rfl
    have b1 := hA1.cell 1 _ rfl
    go_wp2_with fail
    refine (HG.out _ hA1.below).mono ?_
    rintro e w2 ⟨g, c, rfl, ho, hB2⟩
    go_wp2
    go_ret2
    rw [hR.out]
    exact ⟨_, _, rfl, own_base ho hA1.below.size, (hA1.step hB2).below⟩
  · have hR : Hid (signR xs0 xs1 xs2 (codeW xs0 xs1 xs2 true) = ([], codeW xs0 xs1 xs2 true)) := by unfold Hid signR; rw [if_neg hc]
    generalize codeW xs0 xs1 xs2 true = c at hc HC hR ⊢
    have hc2 : (c != 0) = true := by simpa using hc
    go_enter Tryz.func22, Tryz.ntmps22
    go_wp2_with fail
    refine (HC.out _ hA0.below).mono ?_
    rintro e w1 ⟨rfl, hB1⟩
    go_wp2
    go_ret2
    rw [hR.out]
    exact ⟨none, 0, rfl, World.ownsRow_nil _ _ _ _, (hA0.step hB1).below⟩

set_option maxRecDepth 100000 in
set_option maxHeartbeats 4000000 in
theorem implSigning_any (a0 a1 : Option Addr) (cap0 cap1 : Nat) (xs0 : List Ps) (xs1 : List Tm) (a2 : Option Addr) (cap2 : Nat) (xs2 : List Wt) (w : World) (hl0 : xs0.length ≤ 1048576) (hx0 : Rd encPs w a0 xs0) (hs0 : ∀ m ∈ xs0, szPs m ≤ 1048576) (hl1 : xs1.length ≤ 1048576) (hx1 : Rd encTm w a1 xs1) (hs1 : ∀ m ∈ xs1, szTm m ≤ 1048576) (hl2 : xs2.length ≤ 1048576) (hx2 : Rd encWt w a2 xs2) :
    Calls Tryz.prog 21 #[.agg #[.slice a0 xs0.length cap0, .slice a1 xs1.length cap1], .slice a2 xs2.length cap2] w fun e w' => ∃ b c, e = .returned (.tuple #[.slice b (signR xs0 xs1 xs2 (codeW xs0 xs1 xs2 true)).1.length c, .int .i64 (signR xs0 xs1 xs2 (codeW xs0 xs1 xs2 true)).2]) ∧
      w'.ownsRow w.heap.size 73 2 (.slice b (signR xs0 xs1 xs2 (codeW xs0 xs1 xs2 true)).1.length c) (signR xs0 xs1 xs2 (codeW xs0 xs1 xs2 true)).1.length ((signR xs0 xs1 xs2 (codeW xs0 xs1 xs2 true)).1.flatMap encSp) ∧ Below w.heap.size w w' := by
  have hA0 : At w [.slice a0 xs0.length cap0, .slice a1 xs1.length cap1] (w.alloc (.cells #[.slice a0 xs0.length cap0, .slice a1 xs1.length cap1] 48)) := At.start _ _ _
  have HC := Lib.hid (fun W (hB : Below w.heap.size w W) => checkPeopleW_any a0 a1 none cap0 cap1 0 xs0 xs1 [] xs2.length W hl0 (hx0.below hB) hs0 hl1 (hx1.below hB) hs1 (by simp) (Rd.nil _ _ _))
  have hcw : codeW xs0 xs1 xs2 true = if isPeopleB xs0 xs1 then (if decide (xs2.length ≤ 12) && ([] : List Int).all dayB then (if xs2.all (okW xs0) then 0 else 4) else 2) else 1 := by unfold codeW; simp
  generalize hC : (if isPeopleB xs0 xs1 then (if decide (xs2.length ≤ 12) && ([] : List Int).all dayB then (0 : Int) else 2) else 1) = C at HC
  by_cases hc : C = 0
  · subst hc
    have h1 : isPeopleB xs0 xs1 = true := by
      cases h : isPeopleB xs0 xs1
      · rw [h] at hC; simp at hC
      · rfl
    have h2 : xs2.length ≤ 12 := by
      rw [h1] at hC
      by_cases h : xs2.length ≤ 12
      · exact h
      · rw [decide_eq_false h] at hC; simp at hC
    have hR : Hid (signR xs0 xs1 xs2 (codeW xs0 xs1 xs2 true) = if xs2.all (okW xs0) then (signL xs0 xs1 xs2, 0) else ([], 4)) := by
      unfold Hid
      rw [hcw, h1, decide_eq_true h2]
      cases xs2.all (okW xs0) <;> rfl
    have hbd := people_bd h1
    have HW := Lib.hid (fun m W (hB : Below w.heap.size w W) => witnessDays_any a0 a1 cap0 cap1 xs0 xs1 m W h1 hl0 (hx0.below hB) (by omega) (hx1.below hB))
    have HWL := Lib.hid (fun m => witL_len h1 m)
    have HOK : Hid (∀ m : Wt, okW xs0 m = decide (0 ≤ personIx xs0 m.person)) := fun _ => rfl
    have HMT := Lib.hid (fun a b cap cap' (xs ys : List Sp) W (h1 : xs.length ≤ 1048576) (h2 : ys.length ≤ 1048576) hx hy => met_any a b cap cap' xs.length ys.length xs ys W rfl rfl h1 h2 hx hy)
    have hG : Hid (signL xs0 xs1 xs2 = (xs2.drop 0).foldl (sgStep xs0 xs1) [⟨0, 730499⟩]) := rfl
    have HST : Hid (∀ out m, sgStep xs0 xs1 out m = met out (witL xs0 xs1 m)) := fun _ _ => rfl
    clear hC hcw h1 hbd
    generalize signR xs0 xs1 xs2 _ = Q at hR ⊢
    generalize signL xs0 xs1 xs2 = R at hG hR
    go_enter Tryz.func21, Tryz.ntmps21
    go_wp2_with fail
    refine (HC.out _ hA0.below).mono ?_
    rintro e w1 ⟨rfl, hB1⟩
    have hA1 := hA0.step hB1
    have ho1 := own_base (own_one w1 (.int .i64 0) (.int .i64 730499) 73) hA1.below.size
    have hA2 := hA1.step ((Below.refl _ w1).alloc (Nat.le_refl _) (.cells #[.int .i64 0, .int .i64 730499] 73))
    clear hA0 hB1 HC hA1
    go_wp2
    go_loopw [7, 23] (fun s i wr => ∃ (k g c : Nat) (out : List Sp), k ≤ xs2.length ∧ i = .int .i64 k ∧ s = .slice (some ⟨g, 0, none⟩) out.length c ∧ wr.ownsRow w.heap.size 73 2 (.slice (some ⟨g, 0, none⟩) out.length c) out.length (out.flatMap encSp) ∧ At w [.slice a0 xs0.length cap0, .slice a1 xs1.length cap1] wr ∧ Hid (R = (xs2.drop k).foldl (sgStep xs0 xs1) out) ∧ out.length ≤ 1 + 60 * k ∧ Hid (xs2.all (okW xs0) = (xs2.drop k).all (okW xs0))) (fun _ i _ => xs2.length - (intOf i).toNat)
    case atStart => exact ⟨0, _, _, [⟨0, 730499⟩], Nat.zero_le _, rfl, rfl, ho1, hA2, hG, by simp, rfl⟩
    case round =>
      clear ho1 hA2 hG
      obtain ⟨k, g, c, out, hk, rfl, rfl, hown, hAt, hM, hlo, hH⟩ := hrel
      by_cases hlt : k < xs2.length
      · have hk1 : (k : Int) < (xs2.length : Int) := by omega
        have hm := List.getElem?_eq_getElem hlt
        generalize xs2[k] = m at hm
        obtain ⟨b, off, rfl, hb, c0, c1⟩ := (hx2.below hAt.below).wt hm
        have hst := Lib.hid (hM.out.trans (by rw [drop_at hm, List.foldl_cons, HST.out]))
        have hwl := HWL.out m
        have hd := Lib.hid (all_drop (okW xs0) hm)
        have hok := Lib.hid (HOK.out m)
        have HWm := Lib.hid (fun W hB => HW.out m W hB)
        generalize witL xs0 xs1 m = L at HWm hst hwl
        have hml := met_len out L
        clear hM hm
        go_upto_region 8 with (fail)
        generalize hW : wr.alloc (.cells #[.string m.person, .string m.office] 110) = W
        have hBW : Below wr.heap.size wr W := by rw [← hW]; go_grown
        have D0 : W.cell? ⟨wr.heap.size, 0, none⟩ = some (.string m.person) := by rw [← hW]; exact World.cell?_alloc_at _ _ _ _ rfl
        have D1 : W.cell? ⟨wr.heap.size, 1, none⟩ = some (.string m.office) := by rw [← hW]; exact World.cell?_alloc_at _ _ _ _ rfl
        have hown := own_below hown hBW
        have hAt := hAt.step hBW
        have b0 := hAt.cell 0 _ rfl
        have b1 := hAt.cell 1 _ rfl
        clear hW c0 c1 hb hBW
        by_cases hp : personIx xs0 m.person < 0
        · have hok : Hid (okW xs0 m = false) := hok.out.trans (decide_eq_false (by omega))
          go_wp2_with fail
          refine (HWm.out _ hAt.below).mono ?_
          rintro e w3 ⟨_, h3, hB3⟩
          obtain rfl := h3 hp
          go_wp2
          go_ret2
          rw [hR.out, hH.out, hd.out, hok.out]
          exact ⟨none, 0, rfl, World.ownsRow_nil _ _ _ _, (hAt.step hB3).below⟩
        · have hok : Hid (okW xs0 m = true) := hok.out.trans (decide_eq_true (by omega))
          go_wp2_with fail
          refine (HWm.out _ hAt.below).mono ?_
          rintro e w3 ⟨h3, _, hB3⟩
          obtain ⟨g3, c3, rfl, ho3⟩ := h3 (by omega)
          have hown := own_below hown hB3
          have hAt := hAt.step hB3
          have hrd := Rd.of_own encSp_len (by decide) hown
          have hrd3 := Rd.of_own encSp_len (by decide) ho3
          clear h3 hB3 D0 D1 b0 b1
          go_wp2_with fail
          refine (HMT.out _ _ _ _ out L _ (by omega) (by omega) hrd hrd3).mono ?_
          rintro e w4 ⟨g4, c4, rfl, ho4, hB4⟩
          have hown' := own_base ho4 hAt.below.size
          have hAt := hAt.step hB4
          generalize met out L = out' at hown' hst hml ⊢
          clear ho4 hB4 hown ho3 hrd hrd3
          go_wp2
          go_roundw
          case rel => exact ⟨k + 1, g4, c4, out', by omega, by go_num, rfl, hown', hAt, hst, by omega, by unfold Hid; rw [hH.out, hd.out, hok.out]; rfl⟩
          case measure => simp [intOf]; omega
      · have hM := Lib.hid (hM.out.trans (by rw [List.drop_eq_nil_of_le (by omega), List.foldl_nil]))
        have hH : Hid (xs2.all (okW xs0) = true) := by unfold Hid; rw [hH.out, List.drop_eq_nil_of_le (by omega)]; rfl
        go_wp2
        go_ret2
        rw [hR.out, hH.out, hM.out]
        exact ⟨_, _, rfl, hown, hAt.below⟩
  · have hR : Hid (signR xs0 xs1 xs2 (codeW xs0 xs1 xs2 true) = ([], C)) := by
      unfold Hid
      rw [hcw]
      rw [← hC] at hc ⊢
      cases h1 : isPeopleB xs0 xs1
      · rfl
      · rw [h1] at hc
        cases h2 : (decide (xs2.length ≤ 12) && ([] : List Int).all dayB)
        · rfl
        · rw [h2] at hc; simp at hc
    have hc2 : (C != 0) = true := by simpa using hc
    clear hC hcw
    go_enter Tryz.func21, Tryz.ntmps21
    go_wp2_with fail
    refine (HC.out _ hA0.below).mono ?_
    rintro e w1 ⟨rfl, hB1⟩
    go_wp2
    go_ret2
    rw [hR.out]
    exact ⟨none, 0, rfl, World.ownsRow_nil _ _ _ _, (hA0.step hB1).below⟩
end Go.Proofs.YtdebmijlipkoeaaGreatDoor
