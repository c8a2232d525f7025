/- Walks: LivingOn. -/
import Derived.Test.YtmjbigeeokofeaaGreatDoorIxl
import Derived.Test.YtmjbigeeokofeaaGreatDoorCPeople
import Derived.Test.YtmjbigeeokofeaaGreatDoorPeopImpl
namespace Go.Proofs.YtmjbigeeokofeaaGreatDoor
open Go.ChangeShapes Go.WideShapes Go.ChangeAt Go.RowKit

def pL (ps : List Ps) (n : Int) (i : Nat) : Bool := match ps[i]? with
  | some m => inB n m.fr m.to
  | none => false
theorem pL_at {ps : List Ps} {n : Int} {i : Nat} {m : Ps} (h : ps[i]? = some m) : pL ps n i = inB n m.fr m.to := by unfold pL; rw [h]
def codeP (ps : List Ps) (ts : List Tm) (zs : List Int) : Int := if isPeopleB ps ts then (if zs.all dayB then 0 else 2) else 1
def livingR (ps : List Ps) (ts : List Tm) (n : Int) : List Int × Int :=
  if isPeopleB ps ts then (if dayB n then (jxl (pL ps n) ps.length, 0) else ([], 2)) else ([], 1)
theorem livingR_len (ps : List Ps) (ts : List Tm) (n : Int) (h : ps.length ≤ 1048576) : (livingR ps ts n).1.length ≤ 1048576 := by
  unfold livingR
  split
  · split
    · exact Nat.le_trans (jxl_len (pL ps n) ps.length) h
    · simp
  · simp

set_option maxHeartbeats 2000000 in
theorem specLiving_any (a0 a1 : Option Addr) (cap0 cap1 : Nat) (xs0 : List Ps) (xs1 : List Tm) (n : Int) (w : World) (hl0 : xs0.length ≤ 1048576) (hx0 : Rd encPs w a0 xs0) (hs0 : ∀ m ∈ xs0, szPs m ≤ 1048576) (hl1 : xs1.length ≤ 1048576) (hx1 : Rd encTm w a1 xs1) (hs1 : ∀ m ∈ xs1, szTm m ≤ 1048576) :
    Calls Tryz.prog 29 #[.agg #[.slice a0 xs0.length cap0, .slice a1 xs1.length cap1], .int .i64 n] w fun e w' => ∃ b c, e = .returned (.tuple #[.slice b (livingR xs0 xs1 n).1.length c, .int .i64 (livingR xs0 xs1 n).2]) ∧
      w'.ownsRow w.heap.size 2 1 (.slice b (livingR xs0 xs1 n).1.length c) (livingR xs0 xs1 n).1.length ((livingR xs0 xs1 n).1.flatMap encI) ∧ Below w.heap.size w w' := by
  obtain ⟨i0, hi, hz0, hz1, hz2⟩ := info_parts infoI
  have hA0 : At w [.slice a0 xs0.length cap0, .slice a1 xs1.length cap1] (w.alloc (.cells #[.slice a0 xs0.length cap0, .slice a1 xs1.length cap1] 48)) := At.start _ _ _
  have HM := Lib.hid (fun W (hAt : At w [.slice a0 xs0.length cap0, .slice a1 xs1.length cap1] W) => specIsPeople_any a0 a1 cap0 cap1 xs0 xs1 W hl0 (hx0.below hAt.below) hs0 hl1 (hx1.below hAt.below) hs1)
  cases hA : isPeopleB xs0 xs1
  · have HM := Lib.hid (fun W h => hA ▸ HM.out W h)
    have hR : Hid (livingR xs0 xs1 n = ([], 1)) := by unfold Hid livingR; rw [hA]; rfl
    clear hA
    go_enter Tryz.func29, Tryz.ntmps29
    go_wp2_with fail
    refine (HM.out _ hA0).mono ?_
    rintro e w1 ⟨rfl, hB1⟩
    go_wp2
    go_ret2
    rw [hR.out]
    exact ⟨none, 0, rfl, World.ownsRow_nil _ _ _ _, (hA0.step hB1).below⟩
  · have HM := Lib.hid (fun W h => hA ▸ HM.out W h)
    cases hd : dayB n
    · have hR : Hid (livingR xs0 xs1 n = ([], 2)) := by unfold Hid livingR; rw [hA, hd]; rfl
      have HD := Lib.hid (fun W => hd ▸ l01Day_any n W)
      clear hA hd
      go_enter Tryz.func29, Tryz.ntmps29
      go_wp2_with fail
      refine (HM.out _ hA0).mono ?_
      rintro e w1 ⟨rfl, hB1⟩
      go_wp2_with fail
      refine (HD.out _).mono ?_
      rintro e w2 ⟨rfl, rfl⟩
      go_wp2
      go_ret2
      rw [hR.out]
      exact ⟨none, 0, rfl, World.ownsRow_nil _ _ _ _, (hA0.step hB1).below⟩
    · have hR : Hid (livingR xs0 xs1 n = (jxl (pL xs0 n) xs0.length, 0)) := by unfold Hid livingR; rw [hA, hd]; rfl
      have HD := Lib.hid (fun W => hd ▸ l01Day_any n W)
      have HPV := Lib.hid (fun i m (h : xs0[i]? = some m) => pL_at (n := n) h)
      clear hA hd
      generalize pL xs0 n = p at HPV hR
      go_enter Tryz.func29, Tryz.ntmps29
      go_wp2_with fail
      refine (HM.out _ hA0).mono ?_
      rintro e w1 ⟨rfl, hB1⟩
      have hA1 := hA0.step hB1
      clear hA0 hB1 HM
      go_wp2_with fail
      refine (HD.out _).mono ?_
      rintro e w2 ⟨rfl, rfl⟩
      have hBo : Below w1.heap.size w1 (w1.alloc (.cells #[] 2)) := (Below.refl _ w1).alloc (Nat.le_refl _) _
      have hA2 := hA1.step hBo
      have hown0 := World.ownsRow_made w1 #[] 0 (show w.heap.size + 1 ≤ w1.heap.size from hA1.size) (by decide) rfl (e := 2) (size := 1)
      clear hBo hA1
      go_wp2
      go_loopw [6, 7] (fun o i wr => ∃ (k g c : Nat), k ≤ xs0.length ∧ i = .int .i64 k ∧ o = .slice (some ⟨g, 0, none⟩) (jxl p k).length c ∧ wr.ownsRow (w.heap.size + 1) 2 1 (.slice (some ⟨g, 0, none⟩) (jxl p k).length c) (jxl p k).length ((jxl p k).flatMap encI) ∧ At w [.slice a0 xs0.length cap0, .slice a1 xs1.length cap1] wr) (fun _ i _ => xs0.length - (intOf i).toNat)
      case atStart => exact ⟨0, _, _, Nat.zero_le _, rfl, rfl, hown0, hA2⟩
      case round =>
        clear hown0 hA2
        rename_i wr
        obtain ⟨k, g, c, hk, rfl, rfl, hown, hAt⟩ := hrel
        have hlen := jxl_len p k
        have b0 := hAt.cell 0 _ rfl
        by_cases hlt : k < xs0.length
        · have hk1 : (k : Int) < (xs0.length : Int) := by omega
          have hm := List.getElem?_eq_getElem hlt
          generalize xs0[k] = m at hm
          obtain ⟨b, off, rfl, hb, _, c1, c2⟩ := (hx0.below hAt.below).ps hm
          have hpk := HPV.out k m hm
          have HI := Lib.hid (fun W => hpk ▸ l01In_any n m.fr m.to W)
          have E0 := Later.cell b0 hAt.size
          have C1 := Later.cell c1 hb
          have C2 := Later.cell c2 hb
          clear hpk hm
          cases hbb : p k
          · have HI := Lib.hid (fun W => hbb ▸ HI.out W)
            have hst := Lib.hid (jxl_no hbb)
            clear hbb
            go_wp2_with fail
            refine wp_region_later wr (by kernel_rfl) (by kernel_rfl) ?_
            repeat (go_big_quiet_step ((go_at_call 65; exact Later.same (HI.out _))))
            refine wpQuiet_nil ?_
            intro z'
            have hz := z'.prop
            generalize z'.val = w3 at hz
            clear E0 C1 C2 b0 c1 c2
            go_wp2
            go_roundw
            case rel => exact ⟨k + 1, g, c, by omega, by go_num, by rw [hst.out], by rw [hst.out]; exact own_below hown hz, hAt.step hz⟩
            case measure => simp [intOf]; omega
          · have HI := Lib.hid (fun W => hbb ▸ HI.out W)
            have hst := Lib.hid (jxl_yes hbb)
            clear hbb
            generalize jxl p k = out at hown hst hlen ⊢
            go_wp2_with fail
            refine wp_region_later wr (by kernel_rfl) (by kernel_rfl) ?_
            repeat (go_big_quiet_step ((go_at_call 65; exact Later.same (HI.out _))))
            refine wpQuiet_nil ?_
            intro z'
            have hz := z'.prop
            generalize z'.val = w3 at hz
            have hown := own_below hown hz
            have hAt := hAt.step hz
            have hs := hAt.size
            clear E0 C1 C2 b0 c1 c2 hz
            go_wp2_with (at_builtin; refine wpList_append_own _ rfl _ _ 31 rfl (w.heap.size + 1) 2 i0 (.int .i64 0) 1 8 Tryz.underlying31 hi hz0 hz1 hz2 rfl (by decide) _ _ _ rfl (hown.alloc _) ⟨w3.heap.size, 0, none⟩ 1 1 [.int .i64 k] rfl rfl (cell_one_new _ _ _) ?c2 ?c3 ?c4 ?c5 ?_)
            case c2 => intro u hu; simp at hu; subst hu; rfl
            case c3 => unfold maxLen; omega
            case c4 => omega
            case c5 => simp; omega
            intro v' w4 hown' hgr _
            have hA4 := (hAt.step ((Below.refl _ w3).alloc (Nat.le_refl _) (.cells #[.int .i64 k] 2))).grown hgr (fun x hx => (hown.lt x hx).1)
            obtain ⟨g', c', rfl⟩ := formJ hown' (by omega)
            clear hgr hown hAt
            go_wp2
            go_roundw
            case rel => exact ⟨k + 1, g', c', by omega, by go_num, by rw [hst.out, List.length_append]; rfl, by rw [hst.out, List.length_append, List.flatMap_append]; exact hown', hA4⟩
            case measure => simp [intOf]; omega
        · obtain rfl : k = xs0.length := by omega
          go_wp2
          go_ret2
          rw [hR.out]
          exact ⟨_, _, rfl, own_base hown (by omega), hAt.below⟩

theorem checkPeople1_any (m : Int) (w : World) :
    Calls Tryz.prog 128 #[.int .i64 m] w fun e w' => e = .returned (.bool (!dayB m)) ∧ Below w.heap.size w w' := by
  go_enter Tryz.func128, Tryz.ntmps128
  go_wp2_with fail
  refine (isDay_any _ _).mono ?_
  rintro e w1 ⟨rfl, rfl⟩
  go_wp2
  go_ret
  exact ⟨rfl, Below.refl _ _⟩
theorem any_not_day (zs : List Int) : (zs.any fun m => !dayB m) = !zs.all dayB := by
  induction zs with
  | nil => rfl
  | cons x xs ih => simp only [List.any_cons, List.all_cons, Bool.not_and, ih]
set_option maxHeartbeats 2000000 in
theorem checkPeople_any (a0 a1 a2 : Option Addr) (cap0 cap1 cap2 : Nat) (xs0 : List Ps) (xs1 : List Tm) (zs : List Int) (w : World) (hl0 : xs0.length ≤ 1048576) (hx0 : Rd encPs w a0 xs0) (hs0 : ∀ m ∈ xs0, szPs m ≤ 1048576) (hl1 : xs1.length ≤ 1048576) (hx1 : Rd encTm w a1 xs1) (hs1 : ∀ m ∈ xs1, szTm m ≤ 1048576) (hl2 : zs.length ≤ 1048576) (hx2 : Rd encI w a2 zs) :
    Calls Tryz.prog 86 #[.agg #[.slice a0 xs0.length cap0, .slice a1 xs1.length cap1], .int .i64 0, .slice a2 zs.length cap2] w fun e w' => e = .returned (.int .i64 (codeP xs0 xs1 zs)) ∧ Below w.heap.size w w' := by
  have hA0 : At w [.slice a0 xs0.length cap0, .slice a1 xs1.length cap1] (w.alloc (.cells #[.slice a0 xs0.length cap0, .slice a1 xs1.length cap1] 48)) := At.start _ _ _
  have HM := Lib.hid (fun W (hAt : At w [.slice a0 xs0.length cap0, .slice a1 xs1.length cap1] W) => implIsPeople_any a0 a1 cap0 cap1 xs0 xs1 W hl0 (hx0.below hAt.below) hs0 hl1 (hx1.below hAt.below) hs1)
  have hct := fun W (hAt : At w [.slice a0 xs0.length cap0, .slice a1 xs1.length cap1] W) => containsFunc_checkPeople_1 a2 cap2 zs (fun m => !dayB m) W hl2 (hx2.below hAt.below) (fun W' _ m _ => checkPeople1_any m W')
  rw [any_not_day] at hct
  have HCT := Lib.hid hct
  clear hct
  cases hA : isPeopleB xs0 xs1
  · have HM := Lib.hid (fun W h => hA ▸ HM.out W h)
    have hR : Hid (codeP xs0 xs1 zs = 1) := by unfold Hid codeP; rw [hA]; rfl
    clear hA
    go_enter Tryz.func86, Tryz.ntmps86
    go_wp2_with fail
    refine (HM.out _ hA0).mono ?_
    rintro e w1 ⟨rfl, hB1⟩
    go_wp2
    go_ret
    exact ⟨ret_int hR.out.symm, (hA0.step hB1).below⟩
  · have HM := Lib.hid (fun W h => hA ▸ HM.out W h)
    cases hz : zs.all dayB
    · have hR : Hid (codeP xs0 xs1 zs = 2) := by unfold Hid codeP; rw [hA, hz]; rfl
      have HCT := Lib.hid (fun W h => hz ▸ HCT.out W h)
      clear hA hz
      go_enter Tryz.func86, Tryz.ntmps86
      go_wp2_with fail
      refine (HM.out _ hA0).mono ?_
      rintro e w1 ⟨rfl, hB1⟩
      have hA1 := hA0.step hB1
      go_wp2_with fail
      refine (HCT.out _ hA1).mono ?_
      rintro e w2 ⟨rfl, hB2⟩
      go_wp2
      go_ret
      exact ⟨ret_int hR.out.symm, (hA1.step hB2).below⟩
    · have hR : Hid (codeP xs0 xs1 zs = 0) := by unfold Hid codeP; rw [hA, hz]; rfl
      have HCT := Lib.hid (fun W h => hz ▸ HCT.out W h)
      clear hA hz
      go_enter Tryz.func86, Tryz.ntmps86
      go_wp2_with fail
      refine (HM.out _ hA0).mono ?_
      rintro e w1 ⟨rfl, hB1⟩
      have hA1 := hA0.step hB1
      go_wp2_with fail
      refine (HCT.out _ hA1).mono ?_
      rintro e w2 ⟨rfl, hB2⟩
      go_wp2
      go_ret
      exact ⟨ret_int hR.out.symm, (hA1.step hB2).below⟩

set_option maxHeartbeats 1000000 in
theorem living1_any (q : Nat) (n : Int) (m : Ps) (w : World) (h0 : w.cell? ⟨q, 0, none⟩ = some (.int .i64 n)) :
    Calls Tryz.prog 91 #[.agg #[.string m.name, .int .i64 m.fr, .int .i64 m.to], .pointer (some ⟨q, 0, none⟩)] w fun e w' => e = .returned (.bool (inB n m.fr m.to)) ∧ Below w.heap.size w w' := by
  have hq := World.block_lt_of_cell? w _ h0
  simp only at hq
  have hb : Below w.heap.size w (w.alloc (.cells #[.string m.name, .int .i64 m.fr, .int .i64 m.to] 110)) := (Below.refl _ w).alloc (Nat.le_refl _) _
  have h0' := (hb.cell (p := ⟨q, 0, none⟩) hq).trans h0
  go_enter Tryz.func91, Tryz.ntmps91
  go_wp2_with fail
  refine (within_any _ _ _ _).mono ?_
  rintro e w1 ⟨rfl, rfl⟩
  go_wp2
  go_ret
  exact ⟨rfl, hb⟩

set_option maxHeartbeats 2000000 in
theorem personsFor_any (a0 a1 : Option Addr) (cap0 cap1 q : Nat) (xs0 : List Ps) (xs1 : List Tm) (n : Int) (w : World) (hl0 : xs0.length ≤ 1048576) (hx0 : Rd encPs w a0 xs0) (h0 : w.cell? ⟨q, 0, none⟩ = some (.int .i64 n)) :
    Calls Tryz.prog 87 #[.agg #[.slice a0 xs0.length cap0, .slice a1 xs1.length cap1], .func (.func 91) #[] #[.pointer (some ⟨q, 0, none⟩)]] w fun e w' => ∃ g c, e = .returned (.slice (some ⟨g, 0, none⟩) (jxl (pL xs0 n) xs0.length).length c) ∧
      w'.ownsRow w.heap.size 2 1 (.slice (some ⟨g, 0, none⟩) (jxl (pL xs0 n) xs0.length).length c) (jxl (pL xs0 n) xs0.length).length ((jxl (pL xs0 n) xs0.length).flatMap encI) ∧ Below w.heap.size w w' := by
  obtain ⟨i0, hi, hz0, hz1, hz2⟩ := info_parts infoI
  have hq := World.block_lt_of_cell? w _ h0
  simp only at hq
  have HPV := Lib.hid (fun i m (h : xs0[i]? = some m) => pL_at (n := n) h)
  have HF := Lib.hid (fun (m : Ps) W (hB : Below w.heap.size w W) => living1_any q n m W ((hB.cell (p := ⟨q, 0, none⟩) hq).trans h0))
  generalize pL xs0 n = p at HPV ⊢
  have hA0 : At w [.slice a0 xs0.length cap0, .slice a1 xs1.length cap1] ((w.alloc (.cells #[.slice a0 xs0.length cap0, .slice a1 xs1.length cap1] 48)).alloc (.cells #[] 2)) := (At.start _ _ _).step ((Below.refl _ _).alloc (Nat.le_refl _) _)
  have b0 := hA0.cell 0 _ rfl
  have hown0 := World.ownsRow_made (w.alloc (.cells #[.slice a0 xs0.length cap0, .slice a1 xs1.length cap1] 48)) #[] 0 (show w.heap.size + 1 ≤ _ by simp) (by decide) rfl (e := 2) (size := 1)
  clear h0 hq
  go_enter Tryz.func87, Tryz.ntmps87
  go_wp2
  go_loopw [5, 12] (fun o i wr => ∃ (k g c : Nat), k ≤ xs0.length ∧ i = .int .i64 k ∧ o = .slice (some ⟨g, 0, none⟩) (jxl p k).length c ∧ wr.ownsRow (w.heap.size + 1) 2 1 (.slice (some ⟨g, 0, none⟩) (jxl p k).length c) (jxl p k).length ((jxl p k).flatMap encI) ∧ At w [.slice a0 xs0.length cap0, .slice a1 xs1.length cap1] wr) (fun _ i _ => xs0.length - (intOf i).toNat)
  case atStart => exact ⟨0, w.heap.size + 1, 0, Nat.zero_le _, rfl, rfl, by simpa [jxl] using hown0, hA0⟩
  case round =>
    clear hown0 hA0 b0
    obtain ⟨k, g, c, hk, rfl, rfl, hown, hAt⟩ := hrel
    have hlen := jxl_len p k
    by_cases hlt : k < xs0.length
    · have hk1 : (k : Int) < (xs0.length : Int) := by omega
      have hm := List.getElem?_eq_getElem hlt
      generalize xs0[k] = m at hm
      obtain ⟨b, off, rfl, hb, c0, c1, c2⟩ := (hx0.below hAt.below).ps hm
      have hpk := HPV.out k m hm
      clear hm
      go_upto_region 5 with (fail)
      generalize hW : wr.alloc (.cells #[.string m.name, .int .i64 m.fr, .int .i64 m.to] 110) = W
      have hBW : Below wr.heap.size wr W := by rw [← hW]; go_grown
      have D0 : W.cell? ⟨wr.heap.size, 0, none⟩ = some (.string m.name) := by rw [← hW]; exact World.cell?_alloc_at _ _ _ _ rfl
      have D1 : W.cell? ⟨wr.heap.size, 1, none⟩ = some (.int .i64 m.fr) := by rw [← hW]; exact World.cell?_alloc_at _ _ _ _ rfl
      have D2 : W.cell? ⟨wr.heap.size, 2, none⟩ = some (.int .i64 m.to) := by rw [← hW]; exact World.cell?_alloc_at _ _ _ _ rfl
      have hown := own_below hown hBW
      have hAt := hAt.step hBW
      clear hW c0 c1 c2 hb hBW
      have HFm := Lib.hid (fun W hB => hpk ▸ HF.out m W hB)
      clear hpk
      cases hbb : p k
      · have HFm := Lib.hid (fun W hB => hbb ▸ HFm.out W hB)
        have hst := Lib.hid (jxl_no hbb)
        clear hbb
        go_wp2_with fail
        refine (HFm.out _ hAt.below).mono ?_
        rintro e w3 ⟨rfl, hz⟩
        go_wp2
        go_roundw
        case rel => exact ⟨k + 1, g, c, by omega, by go_num, by rw [hst.out], by rw [hst.out]; exact own_below hown hz, hAt.step hz⟩
        case measure => simp [intOf]; omega
      · have HFm := Lib.hid (fun W hB => hbb ▸ HFm.out W hB)
        have hst := Lib.hid (jxl_yes hbb)
        clear hbb
        generalize jxl p k = out at hown hst hlen ⊢
        go_wp2_with fail
        refine (HFm.out _ hAt.below).mono ?_
        rintro e w3 ⟨rfl, hz⟩
        have hown := own_below hown hz
        have hAt := hAt.step hz
        have hs := hAt.size
        clear hz D0 D1 D2
        go_wp2_with (at_builtin; refine wpList_append_own _ rfl _ _ 31 rfl (w.heap.size + 1) 2 i0 (.int .i64 0) 1 8 Tryz.underlying31 hi hz0 hz1 hz2 rfl (by decide) _ _ _ rfl (hown.alloc _) ⟨w3.heap.size, 0, none⟩ 1 1 [.int .i64 k] rfl rfl (cell_one_new _ _ _) ?c2 ?c3 ?c4 ?c5 ?_)
        case c2 => intro u hu; simp at hu; subst hu; rfl
        case c3 => unfold maxLen; omega
        case c4 => omega
        case c5 => simp; omega
        intro v' w4 hown' hgr _
        have hA4 := (hAt.step ((Below.refl _ w3).alloc (Nat.le_refl _) (.cells #[.int .i64 k] 2))).grown hgr (fun x hx => (hown.lt x hx).1)
        obtain ⟨g', c', rfl⟩ := formJ hown' (by omega)
        clear hgr hown hAt
        go_wp2
        go_roundw
        case rel => exact ⟨k + 1, g', c', by omega, by go_num, by rw [hst.out, List.length_append]; rfl, by rw [hst.out, List.length_append, List.flatMap_append]; exact hown', hA4⟩
        case measure => simp [intOf]; omega
    · obtain rfl : k = xs0.length := by omega
      go_wp2
      go_ret
      exact ⟨_, _, rfl, own_base hown (by omega), hAt.below⟩

set_option maxHeartbeats 2000000 in
theorem implLiving_any (a0 a1 : Option Addr) (cap0 cap1 : Nat) (xs0 : List Ps) (xs1 : List Tm) (n : Int) (w : World) (hl0 : xs0.length ≤ 1048576) (hx0 : Rd encPs w a0 xs0) (hs0 : ∀ m ∈ xs0, szPs m ≤ 1048576) (hl1 : xs1.length ≤ 1048576) (hx1 : Rd encTm w a1 xs1) (hs1 : ∀ m ∈ xs1, szTm m ≤ 1048576) :
    Calls Tryz.prog 28 #[.agg #[.slice a0 xs0.length cap0, .slice a1 xs1.length cap1], .int .i64 n] w fun e w' => ∃ b c, e = .returned (.tuple #[.slice b (livingR xs0 xs1 n).1.length c, .int .i64 (livingR xs0 xs1 n).2]) ∧
      w'.ownsRow w.heap.size 2 1 (.slice b (livingR xs0 xs1 n).1.length c) (livingR xs0 xs1 n).1.length ((livingR xs0 xs1 n).1.flatMap encI) ∧ Below w.heap.size w w' := by
  have hA3 : At w [.slice a0 xs0.length cap0, .slice a1 xs1.length cap1] (((w.alloc (.cells #[.slice a0 xs0.length cap0, .slice a1 xs1.length cap1] 48)).alloc (.cells #[.int .i64 n] 2)).alloc (.cells #[.int .i64 n] 2)) := ((At.start w _ _).step ((Below.refl _ _).alloc (Nat.le_refl _) _)).step ((Below.refl _ _).alloc (Nat.le_refl _) _)
  have hs3 : (((w.alloc (.cells #[.slice a0 xs0.length cap0, .slice a1 xs1.length cap1] 48)).alloc (.cells #[.int .i64 n] 2)).alloc (.cells #[.int .i64 n] 2)).heap.size = w.heap.size + 3 := by simp
  have hq : (((w.alloc (.cells #[.slice a0 xs0.length cap0, .slice a1 xs1.length cap1] 48)).alloc (.cells #[.int .i64 n] 2)).alloc (.cells #[.int .i64 n] 2)).cell? ⟨w.heap.size + 1, 0, none⟩ = some (.int .i64 n) := by
    rw [World.cell?_alloc_past _ _ _ (by simp)]; exact World.cell?_alloc_at _ _ _ _ (by simp)
  have hrd : Rd encI (((w.alloc (.cells #[.slice a0 xs0.length cap0, .slice a1 xs1.length cap1] 48)).alloc (.cells #[.int .i64 n] 2)).alloc (.cells #[.int .i64 n] 2)) (some ⟨w.heap.size + 2, 0, none⟩) [n] := by
    intro i x hi
    refine ⟨w.heap.size + 2, 0, rfl, by simp, fun j v hv => ?_⟩
    rw [World.cell?_alloc_at _ _ _ _ (by simp)]
    match i, hi with
    | 0, hi => cases hi; match j, hv with | 0, hv => cases hv; rfl
  have HRD := Lib.hid hrd
  have HC := Lib.hid (fun W (hB : Below w.heap.size w W) (hr : Rd encI W (some ⟨w.heap.size + 2, 0, none⟩) [n]) => checkPeople_any a0 a1 (some ⟨w.heap.size + 2, 0, none⟩) cap0 cap1 1 xs0 xs1 [n] W hl0 (hx0.below hB) hs0 hl1 (hx1.below hB) hs1 (by simp) hr)
  have HP := Lib.hid (fun W (hB : Below w.heap.size w W) (h0 : W.cell? ⟨w.heap.size + 1, 0, none⟩ = some (.int .i64 n)) => personsFor_any a0 a1 cap0 cap1 (w.heap.size + 1) xs0 xs1 n W hl0 (hx0.below hB) h0)
  have hmf : ∀ (fn : Fn) (first cap : Array Value) (w : World), (Instr.makeFunc fn first cap).run Tryz.prog w = .ok (.func fn first cap) w := fun _ _ _ _ => rfl
  have hce : codeP xs0 xs1 [n] = if isPeopleB xs0 xs1 then (if dayB n then 0 else 2) else 1 := by unfold codeP; simp
  have hre : livingR xs0 xs1 n = if isPeopleB xs0 xs1 then (if dayB n then (jxl (pL xs0 n) xs0.length, 0) else ([], 2)) else ([], 1) := rfl
  clear hrd
  by_cases hc : codeP xs0 xs1 [n] = 0
  · have HC := Lib.hid (fun W hB hr => hc ▸ HC.out W hB hr)
    have hR : Hid (livingR xs0 xs1 n = (jxl (pL xs0 n) xs0.length, 0)) := by
      unfold Hid
      rw [hre]
      rw [hce] at hc
      cases h1 : isPeopleB xs0 xs1
      · rw [h1] at hc; simp at hc
      · cases h2 : dayB n
        · rw [h1, h2] at hc; simp at hc
        · rfl
    clear hc hce hre
    go_enter Tryz.func28, Tryz.ntmps28
    go_wp2_with fail
    refine (HC.out _ hA3.below HRD.out).mono ?_
    rintro e w1 ⟨rfl, hB1⟩
    have hA1 := hA3.step hB1
    have hq1 := (hB1.cell (p := ⟨w.heap.size + 1, 0, none⟩) (by rw [hs3]; simp)).trans hq
    have b0 := hA1.cell 0 _ rfl
    have b1 := hA1.cell 1 _ rfl
    clear hA3 hs3 hq hB1 HRD HC
    go_wp2_with fail
    refine (HP.out _ hA1.below hq1).mono ?_
    rintro e w2 ⟨g, c, rfl, ho, hB2⟩
    go_wp2
    go_ret2
    rw [hR.out]
    exact ⟨_, _, rfl, own_base ho hA1.below.size, (hA1.step hB2).below⟩
  · have hR : Hid (livingR xs0 xs1 n = ([], codeP xs0 xs1 [n])) := by
      unfold Hid
      rw [hre, hce]
      rw [hce] at hc
      cases h1 : isPeopleB xs0 xs1
      · rfl
      · cases h2 : dayB n
        · rfl
        · rw [h1, h2] at hc; simp at hc
    clear hce hre
    generalize codeP xs0 xs1 [n] = c at hc HC hR
    have hc2 : (c != 0) = true := by simpa using hc
    go_enter Tryz.func28, Tryz.ntmps28
    go_wp2_with fail
    refine (HC.out _ hA3.below HRD.out).mono ?_
    rintro e w1 ⟨rfl, hB1⟩
    go_wp2
    go_ret2
    rw [hR.out]
    exact ⟨none, 0, rfl, World.ownsRow_nil _ _ _ _, (hA3.step hB1).below⟩
end Go.Proofs.YtmjbigeeokofeaaGreatDoor
