/- Walks: PossiblePlaces. Printed by gen_cb2.py. -/
import Derived.Test.YtihmacmieofbgaaGreatDoorCbAll
import Derived.Test.YtihmacmieofbgaaGreatDoorIxl
import Derived.Test.YtihmacmieofbgaaGreatDoorTrDays
import Derived.Test.YtihmacmieofbgaaGreatDoorSortSp
import Derived.Shelf.SlicesE.DeleteFunc
import Derived.Test.YtihmacmieofbgaaGreatDoorShelf3
import Derived.Test.YtihmacmieofbgaaGreatDoorCLand
import Derived.Test.YtihmacmieofbgaaGreatDoorQLand
import Derived.Test.YtihmacmieofbgaaGreatDoorMI
import Derived.Test.YtihmacmieofbgaaGreatDoorHI
import Derived.Test.YtihmacmieofbgaaGreatDoorMSt
namespace Go.Proofs.YtihmacmieofbgaaGreatDoor
section
open Go.ChangeShapes Go.WideShapes Go.ChangeAt Go.RowKit

def pP (n : Nat) (ws : List Wy) (xs : List St) (z : Int) (v : Nat) : Bool := hasB (uni (cbl (v : Int) (fun u => travM n ws u v) xs (xs.length + 1))) z
def possR (ps : List ByteArray) (ws : List Wy) (xs : List St) (z c : Int) : List Int × Int :=
  if c = 0 then (jxl (pP ps.length ws xs z) ps.length, 0) else ([], c)
theorem possR_len (ps : List ByteArray) (ws : List Wy) (xs : List St) (z c : Int) (h : ps.length ≤ 1048576) : (possR ps ws xs z c).1.length ≤ 1048576 := by
  unfold possR
  split
  · exact Nat.le_trans (jxl_len _ _) h
  · simp

set_option maxRecDepth 100000 in
set_option maxHeartbeats 4000000 in
theorem l15Places_any (a0 a1 a2 : Option Addr) (cap0 cap1 cap2 : Nat) (xs0 : List ByteArray) (xs1 : List Wy) (xs2 : List St) (z : Int) (w : World) (hA : isLandB xs0 xs1 = true) (hl40 : xs2.length ≤ 40) (ho : ∀ x ∈ xs2, okSt xs0.length x = true) (hx1 : Rd encWy w a1 xs1) (hx2 : Rd encSt w a2 xs2) :
    Calls Tryz.prog 49 #[.agg #[.slice a0 xs0.length cap0, .slice a1 xs1.length cap1], .slice a2 xs2.length cap2, .int .i64 z] w fun e w' => ∃ g c, e = .returned (.slice (some ⟨g, 0, none⟩) (jxl (pP xs0.length xs1 xs2 z) xs0.length).length c) ∧ w'.ownsRow w.heap.size 2 1 (.slice (some ⟨g, 0, none⟩) (jxl (pP xs0.length xs1 xs2 z) xs0.length).length c) (jxl (pP xs0.length xs1 xs2 z) xs0.length).length ((jxl (pP xs0.length xs1 xs2 z) xs0.length).flatMap encI) ∧ Below w.heap.size w w' := by
  obtain ⟨i0, hi, hz0, hz1, hz2⟩ := info_parts infoI
  have hn12 := (landOk hA).2.2.1
  have hA0 : At w [.slice a0 xs0.length cap0, .slice a1 xs1.length cap1] ((w.alloc (.cells #[.slice a0 xs0.length cap0, .slice a1 xs1.length cap1] 33)).alloc (.cells #[] 2)) := (At.start _ _ _).step ((Below.refl _ _).alloc (Nat.le_refl _) _)
  have b0 := hA0.cell 0 _ rfl
  have hown0 := World.ownsRow_made (w.alloc (.cells #[.slice a0 xs0.length cap0, .slice a1 xs1.length cap1] 33)) #[] 0 (show w.heap.size + 1 ≤ _ by simp) (by decide) rfl (e := 2) (size := 1)
  have hul := Lib.hid (fun (k : Nat) => Nat.le_trans (uni_len (cbl (k : Int) (fun u => travM xs0.length xs1 u k) xs2 (xs2.length + 1))) (cbl_len _ _ _ _))
  have HPV : Hid (∀ k, pP xs0.length xs1 xs2 z k = hasB (uni (cbl (k : Int) (fun u => travM xs0.length xs1 u k) xs2 (xs2.length + 1))) z) := fun _ => rfl
  have HD := Lib.hid (fun k W (hk : k < xs0.length) (hB : Below w.heap.size w W) => l15Days_any a0 a1 a2 cap0 cap1 cap2 k xs0 xs1 xs2 W hA hk hl40 (hx1.below hB) (hx2.below hB) ho)
  clear hA
  generalize pP xs0.length xs1 xs2 z = p at HPV ⊢
  go_enter Tryz.func49, Tryz.ntmps49
  go_wp2
  go_loopw [7, 8] (fun o i wr => ∃ (k g c : Nat), k ≤ xs0.length ∧ i = .int .i64 k ∧ o = .slice (some ⟨g, 0, none⟩) (jxl p k).length c ∧ wr.ownsRow (w.heap.size + 1) 2 1 (.slice (some ⟨g, 0, none⟩) (jxl p k).length c) (jxl p k).length ((jxl p k).flatMap encI) ∧ At w [.slice a0 xs0.length cap0, .slice a1 xs1.length cap1] wr) (fun _ i _ => xs0.length - (intOf i).toNat)
  case atStart => exact ⟨0, w.heap.size + 1, 0, Nat.zero_le _, rfl, rfl, by simpa [jxl] using hown0, hA0⟩
  case round =>
    clear hown0 hA0 b0
    obtain ⟨k, g, c, hk, rfl, rfl, hown, hAt⟩ := hrel
    have hlen := jxl_len p k
    have b0 := hAt.cell 0 _ rfl
    have b1 := hAt.cell 1 _ rfl
    by_cases hlt : k < xs0.length
    · have hk1 : (k : Int) < (xs0.length : Int) := by omega
      have hpk := HPV.out k
      have hln := hul.out k
      cases hbb : p k
      · rw [hbb] at hpk
        have HH := Lib.hid (fun a cap W h => hpk ▸ l02Has_any a cap _ (uni (cbl (k : Int) (fun u => travM xs0.length xs1 u k) xs2 (xs2.length + 1))) z W rfl (by omega) h)
        have hst := Lib.hid (jxl_no hbb)
        clear hpk hbb
        go_wp2_with fail
        refine (HD.out k wr hlt hAt.below).mono ?_
        rintro e w4 ⟨g4, c4, rfl, ho4, hB4⟩
        have hown := own_below hown hB4
        have hAt := hAt.step hB4
        have hrd := Rd.of_own encSp_len (by decide) ho4
        clear hB4 ho4 b0 b1
        go_wp2_with fail
        refine (HH.out _ _ _ hrd).mono ?_
        rintro e w5 ⟨rfl, hB5⟩
        have hown := own_below hown hB5
        have hAt := hAt.step hB5
        have hs := hAt.size
        clear hB5 hrd
        go_wp2
        go_roundw
        case rel => exact ⟨k + 1, g, c, by omega, by go_num, by rw [hst.out], by rw [hst.out]; exact hown, hAt⟩
        case measure => simp [intOf]; omega
      · rw [hbb] at hpk
        have HH := Lib.hid (fun a cap W h => hpk ▸ l02Has_any a cap _ (uni (cbl (k : Int) (fun u => travM xs0.length xs1 u k) xs2 (xs2.length + 1))) z W rfl (by omega) h)
        have hst := Lib.hid (jxl_yes hbb)
        clear hpk hbb
        generalize jxl p k = out at hown hst hlen ⊢
        go_wp2_with fail
        refine (HD.out k wr hlt hAt.below).mono ?_
        rintro e w4 ⟨g4, c4, rfl, ho4, hB4⟩
        have hown := own_below hown hB4
        have hAt := hAt.step hB4
        have hrd := Rd.of_own encSp_len (by decide) ho4
        clear hB4 ho4 b0 b1
        go_wp2_with fail
        refine (HH.out _ _ _ hrd).mono ?_
        rintro e w5 ⟨rfl, hB5⟩
        have hown := own_below hown hB5
        have hAt := hAt.step hB5
        have hs := hAt.size
        clear hB5 hrd
        go_wp2_with (at_builtin; refine wpList_append_own _ rfl _ _ 48 rfl (w.heap.size + 1) 2 i0 (.int .i64 0) 1 8 Tryz.underlying48 hi hz0 hz1 hz2 rfl (by decide) _ _ _ rfl (hown.alloc _) ⟨w5.heap.size, 0, none⟩ 1 1 [.int .i64 k] rfl rfl (cell_one_new _ _ _) ?c2 ?c3 ?c4 ?c5 ?_)
        case c2 => intro u hu; simp at hu; subst hu; rfl
        case c3 => unfold maxLen; omega
        case c4 => omega
        case c5 => first | omega | (simp; omega)
        intro v' w6 hown' hgr _
        have hA6 := (hAt.step ((Below.refl _ w5).alloc (Nat.le_refl _) (.cells #[.int .i64 k] 2))).grown hgr (fun x hx => (hown.lt x hx).1)
        obtain ⟨g', c', rfl⟩ := formJ hown' (by omega)
        clear hgr hown hAt
        go_wp2
        go_roundw
        case rel => exact ⟨k + 1, g', c', by omega, by go_num, by rw [hst.out, List.length_append]; rfl, by rw [hst.out, List.length_append, List.flatMap_append]; exact hown', hA6⟩
        case measure => simp [intOf]; omega
    · obtain rfl : k = xs0.length := by omega
      go_wp2
      go_ret
      exact ⟨_, _, rfl, own_base hown (by omega), hAt.below⟩

set_option maxRecDepth 100000 in
set_option maxHeartbeats 4000000 in
theorem possPlaces_any (a0 a1 a2 : Option Addr) (cap0 cap1 cap2 : Nat) (xs0 : List ByteArray) (xs1 : List Wy) (xs2 : List St) (z : Int) (w : World) (hA : isLandB xs0 xs1 = true) (hl40 : xs2.length ≤ 40) (ho : ∀ x ∈ xs2, okSt xs0.length x = true) (hx1 : Rd encWy w a1 xs1) (hx2 : Rd encSt w a2 xs2) :
    Calls Tryz.prog 50 #[.agg #[.slice a0 xs0.length cap0, .slice a1 xs1.length cap1], .slice a2 xs2.length cap2, .int .i64 z] w fun e w' => ∃ g c, e = .returned (.slice (some ⟨g, 0, none⟩) (jxl (pP xs0.length xs1 xs2 z) xs0.length).length c) ∧ w'.ownsRow w.heap.size 2 1 (.slice (some ⟨g, 0, none⟩) (jxl (pP xs0.length xs1 xs2 z) xs0.length).length c) (jxl (pP xs0.length xs1 xs2 z) xs0.length).length ((jxl (pP xs0.length xs1 xs2 z) xs0.length).flatMap encI) ∧ Below w.heap.size w w' := by
  obtain ⟨i0, hi, hz0, hz1, hz2⟩ := info_parts infoI
  have hn12 := (landOk hA).2.2.1
  have hA0 : At w [.slice a0 xs0.length cap0, .slice a1 xs1.length cap1] ((w.alloc (.cells #[.slice a0 xs0.length cap0, .slice a1 xs1.length cap1] 33)).alloc (.cells #[] 2)) := (At.start _ _ _).step ((Below.refl _ _).alloc (Nat.le_refl _) _)
  have b0 := hA0.cell 0 _ rfl
  have hown0 := World.ownsRow_made (w.alloc (.cells #[.slice a0 xs0.length cap0, .slice a1 xs1.length cap1] 33)) #[] 0 (show w.heap.size + 1 ≤ _ by simp) (by decide) rfl (e := 2) (size := 1)
  have hul := Lib.hid (fun (k : Nat) => Nat.le_trans (uni_len (cbl (k : Int) (fun u => travM xs0.length xs1 u k) xs2 (xs2.length + 1))) (cbl_len _ _ _ _))
  have HPV : Hid (∀ k, pP xs0.length xs1 xs2 z k = hasB (uni (cbl (k : Int) (fun u => travM xs0.length xs1 u k) xs2 (xs2.length + 1))) z) := fun _ => rfl
  have HT := Lib.hid (fun W (hB : Below w.heap.size w W) => trav_any a0 a1 cap0 cap1 xs0 xs1 W hA (hx1.below hB))
  have HD := Lib.hid (fun k B0 H cH gm W (hk : k < xs0.length) (hB : Below w.heap.size w W) (hM : Mat B0 W H cH xs0.length xs0.length gm (travM xs0.length xs1)) => couldBeDays_any a2 cap2 H cH xs0.length k B0 gm (travM xs0.length xs1) xs2 W hk hM (fun a b ha hb => trav_bd hA ha hb) hl40 (hx2.below hB) ho)
  clear hA
  generalize pP xs0.length xs1 xs2 z = p at HPV ⊢
  go_enter Tryz.func50, Tryz.ntmps50
  go_wp2
  go_loopw [7, 13] (fun o i wr => ∃ (k g c : Nat), k ≤ xs0.length ∧ i = .int .i64 k ∧ o = .slice (some ⟨g, 0, none⟩) (jxl p k).length c ∧ wr.ownsRow (w.heap.size + 1) 2 1 (.slice (some ⟨g, 0, none⟩) (jxl p k).length c) (jxl p k).length ((jxl p k).flatMap encI) ∧ At w [.slice a0 xs0.length cap0, .slice a1 xs1.length cap1] wr) (fun _ i _ => xs0.length - (intOf i).toNat)
  case atStart => exact ⟨0, w.heap.size + 1, 0, Nat.zero_le _, rfl, rfl, by simpa [jxl] using hown0, hA0⟩
  case round =>
    clear hown0 hA0 b0
    obtain ⟨k, g, c, hk, rfl, rfl, hown, hAt⟩ := hrel
    have hlen := jxl_len p k
    have b0 := hAt.cell 0 _ rfl
    have b1 := hAt.cell 1 _ rfl
    by_cases hlt : k < xs0.length
    · have hk1 : (k : Int) < (xs0.length : Int) := by omega
      have hpk := HPV.out k
      have hln := hul.out k
      cases hbb : p k
      · rw [hbb] at hpk
        have HH := Lib.hid (fun a cap W h => hpk ▸ hasDay_any a cap _ (uni (cbl (k : Int) (fun u => travM xs0.length xs1 u k) xs2 (xs2.length + 1))) z W rfl (by omega) h)
        have hst := Lib.hid (jxl_no hbb)
        clear hpk hbb
        go_wp2_with fail
        refine (HT.out _ hAt.below).mono ?_
        rintro e w3 ⟨H, cH, gm, rfl, hM, hB3⟩
        have hown := own_below hown hB3
        have hAt := hAt.step hB3
        clear hB3 b0 b1
        go_wp2_with fail
        refine (HD.out k _ _ _ _ _ hlt hAt.below hM).mono ?_
        rintro e w4 ⟨g4, c4, rfl, ho4, hB4⟩
        have hown := own_below hown hB4
        have hAt := hAt.step hB4
        have hrd := Rd.of_own encSp_len (by decide) ho4
        clear hB4 ho4 hM
        go_wp2_with fail
        refine (HH.out _ _ _ hrd).mono ?_
        rintro e w5 ⟨rfl, hB5⟩
        have hown := own_below hown hB5
        have hAt := hAt.step hB5
        have hs := hAt.size
        clear hB5 hrd
        go_wp2
        go_roundw
        case rel => exact ⟨k + 1, g, c, by omega, by go_num, by rw [hst.out], by rw [hst.out]; exact hown, hAt⟩
        case measure => simp [intOf]; omega
      · rw [hbb] at hpk
        have HH := Lib.hid (fun a cap W h => hpk ▸ hasDay_any a cap _ (uni (cbl (k : Int) (fun u => travM xs0.length xs1 u k) xs2 (xs2.length + 1))) z W rfl (by omega) h)
        have hst := Lib.hid (jxl_yes hbb)
        clear hpk hbb
        generalize jxl p k = out at hown hst hlen ⊢
        go_wp2_with fail
        refine (HT.out _ hAt.below).mono ?_
        rintro e w3 ⟨H, cH, gm, rfl, hM, hB3⟩
        have hown := own_below hown hB3
        have hAt := hAt.step hB3
        clear hB3 b0 b1
        go_wp2_with fail
        refine (HD.out k _ _ _ _ _ hlt hAt.below hM).mono ?_
        rintro e w4 ⟨g4, c4, rfl, ho4, hB4⟩
        have hown := own_below hown hB4
        have hAt := hAt.step hB4
        have hrd := Rd.of_own encSp_len (by decide) ho4
        clear hB4 ho4 hM
        go_wp2_with fail
        refine (HH.out _ _ _ hrd).mono ?_
        rintro e w5 ⟨rfl, hB5⟩
        have hown := own_below hown hB5
        have hAt := hAt.step hB5
        have hs := hAt.size
        clear hB5 hrd
        go_wp2_with (at_builtin; refine wpList_append_own _ rfl _ _ 48 rfl (w.heap.size + 1) 2 i0 (.int .i64 0) 1 8 Tryz.underlying48 hi hz0 hz1 hz2 rfl (by decide) _ _ _ rfl (hown.alloc _) ⟨w5.heap.size, 0, none⟩ 1 1 [.int .i64 k] rfl rfl (cell_one_new _ _ _) ?c2 ?c3 ?c4 ?c5 ?_)
        case c2 => intro u hu; simp at hu; subst hu; rfl
        case c3 => unfold maxLen; omega
        case c4 => omega
        case c5 => first | omega | (simp; omega)
        intro v' w6 hown' hgr _
        have hA6 := (hAt.step ((Below.refl _ w5).alloc (Nat.le_refl _) (.cells #[.int .i64 k] 2))).grown hgr (fun x hx => (hown.lt x hx).1)
        obtain ⟨g', c', rfl⟩ := formJ hown' (by omega)
        clear hgr hown hAt
        go_wp2
        go_roundw
        case rel => exact ⟨k + 1, g', c', by omega, by go_num, by rw [hst.out, List.length_append]; rfl, by rw [hst.out, List.length_append, List.flatMap_append]; exact hown', hA6⟩
        case measure => simp [intOf]; omega
    · obtain rfl : k = xs0.length := by omega
      go_wp2
      go_ret
      exact ⟨_, _, rfl, own_base hown (by omega), hAt.below⟩

set_option maxRecDepth 100000 in
set_option maxHeartbeats 4000000 in
theorem specPoss_any (a0 a1 a2 : Option Addr) (cap0 cap1 cap2 : Nat) (xs0 : List ByteArray) (xs1 : List Wy) (xs2 : List St) (z : Int) (w : World) (hc0 : xs0.length ≤ cap0) (hc1 : cap0 ≤ 1048576) (hl0 : xs0.length ≤ 1048576) (hx0 : Rd encS w a0 xs0) (hs0 : ∀ m ∈ xs0, m.size ≤ 1048576) (hl1 : xs1.length ≤ 1048576) (hx1 : Rd encWy w a1 xs1) (hl2 : xs2.length ≤ 1048576) (hx2 : Rd encSt w a2 xs2) :
    Calls Tryz.prog 22 #[.agg #[.slice a0 xs0.length cap0, .slice a1 xs1.length cap1], .slice a2 xs2.length cap2, .int .i64 z] w fun e w' => ∃ b c, e = .returned (.tuple #[.slice b (possR xs0 xs1 xs2 z (codeI xs0 xs1 xs2 (dayB z))).1.length c, .int .i64 (possR xs0 xs1 xs2 z (codeI xs0 xs1 xs2 (dayB z))).2]) ∧ w'.ownsRow w.heap.size 2 1 (.slice b (possR xs0 xs1 xs2 z (codeI xs0 xs1 xs2 (dayB z))).1.length c) (possR xs0 xs1 xs2 z (codeI xs0 xs1 xs2 (dayB z))).1.length ((possR xs0 xs1 xs2 z (codeI xs0 xs1 xs2 (dayB z))).1.flatMap encI) ∧ Below w.heap.size w w' := by
  have HC := Lib.hid (fun W q (hB : Below w.heap.size w W) => l15Code_any a0 a1 a2 cap0 cap1 cap2 xs0 xs1 xs2 q W hc0 hc1 hl0 (hx0.below hB) hs0 hl1 (hx1.below hB) hl2 (hx2.below hB))
  have hfacts := Lib.hid (codeI_zero (ps := xs0) (ws := xs1) (xs := xs2) (b := dayB z))
  have hRz : Hid (codeI xs0 xs1 xs2 (dayB z) = 0 → possR xs0 xs1 xs2 z (codeI xs0 xs1 xs2 (dayB z)) = (jxl (pP xs0.length xs1 xs2 z) xs0.length, 0)) := fun h => by unfold possR; rw [if_pos h]
  have hRn : Hid (codeI xs0 xs1 xs2 (dayB z) ≠ 0 → possR xs0 xs1 xs2 z (codeI xs0 xs1 xs2 (dayB z)) = ([], codeI xs0 xs1 xs2 (dayB z))) := fun h => by unfold possR; rw [if_neg h]
  have HPL := Lib.hid (fun W => l01Day_any z W)
  generalize hcc : codeI xs0 xs1 xs2 (dayB z) = c at hfacts hRz hRn ⊢
  have HC := Lib.hid (fun W hB => hcc ▸ HC.out W (dayB z) hB)
  clear hcc
  generalize hpb : dayB z = q at HC HPL
  have HPB := Lib.hid hpb
  clear hpb
  go_enter Tryz.func22, Tryz.ntmps22
  go_wp2_with fail
  generalize hW : w.alloc (.cells #[.slice a0 xs0.length cap0, .slice a1 xs1.length cap1] 33) = W
  have hA0 : At w [.slice a0 xs0.length cap0, .slice a1 xs1.length cap1] W := hW ▸ At.start _ _ _
  have b0 := hA0.cell 0 _ rfl
  have b1 := hA0.cell 1 _ rfl
  have hs := hA0.size
  clear hW
  go_region_held_law (fun w' => w'.cell? ⟨w.heap.size, 0, none⟩ = some (.slice a0 xs0.length cap0) ∧ w'.cell? ⟨w.heap.size, 1, none⟩ = some (.slice a1 xs1.length cap1)) (first | exact ⟨b0, b1⟩ | exact ⟨(hB7.cell (p := ⟨w.heap.size, 0, none⟩) hs).trans b0, (hB7.cell (p := ⟨w.heap.size, 1, none⟩) hs).trans b1⟩) (first | (go_at_call 33; refine (HPL.out _).mono ?_; rintro e w6 ⟨rfl, rfl⟩) | (go_at_call 31; refine (HC.out _ (hA0.step (Below.refl _ W).drew).below).mono ?_; rintro e w7 ⟨rfl, hB7⟩) | fail)
  have hA1 := hA0.step (stepB (Below.refl _ W).drew hB7 (Nat.le_refl _))
  clear hA0 hB7 b0 b1 hs HC HPL
  generalize w7 = w1 at hA1 ⊢
  have b0 := hA1.cell 0 _ rfl
  have b1 := hA1.cell 1 _ rfl
  have hfacts : Hid (c = 0 → isItinB xs0 xs1 xs2 = true ∧ dayB z = true) := hfacts
  by_cases hc : c = 0
  · subst hc
    obtain ⟨hI, _⟩ := hfacts.out rfl
    obtain ⟨hA, ho, hl40⟩ := itin_facts hI
    have hR := Lib.hid (hRz.out rfl)
    clear hfacts hRz hRn hI
    have HD := Lib.hid (fun W (hB : Below w.heap.size w W) => l15Places_any a0 a1 a2 cap0 cap1 cap2 xs0 xs1 xs2 z W hA hl40 ho (hx1.below hB) (hx2.below hB))
    go_wp2_with fail
    refine (HD.out _ hA1.below).mono ?_
    rintro e w2 ⟨g, c, rfl, ho2, hB2⟩
    go_wp2
    go_ret2
    rw [hR.out]
    exact ⟨_, _, rfl, own_base ho2 hA1.below.size, (hA1.step hB2).below⟩
  · have hR := Lib.hid (hRn.out hc)
    have hc2 : (c != 0) = true := by simpa using hc
    clear hfacts hRz hRn
    go_wp2
    go_ret2
    rw [hR.out]
    exact ⟨none, 0, rfl, World.ownsRow_nil _ _ _ _, hA1.below⟩

set_option maxRecDepth 100000 in
set_option maxHeartbeats 4000000 in
theorem implPoss_any (a0 a1 a2 : Option Addr) (cap0 cap1 cap2 : Nat) (xs0 : List ByteArray) (xs1 : List Wy) (xs2 : List St) (z : Int) (w : World) (hc0 : xs0.length ≤ cap0) (hc1 : cap0 ≤ 1048576) (hl0 : xs0.length ≤ 1048576) (hx0 : Rd encS w a0 xs0) (hs0 : ∀ m ∈ xs0, m.size ≤ 1048576) (hl1 : xs1.length ≤ 1048576) (hx1 : Rd encWy w a1 xs1) (hl2 : xs2.length ≤ 1048576) (hx2 : Rd encSt w a2 xs2) :
    Calls Tryz.prog 23 #[.agg #[.slice a0 xs0.length cap0, .slice a1 xs1.length cap1], .slice a2 xs2.length cap2, .int .i64 z] w fun e w' => ∃ b c, e = .returned (.tuple #[.slice b (possR xs0 xs1 xs2 z (codeI xs0 xs1 xs2 (dayB z))).1.length c, .int .i64 (possR xs0 xs1 xs2 z (codeI xs0 xs1 xs2 (dayB z))).2]) ∧ w'.ownsRow w.heap.size 2 1 (.slice b (possR xs0 xs1 xs2 z (codeI xs0 xs1 xs2 (dayB z))).1.length c) (possR xs0 xs1 xs2 z (codeI xs0 xs1 xs2 (dayB z))).1.length ((possR xs0 xs1 xs2 z (codeI xs0 xs1 xs2 (dayB z))).1.flatMap encI) ∧ Below w.heap.size w w' := by
  have HC := Lib.hid (fun W a3 a4 c3 c4 ys zs (hB : Below w.heap.size w W) (h3 : ys.length ≤ 1048576) (r3 : Rd encI W a3 ys) (h4 : zs.length ≤ 1048576) (r4 : Rd encI W a4 zs) => checkStays_any a0 a1 a2 a3 a4 cap0 cap1 cap2 c3 c4 xs0 xs1 xs2 ys zs W hc0 hc1 hl0 (hx0.below hB) hs0 hl1 (hx1.below hB) hl2 (hx2.below hB) h3 r3 h4 r4)
  have hfacts := Lib.hid (codeI_zero (ps := xs0) (ws := xs1) (xs := xs2) (b := dayB z))
  have hRz : Hid (codeI xs0 xs1 xs2 (dayB z) = 0 → possR xs0 xs1 xs2 z (codeI xs0 xs1 xs2 (dayB z)) = (jxl (pP xs0.length xs1 xs2 z) xs0.length, 0)) := fun h => by unfold possR; rw [if_pos h]
  have hRn : Hid (codeI xs0 xs1 xs2 (dayB z) ≠ 0 → possR xs0 xs1 xs2 z (codeI xs0 xs1 xs2 (dayB z)) = ([], codeI xs0 xs1 xs2 (dayB z))) := fun h => by unfold possR; rw [if_neg h]
  have hA0 : At w [.slice a0 xs0.length cap0, .slice a1 xs1.length cap1] ((w.alloc (.cells #[.slice a0 xs0.length cap0, .slice a1 xs1.length cap1] 33)).alloc (.cells #[.int .i64 z] 2)) := (At.start w _ _).step ((Below.refl _ _).alloc (Nat.le_refl _) _)
  have hrd : Rd encI ((w.alloc (.cells #[.slice a0 xs0.length cap0, .slice a1 xs1.length cap1] 33)).alloc (.cells #[.int .i64 z] 2)) (some ⟨w.heap.size + 1, 0, none⟩) [z] := by
    intro i x hi
    refine ⟨w.heap.size + 1, 0, rfl, by simp, fun j v hv => ?_⟩
    rw [World.cell?_alloc_at _ _ _ _ (by simp)]
    match i, hi with
    | 0, hi => cases hi; match j, hv with | 0, hv => cases hv; rfl
  have HRD := Lib.hid hrd
  clear hrd
  have hcc : codeI xs0 xs1 xs2 (([] : List Int).all (placeB xs0.length) && [z].all dayB) = codeI xs0 xs1 xs2 (dayB z) := by simp
  have HC := Lib.hid (fun W hB r4 => hcc ▸ HC.out W none (some ⟨w.heap.size + 1, 0, none⟩) 0 1 [] [z] hB (by simp) (Rd.nil _ _ _) (by simp) r4)
  clear hcc
  generalize codeI xs0 xs1 xs2 (dayB z) = c at HC hfacts hRz hRn ⊢
  go_enter Tryz.func23, Tryz.ntmps23
  go_wp2_with fail
  refine (HC.out _ hA0.below HRD.out).mono ?_
  rintro e w1 ⟨rfl, hB1⟩
  have hA1 := hA0.step hB1
  clear hA0 hB1 HC HRD
  have b0 := hA1.cell 0 _ rfl
  have b1 := hA1.cell 1 _ rfl
  by_cases hc : c = 0
  · subst hc
    obtain ⟨hI, _⟩ := hfacts.out rfl
    obtain ⟨hA, ho, hl40⟩ := itin_facts hI
    have hR := Lib.hid (hRz.out rfl)
    clear hfacts hRz hRn hI
    have HD := Lib.hid (fun W (hB : Below w.heap.size w W) => possPlaces_any a0 a1 a2 cap0 cap1 cap2 xs0 xs1 xs2 z W hA hl40 ho (hx1.below hB) (hx2.below hB))
    go_wp2_with fail
    refine (HD.out _ hA1.below).mono ?_
    rintro e w2 ⟨g, c, rfl, ho2, hB2⟩
    go_wp2
    go_ret2
    rw [hR.out]
    exact ⟨_, _, rfl, own_base ho2 hA1.below.size, (hA1.step hB2).below⟩
  · have hR := Lib.hid (hRn.out hc)
    have hc2 : (c != 0) = true := by simpa using hc
    clear hfacts hRz hRn
    go_wp2
    go_ret2
    rw [hR.out]
    exact ⟨none, 0, rfl, World.ownsRow_nil _ _ _ _, hA1.below⟩
end

section
open Go.ChangeShapes Go.WideShapes Go.ChangeAt Go.RowKit

def isZ (z m : Int) : Bool := m == z
set_option maxHeartbeats 400000 in
theorem l01Has_any (a : Option Addr) (cap n : Nat) (xs : List Int) (z : Int) (w : World) (hn : xs.length = n) (hl : n ≤ 1048576) (hx : Rd encI w a xs) :
    Calls Tryz.prog 52 #[.slice a n cap, .int .i64 z] w fun e w' => e = .returned (.bool (xs.any (isZ z))) ∧ w = w' := by
  subst hn
  go_enter Tryz.func52, Tryz.ntmps52
  go_wp2
  go_loop [5] (fun i => ∃ (k : Nat), k ≤ xs.length ∧ i = .int .i64 k ∧ Hid (xs.any (isZ z) = (xs.drop k).any (isZ z))) (fun i => xs.length - (intOf i).toNat)
  case atStart => exact ⟨0, Nat.zero_le _, rfl, rfl⟩
  case round =>
    obtain ⟨k, hk, rfl, hH⟩ := hrel
    by_cases hlt : k < xs.length
    · have hm := List.getElem?_eq_getElem hlt
      have hd : (xs.drop k).any (isZ z) = (isZ z xs[k] || (xs.drop (k + 1)).any (isZ z)) := by rw [List.drop_eq_getElem_cons hlt]; rfl
      generalize xs[k] = m at hm hd
      obtain ⟨b, off, rfl, hb, c0⟩ := hx.i hm
      have HD := Lib.hid hd
      have hk1 : (k : Int) < (xs.length : Int) := by omega
      clear hm hd
      cases hp : (m == z)
      · have hp' : Hid (isZ z m = false) := hp
        go_wp2
        go_round
        case rel => exact ⟨k + 1, by omega, by go_num, by unfold Hid; rw [hH.out, HD.out, hp'.out]; rfl⟩
        case measure => simp [intOf]; omega
      · have hp' : Hid (isZ z m = true) := hp
        go_wp2
        go_ret
        exact ⟨ret_bool (by rw [hH.out, HD.out, hp'.out]; rfl), rfl⟩
    · go_wp2
      go_ret
      exact ⟨ret_bool (by rw [hH.out, List.drop_eq_nil_of_le (by omega)]; rfl), rfl⟩

def maxZ : Int → List Int → Int
  | b, [] => b
  | b, x :: xs => maxZ (max b x) xs
theorem maxZ_snoc : ∀ (xs : List Int) (b x : Int), maxZ b (xs ++ [x]) = max (maxZ b xs) x
  | [], _, _ => rfl
  | y :: ys, b, x => maxZ_snoc ys (max b y) x
theorem maxZ_lt : ∀ (xs : List Int) (b N : Int), maxZ b xs < N ↔ b < N ∧ ∀ x ∈ xs, x < N
  | [], b, N => by simp [maxZ]
  | y :: ys, b, N => by
    rw [maxZ, maxZ_lt ys]
    constructor
    · rintro ⟨h1, h2⟩
      refine ⟨by omega, fun x hx => ?_⟩
      rcases List.mem_cons.1 hx with rfl | hx
      · omega
      · exact h2 x hx
    · rintro ⟨h1, h2⟩
      have := h2 y (List.mem_cons_self ..)
      exact ⟨by omega, fun x hx => h2 x (List.mem_cons_of_mem _ hx)⟩













































def connR (ps : List ByteArray) (ws : List Wy) : Bool × Int :=
  if isLandB ps ws then ((List.range ps.length).all fun v => decide (travM ps.length ws 0 v < 1000000), 0) else (false, 1)
theorem any_dist (n : Nat) (ws : List Wy) (h : ∀ v, v < n → 0 ≤ travM n ws 0 v) : (!((List.range n).map (distF n ws 0)).any (isZ (-1))) = (List.range n).all fun v => decide (travM n ws 0 v < 1000000) := by
  rw [List.any_map, List.not_any_eq_all_not]
  have : ∀ (l : List Nat), (∀ v ∈ l, v < n) → (l.all fun x => !((isZ (-1) ∘ distF n ws 0) x)) = l.all fun v => decide (travM n ws 0 v < 1000000) := by
    intro l
    induction l with
    | nil => intro _; rfl
    | cons x l ih =>
      intro hl
      simp only [List.all_cons, ih (fun v hv => hl v (List.mem_cons_of_mem _ hv))]
      congr 1
      have hx := h x (hl x (List.mem_cons_self ..))
      simp only [Function.comp, isZ, distF]
      by_cases hlt : travM n ws 0 x < 1000000
      · rw [if_pos hlt]; simp [hlt]; omega
      · rw [if_neg hlt]; simp [hlt]
  exact this _ (fun v hv => List.mem_range.1 hv)
theorem max_dist (n : Nat) (ws : List Wy) (y : Int) (ys : List Int) (h : (List.range n).map (travM n ws 0) = y :: ys) : decide (maxZ y ys < 1000000) = (List.range n).all fun v => decide (travM n ws 0 v < 1000000) := by
  have e : (maxZ y ys < 1000000) ↔ ∀ x ∈ (List.range n).map (travM n ws 0), x < 1000000 := by rw [h, maxZ_lt]; simp
  cases hb : (List.range n).all fun v => decide (travM n ws 0 v < 1000000)
  · apply decide_eq_false
    intro h2
    have h3 := e.1 h2
    rw [List.all_eq_false] at hb
    obtain ⟨v, hv, h4⟩ := hb
    exact h4 (by simpa using h3 _ (List.mem_map_of_mem hv))
  · apply decide_eq_true
    apply e.2
    intro x hx
    obtain ⟨v, hv, rfl⟩ := List.mem_map.1 hx
    have := List.all_eq_true.1 hb v hv
    simpa using this

















































































































end

section
open Go.ChangeShapes Go.WideShapes Go.ChangeAt Go.RowKit Go.Sort

def pM (n : Nat) (ws : List Wy) (xs ys : List St) (z : Int) (v : Nat) : Bool := pP n ws xs z v && pP n ws ys z v
def codeM (ps : List ByteArray) (ws : List Wy) (xs ys : List St) (z : Int) : Int := if isItinB ps ws ys then codeI ps ws xs (dayB z) else 1
def meetR (ps : List ByteArray) (ws : List Wy) (xs ys : List St) (z c : Int) : List Int × Int := if c = 0 then (jxl (pM ps.length ws xs ys z) ps.length, 0) else ([], c)
theorem meetR_len (ps : List ByteArray) (ws : List Wy) (xs ys : List St) (z c : Int) (h : ps.length ≤ 1048576) : (meetR ps ws xs ys z c).1.length ≤ 1048576 := by
  unfold meetR
  split
  · exact Nat.le_trans (jxl_len _ _) h
  · simp
theorem jxl_any (p : Nat → Bool) (z : Nat) : ∀ k, (jxl p k).any (isZ (z : Int)) = (decide (z < k) && p z)
  | 0 => by simp [jxl]
  | k + 1 => by
    have ih := jxl_any p z k
    have hz : isZ (z : Int) (k : Int) = decide (z = k) := by
      unfold isZ
      by_cases h : z = k
      · subst h; simp
      · simp [h]; omega
    cases hp : p k
    · rw [jxl_no hp, ih]
      by_cases h : z = k
      · subst h; simp [hp]
      · have : decide (z < k + 1) = decide (z < k) := by simp; omega
        rw [this]
    · rw [jxl_yes hp, List.any_append, ih]
      simp only [List.any_cons, List.any_nil, Bool.or_false, hz]
      by_cases h : z = k
      · subst h; simp [hp]
      · have : decide (z < k + 1) = decide (z < k) := by simp; omega
        rw [this]; simp [h]
theorem jxl_meet (p q : Nat → Bool) (n : Nat) : ∀ k, k ≤ n → (jxl p k).filter (fun x => (jxl q n).any (isZ x)) = jxl (fun v => p v && q v) k
  | 0, _ => rfl
  | k + 1, hk => by
    have ih := jxl_meet p q n k (by omega)
    have ha := jxl_any q k n
    rw [show decide (k < n) = true by simp; omega, Bool.true_and] at ha
    cases hp : p k
    · rw [jxl_no hp, ih, jxl_no (by simp [hp])]
    · rw [jxl_yes hp, List.filter_append, ih]
      cases hq : q k
      · rw [jxl_no (by simp [hq])]
        simp [ha, hq]
      · rw [jxl_yes (by simp [hp, hq])]
        simp [ha, hq]
theorem codeM_zero {ps : List ByteArray} {ws : List Wy} {xs ys : List St} {z : Int} (h : codeM ps ws xs ys z = 0) : isItinB ps ws ys = true ∧ isItinB ps ws xs = true ∧ dayB z = true := by
  unfold codeM at h
  split at h
  · exact ⟨by assumption, codeI_zero h⟩
  · cases h

/-- slices.Index and slices.Contains at numbers. -/
theorem idxI_any (a : Option Addr) (cap n : Nat) (xs : List Int) (z : Int) (w : World) (hn : xs.length = n) (hl : n ≤ 1048576) (hx : Rd encI w a xs) :
    Calls Tryz.prog 80 #[.slice a n cap, .int .i64 z] w fun e w' => ∃ r : Int, e = .returned (.int .i64 r) ∧ decide (0 ≤ r) = xs.any (isZ z) ∧ w = w' := by
  subst hn
  go_enter Tryz.func80, Tryz.ntmps80
  go_wp2
  go_loop [8] (fun i => ∃ (k : Nat), k ≤ xs.length ∧ i = .int .i64 k ∧ Hid (xs.any (isZ z) = (xs.drop k).any (isZ z))) (fun i => xs.length - (intOf i).toNat)
  case atStart => exact ⟨0, Nat.zero_le _, rfl, rfl⟩
  case round =>
    obtain ⟨k, hk, rfl, hH⟩ := hrel
    by_cases hlt : k < xs.length
    · have hm := List.getElem?_eq_getElem hlt
      have hd : (xs.drop k).any (isZ z) = (isZ z xs[k] || (xs.drop (k + 1)).any (isZ z)) := by rw [List.drop_eq_getElem_cons hlt]; rfl
      generalize xs[k] = m at hm hd
      obtain ⟨b, off, rfl, hb, c0⟩ := hx.i hm
      have HD := Lib.hid hd
      have hk1 : (k : Int) < (xs.length : Int) := by omega
      clear hm hd
      cases hp : (z == m)
      · have hp' : Hid (isZ z m = false) := by
          have : z ≠ m := by simpa using hp
          unfold Hid isZ; simp; exact fun e => this e.symm
        go_wp2
        go_round
        case rel => exact ⟨k + 1, by omega, by go_num, by unfold Hid; rw [hH.out, HD.out, hp'.out]; rfl⟩
        case measure => simp [intOf]; omega
      · have hp' : Hid (isZ z m = true) := by
          have : z = m := by simpa using hp
          unfold Hid isZ; simp [this]
        go_wp2
        go_ret
        exact ⟨_, rfl, by rw [hH.out, HD.out, hp'.out]; simp, rfl⟩
    · go_wp2
      go_ret
      exact ⟨_, rfl, by rw [hH.out, List.drop_eq_nil_of_le (by omega)]; rfl, rfl⟩
theorem hasI_any (a : Option Addr) (cap n : Nat) (xs : List Int) (z : Int) (w : World) (hn : xs.length = n) (hl : n ≤ 1048576) (hx : Rd encI w a xs) :
    Calls Tryz.prog 57 #[.slice a n cap, .int .i64 z] w fun e w' => e = .returned (.bool (xs.any (isZ z))) ∧ w = w' := by
  have H := Lib.hid (idxI_any a cap n xs z w hn hl hx)
  go_enter Tryz.func57, Tryz.ntmps57
  go_wp2_with fail
  refine H.out.mono ?_
  rintro e w1 ⟨r, rfl, hr, rfl⟩
  go_wp2
  go_ret
  exact ⟨rfl, rfl⟩
theorem meetClo_any (B hB0 g3 c3 : Nat) (ys : List Int) (W2 : World) (hc : W2.cell? ⟨hB0, 0, none⟩ = some (.slice (some ⟨g3, 0, none⟩) ys.length c3)) (hlt : hB0 < B) (hl : ys.length ≤ 1048576) (hx : ∀ W, Below B W2 W → Rd encI W (some ⟨g3, 0, none⟩) ys) (W : World) (hB : Below B W2 W) (x : Int) :
    Calls Tryz.prog 56 #[.int .i64 x, .pointer (some ⟨hB0, 0, none⟩)] W fun e w' => e = .returned (.bool (!ys.any (isZ x))) ∧ W = w' := by
  have H := Lib.hid (hasI_any (some ⟨g3, 0, none⟩) c3 ys.length ys x W rfl hl (hx W hB))
  have c0 := (hB.cell (p := ⟨hB0, 0, none⟩) hlt).trans hc
  clear hx hc
  go_enter Tryz.func56, Tryz.ntmps56
  go_wp2_with fail
  refine H.out.mono ?_
  rintro e w1 ⟨rfl, rfl⟩
  go_wp2
  go_ret
  exact ⟨rfl, rfl⟩

def encV (x : Int) : Value := .int .i64 x
theorem encV_get (xs : List Int) (j : Nat) (h : j < xs.length) : (xs.flatMap encI)[j]? = some (encV xs[j]) := by
  have h2 := flatMap_at encI 1 encI_len xs j _ 0 _ (List.getElem?_eq_getElem h) (show (encI xs[j])[0]? = some (encV xs[j]) from rfl)
  simpa using h2
theorem holdsV {w : World} {base : Nat} {E : TypeId} {g n cap : Nat} {xs : List Int} (h : w.ownsRow base E 1 (.slice (some ⟨g, 0, none⟩) n cap) n (xs.flatMap encI)) : Holds encV w g 0 xs.toArray := by
  intro j hj
  have hj' : j < xs.length := by simpa using hj
  have hl := h.1
  rw [length_flatMap_enc encI 1 encI_len] at hl
  have h1 := h.cellAt j (by omega)
  rw [encV_get xs j hj'] at h1
  rw [Nat.zero_add, h1]
  exact ⟨by simp [getElem!_pos, hj'], h.frozenAt j⟩
theorem own_cut {w : World} {base : Nat} {E : TypeId} {g n cap q : Nat} {xs ys rs : List Int} (h : w.ownsRow base E 1 (.slice (some ⟨g, 0, none⟩) n cap) n (xs.flatMap encI)) (hy : ys.length + rs.length = n) :
    (putRow encV (Sort.ahead w q) g 0 (ys ++ rs).toArray).ownsRow base E 1 (.slice (some ⟨g, 0, none⟩) ys.length cap) ys.length (ys.flatMap encI) ∧ w.grownBy (putRow encV (Sort.ahead w q) g 0 (ys ++ rs).toArray) (some g) := by
  rcases h.2 with ⟨e0, _⟩ | ⟨g', cap', cur, e0, hb, hg, hn, hm, hs, ht⟩
  · cases e0
  · injection e0 with e1 _ e3
    injection e1 with e1
    injection e1 with e1
    subst e1; subst e3
    have hlt : g < w.heap.size := by
      rcases Nat.lt_or_ge g w.heap.size with h' | h'
      · exact h'
      · rw [Array.getElem?_eq_none h'] at hg; cases hg
    refine ⟨⟨by rw [length_flatMap_enc encI 1 encI_len], .inr ⟨g, cap, Sort.putCells encV 0 (ys ++ rs).toArray cur, rfl, hb, ?_, by omega, hm, by simpa [Sort.putCells] using hs, ?_⟩⟩, ?_⟩
    · simp only [Sort.putRow, Sort.mapBlock, Sort.ahead]
      simp [Array.getElem?_modify, hg, Sort.onCells]
    · apply List.ext_getElem?
      intro j
      rw [List.getElem?_take, Array.getElem?_toList]
      by_cases hj : j < ys.length
      · have hjc : j < cur.size := by omega
        rw [if_pos (by omega), encV_get ys j hj]
        simp only [Sort.putCells, Array.getElem?_mapIdx, Array.getElem?_eq_getElem hjc, Option.map_some]
        rw [if_pos (by simp; omega)]
        simp [getElem!_pos, show j < ys.length + rs.length by omega, List.getElem_append_left hj]
      · rw [if_neg (by omega), List.getElem?_eq_none (by rw [length_flatMap_enc encI 1 encI_len]; omega)]
    · refine ⟨rfl, rfl, rfl, ?_, fun j hj hne => ?_⟩
      · simp [Sort.putRow, Sort.mapBlock, Sort.ahead]
      · simp only [Sort.putRow, Sort.mapBlock, Sort.ahead]
        rw [Array.getElem?_modify, if_neg (fun e => hne (by rw [e]))]
theorem own_cap {w : World} {base : Nat} {E : TypeId} {k g n cap : Nat} {xs : List Value} (h : w.ownsRow base E k (.slice (some ⟨g, 0, none⟩) n cap) n xs) : n ≤ cap := by
  rcases h.2 with ⟨e0, _⟩ | ⟨g', cap', cur, e0, hb, hg, hn, hm, hs, ht⟩
  · cases e0
  · injection e0 with _ _ e3
    omega
theorem sw_below {w : World} {g B n : Nat} {dk : Array Int} {os : Array Obj} (hB : B ≤ g) (hs : B ≤ w.heap.size) : Below B w (sortWorld encV w g 0 n dk os) := by
  refine ⟨rfl, rfl, rfl, ?_, fun j hj => ?_⟩
  · simp [sortWorld, Sort.grow, Sort.putRow, Sort.mapBlock, Sort.ahead]
  · simp only [sortWorld, Sort.grow, Sort.putRow, Sort.mapBlock, Sort.ahead]
    rw [Array.getElem?_append_left (by simp; omega), Array.getElem?_modify, if_neg (by omega)]

set_option maxRecDepth 100000 in
set_option maxHeartbeats 4000000 in
theorem specMeet_any (a0 a1 a2 a3 : Option Addr) (cap0 cap1 cap2 cap3 : Nat) (xs0 : List ByteArray) (xs1 : List Wy) (xs2 xs3 : List St) (z : Int) (w : World) (hc0 : xs0.length ≤ cap0) (hc1 : cap0 ≤ 1048576) (hl0 : xs0.length ≤ 1048576) (hx0 : Rd encS w a0 xs0) (hs0 : ∀ m ∈ xs0, m.size ≤ 1048576) (hl1 : xs1.length ≤ 1048576) (hx1 : Rd encWy w a1 xs1) (hl2 : xs2.length ≤ 1048576) (hx2 : Rd encSt w a2 xs2) (hl3 : xs3.length ≤ 1048576) (hx3 : Rd encSt w a3 xs3) :
    Calls Tryz.prog 27 #[.agg #[.slice a0 xs0.length cap0, .slice a1 xs1.length cap1], .slice a2 xs2.length cap2, .slice a3 xs3.length cap3, .int .i64 z] w fun e w' => ∃ b c, e = .returned (.tuple #[.slice b (meetR xs0 xs1 xs2 xs3 z (codeM xs0 xs1 xs2 xs3 z)).1.length c, .int .i64 (meetR xs0 xs1 xs2 xs3 z (codeM xs0 xs1 xs2 xs3 z)).2]) ∧ w'.ownsRow w.heap.size 2 1 (.slice b (meetR xs0 xs1 xs2 xs3 z (codeM xs0 xs1 xs2 xs3 z)).1.length c) (meetR xs0 xs1 xs2 xs3 z (codeM xs0 xs1 xs2 xs3 z)).1.length ((meetR xs0 xs1 xs2 xs3 z (codeM xs0 xs1 xs2 xs3 z)).1.flatMap encI) ∧ Below w.heap.size w w' := by
  obtain ⟨i0, hi, hz0, hz1, hz2⟩ := info_parts infoI
  have HC := Lib.hid (fun W q (hB : Below w.heap.size w W) => l15Code_any a0 a1 a2 cap0 cap1 cap2 xs0 xs1 xs2 q W hc0 hc1 hl0 (hx0.below hB) hs0 hl1 (hx1.below hB) hl2 (hx2.below hB))
  have HIT := Lib.hid (fun W (hB : Below w.heap.size w W) => specIsItin_any a0 a1 a3 cap0 cap1 cap3 xs0 xs1 xs3 W hc0 hc1 hl0 (hx0.below hB) hs0 hl1 (hx1.below hB) hl3 (hx3.below hB))
  have hfacts := Lib.hid (codeM_zero (ps := xs0) (ws := xs1) (xs := xs2) (ys := xs3) (z := z))
  have hRz : Hid (codeM xs0 xs1 xs2 xs3 z = 0 → meetR xs0 xs1 xs2 xs3 z (codeM xs0 xs1 xs2 xs3 z) = (jxl (pM xs0.length xs1 xs2 xs3 z) xs0.length, 0)) := fun h => by unfold meetR; rw [if_pos h]
  have hRn : Hid (codeM xs0 xs1 xs2 xs3 z ≠ 0 → meetR xs0 xs1 xs2 xs3 z (codeM xs0 xs1 xs2 xs3 z) = ([], codeM xs0 xs1 xs2 xs3 z)) := fun h => by unfold meetR; rw [if_neg h]
  have HPL := Lib.hid (fun W => l01Day_any z W)
  have hcI : Hid (isItinB xs0 xs1 xs3 = true → codeM xs0 xs1 xs2 xs3 z = codeI xs0 xs1 xs2 (dayB z)) := fun h => by unfold codeM; rw [if_pos h]
  have hcN : Hid (isItinB xs0 xs1 xs3 = false → codeM xs0 xs1 xs2 xs3 z = 1) := fun h => by unfold codeM; rw [h]; rfl
  generalize codeM xs0 xs1 xs2 xs3 z = c at hfacts hRz hRn hcI hcN ⊢
  generalize hcc : codeI xs0 xs1 xs2 (dayB z) = d at hcI
  have HC := Lib.hid (fun W hB => hcc ▸ HC.out W (dayB z) hB)
  clear hcc
  have hday : Hid (c = 0 → dayB z = true) := fun h => (hfacts.out h).2.2
  generalize hpb : dayB z = q at HC HPL
  clear hpb
  generalize hW : w.alloc (.cells #[.slice a0 xs0.length cap0, .slice a1 xs1.length cap1] 33) = W
  have hA0 : At w [.slice a0 xs0.length cap0, .slice a1 xs1.length cap1] W := hW ▸ At.start _ _ _
  have b0 := hA0.cell 0 _ rfl
  have b1 := hA0.cell 1 _ rfl
  have hs := hA0.size
  go_enter Tryz.func27, Tryz.ntmps27
  go_wp2_with fail
  clear hW
  go_region_held_law (fun w' => w'.cell? ⟨w.heap.size, 0, none⟩ = some (.slice a0 xs0.length cap0) ∧ w'.cell? ⟨w.heap.size, 1, none⟩ = some (.slice a1 xs1.length cap1)) (first | exact ⟨b0, b1⟩ | exact ⟨(hB7.cell (p := ⟨w.heap.size, 0, none⟩) hs).trans b0, (hB7.cell (p := ⟨w.heap.size, 1, none⟩) hs).trans b1⟩) (first | (go_at_call 33; refine (HPL.out _).mono ?_; rintro e w6 ⟨rfl, rfl⟩) | (go_at_call 31; refine (HC.out _ (hA0.step (Below.refl _ W).drew).below).mono ?_; rintro e w7 ⟨rfl, hB7⟩) | fail)
  have hA1 := hA0.step (stepB (Below.refl _ W).drew hB7 (Nat.le_refl _))
  clear hA0 hB7 b0 b1 hs HC HPL
  generalize w7 = w1 at hA1 ⊢
  have b0 := hA1.cell 0 _ rfl
  have b1 := hA1.cell 1 _ rfl
  have HIT := Lib.hid (HIT.out _ hA1.below)
  cases hit : isItinB xs0 xs1 xs3
  · rw [hit] at HIT
    obtain rfl := hcN.out hit
    have hR := Lib.hid (hRn.out (by decide))
    clear hfacts hRz hRn hcI hcN hday hit
    go_wp2_with fail
    refine HIT.out.mono ?_
    rintro e w2 ⟨rfl, hB2⟩
    go_wp2
    go_ret2
    rw [hR.out]
    exact ⟨none, 0, rfl, World.ownsRow_nil _ _ _ _, (hA1.step hB2).below⟩
  · rw [hit] at HIT
    obtain rfl := hcI.out hit
    clear hcI hcN hday
    by_cases hc : c = 0
    · subst hc
      obtain ⟨_, hI2, _⟩ := hfacts.out rfl
      have hR := Lib.hid (hRz.out rfl)
      clear hfacts hRz hRn
      obtain ⟨hA, ho2, hl402⟩ := itin_facts hI2
      obtain ⟨_, ho3, hl403⟩ := itin_facts hit
      have hn12 := (landOk hA).2.2.1
      have HD2 := Lib.hid (fun W (hB : Below w.heap.size w W) => l15Places_any a0 a1 a2 cap0 cap1 cap2 xs0 xs1 xs2 z W hA hl402 ho2 (hx1.below hB) (hx2.below hB))
      have HD3 := Lib.hid (fun W (hB : Below w.heap.size w W) => l15Places_any a0 a1 a3 cap0 cap1 cap3 xs0 xs1 xs3 z W hA hl403 ho3 (hx1.below hB) (hx3.below hB))
      have hJ := jxl_meet (pP xs0.length xs1 xs2 z) (pP xs0.length xs1 xs3 z) xs0.length xs0.length (Nat.le_refl _)
      have hl2' := Nat.le_trans (jxl_len (pP xs0.length xs1 xs2 z) xs0.length) hn12
      have hl3' := Nat.le_trans (jxl_len (pP xs0.length xs1 xs3 z) xs0.length) hn12
      have hR' : Hid (meetR xs0 xs1 xs2 xs3 z 0 = ((jxl (pP xs0.length xs1 xs2 z) xs0.length).filter (fun x => (jxl (pP xs0.length xs1 xs3 z) xs0.length).any (isZ x)), 0)) := by unfold Hid; rw [hR.out, hJ]; rfl
      clear hR hJ hit hI2 hA
      generalize jxl (pP xs0.length xs1 xs2 z) xs0.length = ls at HD2 hl2' hR'
      generalize jxl (pP xs0.length xs1 xs3 z) xs0.length = ms at HD3 hl3' hR'
      go_wp2_with fail
      refine HIT.out.mono ?_
      rintro e w2 ⟨rfl, hB2⟩
      have hA2 := hA1.step hB2
      clear hA1 hB2 b0 b1 HIT
      have b0 := hA2.cell 0 _ rfl
      have b1 := hA2.cell 1 _ rfl
      have hs := hA2.size
      go_wp2_with fail
      go_region_held_law (fun w' => w'.cell? ⟨w.heap.size, 0, none⟩ = some (.slice a0 xs0.length cap0) ∧ w'.cell? ⟨w.heap.size, 1, none⟩ = some (.slice a1 xs1.length cap1)) (first | exact ⟨b0, b1⟩ | exact ⟨(hB6.cell (p := ⟨w.heap.size, 0, none⟩) hs).trans b0, (hB6.cell (p := ⟨w.heap.size, 1, none⟩) hs).trans b1⟩ | exact ⟨(hB7.cell (p := ⟨w.heap.size, 0, none⟩) (Nat.lt_of_lt_of_le hs hB6.size)).trans ((hB6.cell (p := ⟨w.heap.size, 0, none⟩) hs).trans b0), (hB7.cell (p := ⟨w.heap.size, 1, none⟩) (Nat.lt_of_lt_of_le hs hB6.size)).trans ((hB6.cell (p := ⟨w.heap.size, 1, none⟩) hs).trans b1)⟩) (first | (go_at_call 49; refine (HD3.out _ ((hA2.step (Below.refl _ w2).drew).step hB6).below).mono ?_; rintro e w7 ⟨g7, c7, rfl, ho7, hB7⟩) | (go_at_call 49; refine (HD2.out _ (hA2.step (Below.refl _ w2).drew).below).mono ?_; rintro e w6 ⟨g6, c6, rfl, ho6, hB6⟩) | fail)
      have r6 := (Rd.of_own encI_len (by decide) ho6).below hB7
      have r7 := Rd.of_own encI_len (by decide) ho7
      have hBe : Below w.heap.size w w7 := (((hA2.step (Below.refl _ w2).drew).step hB6).step hB7).below
      clear hA2 hB6 hB7 ho6 ho7 b0 b1 hs HD2 HD3
      have hown0 := World.ownsRow_made w7 #[] 0 (Nat.le_refl _) (by decide) rfl (e := 2) (size := 1)
      have hBo : Below w7.heap.size w7 (w7.alloc (.cells #[] 2)) := (Below.refl _ w7).alloc (Nat.le_refl _) _
      have HH := Lib.hid (fun x W (hB : Below w7.heap.size w7 W) => l01Has_any (some ⟨g7, 0, none⟩) c7 ms.length ms x W rfl (by omega) (r7.below hB))
      have hG : Hid (∀ x, ms.any (isZ x) = ms.any (isZ x)) := fun _ => rfl
      obtain ⟨gf, hgf⟩ : ∃ gf : Int → Bool, gf = fun x => ms.any (isZ x) := ⟨_, rfl⟩
      have hgv : ∀ x, gf x = ms.any (isZ x) := fun x => by rw [hgf]
      have HG := Lib.hid hgv
      have hR'' : Hid (meetR xs0 xs1 xs2 xs3 z 0 = (ls.filter gf, 0)) := by rw [hgf]; exact hR'
      clear hgf hgv hG hR' r7
      go_wp2
      go_loopw [13, 14] (fun o i wr => ∃ (k g c : Nat), k ≤ ls.length ∧ i = .int .i64 k ∧ o = .slice (some ⟨g, 0, none⟩) ((ls.take k).filter gf).length c ∧ wr.ownsRow w7.heap.size 2 1 (.slice (some ⟨g, 0, none⟩) ((ls.take k).filter gf).length c) ((ls.take k).filter gf).length (((ls.take k).filter gf).flatMap encI) ∧ Below w7.heap.size w7 wr) (fun _ i _ => ls.length - (intOf i).toNat)
      case atStart => exact ⟨0, _, _, Nat.zero_le _, rfl, rfl, hown0, hBo⟩
      case round =>
        clear hown0 hBo
        rename_i wr
        obtain ⟨k, g, c, hk, rfl, rfl, hown, hB⟩ := hrel
        have hlen : ((ls.take k).filter gf).length ≤ ls.length := Nat.le_trans (List.length_filter_le _ _) (by simp; omega)
        by_cases hlt : k < ls.length
        · have hk1 : (k : Int) < (ls.length : Int) := by omega
          have hm := List.getElem?_eq_getElem hlt
          have htk : ls.take (k + 1) = ls.take k ++ [ls[k]] := by rw [List.take_append_getElem]
          generalize ls[k] = x at hm htk
          obtain ⟨b, off, hbe, hb, c0⟩ := (r6.below hB).i hm
          obtain ⟨rfl, rfl⟩ : g6 = b ∧ 0 = off := by injection hbe with e1; injection e1 with e1 e2; exact ⟨e1, e2⟩
          clear hbe
          rw [Nat.zero_add] at c0
          have HX := Lib.hid (HG.out x ▸ HH.out x wr hB)
          clear hm
          cases hgx : gf x
          · rw [hgx] at HX
            have hst : Hid ((ls.take (k + 1)).filter gf = (ls.take k).filter gf) := by unfold Hid; rw [htk, List.filter_append]; simp [hgx]
            clear htk hgx
            go_wp2_with fail
            refine HX.out.mono ?_
            rintro e w3 ⟨rfl, rfl⟩
            go_wp2
            go_roundw
            case rel => exact ⟨k + 1, g, c, by omega, by go_num, by rw [hst.out], by rw [hst.out]; exact hown, hB⟩
            case measure => simp [intOf]; omega
          · rw [hgx] at HX
            have hst : Hid ((ls.take (k + 1)).filter gf = (ls.take k).filter gf ++ [x]) := by unfold Hid; rw [htk, List.filter_append]; simp [hgx]
            clear htk hgx
            generalize (ls.take k).filter gf = out at hown hst hlen ⊢
            go_wp2_with fail
            refine HX.out.mono ?_
            rintro e w3 ⟨rfl, rfl⟩
            go_wp2_with (at_builtin; refine wpList_append_own _ rfl _ _ 48 rfl w7.heap.size 2 i0 (.int .i64 0) 1 8 Tryz.underlying48 hi hz0 hz1 hz2 rfl (by decide) _ _ _ rfl (hown.alloc _) ⟨wr.heap.size, 0, none⟩ 1 1 [.int .i64 x] rfl rfl (cell_one_new _ _ _) ?c2 ?c3 ?c4 ?c5 ?_)
            case c2 => intro u hu; simp at hu; subst hu; rfl
            case c3 => unfold maxLen; omega
            case c4 => omega
            case c5 => have := hB.size; first | omega | (simp; omega)
            intro v' w6 hown' hgr _
            have hB' := (hB.alloc hB.size _).grown hgr (by have := hB.size; simp; omega) (fun x hx => (hown.lt x hx).1)
            obtain ⟨g', c', rfl⟩ := formJ hown' (by omega)
            clear hgr hown hB
            go_wp2
            go_roundw
            case rel => exact ⟨k + 1, g', c', by omega, by go_num, by rw [hst.out, List.length_append]; rfl, by rw [hst.out, List.length_append, List.flatMap_append]; exact hown', hB'⟩
            case measure => simp [intOf]; omega
        · obtain rfl : k = ls.length := by omega
          rw [List.take_length] at hown ⊢
          go_wp2
          go_ret2
          rw [hR''.out]
          exact ⟨_, _, rfl, own_base hown hBe.size, stepB hBe hB hBe.size⟩
    · have hR := Lib.hid (hRn.out hc)
      have hc2 : (c != 0) = true := by simpa using hc
      clear hfacts hRz hRn hit
      go_wp2_with fail
      refine HIT.out.mono ?_
      rintro e w2 ⟨rfl, hB2⟩
      go_wp2
      go_ret2
      rw [hR.out]
      exact ⟨none, 0, rfl, World.ownsRow_nil _ _ _ _, (hA1.step hB2).below⟩

theorem zvI (w : World) : (zeroValue 2).run Tryz.prog w = .ok (encV 0) w := Tryz.zeroValue2 w
set_option maxRecDepth 100000 in
set_option maxHeartbeats 4000000 in
theorem implMeet_any (a0 a1 a2 a3 : Option Addr) (cap0 cap1 cap2 cap3 : Nat) (xs0 : List ByteArray) (xs1 : List Wy) (xs2 xs3 : List St) (z : Int) (w : World) (hc0 : xs0.length ≤ cap0) (hc1 : cap0 ≤ 1048576) (hl0 : xs0.length ≤ 1048576) (hx0 : Rd encS w a0 xs0) (hs0 : ∀ m ∈ xs0, m.size ≤ 1048576) (hl1 : xs1.length ≤ 1048576) (hx1 : Rd encWy w a1 xs1) (hl2 : xs2.length ≤ 1048576) (hx2 : Rd encSt w a2 xs2) (hl3 : xs3.length ≤ 1048576) (hx3 : Rd encSt w a3 xs3) :
    Calls Tryz.prog 28 #[.agg #[.slice a0 xs0.length cap0, .slice a1 xs1.length cap1], .slice a2 xs2.length cap2, .slice a3 xs3.length cap3, .int .i64 z] w fun e w' => ∃ b c, e = .returned (.tuple #[.slice b (meetR xs0 xs1 xs2 xs3 z (codeM xs0 xs1 xs2 xs3 z)).1.length c, .int .i64 (meetR xs0 xs1 xs2 xs3 z (codeM xs0 xs1 xs2 xs3 z)).2]) ∧ w'.ownsRow w.heap.size 2 1 (.slice b (meetR xs0 xs1 xs2 xs3 z (codeM xs0 xs1 xs2 xs3 z)).1.length c) (meetR xs0 xs1 xs2 xs3 z (codeM xs0 xs1 xs2 xs3 z)).1.length ((meetR xs0 xs1 xs2 xs3 z (codeM xs0 xs1 xs2 xs3 z)).1.flatMap encI) ∧ Below w.heap.size w w' := by
  have HI2 := Lib.hid (fun W (hB : Below w.heap.size w W) => implIsItin_any a0 a1 a2 cap0 cap1 cap2 xs0 xs1 xs2 W hc0 hc1 hl0 (hx0.below hB) hs0 hl1 (hx1.below hB) hl2 (hx2.below hB))
  have HI3 := Lib.hid (fun W (hB : Below w.heap.size w W) => implIsItin_any a0 a1 a3 cap0 cap1 cap3 xs0 xs1 xs3 W hc0 hc1 hl0 (hx0.below hB) hs0 hl1 (hx1.below hB) hl3 (hx3.below hB))
  have HDY := Lib.hid (fun W => isDay_any z W)
  have hcode : codeM xs0 xs1 xs2 xs3 z = if isItinB xs0 xs1 xs3 then (if isItinB xs0 xs1 xs2 then (if dayB z then 0 else 2) else 1) else 1 := rfl
  have hRz : Hid (codeM xs0 xs1 xs2 xs3 z = 0 → meetR xs0 xs1 xs2 xs3 z (codeM xs0 xs1 xs2 xs3 z) = (jxl (pM xs0.length xs1 xs2 xs3 z) xs0.length, 0)) := fun h => by unfold meetR; rw [if_pos h]
  have hRn : Hid (codeM xs0 xs1 xs2 xs3 z ≠ 0 → meetR xs0 xs1 xs2 xs3 z (codeM xs0 xs1 xs2 xs3 z) = ([], codeM xs0 xs1 xs2 xs3 z)) := fun h => by unfold meetR; rw [if_neg h]
  generalize codeM xs0 xs1 xs2 xs3 z = c at hcode hRz hRn ⊢
  have hA0 : At w [.slice a0 xs0.length cap0, .slice a1 xs1.length cap1] (w.alloc (.cells #[.slice a0 xs0.length cap0, .slice a1 xs1.length cap1] 33)) := At.start _ _ _
  cases h2 : isItinB xs0 xs1 xs2
  · have HI2 := Lib.hid (fun W hB => h2 ▸ HI2.out W hB)
    have hc1' : c = 1 := by rw [hcode, h2]; cases isItinB xs0 xs1 xs3 <;> rfl
    subst hc1'
    have hR := Lib.hid (hRn.out (by decide))
    clear hcode hRz hRn h2 HI3 HDY
    go_enter Tryz.func28, Tryz.ntmps28
    go_wp2_with fail
    refine (HI2.out _ hA0.below).mono ?_
    rintro e w2 ⟨rfl, hB2⟩
    go_wp2
    go_ret2
    rw [hR.out]
    exact ⟨none, 0, rfl, World.ownsRow_nil _ _ _ _, (hA0.step hB2).below⟩
  have HI2 := Lib.hid (fun W hB => h2 ▸ HI2.out W hB)
  cases h3 : isItinB xs0 xs1 xs3
  · have HI3 := Lib.hid (fun W hB => h3 ▸ HI3.out W hB)
    have hc1' : c = 1 := by rw [hcode, h3]; rfl
    subst hc1'
    have hR := Lib.hid (hRn.out (by decide))
    clear hcode hRz hRn h2 h3 HDY
    go_enter Tryz.func28, Tryz.ntmps28
    go_wp2_with fail
    refine (HI2.out _ hA0.below).mono ?_
    rintro e w2 ⟨rfl, hB2⟩
    have hA1 := hA0.step hB2
    have b0 := hA1.cell 0 _ rfl
    have b1 := hA1.cell 1 _ rfl
    clear hA0 hB2
    go_wp2_with fail
    refine (HI3.out _ hA1.below).mono ?_
    rintro e w3 ⟨rfl, hB3⟩
    go_wp2
    go_ret2
    rw [hR.out]
    exact ⟨none, 0, rfl, World.ownsRow_nil _ _ _ _, (hA1.step hB3).below⟩
  have HI3 := Lib.hid (fun W hB => h3 ▸ HI3.out W hB)
  cases hd : dayB z
  · have HDY := Lib.hid (fun W => hd ▸ HDY.out W)
    have hc1' : c = 2 := by rw [hcode, h2, h3, hd]; rfl
    subst hc1'
    have hR := Lib.hid (hRn.out (by decide))
    clear hcode hRz hRn h2 h3 hd
    go_enter Tryz.func28, Tryz.ntmps28
    go_wp2_with fail
    refine (HI2.out _ hA0.below).mono ?_
    rintro e w2 ⟨rfl, hB2⟩
    have hA1 := hA0.step hB2
    have b0 := hA1.cell 0 _ rfl
    have b1 := hA1.cell 1 _ rfl
    clear hA0 hB2
    go_wp2_with fail
    refine (HI3.out _ hA1.below).mono ?_
    rintro e w3 ⟨rfl, hB3⟩
    have hA1 := hA1.step hB3
    clear hB3 b0 b1
    go_wp2_with fail
    refine (HDY.out _).mono ?_
    rintro e w4 ⟨rfl, rfl⟩
    go_wp2
    go_ret2
    rw [hR.out]
    exact ⟨none, 0, rfl, World.ownsRow_nil _ _ _ _, hA1.below⟩
  have HDY := Lib.hid (fun W => hd ▸ HDY.out W)
  have hc1' : c = 0 := by rw [hcode, h2, h3, hd]; rfl
  subst hc1'
  have hR := Lib.hid (hRz.out rfl)
  obtain ⟨hA, ho2, hl402⟩ := itin_facts h2
  obtain ⟨_, ho3, hl403⟩ := itin_facts h3
  have hn12 := (landOk hA).2.2.1
  have HD2 := Lib.hid (fun W (hB : Below w.heap.size w W) => possPlaces_any a0 a1 a2 cap0 cap1 cap2 xs0 xs1 xs2 z W hA hl402 ho2 (hx1.below hB) (hx2.below hB))
  have HD3 := Lib.hid (fun W (hB : Below w.heap.size w W) => possPlaces_any a0 a1 a3 cap0 cap1 cap3 xs0 xs1 xs3 z W hA hl403 ho3 (hx1.below hB) (hx3.below hB))
  have hJ := jxl_meet (pP xs0.length xs1 xs2 z) (pP xs0.length xs1 xs3 z) xs0.length xs0.length (Nat.le_refl _)
  have hl2' := Nat.le_trans (jxl_len (pP xs0.length xs1 xs2 z) xs0.length) hn12
  have hl3' := Nat.le_trans (jxl_len (pP xs0.length xs1 xs3 z) xs0.length) hn12
  have hR' : Hid (meetR xs0 xs1 xs2 xs3 z 0 = ((jxl (pP xs0.length xs1 xs2 z) xs0.length).filter (fun x => (jxl (pP xs0.length xs1 xs3 z) xs0.length).any (isZ x)), 0)) := by unfold Hid; rw [hR.out, hJ]; rfl
  clear hR hJ hcode hRz hRn h2 h3 hd hA
  generalize jxl (pP xs0.length xs1 xs2 z) xs0.length = ls at HD2 hl2' hR'
  generalize jxl (pP xs0.length xs1 xs3 z) xs0.length = ms at HD3 hl3' hR'
  go_enter Tryz.func28, Tryz.ntmps28
  go_wp2_with fail
  refine (HI2.out _ hA0.below).mono ?_
  rintro e w2 ⟨rfl, hB2⟩
  have hA1 := hA0.step hB2
  have b0 := hA1.cell 0 _ rfl
  have b1 := hA1.cell 1 _ rfl
  clear hA0 hB2
  go_wp2_with fail
  refine (HI3.out _ hA1.below).mono ?_
  rintro e w3 ⟨rfl, hB3⟩
  have hA1 := hA1.step hB3
  clear hB3 b0 b1
  have b0 := hA1.cell 0 _ rfl
  have b1 := hA1.cell 1 _ rfl
  go_wp2_with fail
  refine (HDY.out _).mono ?_
  rintro e w4 ⟨rfl, rfl⟩
  go_wp2_with fail
  refine (HD3.out _ hA1.below).mono ?_
  rintro e w5 ⟨g3, c3, rfl, ho3', hB5⟩
  have hA5 := hA1.step hB5
  have r3 := Rd.of_own encI_len (by decide) ho3'
  clear hA1 hB5 b0 b1 ho3'
  generalize hW6 : w5.alloc (.cells #[.slice (some ⟨g3, 0, none⟩) ms.length c3] 48) = w6
  have hBo : Below w5.heap.size w5 w6 := by rw [← hW6]; exact (Below.refl _ _).alloc (Nat.le_refl _) _
  have k0 : w6.cell? ⟨w5.heap.size, 0, none⟩ = some (.slice (some ⟨g3, 0, none⟩) ms.length c3) := by rw [← hW6]; exact World.cell?_alloc_at _ _ _ _ rfl
  have hn6 : w5.heap.size < w6.heap.size := by rw [← hW6]; simp
  have hA6 := hA5.step hBo
  have r3 := r3.below hBo
  have b0 := hA6.cell 0 _ rfl
  have b1 := hA6.cell 1 _ rfl
  clear hA5 hBo
  go_wp2_with fail
  clear hW6
  refine (HD2.out _ hA6.below).mono ?_
  rintro e w7 ⟨g7, c7, rfl, ho7, hB7⟩
  have hA7 := hA6.step hB7
  have hg7 := (own_lt ho7).1
  have hown7 := own_base ho7 hA6.below.size
  have r3' : ∀ W, Below w6.heap.size w6 W → Rd encI W (some ⟨g3, 0, none⟩) ms := fun W hB => r3.below hB
  have HCL := Lib.hid (fun W (hB : Below w6.heap.size w6 W) x => meetClo_any w6.heap.size w5.heap.size g3 c3 ms w6 k0 hn6 (by omega) r3' W hB x)
  have hBe := hA7.below
  have eg : ∀ args w, (callFunc 56 args).run Tryz.prog w = .ok (.enter 56 args) w := enters_of Tryz.func56 (by kernel_rfl) rfl
  have hcon := AnyE.slices_DeleteFunc Tryz.delI encV (fun _ => rfl) (fun x => !ms.any (isZ x)) 56 #[.pointer (some ⟨w5.heap.size, 0, none⟩)] eg 0 zvI g7 0 c7 ls.toArray w7 ?hp ?hpo (holdsV hown7) ?hsz ?hcap
  case hp => exact fun W x hB => (HCL.out W (hB7.trans (hB.mono hB7.size)) x).mono fun e w' h => ⟨h.1, 0, h.2.symm⟩
  case hpo => exact fun n os dk x _ => (HCL.out _ (hB7.trans (sw_below hg7 hB7.size)) x).mono fun e w' h => ⟨h.1, 0, h.2.symm⟩
  case hsz => simp; omega
  case hcap => simp; exact own_cap hown7
  have hgr : ls.filter (fun x => !(!ms.any (isZ x))) = ls.filter (fun x => ms.any (isZ x)) := by simp
  have hle := List.length_filter_le (fun x => ms.any (isZ x)) ls
  rw [List.size_toArray] at hcon
  change Calls Tryz.prog 55 _ _ _ at hcon
  simp only [hgr] at hcon
  generalize ls.filter (fun x => ms.any (isZ x)) = ys at hcon hle hR'
  have hcon := Lib.hid (hcon.mono (R' := fun e w' => e = .returned (.slice (some ⟨g7, 0, none⟩) ys.length c7) ∧ w'.ownsRow w.heap.size 2 1 (.slice (some ⟨g7, 0, none⟩) ys.length c7) ys.length (ys.flatMap encI) ∧ w7.grownBy w' (some g7)) (by
    rintro e w' ⟨rfl, q, rfl⟩
    have hc := own_cut (q := q) (ys := ys) (rs := List.replicate (ls.length - ys.length) 0) hown7 (by simp; omega)
    exact ⟨rfl, hc.1, hc.2⟩))
  have hg0 : w.heap.size ≤ g7 := Nat.le_trans hA6.below.size hg7
  clear eg HCL r3' k0 r3 b0 b1 hA6 hA7 hB7 hg7 ho7 hown7 hgr
  go_wp2_with fail
  refine hcon.out.mono ?_
  rintro e w8 ⟨rfl, hown8, hgw⟩
  go_wp2
  go_ret2
  rw [hR'.out]
  exact ⟨_, _, rfl, hown8, hBe.grown hgw hBe.size (fun g e => by cases e; exact hg0)⟩
end

section
open Go.ChangeShapes Go.WideShapes Go.ChangeAt Go.RowKit

set_option maxRecDepth 100000 in
set_option maxHeartbeats 4000000 in
theorem lawMeet_any (a0 : Option Addr) (cap0 : Nat) (xs0 : List ByteArray) (a1 : Option Addr) (cap1 : Nat) (xs1 : List Wy) (aX1 : Option Addr) (capX1 : Nat) (xsX1 : List St) (aX2 : Option Addr) (capX2 : Nat) (xsX2 : List St) (y3 : Int) (w : World) (hl0 : xs0.length ≤ maxLen) (hx0 : Rd encS w a0 xs0) (hs0 : ∀ m ∈ xs0, goodS m) (hl1 : xs1.length ≤ maxLen) (hx1 : Rd encWy w a1 xs1) (_hs1 : ∀ m ∈ xs1, goodWy m) (hlX1 : xsX1.length ≤ maxLen) (hxX1 : Rd encSt w aX1 xsX1) (_hsX1 : ∀ m ∈ xsX1, goodSt m) (hlX2 : xsX2.length ≤ maxLen) (hxX2 : Rd encSt w aX2 xsX2) (_hsX2 : ∀ m ∈ xsX2, goodSt m) (_hy3 : -9223372036854775808 ≤ y3 ∧ y3 ≤ 9223372036854775807) :
    Calls Tryz.prog 6 #[.agg #[.slice a0 xs0.length cap0, .slice a1 xs1.length cap1], .slice aX1 xsX1.length capX1, .slice aX2 xsX2.length capX2, .int .i64 y3] w fun e w' => e = .returned (.bool true) ∧ Below w.heap.size w w' := by
  have hsz := fun W (h0 : Rd encS W a0 xs0) (h1 : Rd encWy W a1 xs1) => szLand_any a0 cap0 xs0 a1 cap1 xs1 1048576 W (by omega) (by omega) hl0 h0 hs0 hl1
  have HSZ := Lib.hid hsz
  clear hsz
  by_cases hq : szLand xs0 xs1 1048576 < 0
  · have hq1 := hq
    go_enter Tryz.func6, Tryz.ntmps6
    go_wp2_with fail
    generalize hW : w.alloc (.cells #[.slice a0 xs0.length cap0, .slice a1 xs1.length cap1] 25) = W0
    have hB : Below w.heap.size w W0 := by rw [← hW]; go_grown
    have hn0 : w.heap.size < W0.heap.size := by rw [← hW]; simp
    have A0 : W0.cell? ⟨w.heap.size, 0, none⟩ = some (.slice a0 xs0.length cap0) := by rw [← hW]; exact World.cell?_alloc_at _ _ _ _ rfl
    have A1 : W0.cell? ⟨w.heap.size, 1, none⟩ = some (.slice a1 xs1.length cap1) := by rw [← hW]; exact World.cell?_alloc_at _ _ _ _ rfl
    clear hW
    refine (HSZ.out _ (hx0.below hB) (hx1.below hB)).mono ?_
    rintro e w1 ⟨rfl, hB1⟩
    go_wp2
    go_ret
    exact ⟨rfl, stepB hB hB1 hB.size⟩
  have hok := szLand_ok hq
  have hq0 : ¬ szS ByteArray.size xs0 1048576 < 0 := hok.1
  obtain ⟨ho0, hn0⟩ := szS_ok (Int.not_lt.1 hq0)
  have hlen0 : xs0.length ≤ 1048576 := by omega
  have hsm0 : ∀ m ∈ xs0, ByteArray.size m ≤ 1048576 := fun m hm => by have h1 := le_sumS ByteArray.size hm; omega
  have hq1 : ¬ clip ((szS ByteArray.size xs0 1048576) - xs1.length) < 0 := hok.2
  have hlen1 : xs1.length ≤ 1048576 := by unfold clip at hq1; split at hq1 <;> omega
  have hle : szLand xs0 xs1 1048576 ≤ 1048576 := by unfold szLand; rw [if_neg hq0, if_neg hq1]; unfold clip; split <;> omega
  have hge : 0 ≤ szLand xs0 xs1 1048576 := Int.not_lt.1 hq
  have hszX1 := fun W (h : Rd encSt W aX1 xsX1) => szStayS_any aX1 capX1 xsX1 (szLand xs0 xs1 1048576) W (by omega) (by omega) hlX1
  have HSZX1 := Lib.hid hszX1
  clear hszX1
  by_cases hqX1 : clip (szLand xs0 xs1 1048576 - xsX1.length) < 0
  · have hq1' : 0 ≤ szLand xs0 xs1 1048576 := hge
    go_enter Tryz.func6, Tryz.ntmps6
    go_wp2_with fail
    generalize hW : w.alloc (.cells #[.slice a0 xs0.length cap0, .slice a1 xs1.length cap1] 25) = W0
    have hB : Below w.heap.size w W0 := by rw [← hW]; go_grown
    have hn0 : w.heap.size < W0.heap.size := by rw [← hW]; simp
    have A0 : W0.cell? ⟨w.heap.size, 0, none⟩ = some (.slice a0 xs0.length cap0) := by rw [← hW]; exact World.cell?_alloc_at _ _ _ _ rfl
    have A1 : W0.cell? ⟨w.heap.size, 1, none⟩ = some (.slice a1 xs1.length cap1) := by rw [← hW]; exact World.cell?_alloc_at _ _ _ _ rfl
    clear hW
    refine (HSZ.out _ (hx0.below hB) (hx1.below hB)).mono ?_
    rintro e w1 ⟨rfl, hB1⟩
    have hB := stepB hB hB1 hB.size
    go_wp2_with fail
    refine (HSZX1.out _ (hxX1.below hB)).mono ?_
    rintro e w2 ⟨rfl, hB2⟩
    have hB := stepB hB hB2 hB.size
    go_wp2
    go_ret
    exact ⟨rfl, hB⟩
  have hlenX1 : xsX1.length ≤ 1048576 := by unfold clip at hqX1; split at hqX1 <;> omega
  have hleX1 : clip (szLand xs0 xs1 1048576 - xsX1.length) ≤ 1048576 := by unfold clip; split <;> omega
  have hqX1 : 0 ≤ clip (szLand xs0 xs1 1048576 - xsX1.length) := Int.not_lt.1 hqX1
  have hszX2 := fun W (h : Rd encSt W aX2 xsX2) => szStayS_any aX2 capX2 xsX2 (clip (szLand xs0 xs1 1048576 - xsX1.length)) W (by omega) (by omega) hlX2
  have HSZX2 := Lib.hid hszX2
  clear hszX2
  by_cases hqX2 : clip (clip (szLand xs0 xs1 1048576 - xsX1.length) - xsX2.length) < 0
  · have hq1' : 0 ≤ szLand xs0 xs1 1048576 := hge
    go_enter Tryz.func6, Tryz.ntmps6
    go_wp2_with fail
    generalize hW : w.alloc (.cells #[.slice a0 xs0.length cap0, .slice a1 xs1.length cap1] 25) = W0
    have hB : Below w.heap.size w W0 := by rw [← hW]; go_grown
    have hn0 : w.heap.size < W0.heap.size := by rw [← hW]; simp
    have A0 : W0.cell? ⟨w.heap.size, 0, none⟩ = some (.slice a0 xs0.length cap0) := by rw [← hW]; exact World.cell?_alloc_at _ _ _ _ rfl
    have A1 : W0.cell? ⟨w.heap.size, 1, none⟩ = some (.slice a1 xs1.length cap1) := by rw [← hW]; exact World.cell?_alloc_at _ _ _ _ rfl
    clear hW
    refine (HSZ.out _ (hx0.below hB) (hx1.below hB)).mono ?_
    rintro e w1 ⟨rfl, hB1⟩
    have hB := stepB hB hB1 hB.size
    go_wp2_with fail
    refine (HSZX1.out _ (hxX1.below hB)).mono ?_
    rintro e w2 ⟨rfl, hB2⟩
    have hB := stepB hB hB2 hB.size
    go_wp2_with fail
    refine (HSZX2.out _ (hxX2.below hB)).mono ?_
    rintro e w2 ⟨rfl, hB2⟩
    have hB := stepB hB hB2 hB.size
    go_wp2
    go_ret
    exact ⟨rfl, hB⟩
  have hlenX2 : xsX2.length ≤ 1048576 := by unfold clip at hqX2; split at hqX2 <;> omega
  have hleX2 : clip (clip (szLand xs0 xs1 1048576 - xsX1.length) - xsX2.length) ≤ 1048576 := by unfold clip; split <;> omega
  have hqX2 : 0 ≤ clip (clip (szLand xs0 xs1 1048576 - xsX1.length) - xsX2.length) := Int.not_lt.1 hqX2
  clear hleX1 hleX2
  clear ho0 hn0 hok hq0 hq1
  have hq1 : 0 ≤ szLand xs0 xs1 1048576 := Int.not_lt.1 hq
  have HSP := Lib.hid (fun (A0 : Option Addr) (A1 : Option Addr) (AX1 : Option Addr) (AX2 : Option Addr) W (h0 : Rd encS W A0 xs0) (h1 : Rd encWy W A1 xs1) (hX1 : Rd encSt W AX1 xsX1) (hX2 : Rd encSt W AX2 xsX2) => specMeet_any A0 A1 AX1 AX2 xs0.length xs1.length xsX1.length xsX2.length xs0 xs1 xsX1 xsX2 y3 W (Nat.le_refl _) hlen0 hlen0 h0 hsm0 hlen1 h1 hlenX1 hX1 hlenX2 hX2)
  have HIM := Lib.hid (fun (A0 : Option Addr) (A1 : Option Addr) (AX1 : Option Addr) (AX2 : Option Addr) W (h0 : Rd encS W A0 xs0) (h1 : Rd encWy W A1 xs1) (hX1 : Rd encSt W AX1 xsX1) (hX2 : Rd encSt W AX2 xsX2) => implMeet_any A0 A1 AX1 AX2 xs0.length xs1.length xsX1.length xsX2.length xs0 xs1 xsX1 xsX2 y3 W (Nat.le_refl _) hlen0 hlen0 h0 hsm0 hlen1 h1 hlenX1 hX1 hlenX2 hX2)
  have hlR : (meetR xs0 xs1 xsX1 xsX2 y3 (codeM xs0 xs1 xsX1 xsX2 y3)).1.length ≤ 1048576 := meetR_len xs0 xs1 xsX1 xsX2 y3 _ hlen0
  generalize meetR xs0 xs1 xsX1 xsX2 y3 (codeM xs0 xs1 xsX1 xsX2 y3) = R at HSP HIM hlR
  obtain ⟨ys, q⟩ := R
  simp only at HSP HIM hlR
  have HE := Lib.hid (fun (A B : Option Addr) (C D : Nat) W (h1 : Rd encI W A ys) (h2 : Rd encI W B ys) => eqInt64S_self A B C D ys W (by omega) h1 h2)
  have hqq : (q != q) = false := by simp
  go_enter Tryz.func6, Tryz.ntmps6
  go_wp2_with fail
  generalize hW : w.alloc (.cells #[.slice a0 xs0.length cap0, .slice a1 xs1.length cap1] 25) = W0
  have hB : Below w.heap.size w W0 := by rw [← hW]; go_grown
  have hn0 : w.heap.size < W0.heap.size := by rw [← hW]; simp
  have A0 : W0.cell? ⟨w.heap.size, 0, none⟩ = some (.slice a0 xs0.length cap0) := by rw [← hW]; exact World.cell?_alloc_at _ _ _ _ rfl
  have A1 : W0.cell? ⟨w.heap.size, 1, none⟩ = some (.slice a1 xs1.length cap1) := by rw [← hW]; exact World.cell?_alloc_at _ _ _ _ rfl
  clear hW
  refine (HSZ.out _ (hx0.below hB) (hx1.below hB)).mono ?_
  rintro e W1 ⟨rfl, hB1⟩
  have A0 := (hB1.cell (p := ⟨w.heap.size, 0, none⟩) hn0).trans A0
  have A1 := (hB1.cell (p := ⟨w.heap.size, 1, none⟩) hn0).trans A1
  have hn0 := Nat.lt_of_lt_of_le hn0 hB1.size
  have hB := stepB hB hB1 hB.size
  clear hB1
  go_wp2_with fail
  refine (HSZX1.out _ (hxX1.below hB)).mono ?_
  rintro e W2 ⟨rfl, hB1⟩
  have A0 := (hB1.cell (p := ⟨w.heap.size, 0, none⟩) hn0).trans A0
  have A1 := (hB1.cell (p := ⟨w.heap.size, 1, none⟩) hn0).trans A1
  have hn0 := Nat.lt_of_lt_of_le hn0 hB1.size
  have hB := stepB hB hB1 hB.size
  clear hB1
  go_wp2_with fail
  refine (HSZX2.out _ (hxX2.below hB)).mono ?_
  rintro e W3 ⟨rfl, hB1⟩
  have A0 := (hB1.cell (p := ⟨w.heap.size, 0, none⟩) hn0).trans A0
  have A1 := (hB1.cell (p := ⟨w.heap.size, 1, none⟩) hn0).trans A1
  have hn0 := Nat.lt_of_lt_of_le hn0 hB1.size
  have hB := stepB hB hB1 hB.size
  clear hB1
  clear hle hge
  go_wp2_with fail
  refine (toLand_any a0 cap0 xs0 a1 cap1 xs1 _ hlen0 (hx0.below hB) hlen1 (hx1.below hB)).mono ?_
  rintro e W4 ⟨ga0, ga1, rfl, oa0, oa1, hB1⟩
  have A0 := (hB1.cell (p := ⟨w.heap.size, 0, none⟩) hn0).trans A0
  have A1 := (hB1.cell (p := ⟨w.heap.size, 1, none⟩) hn0).trans A1
  have hn0 := Nat.lt_of_lt_of_le hn0 hB1.size
  have hB := stepB hB hB1 hB.size
  clear hB1
  go_wp2_with fail
  refine (toStayS_any aX1 capX1 xsX1 _ hlenX1 (hxX1.below hB)).mono ?_
  rintro e W5 ⟨gaX1, rfl, oaX1, hB1⟩
  have A0 := (hB1.cell (p := ⟨w.heap.size, 0, none⟩) hn0).trans A0
  have A1 := (hB1.cell (p := ⟨w.heap.size, 1, none⟩) hn0).trans A1
  have hn0 := Nat.lt_of_lt_of_le hn0 hB1.size
  have oa0 := own_below oa0 hB1
  have oa1 := own_below oa1 hB1
  have hB := stepB hB hB1 hB.size
  clear hB1
  go_wp2_with fail
  refine (toStayS_any aX2 capX2 xsX2 _ hlenX2 (hxX2.below hB)).mono ?_
  rintro e W6 ⟨gaX2, rfl, oaX2, hB1⟩
  have A0 := (hB1.cell (p := ⟨w.heap.size, 0, none⟩) hn0).trans A0
  have A1 := (hB1.cell (p := ⟨w.heap.size, 1, none⟩) hn0).trans A1
  have hn0 := Nat.lt_of_lt_of_le hn0 hB1.size
  have oa0 := own_below oa0 hB1
  have oa1 := own_below oa1 hB1
  have oaX1 := own_below oaX1 hB1
  have hB := stepB hB hB1 hB.size
  clear hB1
  go_wp2_with fail
  refine (HSP.out _ _ _ _ _ (Rd.of_own encS_len (by decide) oa0) (Rd.of_own encWy_len (by decide) oa1) (Rd.of_own encSt_len (by decide) oaX1) (Rd.of_own encSt_len (by decide) oaX2)).mono ?_
  rintro e W7 ⟨bw, cw, rfl, ow0, hB1⟩
  have owb := hn0
  have A0 := (hB1.cell (p := ⟨w.heap.size, 0, none⟩) hn0).trans A0
  have A1 := (hB1.cell (p := ⟨w.heap.size, 1, none⟩) hn0).trans A1
  have hn0 := Nat.lt_of_lt_of_le hn0 hB1.size
  have oa0 := own_below oa0 hB1
  have oa1 := own_below oa1 hB1
  have oaX1 := own_below oaX1 hB1
  have oaX2 := own_below oaX2 hB1
  have hB := stepB hB hB1 hB.size
  clear hB1
  have ow := Own.of ow0
  have owc := Nat.le_refl W7.heap.size
  clear ow0
  clear oa0 oa1 oaX1 oaX2
  go_wp2_with fail
  refine (toLand_any a0 cap0 xs0 a1 cap1 xs1 _ hlen0 (hx0.below hB) hlen1 (hx1.below hB)).mono ?_
  rintro e W8 ⟨gb0, gb1, rfl, ob0, ob1, hB1⟩
  have lo0 := Nat.le_trans owc (own_lt ob0).1
  have hi0 := (own_lt ob0).2
  have lb0 := Nat.lt_of_lt_of_le hn0 (own_lt ob0).1
  have lo1 := Nat.le_trans owc (own_lt ob1).1
  have hi1 := (own_lt ob1).2
  have lb1 := Nat.lt_of_lt_of_le hn0 (own_lt ob1).1
  have A0 := (hB1.cell (p := ⟨w.heap.size, 0, none⟩) hn0).trans A0
  have A1 := (hB1.cell (p := ⟨w.heap.size, 1, none⟩) hn0).trans A1
  have hn0 := Nat.lt_of_lt_of_le hn0 hB1.size
  have ow := ow.below hB1
  have owc := Nat.le_trans owc hB1.size
  have hB := stepB hB hB1 hB.size
  clear hB1
  have hxx := Nat.le_refl W8.heap.size
  go_wp2_with fail
  generalize hW : W8.alloc (.cells #[.slice (some ⟨gb0, 0, none⟩) xs0.length xs0.length, .slice (some ⟨gb1, 0, none⟩) xs1.length xs1.length] 33) = WB
  have hB1 : Below W8.heap.size W8 WB := by rw [← hW]; go_grown
  have hn2 : W8.heap.size < WB.heap.size := by rw [← hW]; simp
  have X0 : WB.cell? ⟨W8.heap.size, 0, none⟩ = some (.slice (some ⟨gb0, 0, none⟩) xs0.length xs0.length) := by rw [← hW]; exact World.cell?_alloc_at _ _ _ _ rfl
  have X1 : WB.cell? ⟨W8.heap.size, 1, none⟩ = some (.slice (some ⟨gb1, 0, none⟩) xs1.length xs1.length) := by rw [← hW]; exact World.cell?_alloc_at _ _ _ _ rfl
  clear hW
  have A0 := (hB1.cell (p := ⟨w.heap.size, 0, none⟩) hn0).trans A0
  have A1 := (hB1.cell (p := ⟨w.heap.size, 1, none⟩) hn0).trans A1
  have hn0 := Nat.lt_of_lt_of_le hn0 hB1.size
  have ob0 := own_below ob0 hB1
  have ob1 := own_below ob1 hB1
  have ow := ow.below hB1
  have owc := Nat.le_trans owc hB1.size
  have hxx := Nat.le_trans hxx hB1.size
  have hB := stepB hB hB1 hB.size
  clear hB1
  refine (toStayS_any aX1 capX1 xsX1 _ hlenX1 (hxX1.below hB)).mono ?_
  rintro e W9 ⟨gbX1, rfl, obX1, hB1⟩
  have loX1 := Nat.le_trans owc (own_lt obX1).1
  have hiX1 := (own_lt obX1).2
  have lbX1 := Nat.lt_of_lt_of_le hn0 (own_lt obX1).1
  have apX1_0 := Nat.lt_of_lt_of_le hi0 (Nat.le_trans hxx (own_lt obX1).1)
  have apX1_1 := Nat.lt_of_lt_of_le hi1 (Nat.le_trans hxx (own_lt obX1).1)
  have A0 := (hB1.cell (p := ⟨w.heap.size, 0, none⟩) hn0).trans A0
  have A1 := (hB1.cell (p := ⟨w.heap.size, 1, none⟩) hn0).trans A1
  have X0 := (hB1.cell (p := ⟨W8.heap.size, 0, none⟩) hn2).trans X0
  have X1 := (hB1.cell (p := ⟨W8.heap.size, 1, none⟩) hn2).trans X1
  have hn0 := Nat.lt_of_lt_of_le hn0 hB1.size
  have hn2 := Nat.lt_of_lt_of_le hn2 hB1.size
  have ob0 := own_below ob0 hB1
  have ob1 := own_below ob1 hB1
  have ow := ow.below hB1
  have owc := Nat.le_trans owc hB1.size
  have hxx := Nat.le_trans hxx hB1.size
  have hB := stepB hB hB1 hB.size
  clear hB1
  have hxxX1 := Nat.le_refl W9.heap.size
  go_wp2_with fail
  refine (toStayS_any aX2 capX2 xsX2 _ hlenX2 (hxX2.below hB)).mono ?_
  rintro e W10 ⟨gbX2, rfl, obX2, hB1⟩
  have loX2 := Nat.le_trans owc (own_lt obX2).1
  have hiX2 := (own_lt obX2).2
  have lbX2 := Nat.lt_of_lt_of_le hn0 (own_lt obX2).1
  have apX2_0 := Nat.lt_of_lt_of_le hi0 (Nat.le_trans hxx (own_lt obX2).1)
  have apX2_1 := Nat.lt_of_lt_of_le hi1 (Nat.le_trans hxx (own_lt obX2).1)
  have apX2_X1 := Nat.lt_of_lt_of_le hiX1 (Nat.le_trans hxxX1 (own_lt obX2).1)
  have A0 := (hB1.cell (p := ⟨w.heap.size, 0, none⟩) hn0).trans A0
  have A1 := (hB1.cell (p := ⟨w.heap.size, 1, none⟩) hn0).trans A1
  have X0 := (hB1.cell (p := ⟨W8.heap.size, 0, none⟩) hn2).trans X0
  have X1 := (hB1.cell (p := ⟨W8.heap.size, 1, none⟩) hn2).trans X1
  have hn0 := Nat.lt_of_lt_of_le hn0 hB1.size
  have hn2 := Nat.lt_of_lt_of_le hn2 hB1.size
  have ob0 := own_below ob0 hB1
  have ob1 := own_below ob1 hB1
  have obX1 := own_below obX1 hB1
  have ow := ow.below hB1
  have owc := Nat.le_trans owc hB1.size
  have hxx := Nat.le_trans hxx hB1.size
  have hxxX1 := Nat.le_trans hxxX1 hB1.size
  have hB := stepB hB hB1 hB.size
  clear hB1
  have hxxX2 := Nat.le_refl W10.heap.size
  go_wp2_with fail
  have xg := hxx
  have wg := owc
  have xgX1 := hxxX1
  have xgX2 := hxxX2
  refine (HIM.out _ _ _ _ _ (Rd.of_own encS_len (by decide) ob0) (Rd.of_own encWy_len (by decide) ob1) (Rd.of_own encSt_len (by decide) obX1) (Rd.of_own encSt_len (by decide) obX2)).mono ?_
  rintro e W11 ⟨bg, cg, rfl, og0, hB1⟩
  have ogb := hn0
  have A0 := (hB1.cell (p := ⟨w.heap.size, 0, none⟩) hn0).trans A0
  have A1 := (hB1.cell (p := ⟨w.heap.size, 1, none⟩) hn0).trans A1
  have X0 := (hB1.cell (p := ⟨W8.heap.size, 0, none⟩) hn2).trans X0
  have X1 := (hB1.cell (p := ⟨W8.heap.size, 1, none⟩) hn2).trans X1
  have hn0 := Nat.lt_of_lt_of_le hn0 hB1.size
  have hn2 := Nat.lt_of_lt_of_le hn2 hB1.size
  have ob0 := own_below ob0 hB1
  have ob1 := own_below ob1 hB1
  have obX1 := own_below obX1 hB1
  have obX2 := own_below obX2 hB1
  have ow := ow.below hB1
  have owc := Nat.le_trans owc hB1.size
  have hxx := Nat.le_trans hxx hB1.size
  have hxxX1 := Nat.le_trans hxxX1 hB1.size
  have hxxX2 := Nat.le_trans hxxX2 hB1.size
  have hB := stepB hB hB1 hB.size
  clear hB1
  have og := Own.of og0
  have ogc := Nat.le_refl W11.heap.size
  clear og0
  go_wp2_with fail
  refine (HE.out _ _ _ _ _ ((Rd.of_own encI_len (by decide) og.row)) ((Rd.of_own encI_len (by decide) ow.row))).mono ?_
  rintro e W12 ⟨rfl, hB1⟩
  have A0 := (hB1.cell (p := ⟨w.heap.size, 0, none⟩) hn0).trans A0
  have A1 := (hB1.cell (p := ⟨w.heap.size, 1, none⟩) hn0).trans A1
  have X0 := (hB1.cell (p := ⟨W8.heap.size, 0, none⟩) hn2).trans X0
  have X1 := (hB1.cell (p := ⟨W8.heap.size, 1, none⟩) hn2).trans X1
  have hn0 := Nat.lt_of_lt_of_le hn0 hB1.size
  have hn2 := Nat.lt_of_lt_of_le hn2 hB1.size
  have ob0 := own_below ob0 hB1
  have ob1 := own_below ob1 hB1
  have obX1 := own_below obX1 hB1
  have obX2 := own_below obX2 hB1
  have ow := ow.below hB1
  have owc := Nat.le_trans owc hB1.size
  have og := og.below hB1
  have ogc := Nat.le_trans ogc hB1.size
  have hxx := Nat.le_trans hxx hB1.size
  have hxxX1 := Nat.le_trans hxxX1 hB1.size
  have hxxX2 := Nat.le_trans hxxX2 hB1.size
  have hB := stepB hB hB1 hB.size
  clear hB1
  go_wp2_with fail
  have hBd : Below w.heap.size w W12.drew := hB.drew
  have od0 : W12.drew.ownsRow _ _ _ _ _ _ := ob0.drew
  have od1 : W12.drew.ownsRow _ _ _ _ _ _ := ob1.drew
  go_region_held3 (fun w' => w'.cell? ⟨w.heap.size, 0, none⟩ = some (.slice a0 xs0.length cap0) ∧ w'.cell? ⟨w.heap.size, 1, none⟩ = some (.slice a1 xs1.length cap1) ∧ w'.cell? ⟨W8.heap.size, 0, none⟩ = some (.slice (some ⟨gb0, 0, none⟩) xs0.length xs0.length) ∧ w'.cell? ⟨W8.heap.size, 1, none⟩ = some (.slice (some ⟨gb1, 0, none⟩) xs1.length xs1.length))
    (first | go_keep | (exact ⟨(hBc.cell (p := ⟨w.heap.size, 0, none⟩) hn0).trans A0, (hBc.cell (p := ⟨w.heap.size, 1, none⟩) hn0).trans A1, (hBc.cell (p := ⟨W8.heap.size, 0, none⟩) hn2).trans X0, (hBc.cell (p := ⟨W8.heap.size, 1, none⟩) hn2).trans X1⟩) | (exact ⟨(hBe.cell (p := ⟨w.heap.size, 0, none⟩) (Nat.lt_of_lt_of_le hn0 hBc.size)).trans ((hBc.cell (p := ⟨w.heap.size, 0, none⟩) hn0).trans A0), (hBe.cell (p := ⟨w.heap.size, 1, none⟩) (Nat.lt_of_lt_of_le hn0 hBc.size)).trans ((hBc.cell (p := ⟨w.heap.size, 1, none⟩) hn0).trans A1), (hBe.cell (p := ⟨W8.heap.size, 0, none⟩) (Nat.lt_of_lt_of_le hn2 hBc.size)).trans ((hBc.cell (p := ⟨W8.heap.size, 0, none⟩) hn2).trans X0), (hBe.cell (p := ⟨W8.heap.size, 1, none⟩) (Nat.lt_of_lt_of_le hn2 hBc.size)).trans ((hBc.cell (p := ⟨W8.heap.size, 1, none⟩) hn2).trans X1)⟩))
    (first | (go_at_call 10; refine (toLand_any a0 cap0 xs0 a1 cap1 xs1 _ hlen0 (hx0.below hBd) hlen1 (hx1.below hBd)).mono ?_; rintro e w3 ⟨gc0, gc1, rfl, oc0, oc1, hBc⟩) | (go_at_call 13; refine (eqLand_self _ _ _ _ xs0 _ _ _ _ xs1 _ hlen0 (Rd.of_own encS_len (by decide) (own_below od0 hBc)) (Rd.of_own encS_len (by decide) oc0) hlen1 (Rd.of_own encWy_len (by decide) (own_below od1 hBc)) (Rd.of_own encWy_len (by decide) oc1)).mono ?_; rintro e w4 ⟨rfl, hBe⟩))
  have hB1 : Below W12.heap.size W12 w4 := stepB (stepB (Below.refl _ W12).drew hBc (Nat.le_refl _)) hBe hBc.size
  clear hBd hBc hBe od0 oc0 od1 oc1
  have A0 := (hB1.cell (p := ⟨w.heap.size, 0, none⟩) hn0).trans A0
  have A1 := (hB1.cell (p := ⟨w.heap.size, 1, none⟩) hn0).trans A1
  have X0 := (hB1.cell (p := ⟨W8.heap.size, 0, none⟩) hn2).trans X0
  have X1 := (hB1.cell (p := ⟨W8.heap.size, 1, none⟩) hn2).trans X1
  have hn0 := Nat.lt_of_lt_of_le hn0 hB1.size
  have hn2 := Nat.lt_of_lt_of_le hn2 hB1.size
  have ob0 := own_below ob0 hB1
  have ob1 := own_below ob1 hB1
  have obX1 := own_below obX1 hB1
  have obX2 := own_below obX2 hB1
  have ow := ow.below hB1
  have owc := Nat.le_trans owc hB1.size
  have og := og.below hB1
  have ogc := Nat.le_trans ogc hB1.size
  have hxx := Nat.le_trans hxx hB1.size
  have hxxX1 := Nat.le_trans hxxX1 hB1.size
  have hxxX2 := Nat.le_trans hxxX2 hB1.size
  have hB := stepB hB hB1 hB.size
  clear hB1
  go_wp2_with fail
  refine (toStayS_any aX1 capX1 xsX1 _ hlenX1 (hxX1.below hB)).mono ?_
  rintro e W13 ⟨gcX1, rfl, ocX1, hB1⟩
  have A0 := (hB1.cell (p := ⟨w.heap.size, 0, none⟩) hn0).trans A0
  have A1 := (hB1.cell (p := ⟨w.heap.size, 1, none⟩) hn0).trans A1
  have X0 := (hB1.cell (p := ⟨W8.heap.size, 0, none⟩) hn2).trans X0
  have X1 := (hB1.cell (p := ⟨W8.heap.size, 1, none⟩) hn2).trans X1
  have hn0 := Nat.lt_of_lt_of_le hn0 hB1.size
  have hn2 := Nat.lt_of_lt_of_le hn2 hB1.size
  have ob0 := own_below ob0 hB1
  have ob1 := own_below ob1 hB1
  have obX1 := own_below obX1 hB1
  have obX2 := own_below obX2 hB1
  have ow := ow.below hB1
  have owc := Nat.le_trans owc hB1.size
  have og := og.below hB1
  have ogc := Nat.le_trans ogc hB1.size
  have hxx := Nat.le_trans hxx hB1.size
  have hxxX1 := Nat.le_trans hxxX1 hB1.size
  have hxxX2 := Nat.le_trans hxxX2 hB1.size
  have hB := stepB hB hB1 hB.size
  clear hB1
  go_wp2_with fail
  refine (eqStayS_self _ _ _ _ xsX1 _ (by omega) (Rd.of_own encSt_len (by decide) obX1) (Rd.of_own encSt_len (by decide) ocX1)).mono ?_
  rintro e W14 ⟨rfl, hB1⟩
  have A0 := (hB1.cell (p := ⟨w.heap.size, 0, none⟩) hn0).trans A0
  have A1 := (hB1.cell (p := ⟨w.heap.size, 1, none⟩) hn0).trans A1
  have X0 := (hB1.cell (p := ⟨W8.heap.size, 0, none⟩) hn2).trans X0
  have X1 := (hB1.cell (p := ⟨W8.heap.size, 1, none⟩) hn2).trans X1
  have hn0 := Nat.lt_of_lt_of_le hn0 hB1.size
  have hn2 := Nat.lt_of_lt_of_le hn2 hB1.size
  have ob0 := own_below ob0 hB1
  have ob1 := own_below ob1 hB1
  have obX1 := own_below obX1 hB1
  have obX2 := own_below obX2 hB1
  have ocX1 := own_below ocX1 hB1
  have ow := ow.below hB1
  have owc := Nat.le_trans owc hB1.size
  have og := og.below hB1
  have ogc := Nat.le_trans ogc hB1.size
  have hxx := Nat.le_trans hxx hB1.size
  have hxxX1 := Nat.le_trans hxxX1 hB1.size
  have hxxX2 := Nat.le_trans hxxX2 hB1.size
  have hB := stepB hB hB1 hB.size
  clear hB1
  clear ocX1
  go_wp2_with fail
  refine (toStayS_any aX2 capX2 xsX2 _ hlenX2 (hxX2.below hB)).mono ?_
  rintro e W15 ⟨gcX2, rfl, ocX2, hB1⟩
  have A0 := (hB1.cell (p := ⟨w.heap.size, 0, none⟩) hn0).trans A0
  have A1 := (hB1.cell (p := ⟨w.heap.size, 1, none⟩) hn0).trans A1
  have X0 := (hB1.cell (p := ⟨W8.heap.size, 0, none⟩) hn2).trans X0
  have X1 := (hB1.cell (p := ⟨W8.heap.size, 1, none⟩) hn2).trans X1
  have hn0 := Nat.lt_of_lt_of_le hn0 hB1.size
  have hn2 := Nat.lt_of_lt_of_le hn2 hB1.size
  have ob0 := own_below ob0 hB1
  have ob1 := own_below ob1 hB1
  have obX1 := own_below obX1 hB1
  have obX2 := own_below obX2 hB1
  have ow := ow.below hB1
  have owc := Nat.le_trans owc hB1.size
  have og := og.below hB1
  have ogc := Nat.le_trans ogc hB1.size
  have hxx := Nat.le_trans hxx hB1.size
  have hxxX1 := Nat.le_trans hxxX1 hB1.size
  have hxxX2 := Nat.le_trans hxxX2 hB1.size
  have hB := stepB hB hB1 hB.size
  clear hB1
  go_wp2_with fail
  refine (eqStayS_self _ _ _ _ xsX2 _ (by omega) (Rd.of_own encSt_len (by decide) obX2) (Rd.of_own encSt_len (by decide) ocX2)).mono ?_
  rintro e W16 ⟨rfl, hB1⟩
  have A0 := (hB1.cell (p := ⟨w.heap.size, 0, none⟩) hn0).trans A0
  have A1 := (hB1.cell (p := ⟨w.heap.size, 1, none⟩) hn0).trans A1
  have X0 := (hB1.cell (p := ⟨W8.heap.size, 0, none⟩) hn2).trans X0
  have X1 := (hB1.cell (p := ⟨W8.heap.size, 1, none⟩) hn2).trans X1
  have hn0 := Nat.lt_of_lt_of_le hn0 hB1.size
  have hn2 := Nat.lt_of_lt_of_le hn2 hB1.size
  have ob0 := own_below ob0 hB1
  have ob1 := own_below ob1 hB1
  have obX1 := own_below obX1 hB1
  have obX2 := own_below obX2 hB1
  have ocX2 := own_below ocX2 hB1
  have ow := ow.below hB1
  have owc := Nat.le_trans owc hB1.size
  have og := og.below hB1
  have ogc := Nat.le_trans ogc hB1.size
  have hxx := Nat.le_trans hxx hB1.size
  have hxxX1 := Nat.le_trans hxxX1 hB1.size
  have hxxX2 := Nat.le_trans hxxX2 hB1.size
  have hB := stepB hB hB1 hB.size
  clear hB1
  clear ocX2
  go_wp2_with fail
  refine (markLand_any _ _ _ _ _ _ _ _ _ _ 1 _ ob0 ob1 (by omega) (by omega) (by omega) (by omega)).mono ?_
  rintro e W17 ⟨rfl, Wm, hG0, hG1⟩
  have ow := (ow.kept hG0 (fun g e => .inr (by cases e; exact lo0))).kept hG1 (fun g e => .inr (by cases e; exact lo1))
  have og := (og.kept hG0 (fun g e => .inl (by cases e; exact Nat.lt_of_lt_of_le hi0 xg))).kept hG1 (fun g e => .inl (by cases e; exact Nat.lt_of_lt_of_le hi1 xg))
  have A0 := (gcell hG0 (p := ⟨w.heap.size, 0, none⟩) hn0 (fun g e => by cases e; simp; omega)).trans A0
  have A0 := (gcell hG1 (p := ⟨w.heap.size, 0, none⟩) (Nat.lt_of_lt_of_le hn0 hG0.size) (fun g e => by cases e; simp; omega)).trans A0
  have A1 := (gcell hG0 (p := ⟨w.heap.size, 1, none⟩) hn0 (fun g e => by cases e; simp; omega)).trans A1
  have A1 := (gcell hG1 (p := ⟨w.heap.size, 1, none⟩) (Nat.lt_of_lt_of_le hn0 hG0.size) (fun g e => by cases e; simp; omega)).trans A1
  have hB := (hB.grown hG0 hB.size (fun g e => by cases e; exact Nat.le_of_lt lb0)).grown hG1 (Nat.le_trans hB.size hG0.size) (fun g e => by cases e; exact Nat.le_of_lt lb1)
  have hle := Nat.le_trans hG0.size hG1.size
  have obX1 := own_keepOther (own_keepOther obX1 hG0 (Nat.ne_of_gt apX1_0)) hG1 (Nat.ne_of_gt apX1_1)
  have obX2 := own_keepOther (own_keepOther obX2 hG0 (Nat.ne_of_gt apX2_0)) hG1 (Nat.ne_of_gt apX2_1)
  have hn0 := Nat.lt_of_lt_of_le hn0 hle
  have owc := Nat.le_trans owc hle
  have ogc := Nat.le_trans ogc hle
  clear hG0 hG1 hle hn2 hxx X0 X1 ob0 lo0 hi0 lb0 ob1 lo1 hi1 lb1
  clear hxxX1 hxxX2
  go_wp2_with fail
  refine (markStayS_any _ _ _ _ _ (1 + (xs0.length : Nat) + (xs1.length : Nat) * 3) _ obX1 (by omega) (by omega) (by omega)).mono ?_
  rintro e W18 ⟨rfl, hr, hG⟩
  have ow := ow.kept hG (fun g e => .inr (by cases e; exact loX1))
  have og := og.kept hG (fun g e => .inl (by cases e; exact Nat.lt_of_lt_of_le hiX1 xgX1))
  have obX2 := own_keepOther obX2 hG (Nat.ne_of_gt apX2_X1)
  have A0 := (gcell hG (p := ⟨w.heap.size, 0, none⟩) hn0 (fun g e => by cases e; simp; omega)).trans A0
  have A1 := (gcell hG (p := ⟨w.heap.size, 1, none⟩) hn0 (fun g e => by cases e; simp; omega)).trans A1
  have hB := hB.grown hG hB.size (fun g e => by cases e; exact Nat.le_of_lt lbX1)
  have hn0 := Nat.lt_of_lt_of_le hn0 hG.size
  have owc := Nat.le_trans owc hG.size
  have ogc := Nat.le_trans ogc hG.size
  clear hr hG obX1
  go_wp2_with fail
  refine (markStayS_any _ _ _ _ _ (1 + (xs0.length : Nat) + (xs1.length : Nat) * 3 + (xsX1.length : Nat) * 3) _ obX2 (by omega) (by omega) (by omega)).mono ?_
  rintro e W19 ⟨rfl, hr, hG⟩
  have ow := ow.kept hG (fun g e => .inr (by cases e; exact loX2))
  have og := og.kept hG (fun g e => .inl (by cases e; exact Nat.lt_of_lt_of_le hiX2 xgX2))
  have A0 := (gcell hG (p := ⟨w.heap.size, 0, none⟩) hn0 (fun g e => by cases e; simp; omega)).trans A0
  have A1 := (gcell hG (p := ⟨w.heap.size, 1, none⟩) hn0 (fun g e => by cases e; simp; omega)).trans A1
  have hB := hB.grown hG hB.size (fun g e => by cases e; exact Nat.le_of_lt lbX2)
  have hn0 := Nat.lt_of_lt_of_le hn0 hG.size
  have owc := Nat.le_trans owc hG.size
  have ogc := Nat.le_trans ogc hG.size
  clear hr hG obX2
  go_wp2_with fail
  refine (HE.out _ _ _ _ _ ((Rd.of_own encI_len (by decide) og.row)) ((Rd.of_own encI_len (by decide) ow.row))).mono ?_
  rintro e W20 ⟨rfl, hB1⟩
  have A0 := (hB1.cell (p := ⟨w.heap.size, 0, none⟩) hn0).trans A0
  have A1 := (hB1.cell (p := ⟨w.heap.size, 1, none⟩) hn0).trans A1
  have hn0 := Nat.lt_of_lt_of_le hn0 hB1.size
  have ow := ow.below hB1
  have owc := Nat.le_trans owc hB1.size
  have og := og.below hB1
  have ogc := Nat.le_trans ogc hB1.size
  have hB := stepB hB hB1 hB.size
  clear hB1
  go_wp2_with fail
  refine (markInt64S_any _ _ _ _ _ 1 _ og.row (by omega) (by omega) (by omega)).mono ?_
  rintro e W21 ⟨rfl, hr, hG⟩
  have ow := ow.kept hG (fun g e => .inr (Nat.le_trans wg (og.row.lt g e).1))
  have A0 := (gcell hG (p := ⟨w.heap.size, 0, none⟩) hn0 (fun g e => Nat.ne_of_lt (Nat.lt_of_lt_of_le ogb (og.row.lt g e).1))).trans A0
  have A1 := (gcell hG (p := ⟨w.heap.size, 1, none⟩) hn0 (fun g e => Nat.ne_of_lt (Nat.lt_of_lt_of_le ogb (og.row.lt g e).1))).trans A1
  have hB := hB.grown hG hB.size (fun g e => Nat.le_of_lt (Nat.lt_of_lt_of_le ogb (og.row.lt g e).1))
  have og := og.new hr
  have hn0 := Nat.lt_of_lt_of_le hn0 hG.size
  have owc := Nat.le_trans owc hG.size
  have ogc := Nat.le_trans ogc hG.size
  clear hr hG
  go_wp2_with fail
  refine (heldInt64S_any _ _ _ 1 _ ((Rd.of_own encI_len (by decide) og.row)) (by omega) (by omega) (by omega)).mono ?_
  rintro e W22 ⟨rfl, hB1⟩
  have A0 := (hB1.cell (p := ⟨w.heap.size, 0, none⟩) hn0).trans A0
  have A1 := (hB1.cell (p := ⟨w.heap.size, 1, none⟩) hn0).trans A1
  have hn0 := Nat.lt_of_lt_of_le hn0 hB1.size
  have ow := ow.below hB1
  have owc := Nat.le_trans owc hB1.size
  have og := og.below hB1
  have ogc := Nat.le_trans ogc hB1.size
  have hB := stepB hB hB1 hB.size
  clear hB1
  go_wp2_with fail
  refine (toLand_any a0 cap0 xs0 a1 cap1 xs1 _ hlen0 (hx0.below hB) hlen1 (hx1.below hB)).mono ?_
  rintro e W23 ⟨gd0, gd1, rfl, od0, od1, hB1⟩
  have A0 := (hB1.cell (p := ⟨w.heap.size, 0, none⟩) hn0).trans A0
  have A1 := (hB1.cell (p := ⟨w.heap.size, 1, none⟩) hn0).trans A1
  have hn0 := Nat.lt_of_lt_of_le hn0 hB1.size
  have ow := ow.below hB1
  have owc := Nat.le_trans owc hB1.size
  have og := og.below hB1
  have ogc := Nat.le_trans ogc hB1.size
  have hB := stepB hB hB1 hB.size
  clear hB1
  go_wp2_with fail
  refine (toStayS_any aX1 capX1 xsX1 _ hlenX1 (hxX1.below hB)).mono ?_
  rintro e W24 ⟨gdX1, rfl, odX1, hB1⟩
  have A0 := (hB1.cell (p := ⟨w.heap.size, 0, none⟩) hn0).trans A0
  have A1 := (hB1.cell (p := ⟨w.heap.size, 1, none⟩) hn0).trans A1
  have hn0 := Nat.lt_of_lt_of_le hn0 hB1.size
  have od0 := own_below od0 hB1
  have od1 := own_below od1 hB1
  have ow := ow.below hB1
  have owc := Nat.le_trans owc hB1.size
  have og := og.below hB1
  have ogc := Nat.le_trans ogc hB1.size
  have hB := stepB hB hB1 hB.size
  clear hB1
  go_wp2_with fail
  refine (toStayS_any aX2 capX2 xsX2 _ hlenX2 (hxX2.below hB)).mono ?_
  rintro e W25 ⟨gdX2, rfl, odX2, hB1⟩
  have A0 := (hB1.cell (p := ⟨w.heap.size, 0, none⟩) hn0).trans A0
  have A1 := (hB1.cell (p := ⟨w.heap.size, 1, none⟩) hn0).trans A1
  have hn0 := Nat.lt_of_lt_of_le hn0 hB1.size
  have od0 := own_below od0 hB1
  have od1 := own_below od1 hB1
  have odX1 := own_below odX1 hB1
  have ow := ow.below hB1
  have owc := Nat.le_trans owc hB1.size
  have og := og.below hB1
  have ogc := Nat.le_trans ogc hB1.size
  have hB := stepB hB hB1 hB.size
  clear hB1
  go_wp2_with fail
  refine (HIM.out _ _ _ _ _ (Rd.of_own encS_len (by decide) od0) (Rd.of_own encWy_len (by decide) od1) (Rd.of_own encSt_len (by decide) odX1) (Rd.of_own encSt_len (by decide) odX2)).mono ?_
  rintro e W26 ⟨bh, ch, rfl, oh0, hB1⟩
  have ohb := hn0
  have A0 := (hB1.cell (p := ⟨w.heap.size, 0, none⟩) hn0).trans A0
  have A1 := (hB1.cell (p := ⟨w.heap.size, 1, none⟩) hn0).trans A1
  have hn0 := Nat.lt_of_lt_of_le hn0 hB1.size
  have od0 := own_below od0 hB1
  have od1 := own_below od1 hB1
  have odX1 := own_below odX1 hB1
  have odX2 := own_below odX2 hB1
  have ow := ow.below hB1
  have owc := Nat.le_trans owc hB1.size
  have og := og.below hB1
  have ogc := Nat.le_trans ogc hB1.size
  have hB := stepB hB hB1 hB.size
  clear hB1
  have oh := Own.of oh0
  have ohc := Nat.le_refl W26.heap.size
  clear oh0
  clear od0 od1 odX1 odX2
  go_wp2_with fail
  refine (HE.out _ _ _ _ _ ((Rd.of_own encI_len (by decide) oh.row)) ((Rd.of_own encI_len (by decide) ow.row))).mono ?_
  rintro e W27 ⟨rfl, hB1⟩
  have A0 := (hB1.cell (p := ⟨w.heap.size, 0, none⟩) hn0).trans A0
  have A1 := (hB1.cell (p := ⟨w.heap.size, 1, none⟩) hn0).trans A1
  have hn0 := Nat.lt_of_lt_of_le hn0 hB1.size
  have ow := ow.below hB1
  have owc := Nat.le_trans owc hB1.size
  have og := og.below hB1
  have ogc := Nat.le_trans ogc hB1.size
  have oh := oh.below hB1
  have ohc := Nat.le_trans ohc hB1.size
  have hB := stepB hB hB1 hB.size
  clear hB1
  go_wp2_with fail
  refine (heldInt64S_any _ _ _ 1 _ ((Rd.of_own encI_len (by decide) og.row)) (by omega) (by omega) (by omega)).mono ?_
  rintro e W28 ⟨rfl, hB1⟩
  have A0 := (hB1.cell (p := ⟨w.heap.size, 0, none⟩) hn0).trans A0
  have A1 := (hB1.cell (p := ⟨w.heap.size, 1, none⟩) hn0).trans A1
  have hn0 := Nat.lt_of_lt_of_le hn0 hB1.size
  have ow := ow.below hB1
  have owc := Nat.le_trans owc hB1.size
  have og := og.below hB1
  have ogc := Nat.le_trans ogc hB1.size
  have oh := oh.below hB1
  have ohc := Nat.le_trans ohc hB1.size
  have hB := stepB hB hB1 hB.size
  clear hB1
  go_wp2
  go_ret
  exact ⟨rfl, hB⟩
end
end Go.Proofs.YtihmacmieofbgaaGreatDoor
