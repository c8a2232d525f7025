/- Walks: PossiblePlaces. Printed by gen_cb2.py. -/
import Derived.Test.YtipdcgfdejmjfaaGreatDoorCbDays
import Derived.Test.YtipdcgfdejmjfaaGreatDoorIxl
namespace Go.Proofs.YtipdcgfdejmjfaaGreatDoor
section
open Go.ChangeShapes Go.WideShapes Go.ChangeAt Go.RowKit

def cbR (ps : List ByteArray) (ws : List Wy) (xs : List St) (p z c : Int) : Bool × Int :=
  if c = 0 then (hasB (uni (cbl p (fun v => travM ps.length ws v p.toNat) xs (xs.length + 1))) z, 0) else (false, c)

set_option maxRecDepth 100000 in
set_option maxHeartbeats 4000000 in
theorem specCbOne_any (a0 a1 a2 : Option Addr) (cap0 cap1 cap2 : Nat) (xs0 : List ByteArray) (xs1 : List Wy) (xs2 : List St) (p z : Int) (w : World) (hc0 : xs0.length ≤ cap0) (hc1 : cap0 ≤ 9223372036854775807) (hl0 : xs0.length ≤ 1048576) (hx0 : Rd encS w a0 xs0) (hs0 : ∀ m ∈ xs0, m.size ≤ 1048576) (hl1 : xs1.length ≤ 1048576) (hx1 : Rd encWy w a1 xs1) (hl2 : xs2.length ≤ 1048576) (hx2 : Rd encSt w a2 xs2) :
    Calls Tryz.prog 13 #[.agg #[.slice a0 xs0.length cap0, .slice a1 xs1.length cap1], .slice a2 xs2.length cap2, .int .i64 p, .int .i64 z] w fun e w' => e = .returned (.tuple #[.bool (cbR xs0 xs1 xs2 p z (codeI xs0 xs1 xs2 (placeB xs0.length p && dayB z))).1, .int .i64 (cbR xs0 xs1 xs2 p z (codeI xs0 xs1 xs2 (placeB xs0.length p && dayB z))).2]) ∧ Below w.heap.size w w' := by
  have HC := Lib.hid (fun W q (hB : Below w.heap.size w W) => l15Code_any a0 a1 a2 cap0 cap1 cap2 xs0 xs1 xs2 q W hc0 hc1 hl0 (hx0.below hB) hs0 hl1 (hx1.below hB) hl2 (hx2.below hB))
  have hfacts := Lib.hid (codeI_zero (ps := xs0) (ws := xs1) (xs := xs2) (b := placeB xs0.length p && dayB z))
  have hRz : Hid (codeI xs0 xs1 xs2 (placeB xs0.length p && dayB z) = 0 → cbR xs0 xs1 xs2 p z (codeI xs0 xs1 xs2 (placeB xs0.length p && dayB z)) = (hasB (uni (cbl p (fun v => travM xs0.length xs1 v p.toNat) xs2 (xs2.length + 1))) z, 0)) := fun h => by unfold cbR; rw [if_pos h]
  have hRn : Hid (codeI xs0 xs1 xs2 (placeB xs0.length p && dayB z) ≠ 0 → cbR xs0 xs1 xs2 p z (codeI xs0 xs1 xs2 (placeB xs0.length p && dayB z)) = (false, codeI xs0 xs1 xs2 (placeB xs0.length p && dayB z))) := fun h => by unfold cbR; rw [if_neg h]
  have HPL := Lib.hid (fun W => l14Place_any a0 a1 cap0 cap1 xs0.length xs1.length p W hl0)
  have HDY := Lib.hid (fun W => l01Day_any z W)
  generalize hcc : codeI xs0 xs1 xs2 (placeB xs0.length p && dayB z) = c at hfacts hRz hRn ⊢
  have HC := Lib.hid (fun W hB => hcc ▸ HC.out W (placeB xs0.length p && dayB z) hB)
  have hfacts : Hid (c = 0 → isItinB xs0 xs1 xs2 = true ∧ (placeB xs0.length p && dayB z) = true) := hfacts
  clear hcc
  cases hpb : placeB xs0.length p
  · have HC := Lib.hid (fun W hB => (show (placeB xs0.length p && dayB z) = false by rw [hpb]; rfl) ▸ HC.out W hB)
    have HPL := Lib.hid (fun W => hpb ▸ HPL.out W)
    clear hpb
    go_enter Tryz.func13, Tryz.ntmps13
    go_wp2_with fail
    generalize hW : w.alloc (.cells #[.slice a0 xs0.length cap0, .slice a1 xs1.length cap1] 35) = W
    have hA0 : At w [.slice a0 xs0.length cap0, .slice a1 xs1.length cap1] W := hW ▸ At.start _ _ _
    have b0 := hA0.cell 0 _ rfl
    have b1 := hA0.cell 1 _ rfl
    have hs := hA0.size
    clear hW
    have E0 := Later.cell b0 hs
    have E1 := Later.cell b1 hs
    refine wp_region_later W (by kernel_rfl) (by kernel_rfl) ?_
    repeat (go_big_quiet_step ((first | (go_at_call 44; exact Later.call (Nat.le_refl _) (HPL.out _)) | (go_at_call 45; exact Later.same (HDY.out _)) | (go_at_call 43; exact Later.call (Nat.le_refl _) (HC.out _ (stepB hA0.below (Later.prop _) hA0.below.size))))))
    refine wpQuiet_nil ?_
    intro z'
    have hz := z'.prop
    generalize z'.val = w1 at hz
    have hA1 := hA0.step hz
    clear hA0 hz E0 E1 b0 b1 hs HC HPL HDY
    have b0 := hA1.cell 0 _ rfl
    have b1 := hA1.cell 1 _ rfl
    by_cases hc : c = 0
    · subst hc
      obtain ⟨hI, hpd⟩ := hfacts.out rfl
      simp only [Bool.and_eq_true] at hpd
      obtain ⟨hA, ho, hl40⟩ := itin_facts hI
      obtain ⟨k, rfl, hk⟩ := place_nat hpd.1
      have hR := Lib.hid (hRz.out rfl)
      rw [Int.toNat_natCast] at hR
      clear hfacts hRz hRn hI hpd
      have hul := Nat.le_trans (uni_len (cbl (k : Int) (fun u => travM xs0.length xs1 u k) xs2 (xs2.length + 1))) (cbl_len _ _ _ _)
      have HD := Lib.hid (fun W (hB : Below w.heap.size w W) => l15Days_any a0 a1 a2 cap0 cap1 cap2 k xs0 xs1 xs2 W hA hk hl40 (hx1.below hB) (hx2.below hB) ho)
      have HH := Lib.hid (fun a cap W h => l02Has_any a cap _ (uni (cbl (k : Int) (fun u => travM xs0.length xs1 u k) xs2 (xs2.length + 1))) z W rfl (by omega) h)
      go_wp2_with fail
      refine (HD.out _ hA1.below).mono ?_
      rintro e w2 ⟨g, c, rfl, ho2, hB2⟩
      have hA2 := hA1.step hB2
      have hrd := Rd.of_own encSp_len (by decide) ho2
      go_wp2_with fail
      refine (HH.out _ _ _ hrd).mono ?_
      rintro e w3 ⟨rfl, hB3⟩
      go_wp2
      go_ret2
      rw [hR.out]
      exact ⟨rfl, (hA2.step hB3).below⟩
    · have hR := Lib.hid (hRn.out hc)
      have hc2 : (c != 0) = true := by simpa using hc
      clear hfacts hRz hRn
      go_wp2
      go_ret2
      rw [hR.out]
      exact ⟨rfl, hA1.below⟩
  · have HC := Lib.hid (fun W hB => (show (placeB xs0.length p && dayB z) = dayB z by rw [hpb]; rfl) ▸ HC.out W hB)
    have HPL := Lib.hid (fun W => hpb ▸ HPL.out W)
    clear hpb
    generalize hdz : dayB z = q at HC HDY
    have HDZ := Lib.hid hdz
    clear hdz
    go_enter Tryz.func13, Tryz.ntmps13
    go_wp2_with fail
    generalize hW : w.alloc (.cells #[.slice a0 xs0.length cap0, .slice a1 xs1.length cap1] 35) = W
    have hA0 : At w [.slice a0 xs0.length cap0, .slice a1 xs1.length cap1] W := hW ▸ At.start _ _ _
    have b0 := hA0.cell 0 _ rfl
    have b1 := hA0.cell 1 _ rfl
    have hs := hA0.size
    clear hW
    have E0 := Later.cell b0 hs
    have E1 := Later.cell b1 hs
    refine wp_region_later W (by kernel_rfl) (by kernel_rfl) ?_
    repeat (go_big_quiet_step ((first | (go_at_call 44; exact Later.call (Nat.le_refl _) (HPL.out _)) | (go_at_call 45; exact Later.same (HDY.out _)) | (go_at_call 43; exact Later.call (Nat.le_refl _) (HC.out _ (stepB hA0.below (Later.prop _) hA0.below.size))))))
    refine wpQuiet_nil ?_
    intro z'
    have hz := z'.prop
    generalize z'.val = w1 at hz
    have hA1 := hA0.step hz
    clear hA0 hz E0 E1 b0 b1 hs HC HPL HDY
    have b0 := hA1.cell 0 _ rfl
    have b1 := hA1.cell 1 _ rfl
    by_cases hc : c = 0
    · subst hc
      obtain ⟨hI, hpd⟩ := hfacts.out rfl
      simp only [Bool.and_eq_true] at hpd
      obtain ⟨hA, ho, hl40⟩ := itin_facts hI
      obtain ⟨k, rfl, hk⟩ := place_nat hpd.1
      have hR := Lib.hid (hRz.out rfl)
      rw [Int.toNat_natCast] at hR
      clear hfacts hRz hRn hI hpd
      have hul := Nat.le_trans (uni_len (cbl (k : Int) (fun u => travM xs0.length xs1 u k) xs2 (xs2.length + 1))) (cbl_len _ _ _ _)
      have HD := Lib.hid (fun W (hB : Below w.heap.size w W) => l15Days_any a0 a1 a2 cap0 cap1 cap2 k xs0 xs1 xs2 W hA hk hl40 (hx1.below hB) (hx2.below hB) ho)
      have HH := Lib.hid (fun a cap W h => l02Has_any a cap _ (uni (cbl (k : Int) (fun u => travM xs0.length xs1 u k) xs2 (xs2.length + 1))) z W rfl (by omega) h)
      go_wp2_with fail
      refine (HD.out _ hA1.below).mono ?_
      rintro e w2 ⟨g, c, rfl, ho2, hB2⟩
      have hA2 := hA1.step hB2
      have hrd := Rd.of_own encSp_len (by decide) ho2
      go_wp2_with fail
      refine (HH.out _ _ _ hrd).mono ?_
      rintro e w3 ⟨rfl, hB3⟩
      go_wp2
      go_ret2
      rw [hR.out]
      exact ⟨rfl, (hA2.step hB3).below⟩
    · have hR := Lib.hid (hRn.out hc)
      have hc2 : (c != 0) = true := by simpa using hc
      clear hfacts hRz hRn
      go_wp2
      go_ret2
      rw [hR.out]
      exact ⟨rfl, hA1.below⟩

set_option maxRecDepth 100000 in
set_option maxHeartbeats 4000000 in
theorem implCbOne_any (a0 a1 a2 : Option Addr) (cap0 cap1 cap2 : Nat) (xs0 : List ByteArray) (xs1 : List Wy) (xs2 : List St) (p z : Int) (w : World) (hc0 : xs0.length ≤ cap0) (hc1 : cap0 ≤ 9223372036854775807) (hl0 : xs0.length ≤ 1048576) (hx0 : Rd encS w a0 xs0) (hs0 : ∀ m ∈ xs0, m.size ≤ 1048576) (hl1 : xs1.length ≤ 1048576) (hx1 : Rd encWy w a1 xs1) (hl2 : xs2.length ≤ 1048576) (hx2 : Rd encSt w a2 xs2) :
    Calls Tryz.prog 12 #[.agg #[.slice a0 xs0.length cap0, .slice a1 xs1.length cap1], .slice a2 xs2.length cap2, .int .i64 p, .int .i64 z] w fun e w' => e = .returned (.tuple #[.bool (cbR xs0 xs1 xs2 p z (codeI xs0 xs1 xs2 (placeB xs0.length p && dayB z))).1, .int .i64 (cbR xs0 xs1 xs2 p z (codeI xs0 xs1 xs2 (placeB xs0.length p && dayB z))).2]) ∧ Below w.heap.size w w' := by
  have HC := Lib.hid (fun W a3 a4 c3 c4 ys zs (hB : Below w.heap.size w W) (h3 : ys.length ≤ 1048576) (r3 : Rd encI W a3 ys) (h4 : zs.length ≤ 1048576) (r4 : Rd encI W a4 zs) => checkStays_any a0 a1 a2 a3 a4 cap0 cap1 cap2 c3 c4 xs0 xs1 xs2 ys zs W hc0 hc1 hl0 (hx0.below hB) hs0 hl1 (hx1.below hB) hl2 (hx2.below hB) h3 r3 h4 r4)
  have hfacts := Lib.hid (codeI_zero (ps := xs0) (ws := xs1) (xs := xs2) (b := placeB xs0.length p && dayB z))
  have hRz : Hid (codeI xs0 xs1 xs2 (placeB xs0.length p && dayB z) = 0 → cbR xs0 xs1 xs2 p z (codeI xs0 xs1 xs2 (placeB xs0.length p && dayB z)) = (hasB (uni (cbl p (fun v => travM xs0.length xs1 v p.toNat) xs2 (xs2.length + 1))) z, 0)) := fun h => by unfold cbR; rw [if_pos h]
  have hRn : Hid (codeI xs0 xs1 xs2 (placeB xs0.length p && dayB z) ≠ 0 → cbR xs0 xs1 xs2 p z (codeI xs0 xs1 xs2 (placeB xs0.length p && dayB z)) = (false, codeI xs0 xs1 xs2 (placeB xs0.length p && dayB z))) := fun h => by unfold cbR; rw [if_neg h]
  have hA0 : At w [.slice a0 xs0.length cap0, .slice a1 xs1.length cap1] (((w.alloc (.cells #[.slice a0 xs0.length cap0, .slice a1 xs1.length cap1] 35)).alloc (.cells #[.int .i64 p] 2)).alloc (.cells #[.int .i64 z] 2)) := ((At.start w _ _).step ((Below.refl _ _).alloc (Nat.le_refl _) _)).step ((Below.refl _ _).alloc (Nat.le_refl _) _)
  have hrd : Rd encI (((w.alloc (.cells #[.slice a0 xs0.length cap0, .slice a1 xs1.length cap1] 35)).alloc (.cells #[.int .i64 p] 2)).alloc (.cells #[.int .i64 z] 2)) (some ⟨w.heap.size + 1, 0, none⟩) [p] := by
    intro i x hi
    refine ⟨w.heap.size + 1, 0, rfl, by simp, fun j v hv => ?_⟩
    rw [World.cell?_alloc_past _ _ _ (by simp), World.cell?_alloc_at _ _ _ _ (by simp)]
    match i, hi with
    | 0, hi => cases hi; match j, hv with | 0, hv => cases hv; rfl
  have hrd2 : Rd encI (((w.alloc (.cells #[.slice a0 xs0.length cap0, .slice a1 xs1.length cap1] 35)).alloc (.cells #[.int .i64 p] 2)).alloc (.cells #[.int .i64 z] 2)) (some ⟨w.heap.size + 2, 0, none⟩) [z] := by
    intro i x hi
    refine ⟨w.heap.size + 2, 0, rfl, by simp, fun j v hv => ?_⟩
    rw [World.cell?_alloc_at _ _ _ _ (by simp)]
    match i, hi with
    | 0, hi => cases hi; match j, hv with | 0, hv => cases hv; rfl
  have HRD := Lib.hid hrd
  have HRD2 := Lib.hid hrd2
  clear hrd hrd2
  have hcc : codeI xs0 xs1 xs2 ([p].all (placeB xs0.length) && [z].all dayB) = codeI xs0 xs1 xs2 (placeB xs0.length p && dayB z) := by simp
  have HC := Lib.hid (fun W hB r3 r4 => hcc ▸ HC.out W (some ⟨w.heap.size + 1, 0, none⟩) (some ⟨w.heap.size + 2, 0, none⟩) 1 1 [p] [z] hB (by simp) r3 (by simp) r4)
  clear hcc
  generalize codeI xs0 xs1 xs2 (placeB xs0.length p && dayB z) = c at HC hfacts hRz hRn ⊢
  go_enter Tryz.func12, Tryz.ntmps12
  go_wp2_with fail
  refine (HC.out _ hA0.below HRD.out HRD2.out).mono ?_
  rintro e w1 ⟨rfl, hB1⟩
  have hA1 := hA0.step hB1
  clear hA0 hB1 HC HRD HRD2
  have b0 := hA1.cell 0 _ rfl
  have b1 := hA1.cell 1 _ rfl
  by_cases hc : c = 0
  · subst hc
    obtain ⟨hI, hpd⟩ := hfacts.out rfl
    simp only [Bool.and_eq_true] at hpd
    obtain ⟨hA, ho, hl40⟩ := itin_facts hI
    obtain ⟨k, rfl, hk⟩ := place_nat hpd.1
    have hR := Lib.hid (hRz.out rfl)
    rw [Int.toNat_natCast] at hR
    clear hfacts hRz hRn hI hpd
    have hul := Nat.le_trans (uni_len (cbl (k : Int) (fun u => travM xs0.length xs1 u k) xs2 (xs2.length + 1))) (cbl_len _ _ _ _)
    have HT := Lib.hid (fun W (hB : Below w.heap.size w W) => trav_any a0 a1 cap0 cap1 xs0 xs1 W hA (hx1.below hB))
    have HD := Lib.hid (fun B0 H cH gm W (hB : Below w.heap.size w W) (hM : Mat B0 W H cH xs0.length xs0.length gm (travM xs0.length xs1)) => couldBeDays_any a2 cap2 H cH xs0.length k B0 gm (travM xs0.length xs1) xs2 W hk hM (fun a b ha hb => trav_bd hA ha hb) hl40 (hx2.below hB) ho)
    have HH := Lib.hid (fun a cap W h => hasDay_any a cap _ (uni (cbl (k : Int) (fun u => travM xs0.length xs1 u k) xs2 (xs2.length + 1))) z W rfl (by omega) h)
    go_wp2_with fail
    refine (HT.out _ hA1.below).mono ?_
    rintro e w2 ⟨H, cH, gm, rfl, hM, hB2⟩
    have hA2 := hA1.step hB2
    go_wp2_with fail
    refine (HD.out _ _ _ _ _ hA2.below hM).mono ?_
    rintro e w3 ⟨g, c, rfl, ho3, hB3⟩
    have hA3 := hA2.step hB3
    have hrd := Rd.of_own encSp_len (by decide) ho3
    go_wp2_with fail
    refine (HH.out _ _ _ hrd).mono ?_
    rintro e w4 ⟨rfl, hB4⟩
    go_wp2
    go_ret2
    rw [hR.out]
    exact ⟨rfl, (hA3.step hB4).below⟩
  · have hR := Lib.hid (hRn.out hc)
    have hc2 : (c != 0) = true := by simpa using hc
    clear hfacts hRz hRn
    go_wp2
    go_ret2
    rw [hR.out]
    exact ⟨rfl, hA1.below⟩
end

section
open Go.ChangeShapes Go.WideShapes Go.ChangeAt Go.RowKit

def pP (n : Nat) (ws : List Wy) (xs : List St) (z : Int) (v : Nat) : Bool := hasB (uni (cbl (v : Int) (fun u => travM n ws u v) xs (xs.length + 1))) z
def possR (ps : List ByteArray) (ws : List Wy) (xs : List St) (z c : Int) : List Int × Int :=
  if c = 0 then (jxl (pP ps.length ws xs z) ps.length, 0) else ([], c)
theorem possR_len (ps : List ByteArray) (ws : List Wy) (xs : List St) (z c : Int) (h : ps.length ≤ 1048576) : (possR ps ws xs z c).1.length ≤ 1048576 := by
  unfold possR
  split
  · exact Nat.le_trans (jxl_len _ _) h
  · simp

set_option maxRecDepth 100000 in
set_option maxHeartbeats 4000000 in
theorem l15Places_any (a0 a1 a2 : Option Addr) (cap0 cap1 cap2 : Nat) (xs0 : List ByteArray) (xs1 : List Wy) (xs2 : List St) (z : Int) (w : World) (hA : isLandB xs0 xs1 = true) (hl40 : xs2.length ≤ 40) (ho : ∀ x ∈ xs2, okSt xs0.length x = true) (hx1 : Rd encWy w a1 xs1) (hx2 : Rd encSt w a2 xs2) :
    Calls Tryz.prog 53 #[.agg #[.slice a0 xs0.length cap0, .slice a1 xs1.length cap1], .slice a2 xs2.length cap2, .int .i64 z] w fun e w' => ∃ g c, e = .returned (.slice (some ⟨g, 0, none⟩) (jxl (pP xs0.length xs1 xs2 z) xs0.length).length c) ∧ w'.ownsRow w.heap.size 2 1 (.slice (some ⟨g, 0, none⟩) (jxl (pP xs0.length xs1 xs2 z) xs0.length).length c) (jxl (pP xs0.length xs1 xs2 z) xs0.length).length ((jxl (pP xs0.length xs1 xs2 z) xs0.length).flatMap encI) ∧ Below w.heap.size w w' := by
  obtain ⟨i0, hi, hz0, hz1, hz2⟩ := info_parts infoI
  have hn12 := (landOk hA).2.2.1
  have hA0 : At w [.slice a0 xs0.length cap0, .slice a1 xs1.length cap1] ((w.alloc (.cells #[.slice a0 xs0.length cap0, .slice a1 xs1.length cap1] 35)).alloc (.cells #[] 2)) := (At.start _ _ _).step ((Below.refl _ _).alloc (Nat.le_refl _) _)
  have b0 := hA0.cell 0 _ rfl
  have hown0 := World.ownsRow_made (w.alloc (.cells #[.slice a0 xs0.length cap0, .slice a1 xs1.length cap1] 35)) #[] 0 (show w.heap.size + 1 ≤ _ by simp) (by decide) rfl (e := 2) (size := 1)
  have hul := Lib.hid (fun (k : Nat) => Nat.le_trans (uni_len (cbl (k : Int) (fun u => travM xs0.length xs1 u k) xs2 (xs2.length + 1))) (cbl_len _ _ _ _))
  have HPV : Hid (∀ k, pP xs0.length xs1 xs2 z k = hasB (uni (cbl (k : Int) (fun u => travM xs0.length xs1 u k) xs2 (xs2.length + 1))) z) := fun _ => rfl
  have HD := Lib.hid (fun k W (hk : k < xs0.length) (hB : Below w.heap.size w W) => l15Days_any a0 a1 a2 cap0 cap1 cap2 k xs0 xs1 xs2 W hA hk hl40 (hx1.below hB) (hx2.below hB) ho)
  clear hA
  generalize pP xs0.length xs1 xs2 z = p at HPV ⊢
  go_enter Tryz.func53, Tryz.ntmps53
  go_wp2
  go_loopw [7, 8] (fun o i wr => ∃ (k g c : Nat), k ≤ xs0.length ∧ i = .int .i64 k ∧ o = .slice (some ⟨g, 0, none⟩) (jxl p k).length c ∧ wr.ownsRow (w.heap.size + 1) 2 1 (.slice (some ⟨g, 0, none⟩) (jxl p k).length c) (jxl p k).length ((jxl p k).flatMap encI) ∧ At w [.slice a0 xs0.length cap0, .slice a1 xs1.length cap1] wr) (fun _ i _ => xs0.length - (intOf i).toNat)
  case atStart => exact ⟨0, w.heap.size + 1, 0, Nat.zero_le _, rfl, rfl, by simpa [jxl] using hown0, hA0⟩
  case round =>
    clear hown0 hA0 b0
    obtain ⟨k, g, c, hk, rfl, rfl, hown, hAt⟩ := hrel
    have hlen := jxl_len p k
    have b0 := hAt.cell 0 _ rfl
    have b1 := hAt.cell 1 _ rfl
    by_cases hlt : k < xs0.length
    · have hk1 : (k : Int) < (xs0.length : Int) := by omega
      have hpk := HPV.out k
      have hln := hul.out k
      cases hbb : p k
      · rw [hbb] at hpk
        have HH := Lib.hid (fun a cap W h => hpk ▸ l02Has_any a cap _ (uni (cbl (k : Int) (fun u => travM xs0.length xs1 u k) xs2 (xs2.length + 1))) z W rfl (by omega) h)
        have hst := Lib.hid (jxl_no hbb)
        clear hpk hbb
        go_wp2_with fail
        refine (HD.out k wr hlt hAt.below).mono ?_
        rintro e w4 ⟨g4, c4, rfl, ho4, hB4⟩
        have hown := own_below hown hB4
        have hAt := hAt.step hB4
        have hrd := Rd.of_own encSp_len (by decide) ho4
        clear hB4 ho4 b0 b1
        go_wp2_with fail
        refine (HH.out _ _ _ hrd).mono ?_
        rintro e w5 ⟨rfl, hB5⟩
        have hown := own_below hown hB5
        have hAt := hAt.step hB5
        have hs := hAt.size
        clear hB5 hrd
        go_wp2
        go_roundw
        case rel => exact ⟨k + 1, g, c, by omega, by go_num, by rw [hst.out], by rw [hst.out]; exact hown, hAt⟩
        case measure => simp [intOf]; omega
      · rw [hbb] at hpk
        have HH := Lib.hid (fun a cap W h => hpk ▸ l02Has_any a cap _ (uni (cbl (k : Int) (fun u => travM xs0.length xs1 u k) xs2 (xs2.length + 1))) z W rfl (by omega) h)
        have hst := Lib.hid (jxl_yes hbb)
        clear hpk hbb
        generalize jxl p k = out at hown hst hlen ⊢
        go_wp2_with fail
        refine (HD.out k wr hlt hAt.below).mono ?_
        rintro e w4 ⟨g4, c4, rfl, ho4, hB4⟩
        have hown := own_below hown hB4
        have hAt := hAt.step hB4
        have hrd := Rd.of_own encSp_len (by decide) ho4
        clear hB4 ho4 b0 b1
        go_wp2_with fail
        refine (HH.out _ _ _ hrd).mono ?_
        rintro e w5 ⟨rfl, hB5⟩
        have hown := own_below hown hB5
        have hAt := hAt.step hB5
        have hs := hAt.size
        clear hB5 hrd
        go_wp2_with (at_builtin; refine wpList_append_own _ rfl _ _ 45 rfl (w.heap.size + 1) 2 i0 (.int .i64 0) 1 8 Tryz.underlying45 hi hz0 hz1 hz2 rfl (by decide) _ _ _ rfl (hown.alloc _) ⟨w5.heap.size, 0, none⟩ 1 1 [.int .i64 k] rfl rfl (cell_one_new _ _ _) ?c2 ?c3 ?c4 ?c5 ?_)
        case c2 => intro u hu; simp at hu; subst hu; rfl
        case c3 => unfold maxLen; omega
        case c4 => omega
        case c5 => first | omega | (simp; omega)
        intro v' w6 hown' hgr _
        have hA6 := (hAt.step ((Below.refl _ w5).alloc (Nat.le_refl _) (.cells #[.int .i64 k] 2))).grown hgr (fun x hx => (hown.lt x hx).1)
        obtain ⟨g', c', rfl⟩ := formJ hown' (by omega)
        clear hgr hown hAt
        go_wp2
        go_roundw
        case rel => exact ⟨k + 1, g', c', by omega, by go_num, by rw [hst.out, List.length_append]; rfl, by rw [hst.out, List.length_append, List.flatMap_append]; exact hown', hA6⟩
        case measure => simp [intOf]; omega
    · obtain rfl : k = xs0.length := by omega
      go_wp2
      go_ret
      exact ⟨_, _, rfl, own_base hown (by omega), hAt.below⟩

set_option maxRecDepth 100000 in
set_option maxHeartbeats 4000000 in
theorem possPlaces_any (a0 a1 a2 : Option Addr) (cap0 cap1 cap2 : Nat) (xs0 : List ByteArray) (xs1 : List Wy) (xs2 : List St) (z : Int) (w : World) (hA : isLandB xs0 xs1 = true) (hl40 : xs2.length ≤ 40) (ho : ∀ x ∈ xs2, okSt xs0.length x = true) (hx1 : Rd encWy w a1 xs1) (hx2 : Rd encSt w a2 xs2) :
    Calls Tryz.prog 52 #[.agg #[.slice a0 xs0.length cap0, .slice a1 xs1.length cap1], .slice a2 xs2.length cap2, .int .i64 z] w fun e w' => ∃ g c, e = .returned (.slice (some ⟨g, 0, none⟩) (jxl (pP xs0.length xs1 xs2 z) xs0.length).length c) ∧ w'.ownsRow w.heap.size 2 1 (.slice (some ⟨g, 0, none⟩) (jxl (pP xs0.length xs1 xs2 z) xs0.length).length c) (jxl (pP xs0.length xs1 xs2 z) xs0.length).length ((jxl (pP xs0.length xs1 xs2 z) xs0.length).flatMap encI) ∧ Below w.heap.size w w' := by
  obtain ⟨i0, hi, hz0, hz1, hz2⟩ := info_parts infoI
  have hn12 := (landOk hA).2.2.1
  have hA0 : At w [.slice a0 xs0.length cap0, .slice a1 xs1.length cap1] ((w.alloc (.cells #[.slice a0 xs0.length cap0, .slice a1 xs1.length cap1] 35)).alloc (.cells #[] 2)) := (At.start _ _ _).step ((Below.refl _ _).alloc (Nat.le_refl _) _)
  have b0 := hA0.cell 0 _ rfl
  have hown0 := World.ownsRow_made (w.alloc (.cells #[.slice a0 xs0.length cap0, .slice a1 xs1.length cap1] 35)) #[] 0 (show w.heap.size + 1 ≤ _ by simp) (by decide) rfl (e := 2) (size := 1)
  have hul := Lib.hid (fun (k : Nat) => Nat.le_trans (uni_len (cbl (k : Int) (fun u => travM xs0.length xs1 u k) xs2 (xs2.length + 1))) (cbl_len _ _ _ _))
  have HPV : Hid (∀ k, pP xs0.length xs1 xs2 z k = hasB (uni (cbl (k : Int) (fun u => travM xs0.length xs1 u k) xs2 (xs2.length + 1))) z) := fun _ => rfl
  have HT := Lib.hid (fun W (hB : Below w.heap.size w W) => trav_any a0 a1 cap0 cap1 xs0 xs1 W hA (hx1.below hB))
  have HD := Lib.hid (fun k B0 H cH gm W (hk : k < xs0.length) (hB : Below w.heap.size w W) (hM : Mat B0 W H cH xs0.length xs0.length gm (travM xs0.length xs1)) => couldBeDays_any a2 cap2 H cH xs0.length k B0 gm (travM xs0.length xs1) xs2 W hk hM (fun a b ha hb => trav_bd hA ha hb) hl40 (hx2.below hB) ho)
  clear hA
  generalize pP xs0.length xs1 xs2 z = p at HPV ⊢
  go_enter Tryz.func52, Tryz.ntmps52
  go_wp2
  go_loopw [7, 13] (fun o i wr => ∃ (k g c : Nat), k ≤ xs0.length ∧ i = .int .i64 k ∧ o = .slice (some ⟨g, 0, none⟩) (jxl p k).length c ∧ wr.ownsRow (w.heap.size + 1) 2 1 (.slice (some ⟨g, 0, none⟩) (jxl p k).length c) (jxl p k).length ((jxl p k).flatMap encI) ∧ At w [.slice a0 xs0.length cap0, .slice a1 xs1.length cap1] wr) (fun _ i _ => xs0.length - (intOf i).toNat)
  case atStart => exact ⟨0, w.heap.size + 1, 0, Nat.zero_le _, rfl, rfl, by simpa [jxl] using hown0, hA0⟩
  case round =>
    clear hown0 hA0 b0
    obtain ⟨k, g, c, hk, rfl, rfl, hown, hAt⟩ := hrel
    have hlen := jxl_len p k
    have b0 := hAt.cell 0 _ rfl
    have b1 := hAt.cell 1 _ rfl
    by_cases hlt : k < xs0.length
    · have hk1 : (k : Int) < (xs0.length : Int) := by omega
      have hpk := HPV.out k
      have hln := hul.out k
      cases hbb : p k
      · rw [hbb] at hpk
        have HH := Lib.hid (fun a cap W h => hpk ▸ hasDay_any a cap _ (uni (cbl (k : Int) (fun u => travM xs0.length xs1 u k) xs2 (xs2.length + 1))) z W rfl (by omega) h)
        have hst := Lib.hid (jxl_no hbb)
        clear hpk hbb
        go_wp2_with fail
        refine (HT.out _ hAt.below).mono ?_
        rintro e w3 ⟨H, cH, gm, rfl, hM, hB3⟩
        have hown := own_below hown hB3
        have hAt := hAt.step hB3
        clear hB3 b0 b1
        go_wp2_with fail
        refine (HD.out k _ _ _ _ _ hlt hAt.below hM).mono ?_
        rintro e w4 ⟨g4, c4, rfl, ho4, hB4⟩
        have hown := own_below hown hB4
        have hAt := hAt.step hB4
        have hrd := Rd.of_own encSp_len (by decide) ho4
        clear hB4 ho4 hM
        go_wp2_with fail
        refine (HH.out _ _ _ hrd).mono ?_
        rintro e w5 ⟨rfl, hB5⟩
        have hown := own_below hown hB5
        have hAt := hAt.step hB5
        have hs := hAt.size
        clear hB5 hrd
        go_wp2
        go_roundw
        case rel => exact ⟨k + 1, g, c, by omega, by go_num, by rw [hst.out], by rw [hst.out]; exact hown, hAt⟩
        case measure => simp [intOf]; omega
      · rw [hbb] at hpk
        have HH := Lib.hid (fun a cap W h => hpk ▸ hasDay_any a cap _ (uni (cbl (k : Int) (fun u => travM xs0.length xs1 u k) xs2 (xs2.length + 1))) z W rfl (by omega) h)
        have hst := Lib.hid (jxl_yes hbb)
        clear hpk hbb
        generalize jxl p k = out at hown hst hlen ⊢
        go_wp2_with fail
        refine (HT.out _ hAt.below).mono ?_
        rintro e w3 ⟨H, cH, gm, rfl, hM, hB3⟩
        have hown := own_below hown hB3
        have hAt := hAt.step hB3
        clear hB3 b0 b1
        go_wp2_with fail
        refine (HD.out k _ _ _ _ _ hlt hAt.below hM).mono ?_
        rintro e w4 ⟨g4, c4, rfl, ho4, hB4⟩
        have hown := own_below hown hB4
        have hAt := hAt.step hB4
        have hrd := Rd.of_own encSp_len (by decide) ho4
        clear hB4 ho4 hM
        go_wp2_with fail
        refine (HH.out _ _ _ hrd).mono ?_
        rintro e w5 ⟨rfl, hB5⟩
        have hown := own_below hown hB5
        have hAt := hAt.step hB5
        have hs := hAt.size
        clear hB5 hrd
        go_wp2_with (at_builtin; refine wpList_append_own _ rfl _ _ 45 rfl (w.heap.size + 1) 2 i0 (.int .i64 0) 1 8 Tryz.underlying45 hi hz0 hz1 hz2 rfl (by decide) _ _ _ rfl (hown.alloc _) ⟨w5.heap.size, 0, none⟩ 1 1 [.int .i64 k] rfl rfl (cell_one_new _ _ _) ?c2 ?c3 ?c4 ?c5 ?_)
        case c2 => intro u hu; simp at hu; subst hu; rfl
        case c3 => unfold maxLen; omega
        case c4 => omega
        case c5 => first | omega | (simp; omega)
        intro v' w6 hown' hgr _
        have hA6 := (hAt.step ((Below.refl _ w5).alloc (Nat.le_refl _) (.cells #[.int .i64 k] 2))).grown hgr (fun x hx => (hown.lt x hx).1)
        obtain ⟨g', c', rfl⟩ := formJ hown' (by omega)
        clear hgr hown hAt
        go_wp2
        go_roundw
        case rel => exact ⟨k + 1, g', c', by omega, by go_num, by rw [hst.out, List.length_append]; rfl, by rw [hst.out, List.length_append, List.flatMap_append]; exact hown', hA6⟩
        case measure => simp [intOf]; omega
    · obtain rfl : k = xs0.length := by omega
      go_wp2
      go_ret
      exact ⟨_, _, rfl, own_base hown (by omega), hAt.below⟩

set_option maxRecDepth 100000 in
set_option maxHeartbeats 4000000 in
theorem specPoss_any (a0 a1 a2 : Option Addr) (cap0 cap1 cap2 : Nat) (xs0 : List ByteArray) (xs1 : List Wy) (xs2 : List St) (z : Int) (w : World) (hc0 : xs0.length ≤ cap0) (hc1 : cap0 ≤ 9223372036854775807) (hl0 : xs0.length ≤ 1048576) (hx0 : Rd encS w a0 xs0) (hs0 : ∀ m ∈ xs0, m.size ≤ 1048576) (hl1 : xs1.length ≤ 1048576) (hx1 : Rd encWy w a1 xs1) (hl2 : xs2.length ≤ 1048576) (hx2 : Rd encSt w a2 xs2) :
    Calls Tryz.prog 18 #[.agg #[.slice a0 xs0.length cap0, .slice a1 xs1.length cap1], .slice a2 xs2.length cap2, .int .i64 z] w fun e w' => ∃ b c, e = .returned (.tuple #[.slice b (possR xs0 xs1 xs2 z (codeI xs0 xs1 xs2 (dayB z))).1.length c, .int .i64 (possR xs0 xs1 xs2 z (codeI xs0 xs1 xs2 (dayB z))).2]) ∧ w'.ownsRow w.heap.size 2 1 (.slice b (possR xs0 xs1 xs2 z (codeI xs0 xs1 xs2 (dayB z))).1.length c) (possR xs0 xs1 xs2 z (codeI xs0 xs1 xs2 (dayB z))).1.length ((possR xs0 xs1 xs2 z (codeI xs0 xs1 xs2 (dayB z))).1.flatMap encI) ∧ Below w.heap.size w w' := by
  have HC := Lib.hid (fun W q (hB : Below w.heap.size w W) => l15Code_any a0 a1 a2 cap0 cap1 cap2 xs0 xs1 xs2 q W hc0 hc1 hl0 (hx0.below hB) hs0 hl1 (hx1.below hB) hl2 (hx2.below hB))
  have hfacts := Lib.hid (codeI_zero (ps := xs0) (ws := xs1) (xs := xs2) (b := dayB z))
  have hRz : Hid (codeI xs0 xs1 xs2 (dayB z) = 0 → possR xs0 xs1 xs2 z (codeI xs0 xs1 xs2 (dayB z)) = (jxl (pP xs0.length xs1 xs2 z) xs0.length, 0)) := fun h => by unfold possR; rw [if_pos h]
  have hRn : Hid (codeI xs0 xs1 xs2 (dayB z) ≠ 0 → possR xs0 xs1 xs2 z (codeI xs0 xs1 xs2 (dayB z)) = ([], codeI xs0 xs1 xs2 (dayB z))) := fun h => by unfold possR; rw [if_neg h]
  have HPL := Lib.hid (fun W => l01Day_any z W)
  generalize hcc : codeI xs0 xs1 xs2 (dayB z) = c at hfacts hRz hRn ⊢
  have HC := Lib.hid (fun W hB => hcc ▸ HC.out W (dayB z) hB)
  clear hcc
  generalize hpb : dayB z = q at HC HPL
  have HPB := Lib.hid hpb
  clear hpb
  go_enter Tryz.func18, Tryz.ntmps18
  go_wp2_with fail
  generalize hW : w.alloc (.cells #[.slice a0 xs0.length cap0, .slice a1 xs1.length cap1] 35) = W
  have hA0 : At w [.slice a0 xs0.length cap0, .slice a1 xs1.length cap1] W := hW ▸ At.start _ _ _
  have b0 := hA0.cell 0 _ rfl
  have b1 := hA0.cell 1 _ rfl
  have hs := hA0.size
  clear hW
  go_region_held_law (fun w' => w'.cell? ⟨w.heap.size, 0, none⟩ = some (.slice a0 xs0.length cap0) ∧ w'.cell? ⟨w.heap.size, 1, none⟩ = some (.slice a1 xs1.length cap1)) (first | exact ⟨b0, b1⟩ | exact ⟨(hB7.cell (p := ⟨w.heap.size, 0, none⟩) hs).trans b0, (hB7.cell (p := ⟨w.heap.size, 1, none⟩) hs).trans b1⟩) (first | (go_at_call 45; refine (HPL.out _).mono ?_; rintro e w6 ⟨rfl, rfl⟩) | (go_at_call 43; refine (HC.out _ (hA0.step (Below.refl _ W).drew).below).mono ?_; rintro e w7 ⟨rfl, hB7⟩) | fail)
  have hA1 := hA0.step (stepB (Below.refl _ W).drew hB7 (Nat.le_refl _))
  clear hA0 hB7 b0 b1 hs HC HPL
  generalize w7 = w1 at hA1 ⊢
  have b0 := hA1.cell 0 _ rfl
  have b1 := hA1.cell 1 _ rfl
  have hfacts : Hid (c = 0 → isItinB xs0 xs1 xs2 = true ∧ dayB z = true) := hfacts
  by_cases hc : c = 0
  · subst hc
    obtain ⟨hI, _⟩ := hfacts.out rfl
    obtain ⟨hA, ho, hl40⟩ := itin_facts hI
    have hR := Lib.hid (hRz.out rfl)
    clear hfacts hRz hRn hI
    have HD := Lib.hid (fun W (hB : Below w.heap.size w W) => l15Places_any a0 a1 a2 cap0 cap1 cap2 xs0 xs1 xs2 z W hA hl40 ho (hx1.below hB) (hx2.below hB))
    go_wp2_with fail
    refine (HD.out _ hA1.below).mono ?_
    rintro e w2 ⟨g, c, rfl, ho2, hB2⟩
    go_wp2
    go_ret2
    rw [hR.out]
    exact ⟨_, _, rfl, own_base ho2 hA1.below.size, (hA1.step hB2).below⟩
  · have hR := Lib.hid (hRn.out hc)
    have hc2 : (c != 0) = true := by simpa using hc
    clear hfacts hRz hRn
    go_wp2
    go_ret2
    rw [hR.out]
    exact ⟨none, 0, rfl, World.ownsRow_nil _ _ _ _, hA1.below⟩

set_option maxRecDepth 100000 in
set_option maxHeartbeats 4000000 in
theorem implPoss_any (a0 a1 a2 : Option Addr) (cap0 cap1 cap2 : Nat) (xs0 : List ByteArray) (xs1 : List Wy) (xs2 : List St) (z : Int) (w : World) (hc0 : xs0.length ≤ cap0) (hc1 : cap0 ≤ 9223372036854775807) (hl0 : xs0.length ≤ 1048576) (hx0 : Rd encS w a0 xs0) (hs0 : ∀ m ∈ xs0, m.size ≤ 1048576) (hl1 : xs1.length ≤ 1048576) (hx1 : Rd encWy w a1 xs1) (hl2 : xs2.length ≤ 1048576) (hx2 : Rd encSt w a2 xs2) :
    Calls Tryz.prog 17 #[.agg #[.slice a0 xs0.length cap0, .slice a1 xs1.length cap1], .slice a2 xs2.length cap2, .int .i64 z] w fun e w' => ∃ b c, e = .returned (.tuple #[.slice b (possR xs0 xs1 xs2 z (codeI xs0 xs1 xs2 (dayB z))).1.length c, .int .i64 (possR xs0 xs1 xs2 z (codeI xs0 xs1 xs2 (dayB z))).2]) ∧ w'.ownsRow w.heap.size 2 1 (.slice b (possR xs0 xs1 xs2 z (codeI xs0 xs1 xs2 (dayB z))).1.length c) (possR xs0 xs1 xs2 z (codeI xs0 xs1 xs2 (dayB z))).1.length ((possR xs0 xs1 xs2 z (codeI xs0 xs1 xs2 (dayB z))).1.flatMap encI) ∧ Below w.heap.size w w' := by
  have HC := Lib.hid (fun W a3 a4 c3 c4 ys zs (hB : Below w.heap.size w W) (h3 : ys.length ≤ 1048576) (r3 : Rd encI W a3 ys) (h4 : zs.length ≤ 1048576) (r4 : Rd encI W a4 zs) => checkStays_any a0 a1 a2 a3 a4 cap0 cap1 cap2 c3 c4 xs0 xs1 xs2 ys zs W hc0 hc1 hl0 (hx0.below hB) hs0 hl1 (hx1.below hB) hl2 (hx2.below hB) h3 r3 h4 r4)
  have hfacts := Lib.hid (codeI_zero (ps := xs0) (ws := xs1) (xs := xs2) (b := dayB z))
  have hRz : Hid (codeI xs0 xs1 xs2 (dayB z) = 0 → possR xs0 xs1 xs2 z (codeI xs0 xs1 xs2 (dayB z)) = (jxl (pP xs0.length xs1 xs2 z) xs0.length, 0)) := fun h => by unfold possR; rw [if_pos h]
  have hRn : Hid (codeI xs0 xs1 xs2 (dayB z) ≠ 0 → possR xs0 xs1 xs2 z (codeI xs0 xs1 xs2 (dayB z)) = ([], codeI xs0 xs1 xs2 (dayB z))) := fun h => by unfold possR; rw [if_neg h]
  have hA0 : At w [.slice a0 xs0.length cap0, .slice a1 xs1.length cap1] ((w.alloc (.cells #[.slice a0 xs0.length cap0, .slice a1 xs1.length cap1] 35)).alloc (.cells #[.int .i64 z] 2)) := (At.start w _ _).step ((Below.refl _ _).alloc (Nat.le_refl _) _)
  have hrd : Rd encI ((w.alloc (.cells #[.slice a0 xs0.length cap0, .slice a1 xs1.length cap1] 35)).alloc (.cells #[.int .i64 z] 2)) (some ⟨w.heap.size + 1, 0, none⟩) [z] := by
    intro i x hi
    refine ⟨w.heap.size + 1, 0, rfl, by simp, fun j v hv => ?_⟩
    rw [World.cell?_alloc_at _ _ _ _ (by simp)]
    match i, hi with
    | 0, hi => cases hi; match j, hv with | 0, hv => cases hv; rfl
  have HRD := Lib.hid hrd
  clear hrd
  have hcc : codeI xs0 xs1 xs2 (([] : List Int).all (placeB xs0.length) && [z].all dayB) = codeI xs0 xs1 xs2 (dayB z) := by simp
  have HC := Lib.hid (fun W hB r4 => hcc ▸ HC.out W none (some ⟨w.heap.size + 1, 0, none⟩) 0 1 [] [z] hB (by simp) (Rd.nil _ _ _) (by simp) r4)
  clear hcc
  generalize codeI xs0 xs1 xs2 (dayB z) = c at HC hfacts hRz hRn ⊢
  go_enter Tryz.func17, Tryz.ntmps17
  go_wp2_with fail
  refine (HC.out _ hA0.below HRD.out).mono ?_
  rintro e w1 ⟨rfl, hB1⟩
  have hA1 := hA0.step hB1
  clear hA0 hB1 HC HRD
  have b0 := hA1.cell 0 _ rfl
  have b1 := hA1.cell 1 _ rfl
  by_cases hc : c = 0
  · subst hc
    obtain ⟨hI, _⟩ := hfacts.out rfl
    obtain ⟨hA, ho, hl40⟩ := itin_facts hI
    have hR := Lib.hid (hRz.out rfl)
    clear hfacts hRz hRn hI
    have HD := Lib.hid (fun W (hB : Below w.heap.size w W) => possPlaces_any a0 a1 a2 cap0 cap1 cap2 xs0 xs1 xs2 z W hA hl40 ho (hx1.below hB) (hx2.below hB))
    go_wp2_with fail
    refine (HD.out _ hA1.below).mono ?_
    rintro e w2 ⟨g, c, rfl, ho2, hB2⟩
    go_wp2
    go_ret2
    rw [hR.out]
    exact ⟨_, _, rfl, own_base ho2 hA1.below.size, (hA1.step hB2).below⟩
  · have hR := Lib.hid (hRn.out hc)
    have hc2 : (c != 0) = true := by simpa using hc
    clear hfacts hRz hRn
    go_wp2
    go_ret2
    rw [hR.out]
    exact ⟨none, 0, rfl, World.ownsRow_nil _ _ _ _, hA1.below⟩
end
end Go.Proofs.YtipdcgfdejmjfaaGreatDoor
