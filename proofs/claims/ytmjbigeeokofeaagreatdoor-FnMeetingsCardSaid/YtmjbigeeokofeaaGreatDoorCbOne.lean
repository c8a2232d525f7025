/- Walks: CouldBe. Printed by gen_cb2.py. -/
import Derived.Test.YtmjbigeeokofeaaGreatDoorCbDays
namespace Go.Proofs.YtmjbigeeokofeaaGreatDoor
open Go.ChangeShapes Go.WideShapes Go.ChangeAt Go.RowKit

def cbR (ps : List ByteArray) (ws : List Wy) (xs : List St) (p z c : Int) : Bool × Int :=
  if c = 0 then (hasB (uni (cbl p (fun v => travM ps.length ws v p.toNat) xs (xs.length + 1))) z, 0) else (false, c)

set_option maxRecDepth 100000 in
set_option maxHeartbeats 4000000 in
theorem specCbOne_any (a0 a1 a2 : Option Addr) (cap0 cap1 cap2 : Nat) (xs0 : List ByteArray) (xs1 : List Wy) (xs2 : List St) (p z : Int) (w : World) (hc0 : xs0.length ≤ cap0) (hc1 : cap0 ≤ 9223372036854775807) (hl0 : xs0.length ≤ 1048576) (hx0 : Rd encS w a0 xs0) (hs0 : ∀ m ∈ xs0, m.size ≤ 1048576) (hl1 : xs1.length ≤ 1048576) (hx1 : Rd encWy w a1 xs1) (hl2 : xs2.length ≤ 1048576) (hx2 : Rd encSt w a2 xs2) :
    Calls Tryz.prog 36 #[.agg #[.slice a0 xs0.length cap0, .slice a1 xs1.length cap1], .slice a2 xs2.length cap2, .int .i64 p, .int .i64 z] w fun e w' => e = .returned (.tuple #[.bool (cbR xs0 xs1 xs2 p z (codeI xs0 xs1 xs2 (placeB xs0.length p && dayB z))).1, .int .i64 (cbR xs0 xs1 xs2 p z (codeI xs0 xs1 xs2 (placeB xs0.length p && dayB z))).2]) ∧ Below w.heap.size w w' := by
  have HC := Lib.hid (fun W q (hB : Below w.heap.size w W) => l15Code_any a0 a1 a2 cap0 cap1 cap2 xs0 xs1 xs2 q W hc0 hc1 hl0 (hx0.below hB) hs0 hl1 (hx1.below hB) hl2 (hx2.below hB))
  have hfacts := Lib.hid (codeI_zero (ps := xs0) (ws := xs1) (xs := xs2) (b := placeB xs0.length p && dayB z))
  have hRz : Hid (codeI xs0 xs1 xs2 (placeB xs0.length p && dayB z) = 0 → cbR xs0 xs1 xs2 p z (codeI xs0 xs1 xs2 (placeB xs0.length p && dayB z)) = (hasB (uni (cbl p (fun v => travM xs0.length xs1 v p.toNat) xs2 (xs2.length + 1))) z, 0)) := fun h => by unfold cbR; rw [if_pos h]
  have hRn : Hid (codeI xs0 xs1 xs2 (placeB xs0.length p && dayB z) ≠ 0 → cbR xs0 xs1 xs2 p z (codeI xs0 xs1 xs2 (placeB xs0.length p && dayB z)) = (false, codeI xs0 xs1 xs2 (placeB xs0.length p && dayB z))) := fun h => by unfold cbR; rw [if_neg h]
  have HPL := Lib.hid (fun W => l14Place_any a0 a1 cap0 cap1 xs0.length xs1.length p W hl0)
  have HDY := Lib.hid (fun W => l01Day_any z W)
  generalize hcc : codeI xs0 xs1 xs2 (placeB xs0.length p && dayB z) = c at hfacts hRz hRn ⊢
  have HC := Lib.hid (fun W hB => hcc ▸ HC.out W (placeB xs0.length p && dayB z) hB)
  have hfacts : Hid (c = 0 → isItinB xs0 xs1 xs2 = true ∧ (placeB xs0.length p && dayB z) = true) := hfacts
  clear hcc
  cases hpb : placeB xs0.length p
  · have HC := Lib.hid (fun W hB => (show (placeB xs0.length p && dayB z) = false by rw [hpb]; rfl) ▸ HC.out W hB)
    have HPL := Lib.hid (fun W => hpb ▸ HPL.out W)
    clear hpb
    go_enter Tryz.func36, Tryz.ntmps36
    go_wp2_with fail
    generalize hW : w.alloc (.cells #[.slice a0 xs0.length cap0, .slice a1 xs1.length cap1] 27) = W
    have hA0 : At w [.slice a0 xs0.length cap0, .slice a1 xs1.length cap1] W := hW ▸ At.start _ _ _
    have b0 := hA0.cell 0 _ rfl
    have b1 := hA0.cell 1 _ rfl
    have hs := hA0.size
    clear hW
    have E0 := Later.cell b0 hs
    have E1 := Later.cell b1 hs
    refine wp_region_later W (by kernel_rfl) (by kernel_rfl) ?_
    repeat (go_big_quiet_step ((first | (go_at_call 70; exact Later.call (Nat.le_refl _) (HPL.out _)) | (go_at_call 58; exact Later.same (HDY.out _)) | (go_at_call 57; exact Later.call (Nat.le_refl _) (HC.out _ (stepB hA0.below (Later.prop _) hA0.below.size))))))
    refine wpQuiet_nil ?_
    intro z'
    have hz := z'.prop
    generalize z'.val = w1 at hz
    have hA1 := hA0.step hz
    clear hA0 hz E0 E1 b0 b1 hs HC HPL HDY
    have b0 := hA1.cell 0 _ rfl
    have b1 := hA1.cell 1 _ rfl
    by_cases hc : c = 0
    · subst hc
      obtain ⟨hI, hpd⟩ := hfacts.out rfl
      simp only [Bool.and_eq_true] at hpd
      obtain ⟨hA, ho, hl40⟩ := itin_facts hI
      obtain ⟨k, rfl, hk⟩ := place_nat hpd.1
      have hR := Lib.hid (hRz.out rfl)
      rw [Int.toNat_natCast] at hR
      clear hfacts hRz hRn hI hpd
      have hul := Nat.le_trans (uni_len (cbl (k : Int) (fun u => travM xs0.length xs1 u k) xs2 (xs2.length + 1))) (cbl_len _ _ _ _)
      have HD := Lib.hid (fun W (hB : Below w.heap.size w W) => l15Days_any a0 a1 a2 cap0 cap1 cap2 k xs0 xs1 xs2 W hA hk hl40 (hx1.below hB) (hx2.below hB) ho)
      have HH := Lib.hid (fun a cap W h => l02Has_any a cap _ (uni (cbl (k : Int) (fun u => travM xs0.length xs1 u k) xs2 (xs2.length + 1))) z W rfl (by omega) h)
      go_wp2_with fail
      refine (HD.out _ hA1.below).mono ?_
      rintro e w2 ⟨g, c, rfl, ho2, hB2⟩
      have hA2 := hA1.step hB2
      have hrd := Rd.of_own encSp_len (by decide) ho2
      go_wp2_with fail
      refine (HH.out _ _ _ hrd).mono ?_
      rintro e w3 ⟨rfl, hB3⟩
      go_wp2
      go_ret2
      rw [hR.out]
      exact ⟨rfl, (hA2.step hB3).below⟩
    · have hR := Lib.hid (hRn.out hc)
      have hc2 : (c != 0) = true := by simpa using hc
      clear hfacts hRz hRn
      go_wp2
      go_ret2
      rw [hR.out]
      exact ⟨rfl, hA1.below⟩
  · have HC := Lib.hid (fun W hB => (show (placeB xs0.length p && dayB z) = dayB z by rw [hpb]; rfl) ▸ HC.out W hB)
    have HPL := Lib.hid (fun W => hpb ▸ HPL.out W)
    clear hpb
    generalize hdz : dayB z = q at HC HDY
    have HDZ := Lib.hid hdz
    clear hdz
    go_enter Tryz.func36, Tryz.ntmps36
    go_wp2_with fail
    generalize hW : w.alloc (.cells #[.slice a0 xs0.length cap0, .slice a1 xs1.length cap1] 27) = W
    have hA0 : At w [.slice a0 xs0.length cap0, .slice a1 xs1.length cap1] W := hW ▸ At.start _ _ _
    have b0 := hA0.cell 0 _ rfl
    have b1 := hA0.cell 1 _ rfl
    have hs := hA0.size
    clear hW
    have E0 := Later.cell b0 hs
    have E1 := Later.cell b1 hs
    refine wp_region_later W (by kernel_rfl) (by kernel_rfl) ?_
    repeat (go_big_quiet_step ((first | (go_at_call 70; exact Later.call (Nat.le_refl _) (HPL.out _)) | (go_at_call 58; exact Later.same (HDY.out _)) | (go_at_call 57; exact Later.call (Nat.le_refl _) (HC.out _ (stepB hA0.below (Later.prop _) hA0.below.size))))))
    refine wpQuiet_nil ?_
    intro z'
    have hz := z'.prop
    generalize z'.val = w1 at hz
    have hA1 := hA0.step hz
    clear hA0 hz E0 E1 b0 b1 hs HC HPL HDY
    have b0 := hA1.cell 0 _ rfl
    have b1 := hA1.cell 1 _ rfl
    by_cases hc : c = 0
    · subst hc
      obtain ⟨hI, hpd⟩ := hfacts.out rfl
      simp only [Bool.and_eq_true] at hpd
      obtain ⟨hA, ho, hl40⟩ := itin_facts hI
      obtain ⟨k, rfl, hk⟩ := place_nat hpd.1
      have hR := Lib.hid (hRz.out rfl)
      rw [Int.toNat_natCast] at hR
      clear hfacts hRz hRn hI hpd
      have hul := Nat.le_trans (uni_len (cbl (k : Int) (fun u => travM xs0.length xs1 u k) xs2 (xs2.length + 1))) (cbl_len _ _ _ _)
      have HD := Lib.hid (fun W (hB : Below w.heap.size w W) => l15Days_any a0 a1 a2 cap0 cap1 cap2 k xs0 xs1 xs2 W hA hk hl40 (hx1.below hB) (hx2.below hB) ho)
      have HH := Lib.hid (fun a cap W h => l02Has_any a cap _ (uni (cbl (k : Int) (fun u => travM xs0.length xs1 u k) xs2 (xs2.length + 1))) z W rfl (by omega) h)
      go_wp2_with fail
      refine (HD.out _ hA1.below).mono ?_
      rintro e w2 ⟨g, c, rfl, ho2, hB2⟩
      have hA2 := hA1.step hB2
      have hrd := Rd.of_own encSp_len (by decide) ho2
      go_wp2_with fail
      refine (HH.out _ _ _ hrd).mono ?_
      rintro e w3 ⟨rfl, hB3⟩
      go_wp2
      go_ret2
      rw [hR.out]
      exact ⟨rfl, (hA2.step hB3).below⟩
    · have hR := Lib.hid (hRn.out hc)
      have hc2 : (c != 0) = true := by simpa using hc
      clear hfacts hRz hRn
      go_wp2
      go_ret2
      rw [hR.out]
      exact ⟨rfl, hA1.below⟩

set_option maxRecDepth 100000 in
set_option maxHeartbeats 4000000 in
theorem implCbOne_any (a0 a1 a2 : Option Addr) (cap0 cap1 cap2 : Nat) (xs0 : List ByteArray) (xs1 : List Wy) (xs2 : List St) (p z : Int) (w : World) (hc0 : xs0.length ≤ cap0) (hc1 : cap0 ≤ 9223372036854775807) (hl0 : xs0.length ≤ 1048576) (hx0 : Rd encS w a0 xs0) (hs0 : ∀ m ∈ xs0, m.size ≤ 1048576) (hl1 : xs1.length ≤ 1048576) (hx1 : Rd encWy w a1 xs1) (hl2 : xs2.length ≤ 1048576) (hx2 : Rd encSt w a2 xs2) :
    Calls Tryz.prog 18 #[.agg #[.slice a0 xs0.length cap0, .slice a1 xs1.length cap1], .slice a2 xs2.length cap2, .int .i64 p, .int .i64 z] w fun e w' => e = .returned (.tuple #[.bool (cbR xs0 xs1 xs2 p z (codeI xs0 xs1 xs2 (placeB xs0.length p && dayB z))).1, .int .i64 (cbR xs0 xs1 xs2 p z (codeI xs0 xs1 xs2 (placeB xs0.length p && dayB z))).2]) ∧ Below w.heap.size w w' := by
  have HC := Lib.hid (fun W a3 a4 c3 c4 ys zs (hB : Below w.heap.size w W) (h3 : ys.length ≤ 1048576) (r3 : Rd encI W a3 ys) (h4 : zs.length ≤ 1048576) (r4 : Rd encI W a4 zs) => checkStays_any a0 a1 a2 a3 a4 cap0 cap1 cap2 c3 c4 xs0 xs1 xs2 ys zs W hc0 hc1 hl0 (hx0.below hB) hs0 hl1 (hx1.below hB) hl2 (hx2.below hB) h3 r3 h4 r4)
  have hfacts := Lib.hid (codeI_zero (ps := xs0) (ws := xs1) (xs := xs2) (b := placeB xs0.length p && dayB z))
  have hRz : Hid (codeI xs0 xs1 xs2 (placeB xs0.length p && dayB z) = 0 → cbR xs0 xs1 xs2 p z (codeI xs0 xs1 xs2 (placeB xs0.length p && dayB z)) = (hasB (uni (cbl p (fun v => travM xs0.length xs1 v p.toNat) xs2 (xs2.length + 1))) z, 0)) := fun h => by unfold cbR; rw [if_pos h]
  have hRn : Hid (codeI xs0 xs1 xs2 (placeB xs0.length p && dayB z) ≠ 0 → cbR xs0 xs1 xs2 p z (codeI xs0 xs1 xs2 (placeB xs0.length p && dayB z)) = (false, codeI xs0 xs1 xs2 (placeB xs0.length p && dayB z))) := fun h => by unfold cbR; rw [if_neg h]
  have hA0 : At w [.slice a0 xs0.length cap0, .slice a1 xs1.length cap1] (((w.alloc (.cells #[.slice a0 xs0.length cap0, .slice a1 xs1.length cap1] 27)).alloc (.cells #[.int .i64 p] 2)).alloc (.cells #[.int .i64 z] 2)) := ((At.start w _ _).step ((Below.refl _ _).alloc (Nat.le_refl _) _)).step ((Below.refl _ _).alloc (Nat.le_refl _) _)
  have hrd : Rd encI (((w.alloc (.cells #[.slice a0 xs0.length cap0, .slice a1 xs1.length cap1] 27)).alloc (.cells #[.int .i64 p] 2)).alloc (.cells #[.int .i64 z] 2)) (some ⟨w.heap.size + 1, 0, none⟩) [p] := by
    intro i x hi
    refine ⟨w.heap.size + 1, 0, rfl, by simp, fun j v hv => ?_⟩
    rw [World.cell?_alloc_past _ _ _ (by simp), World.cell?_alloc_at _ _ _ _ (by simp)]
    match i, hi with
    | 0, hi => cases hi; match j, hv with | 0, hv => cases hv; rfl
  have hrd2 : Rd encI (((w.alloc (.cells #[.slice a0 xs0.length cap0, .slice a1 xs1.length cap1] 27)).alloc (.cells #[.int .i64 p] 2)).alloc (.cells #[.int .i64 z] 2)) (some ⟨w.heap.size + 2, 0, none⟩) [z] := by
    intro i x hi
    refine ⟨w.heap.size + 2, 0, rfl, by simp, fun j v hv => ?_⟩
    rw [World.cell?_alloc_at _ _ _ _ (by simp)]
    match i, hi with
    | 0, hi => cases hi; match j, hv with | 0, hv => cases hv; rfl
  have HRD := Lib.hid hrd
  have HRD2 := Lib.hid hrd2
  clear hrd hrd2
  have hcc : codeI xs0 xs1 xs2 ([p].all (placeB xs0.length) && [z].all dayB) = codeI xs0 xs1 xs2 (placeB xs0.length p && dayB z) := by simp
  have HC := Lib.hid (fun W hB r3 r4 => hcc ▸ HC.out W (some ⟨w.heap.size + 1, 0, none⟩) (some ⟨w.heap.size + 2, 0, none⟩) 1 1 [p] [z] hB (by simp) r3 (by simp) r4)
  clear hcc
  generalize codeI xs0 xs1 xs2 (placeB xs0.length p && dayB z) = c at HC hfacts hRz hRn ⊢
  go_enter Tryz.func18, Tryz.ntmps18
  go_wp2_with fail
  refine (HC.out _ hA0.below HRD.out HRD2.out).mono ?_
  rintro e w1 ⟨rfl, hB1⟩
  have hA1 := hA0.step hB1
  clear hA0 hB1 HC HRD HRD2
  have b0 := hA1.cell 0 _ rfl
  have b1 := hA1.cell 1 _ rfl
  by_cases hc : c = 0
  · subst hc
    obtain ⟨hI, hpd⟩ := hfacts.out rfl
    simp only [Bool.and_eq_true] at hpd
    obtain ⟨hA, ho, hl40⟩ := itin_facts hI
    obtain ⟨k, rfl, hk⟩ := place_nat hpd.1
    have hR := Lib.hid (hRz.out rfl)
    rw [Int.toNat_natCast] at hR
    clear hfacts hRz hRn hI hpd
    have hul := Nat.le_trans (uni_len (cbl (k : Int) (fun u => travM xs0.length xs1 u k) xs2 (xs2.length + 1))) (cbl_len _ _ _ _)
    have HT := Lib.hid (fun W (hB : Below w.heap.size w W) => trav_any a0 a1 cap0 cap1 xs0 xs1 W hA (hx1.below hB))
    have HD := Lib.hid (fun B0 H cH gm W (hB : Below w.heap.size w W) (hM : Mat B0 W H cH xs0.length xs0.length gm (travM xs0.length xs1)) => couldBeDays_any a2 cap2 H cH xs0.length k B0 gm (travM xs0.length xs1) xs2 W hk hM (fun a b ha hb => trav_bd hA ha hb) hl40 (hx2.below hB) ho)
    have HH := Lib.hid (fun a cap W h => hasDay_any a cap _ (uni (cbl (k : Int) (fun u => travM xs0.length xs1 u k) xs2 (xs2.length + 1))) z W rfl (by omega) h)
    go_wp2_with fail
    refine (HT.out _ hA1.below).mono ?_
    rintro e w2 ⟨H, cH, gm, rfl, hM, hB2⟩
    have hA2 := hA1.step hB2
    go_wp2_with fail
    refine (HD.out _ _ _ _ _ hA2.below hM).mono ?_
    rintro e w3 ⟨g, c, rfl, ho3, hB3⟩
    have hA3 := hA2.step hB3
    have hrd := Rd.of_own encSp_len (by decide) ho3
    go_wp2_with fail
    refine (HH.out _ _ _ hrd).mono ?_
    rintro e w4 ⟨rfl, hB4⟩
    go_wp2
    go_ret2
    rw [hR.out]
    exact ⟨rfl, (hA3.step hB4).below⟩
  · have hR := Lib.hid (hRn.out hc)
    have hc2 : (c != 0) = true := by simpa using hc
    clear hfacts hRz hRn
    go_wp2
    go_ret2
    rw [hR.out]
    exact ⟨rfl, hA1.below⟩
end Go.Proofs.YtmjbigeeokofeaaGreatDoor
