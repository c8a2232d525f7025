/- Walks: the year of a day in a style, and of a reign, by the reference. -/
import Derived.Test.YteajkofgcmfaoaaGreatDoorFe
import Derived.Test.YteajkofgcmfaoaaGreatDoorQL
namespace Go.Proofs.YteajkofgcmfaoaaGreatDoor
section
open Go.ChangeShapes Go.WideShapes Go.ChangeAt Go.RowKit Go.IntWalk

theorem indictionOf_any (y : Int) (w : World) (h0 : 0 ≤ y) (h1 : y ≤ 5000) : Calls Tryz.prog 221 #[.int .i64 y] w fun e w' => e = .returned (.int .i64 ((y + 2) % 15 + 1)) ∧ w = w' := by
  have v1 := i64_in (y + 2) (by omega)
  have v2 := i64_in ((y + 2) % 15 + 1) (by omega)
  go_enter Tryz.func221, Tryz.ntmps221
  go_wp2
  go_ret
  exact ⟨rfl, rfl⟩
theorem two_dates (w1 : World) (Y M D d : Int) : Below w1.heap.size w1 ((w1.alloc (.cells #[.int .i64 Y, .int .i64 M, .int .i64 D] 104)).alloc (.cells #[.int .i64 Y, .int .i64 9, .int .i64 d] 104)) ∧ ((w1.alloc (.cells #[.int .i64 Y, .int .i64 M, .int .i64 D] 104)).alloc (.cells #[.int .i64 Y, .int .i64 9, .int .i64 d] 104)).cell? ⟨w1.heap.size, 0, none⟩ = some (.int .i64 Y) ∧ w1.heap.size < ((w1.alloc (.cells #[.int .i64 Y, .int .i64 M, .int .i64 D] 104)).alloc (.cells #[.int .i64 Y, .int .i64 9, .int .i64 d] 104)).heap.size := by
  have b := (Below.refl _ (w1.alloc (.cells #[.int .i64 Y, .int .i64 M, .int .i64 D] 104))).alloc (Nat.le_refl _) (.cells #[.int .i64 Y, .int .i64 9, .int .i64 d] 104)
  exact ⟨by go_grown, (b.cell (p := ⟨w1.heap.size, 0, none⟩) (by simp)).trans (World.cell?_alloc_at _ _ _ _ rfl), by simp; omega⟩
set_option maxRecDepth 100000 in
set_option maxHeartbeats 1000000 in
theorem indictionOn_any (k n : Int) (w : World) (hn0 : 0 ≤ n) (hn : n ≤ 730499) :
    Calls Tryz.prog 183 #[.int .i64 k, .int .i64 n] w fun e w' => e = .returned (.int .i64 (ioO k n)) ∧ Below w.heap.size w w' := by
  have HD := Lib.hid (fun W => dateOf_any n W hn0 hn)
  have hy := yrO_bd hn0 hn
  have hR1 := Lib.hid (ioO_one n)
  have hR2 := Lib.hid (ioO_two n)
  have hR0 := Lib.hid (fun h1 h2 => ioO_else (k := k) (n := n) h1 h2)
  have H1 := Lib.hid (fun W => dayOf_any (yrO n) 9 1 W (by omega) (by omega) (by decide) (by decide) (by decide) (by decide))
  have H2 := Lib.hid (fun W => dayOf_any (yrO n) 9 24 W (by omega) (by omega) (by decide) (by decide) (by decide) (by decide))
  have HO := Lib.hid (fun W => indictionOf_any (yrO n + 1) W (by omega) (by omega))
  have HP := Lib.hid (fun W => indictionOf_any (yrO n) W (by omega) (by omega))
  have v1 := i64_in (yrO n + 1) (by omega)
  generalize (yrO n + 1 + 2) % 15 + 1 = r1 at hR0 hR1 hR2 HO
  generalize (yrO n + 2) % 15 + 1 = r0 at hR0 hR1 hR2 HP
  generalize (mnO n : Int) = M at HD
  generalize dyO n = D at HD
  generalize yrO n = Y at *
  generalize numO Y 9 1 = V1 at H1 hR0
  generalize numO Y 9 24 = V2 at H2 hR1
  by_cases c1 : k = 1
  · subst c1
    by_cases c2 : V2 ≤ n
    · have hRR := Lib.hid (hR1.out.trans (if_pos c2))
      go_enter Tryz.func183, Tryz.ntmps183
      go_wp2_with fail
      refine (HD.out _).mono ?_
      rintro e w1 ⟨rfl, hB⟩
      go_wp2_with fail
      obtain ⟨hB2, hc, hsz⟩ := two_dates w1 Y M D 24
      generalize ((w1.alloc (.cells #[.int .i64 Y, .int .i64 M, .int .i64 D] 104)).alloc (.cells #[.int .i64 Y, .int .i64 9, .int .i64 24] 104)) = W2 at hB2 hc hsz ⊢
      have hB := stepB hB hB2 hB.size
      clear hB2
      refine (H2.out _).mono ?_
      rintro e w2 ⟨rfl, hB2⟩
      have hc := (hB2.cell (p := ⟨w1.heap.size, 0, none⟩) hsz).trans hc
      have hB := stepB hB hB2 hB.size
      clear hB2 hsz
      go_wp2_with (refine (HO.out _).mono ?_; rintro e w3 ⟨rfl, rfl⟩)
      go_ret
      exact ⟨ret_int hRR.out.symm, hB⟩
    · have hRR := Lib.hid (hR1.out.trans (if_neg c2))
      have hn2 : decide (V2 ≤ n) = false := by simpa using c2
      go_enter Tryz.func183, Tryz.ntmps183
      go_wp2_with fail
      refine (HD.out _).mono ?_
      rintro e w1 ⟨rfl, hB⟩
      go_wp2_with fail
      obtain ⟨hB2, hc, hsz⟩ := two_dates w1 Y M D 24
      generalize ((w1.alloc (.cells #[.int .i64 Y, .int .i64 M, .int .i64 D] 104)).alloc (.cells #[.int .i64 Y, .int .i64 9, .int .i64 24] 104)) = W2 at hB2 hc hsz ⊢
      have hB := stepB hB hB2 hB.size
      clear hB2
      refine (H2.out _).mono ?_
      rintro e w2 ⟨rfl, hB2⟩
      have hc := (hB2.cell (p := ⟨w1.heap.size, 0, none⟩) hsz).trans hc
      have hB := stepB hB hB2 hB.size
      clear hB2 hsz
      go_wp2_with (refine (HP.out _).mono ?_; rintro e w3 ⟨rfl, rfl⟩)
      go_ret
      exact ⟨ret_int hRR.out.symm, hB⟩
  by_cases c3 : k = 2
  · subst c3
    go_enter Tryz.func183, Tryz.ntmps183
    go_wp2_with fail
    refine (HD.out _).mono ?_
    rintro e w1 ⟨rfl, hB⟩
    go_wp2_with fail
    obtain ⟨hB2, hc, hsz⟩ := two_dates w1 Y M D 1
    generalize ((w1.alloc (.cells #[.int .i64 Y, .int .i64 M, .int .i64 D] 104)).alloc (.cells #[.int .i64 Y, .int .i64 9, .int .i64 1] 104)) = W2 at hB2 hc hsz ⊢
    have hB := stepB hB hB2 hB.size
    clear hB2
    refine (HP.out _).mono ?_
    rintro e w3 ⟨rfl, rfl⟩
    go_wp2
    go_ret
    exact ⟨ret_int hR2.out.symm, hB⟩
  have d1 : (k == 1) = false := by simpa using c1
  have d2 : (k != 2) = true := by simpa using c3
  by_cases c2 : V1 ≤ n
  · have hRR := Lib.hid ((hR0.out c1 c3).trans (if_pos c2))
    go_enter Tryz.func183, Tryz.ntmps183
    go_wp2_with fail
    refine (HD.out _).mono ?_
    rintro e w1 ⟨rfl, hB⟩
    go_wp2_with fail
    obtain ⟨hB2, hc, hsz⟩ := two_dates w1 Y M D 1
    generalize ((w1.alloc (.cells #[.int .i64 Y, .int .i64 M, .int .i64 D] 104)).alloc (.cells #[.int .i64 Y, .int .i64 9, .int .i64 1] 104)) = W2 at hB2 hc hsz ⊢
    have hB := stepB hB hB2 hB.size
    clear hB2
    refine (H1.out _).mono ?_
    rintro e w2 ⟨rfl, hB2⟩
    have hc := (hB2.cell (p := ⟨w1.heap.size, 0, none⟩) hsz).trans hc
    have hB := stepB hB hB2 hB.size
    clear hB2 hsz
    go_wp2_with (refine (HO.out _).mono ?_; rintro e w3 ⟨rfl, rfl⟩)
    go_ret
    exact ⟨ret_int hRR.out.symm, hB⟩
  · have hRR := Lib.hid ((hR0.out c1 c3).trans (if_neg c2))
    have hn2 : decide (V1 ≤ n) = false := by simpa using c2
    go_enter Tryz.func183, Tryz.ntmps183
    go_wp2_with fail
    refine (HD.out _).mono ?_
    rintro e w1 ⟨rfl, hB⟩
    go_wp2_with fail
    obtain ⟨hB2, hc, hsz⟩ := two_dates w1 Y M D 1
    generalize ((w1.alloc (.cells #[.int .i64 Y, .int .i64 M, .int .i64 D] 104)).alloc (.cells #[.int .i64 Y, .int .i64 9, .int .i64 1] 104)) = W2 at hB2 hc hsz ⊢
    have hB := stepB hB hB2 hB.size
    clear hB2
    refine (H1.out _).mono ?_
    rintro e w2 ⟨rfl, hB2⟩
    have hc := (hB2.cell (p := ⟨w1.heap.size, 0, none⟩) hsz).trans hc
    have hB := stepB hB hB2 hB.size
    clear hB2 hsz
    go_wp2_with (refine (HP.out _).mono ?_; rintro e w3 ⟨rfl, rfl⟩)
    go_ret
    exact ⟨ret_int hRR.out.symm, hB⟩
end

section
open Go.ChangeShapes Go.WideShapes Go.ChangeAt Go.RowKit Go.IntWalk

set_option maxRecDepth 100000 in
set_option maxHeartbeats 1000000 in
theorem isDateIn_any (y m d : Int) (w : World) (h0 : 1 ≤ y) (h1 : y ≤ 2000) (hm0 : 1 ≤ m) (hm : m ≤ 12) :
    Calls Tryz.prog 160 #[.agg #[.int .i64 y, .int .i64 m, .int .i64 d], .bool false] w fun e w' => e = .returned (.bool (inB d 1 (mlO y m))) ∧ Below w.heap.size w w' := by
  have hA := At.start w [.int .i64 y, .int .i64 m, .int .i64 d] 104
  have hy : inB y 1 2000 = true := by simp [inB, h0, h1]
  have hmm : inB m 1 12 = true := by simp [inB, hm0, hm]
  have HY := Lib.hid (fun W => hy ▸ within_any y 1 2000 W)
  have HM := Lib.hid (fun W => hmm ▸ within_any m 1 12 W)
  have HL := Lib.hid (fun W => lengthOfMonth_any y m W (by omega) (by omega))
  generalize mlO y m = L at HL ⊢
  have HD := Lib.hid (fun W => within_any d 1 L W)
  clear hy hmm
  have E0 := Later.cell (hA.cell 0 _ rfl) hA.size
  have E1 := Later.cell (hA.cell 1 _ rfl) hA.size
  have E2 := Later.cell (hA.cell 2 _ rfl) hA.size
  go_enter Tryz.func160, Tryz.ntmps160
  go_wp2_with fail
  refine wp_region_later _ (by kernel_rfl) (by kernel_rfl) ?_
  repeat (go_big_quiet_step (fail))
  go_big_quiet_step ((go_at_call 53; exact Later.same (HY.out _)))
  repeat (go_big_quiet_step (fail))
  go_big_quiet_step ((go_at_call 53; exact Later.same (HM.out _)))
  repeat (go_big_quiet_step (fail))
  go_big_quiet_step ((go_at_call 206; exact Later.same (HL.out _)))
  go_big_quiet_step ((go_at_call 53; exact Later.same (HD.out _)))
  repeat (go_big_quiet_step (fail))
  refine wpQuiet_nil ?_
  intro z
  have hz := z.prop
  generalize z.val = w2 at hz
  clear E0 E1 E2
  go_wp2
  go_ret
  exact ⟨rfl, stepB hA.below hz hA.below.size⟩
theorem isOldDate_any (y m d : Int) (w : World) (h0 : 1 ≤ y) (h1 : y ≤ 2000) (hm0 : 1 ≤ m) (hm : m ≤ 12) :
    Calls Tryz.prog 117 #[.agg #[.int .i64 y, .int .i64 m, .int .i64 d]] w fun e w' => e = .returned (.bool (inB d 1 (mlO y m))) ∧ Below w.heap.size w w' := by
  have HI := Lib.hid (fun W => isDateIn_any y m d W h0 h1 hm0 hm)
  have hB : Below w.heap.size w (w.alloc (.cells #[.int .i64 y, .int .i64 m, .int .i64 d] 104)) := by go_grown
  go_enter Tryz.func117, Tryz.ntmps117
  go_wp2_with fail
  refine (HI.out _).mono ?_
  rintro e w1 ⟨rfl, hB1⟩
  go_wp2
  go_ret
  exact ⟨rfl, stepB hB hB1 hB.size⟩
theorem isYear_any (y : Int) (w : World) : Calls Tryz.prog 244 #[.int .i64 y] w fun e w' => e = .returned (.bool (inB y 1 2000)) ∧ w = w' := by
  go_enter Tryz.func244, Tryz.ntmps244
  go_wp2_with (go_at_call 53; refine (within_any _ _ _ _).mono ?_; rintro e w' ⟨rfl, rfl⟩)
  go_ret
  exact ⟨rfl, rfl⟩
set_option maxRecDepth 100000 in
set_option maxHeartbeats 1000000 in
theorem yearBegin_any (m : Rg) (k : Int) (w : World) (hf0 : 0 ≤ m.fr) (hf1 : m.fr ≤ 730499) (hk0 : 1 ≤ k) (hk1 : k ≤ 100000) :
    Calls Tryz.prog 218 #[.agg #[.string m.king, .int .i64 m.fr, .int .i64 m.to], .int .i64 k] w fun e w' => e = .returned (.int .i64 (ybO m.fr k)) ∧ Below w.heap.size w w' := by
  obtain ⟨king, fr, tt⟩ := m
  simp only at hf0 hf1 ⊢
  have hA := At.start w [.string king, .int .i64 fr, .int .i64 tt] 115
  have HD := Lib.hid (fun W => dateOf_any fr W hf0 hf1)
  have hy := yrO_bd hf0 hf1
  have hmm := mnO_at fr
  have hdd := dyO_bd fr
  have hml := mlO_bd (yrO fr) (mnO fr)
  have hR : Hid (ybO fr k = if 2000 < k then 730500 else if 2000 < yrO fr + (k - 1) then 730500 else if dyO fr ≤ mlO (yrO fr + (k - 1)) (mnO fr) then numO (yrO fr + (k - 1)) (mnO fr) (dyO fr) else numO (yrO fr + (k - 1)) 3 1) := by unfold Hid ybO; rw [bgO_if]
  generalize ybO fr k = R at hR ⊢
  have v1 := i64_in (k - 1) (by omega)
  have v2 := i64_in (yrO fr + (k - 1)) (by omega)
  have HO := Lib.hid (fun W (h : yrO fr + (k - 1) ≤ 2000) => isOldDate_any (yrO fr + (k - 1)) (mnO fr) (dyO fr) W (by omega) h (by omega) (by omega))
  have HN := Lib.hid (fun W (h : yrO fr + (k - 1) ≤ 2000) => dayOf_any (yrO fr + (k - 1)) (mnO fr) (dyO fr) W (by omega) (by omega) (by omega) (by omega) (by omega) (by omega))
  have HT := Lib.hid (fun W (h : yrO fr + (k - 1) ≤ 2000) => dayOf_any (yrO fr + (k - 1)) 3 1 W (by omega) (by omega) (by decide) (by decide) (by decide) (by decide))
  have HY := Lib.hid (fun W => isYear_any (yrO fr + (k - 1)) W)
  have hd1 := hdd.1
  have hy1 : 1 ≤ yrO fr + (k - 1) := by omega
  clear hmm hdd hml
  generalize numO (yrO fr + (k - 1)) (mnO fr) (dyO fr) = V1 at HN hR
  generalize numO (yrO fr + (k - 1)) 3 1 = V2 at HT hR
  generalize mlO (yrO fr + (k - 1)) (mnO fr) = L at HO hR
  generalize hyk : yrO fr + (k - 1) = y at *
  generalize dyO fr = D at *
  generalize (mnO fr : Int) = M at *
  have c1 := hA.cell 1 _ rfl
  by_cases ck : 2000 < k
  · have hRR := Lib.hid (hR.out.trans (if_pos ck))
    go_enter Tryz.func218, Tryz.ntmps218
    go_wp2_with fail
    refine (HD.out _).mono ?_
    rintro e w1 ⟨rfl, hB1⟩
    have hB := stepB hA.below hB1 hA.below.size
    have hB := stepB hB ((Below.refl _ w1).alloc (Nat.le_refl _) (.cells #[.int .i64 (yrO fr), .int .i64 M, .int .i64 D] 104)) hB.size
    go_wp2
    go_ret
    exact ⟨ret_int hRR.out.symm, hB⟩
  have hR := Lib.hid (hR.out.trans (if_neg ck))
  have ck' : decide (2000 < k) = false := by simpa using ck
  by_cases cy : 2000 < y
  · have hRR := Lib.hid (hR.out.trans (if_pos cy))
    have hin : inB y 1 2000 = false := by simp [inB]; omega
    have HY := Lib.hid (fun W => hin ▸ HY.out W)
    clear hin
    go_enter Tryz.func218, Tryz.ntmps218
    go_wp2_with fail
    refine (HD.out _).mono ?_
    rintro e w1 ⟨rfl, hB1⟩
    have hB := stepB hA.below hB1 hA.below.size
    have hx := Box.new w1 104 [.int .i64 y, .int .i64 M, .int .i64 D] w.heap.size hB.size (by simp)
    have hB := stepB hB ((Below.refl _ w1).alloc (Nat.le_refl _) (.cells #[.int .i64 y, .int .i64 M, .int .i64 D] 104)) hB.size
    clear hB1
    go_wp2_with fail
    refine (HY.out _).mono ?_
    rintro e w2 ⟨rfl, rfl⟩
    go_wp2
    go_ret
    exact ⟨ret_int hRR.out.symm, hB⟩
  have hR := Lib.hid (hR.out.trans (if_neg cy))
  have hin : inB y 1 2000 = true := by simp [inB]; omega
  have HY := Lib.hid (fun W => hin ▸ HY.out W)
  have HO := Lib.hid (fun W => HO.out W (by omega))
  have HN := Lib.hid (fun W => HN.out W (by omega))
  have HT := Lib.hid (fun W => HT.out W (by omega))
  clear hin
  by_cases cd : D ≤ L
  · have hRR := Lib.hid (hR.out.trans (if_pos cd))
    have hin : inB D 1 L = true := by simp [inB]; omega
    have HO := Lib.hid (fun W => hin ▸ HO.out W)
    clear hin
    go_enter Tryz.func218, Tryz.ntmps218
    go_wp2_with fail
    refine (HD.out _).mono ?_
    rintro e w1 ⟨rfl, hB1⟩
    have hB := stepB hA.below hB1 hA.below.size
    have hx := Box.new w1 104 [.int .i64 y, .int .i64 M, .int .i64 D] w.heap.size hB.size (by simp)
    have hB := stepB hB ((Below.refl _ w1).alloc (Nat.le_refl _) (.cells #[.int .i64 y, .int .i64 M, .int .i64 D] 104)) hB.size
    clear hB1
    go_wp2_with fail
    refine (HY.out _).mono ?_
    rintro e w2 ⟨rfl, rfl⟩
    go_wp2_with fail
    refine (HO.out _).mono ?_
    rintro e w2 ⟨rfl, hB1⟩
    have hx := hx.below hB1
    have hB := stepB hB hB1 hB.size
    clear hB1
    have x0 := hx.cell 0 _ rfl
    have x1 := hx.cell 1 _ rfl
    have x2 := hx.cell 2 _ rfl
    go_wp2_with fail
    refine (HN.out _).mono ?_
    rintro e w3 ⟨rfl, hB1⟩
    go_wp2
    go_ret
    exact ⟨ret_int hRR.out.symm, stepB hB hB1 hB.size⟩
  · have hRR := Lib.hid (hR.out.trans (if_neg cd))
    have hin : inB D 1 L = false := by simp [inB]; omega
    have HO := Lib.hid (fun W => hin ▸ HO.out W)
    clear hin
    go_enter Tryz.func218, Tryz.ntmps218
    go_wp2_with fail
    refine (HD.out _).mono ?_
    rintro e w1 ⟨rfl, hB1⟩
    have hB := stepB hA.below hB1 hA.below.size
    have hx := Box.new w1 104 [.int .i64 y, .int .i64 M, .int .i64 D] w.heap.size hB.size (by simp)
    have hB := stepB hB ((Below.refl _ w1).alloc (Nat.le_refl _) (.cells #[.int .i64 y, .int .i64 M, .int .i64 D] 104)) hB.size
    clear hB1
    go_wp2_with fail
    refine (HY.out _).mono ?_
    rintro e w2 ⟨rfl, rfl⟩
    go_wp2_with fail
    refine (HO.out _).mono ?_
    rintro e w2 ⟨rfl, hB1⟩
    have hx := hx.below hB1
    have hB := stepB hB hB1 hB.size
    have hlo := hx.lt.1
    clear hB1
    have x1 := hx.cell 1 _ rfl
    have x2 := hx.cell 2 _ rfl
    have f1 := World.ownsRow.frozenAt hx 1
    have f2 := World.ownsRow.frozenAt hx 2
    have hp1 := Box.put (i := 1) (pre := [.int .i64 y]) (post := [.int .i64 D]) hx rfl (.int .i64 3)
    have hp2 := Box.put (i := 2) (pre := [.int .i64 y, .int .i64 3]) (post := []) hp1.1 rfl (.int .i64 1)
    have hBe := (hB.grown hp1.2 hB.size (fun g e => by cases e; exact hlo)).grown hp2.2 (Nat.le_trans hB.size hp1.2.size) (fun g e => by cases e; exact hlo)
    have HX := Lib.hid (And.intro hp2.1 hBe)
    clear hp1 hp2 hBe
    go_upto_region 9 with (fail)
    obtain ⟨hx, hB⟩ := HX.out
    generalize (w2.setCell ⟨w1.heap.size, 1, none⟩ (.int .i64 3)).setCell ⟨w1.heap.size, 2, none⟩ (.int .i64 1) = W3 at hx hB ⊢
    clear x1 x2 f1 f2
    have x0 := hx.cell 0 _ rfl
    have x1 := hx.cell 1 _ rfl
    have x2 := hx.cell 2 _ rfl
    go_wp2_with fail
    refine (HT.out _).mono ?_
    rintro e w3 ⟨rfl, hB1⟩
    go_wp2
    go_ret
    exact ⟨ret_int hRR.out.symm, stepB hB hB1 hB.size⟩
set_option maxRecDepth 100000 in
set_option maxHeartbeats 1000000 in
theorem regnalYear_any (m : Rg) (n : Int) (w : World) (hf0 : 0 ≤ m.fr) (hf1 : m.fr ≤ n) (hn : n ≤ 730499) :
    Calls Tryz.prog 181 #[.agg #[.string m.king, .int .i64 m.fr, .int .i64 m.to], .int .i64 n] w fun e w' => e = .returned (.int .i64 (rgY m.fr n)) ∧ Below w.heap.size w w' := by
  have hA := At.start w [.string m.king, .int .i64 m.fr, .int .i64 m.to] 115
  have hb := rgY_bd hf1
  have hy := yrO_bd hf0 (by omega)
  have hyn := yrO_bd (n := n) (by omega) hn
  have hb3 : rgY m.fr n ≤ 2001 := by omega
  have HB := Lib.hid (fun k W h0 h1 => yearBegin_any m k W hf0 (by omega) h0 h1)
  have HL := Lib.hid (fun k (hk : 1 ≤ k) => (ybO_le hf0 hk hn).trans rgY_le)
  have hb1 := hb.1
  clear hb hy hyn
  generalize rgY m.fr n = R at *
  go_enter Tryz.func181, Tryz.ntmps181
  go_wp2
  go_loopw [5] (fun i wr => ∃ k : Int, 1 ≤ k ∧ k ≤ R ∧ i = .int .i64 k ∧ At w [.string m.king, .int .i64 m.fr, .int .i64 m.to] wr) (fun i _ => (R - intOf i).toNat)
  case atStart => exact ⟨1, by omega, hb1, rfl, hA⟩
  case round =>
    clear hA
    obtain ⟨k, hk, hkR, rfl, hA⟩ := hrel
    have a0 := hA.cell 0 _ rfl
    have a1 := hA.cell 1 _ rfl
    have a2 := hA.cell 2 _ rfl
    have v1 := i64_in (k + 1) (by omega)
    have HBk := Lib.hid (fun W => HB.out (k + 1) W (by omega) (by omega))
    have hl := HL.out (k + 1) (by omega)
    generalize ybO m.fr (k + 1) = V at HBk hl
    by_cases c : V ≤ n
    · have hle := hl.1 c
      go_wp2_with fail
      refine (HBk.out _).mono ?_
      rintro e w1 ⟨rfl, hB1⟩
      go_wp2
      go_roundw
      case rel => exact ⟨k + 1, by omega, hle, rfl, hA.step hB1⟩
      case measure => simp [intOf]; omega
    · have c' : decide (V ≤ n) = false := by simpa using c
      have he : Hid (k = R) := by unfold Hid; have : ¬ k + 1 ≤ R := fun h => c (hl.2 h); omega
      go_wp2_with fail
      refine (HBk.out _).mono ?_
      rintro e w1 ⟨rfl, hB1⟩
      go_wp2
      go_ret
      exact ⟨ret_int he.out, (hA.step hB1).below⟩
theorem covers_any (m : Rg) (n : Int) (w : World) :
    Calls Tryz.prog 180 #[.agg #[.string m.king, .int .i64 m.fr, .int .i64 m.to], .int .i64 n] w fun e w' => e = .returned (.bool (inB n m.fr m.to)) ∧ Below w.heap.size w w' := by
  have hA := At.start w [.string m.king, .int .i64 m.fr, .int .i64 m.to] 115
  go_enter Tryz.func180, Tryz.ntmps180
  go_wp2_with (go_at_call 53; refine (within_any _ _ _ _).mono ?_; rintro e w' ⟨rfl, rfl⟩)
  go_ret
  exact ⟨rfl, hA.below⟩
end

section
open Go.ChangeShapes Go.WideShapes Go.ChangeAt Go.RowKit Go.IntWalk

set_option maxHeartbeats 1000000 in
theorem l06Begin_any (s y : Int) (w : World) (h0 : 2 ≤ y) (h1 : y ≤ 2005) : Calls Tryz.prog 171 #[.int .i64 s, .int .i64 y] w fun e w' => e = .returned (.int .i64 (beO s y)) ∧ Below w.heap.size w w' := by
  have hR : Hid (beO s y = if s = 1 then numO y 3 1 else if s = 2 then numO y 3 25 else if s = 3 then numO (y - 1) 3 25 else if s = 4 then eaO y
    else if s = 5 then numO (y - 1) 12 25 else if s = 6 then numO (y - 1) 9 1 else nyO y) := rfl
  generalize beO s y = R at hR ⊢
  have hs := esO_bd y
  have H0 := Lib.hid (fun W => l01Number_any y 1 1 W (by omega) (by omega) (by decide) (by decide) (by decide) (by decide))
  have H1 := Lib.hid (fun W => l01Number_any y 3 1 W (by omega) (by omega) (by decide) (by decide) (by decide) (by decide))
  have H2 := Lib.hid (fun W => l01Number_any y 3 25 W (by omega) (by omega) (by decide) (by decide) (by decide) (by decide))
  have H3 := Lib.hid (fun W => l01Number_any (y - 1) 3 25 W (by omega) (by omega) (by decide) (by decide) (by decide) (by decide))
  have HO := Lib.hid (fun W => l04Old_any y W (by omega) h1)
  have H4 := Lib.hid (fun W => l01Number_any y (esO y / 31).toNat (esO y % 31 + 1) W (by omega) (by omega) (by omega) (by omega) (by omega) (by omega))
  have e1 : ((esO y / 31).toNat : Int) = esO y / 31 := by omega
  have H4 := Lib.hid (fun W => e1 ▸ H4.out W)
  have hea : eaO y = numO y (esO y / 31).toNat (esO y % 31 + 1) := rfl
  rw [← hea] at H4
  clear e1 hea hs
  have H5 := Lib.hid (fun W => l01Number_any (y - 1) 12 25 W (by omega) (by omega) (by decide) (by decide) (by decide) (by decide))
  have H6 := Lib.hid (fun W => l01Number_any (y - 1) 9 1 W (by omega) (by omega) (by decide) (by decide) (by decide) (by decide))
  have hny : numO y 1 1 = nyO y := by unfold numO; simp [cumO]
  rw [hny] at H0
  clear hny
  generalize numO y 3 1 = r1 at H1 hR
  generalize numO y 3 25 = r2 at H2 hR
  generalize numO (y - 1) 3 25 = r3 at H3 hR
  generalize eaO y = r4 at H4 hR
  generalize numO (y - 1) 12 25 = r5 at H5 hR
  generalize numO (y - 1) 9 1 = r6 at H6 hR
  generalize nyO y = r0 at H0 hR
  generalize esO y / 31 = q1 at HO H4
  generalize esO y % 31 + 1 = q2 at HO H4
  have v1 := i64_in (y - 1) (by omega)
  have hB0 : ∀ a b c : Int, Below w.heap.size w (w.alloc (.cells #[.int .i64 a, .int .i64 b, .int .i64 c] 104)) := fun a b c => by go_grown
  by_cases c1 : s = 1
  · subst c1
    go_enter Tryz.func171, Tryz.ntmps171
    go_wp2_with fail
    refine (H1.out _).mono ?_
    rintro e w1 ⟨rfl, hB⟩
    go_wp2
    go_ret
    exact ⟨ret_int hR.out.symm, stepB (hB0 _ _ _) hB (hB0 _ _ _).size⟩
  by_cases c2 : s = 2
  · subst c2
    go_enter Tryz.func171, Tryz.ntmps171
    go_wp2_with fail
    refine (H2.out _).mono ?_
    rintro e w1 ⟨rfl, hB⟩
    go_wp2
    go_ret
    exact ⟨ret_int hR.out.symm, stepB (hB0 _ _ _) hB (hB0 _ _ _).size⟩
  by_cases c3 : s = 3
  · subst c3
    go_enter Tryz.func171, Tryz.ntmps171
    go_wp2_with fail
    refine (H3.out _).mono ?_
    rintro e w1 ⟨rfl, hB⟩
    go_wp2
    go_ret
    exact ⟨ret_int hR.out.symm, stepB (hB0 _ _ _) hB (hB0 _ _ _).size⟩
  by_cases c5 : s = 5
  · subst c5
    go_enter Tryz.func171, Tryz.ntmps171
    go_wp2_with fail
    refine (H5.out _).mono ?_
    rintro e w1 ⟨rfl, hB⟩
    go_wp2
    go_ret
    exact ⟨ret_int hR.out.symm, stepB (hB0 _ _ _) hB (hB0 _ _ _).size⟩
  by_cases c6 : s = 6
  · subst c6
    go_enter Tryz.func171, Tryz.ntmps171
    go_wp2_with fail
    refine (H6.out _).mono ?_
    rintro e w1 ⟨rfl, hB⟩
    go_wp2
    go_ret
    exact ⟨ret_int hR.out.symm, stepB (hB0 _ _ _) hB (hB0 _ _ _).size⟩
  by_cases c4 : s = 4
  · subst c4
    have hx := Box.new w 104 [.int .i64 y, .int .i64 1, .int .i64 1] w.heap.size (Nat.le_refl _) (by simp)
    have hB := hB0 y 1 1
    go_enter Tryz.func171, Tryz.ntmps171
    go_wp2_with fail
    refine (HO.out _).mono ?_
    rintro e w1 ⟨rfl, hB1⟩
    have hx := hx.below hB1
    have hB := stepB hB hB1 hB.size
    clear hB1
    have x0 := hx.cell 0 _ rfl
    have x1 := hx.cell 1 _ rfl
    have x2 := hx.cell 2 _ rfl
    have f0 := World.ownsRow.frozenAt hx 0
    have f1 := World.ownsRow.frozenAt hx 1
    have f2 := World.ownsRow.frozenAt hx 2
    have HP := Lib.hid (hx.put3 (.int .i64 y) (.int .i64 q1) (.int .i64 q2))
    go_upto_region 15 with (fail)
    have hp := HP.out
    have hBe := hB.grown hp.2 hB.size (fun g e => by cases e; exact Nat.le_refl _)
    generalize ((w1.setCell ⟨w.heap.size, 0, none⟩ (.int .i64 y)).setCell ⟨w.heap.size, 1, none⟩ (.int .i64 q1)).setCell ⟨w.heap.size, 2, none⟩ (.int .i64 q2) = Wf at hp hBe ⊢
    clear x0 x1 x2 f0 f1 f2 hx
    have z0 := hp.1.cell 0 _ rfl
    have z1 := hp.1.cell 1 _ rfl
    have z2 := hp.1.cell 2 _ rfl
    clear hp
    go_wp2_with fail
    refine (H4.out _).mono ?_
    rintro e w2 ⟨rfl, hB2⟩
    go_wp2
    go_ret
    exact ⟨ret_int hR.out.symm, stepB hBe hB2 hBe.size⟩
  have hR' : R = r0 := by rw [hR.out, if_neg c1, if_neg c2, if_neg c3, if_neg c4, if_neg c5, if_neg c6]
  have d1 : (s == 1) = false := by simpa using c1
  have d2 : (s == 2) = false := by simpa using c2
  have d3 : (s == 3) = false := by simpa using c3
  have d4 : (s == 4) = false := by simpa using c4
  have d5 : (s == 5) = false := by simpa using c5
  have d6 : (s == 6) = false := by simpa using c6
  subst hR'
  clear hR
  go_enter Tryz.func171, Tryz.ntmps171
  go_wp2_with fail
  refine (H0.out _).mono ?_
  rintro e w1 ⟨rfl, hB⟩
  go_wp2
  go_ret
  exact ⟨rfl, stepB (hB0 _ _ _) hB (hB0 _ _ _).size⟩
theorem l08Year_any (y : Int) (w : World) (h0 : 0 ≤ y) (h1 : y ≤ 5000) : Calls Tryz.prog 173 #[.int .i64 y] w fun e w' => e = .returned (.int .i64 ((y + 2) % 15 + 1)) ∧ w = w' := by
  have v1 := i64_in (y + 2) (by omega)
  have v2 := i64_in ((y + 2) % 15 + 1) (by omega)
  go_enter Tryz.func173, Tryz.ntmps173
  go_wp2
  go_ret
  exact ⟨rfl, rfl⟩
set_option maxRecDepth 100000 in
set_option maxHeartbeats 1000000 in
theorem l08On_any (k n : Int) (w : World) (hk0 : 0 ≤ k) (hk1 : k ≤ 2) (hn0 : 0 ≤ n) (hn : n ≤ 730499) :
    Calls Tryz.prog 128 #[.int .i64 k, .int .i64 n] w fun e w' => e = .returned (.int .i64 (ioO k n)) ∧ Below w.heap.size w w' := by
  have HD := Lib.hid (fun W => l01Old_any n W hn0 hn)
  have hy := yrO_bd hn0 hn
  have hR1 := Lib.hid (ioO_one n)
  have hR2 := Lib.hid (ioO_two n)
  have hR0 := Lib.hid (ioO_else (k := 0) (n := n) (by decide) (by decide))
  have H1 := Lib.hid (fun W => l01Number_any (yrO n) 9 1 W (by omega) (by omega) (by decide) (by decide) (by decide) (by decide))
  have H2 := Lib.hid (fun W => l01Number_any (yrO n) 9 24 W (by omega) (by omega) (by decide) (by decide) (by decide) (by decide))
  have HO := Lib.hid (fun W => l08Year_any (yrO n + 1) W (by omega) (by omega))
  have HP := Lib.hid (fun W => l08Year_any (yrO n) W (by omega) (by omega))
  have hfd := fldY (yrO n) (mnO n) (dyO n)
  have v1 := i64_in (yrO n + 1) (by omega)
  generalize (yrO n + 1 + 2) % 15 + 1 = r1 at hR0 hR1 hR2 HO
  generalize (yrO n + 2) % 15 + 1 = r0 at hR0 hR1 hR2 HP
  generalize (mnO n : Int) = M at HD hfd
  generalize dyO n = D at HD hfd
  generalize yrO n = Y at *
  generalize numO Y 9 1 = V1 at H1 hR0
  generalize numO Y 9 24 = V2 at H2 hR1
  have hB2 : ∀ u : World, Below w.heap.size w u → Below w.heap.size w (u.alloc (.cells #[.int .i64 1, .int .i64 24] 2)) := fun u h => h.alloc h.size _
  by_cases c0 : k = 0
  · subst c0
    by_cases c : V1 ≤ n
    · have hRR := Lib.hid (hR0.out.trans (if_pos c))
      go_enter Tryz.func128, Tryz.ntmps128
      go_wp2_with fail
      refine (HD.out _).mono ?_
      rintro e w1 ⟨rfl, hB⟩
      have hB := hB2 w1 hB
      go_wp2_with fail
      refine (H1.out _).mono ?_
      rintro e w2 ⟨rfl, hB3⟩
      have hB := stepB hB hB3 hB.size
      go_wp2_with (refine (HO.out _).mono ?_; rintro e w3 ⟨rfl, rfl⟩)
      go_ret
      exact ⟨ret_int hRR.out.symm, hB⟩
    · have hRR := Lib.hid (hR0.out.trans (if_neg c))
      have hn2 : decide (V1 ≤ n) = false := by simpa using c
      go_enter Tryz.func128, Tryz.ntmps128
      go_wp2_with fail
      refine (HD.out _).mono ?_
      rintro e w1 ⟨rfl, hB⟩
      have hB := hB2 w1 hB
      go_wp2_with fail
      refine (H1.out _).mono ?_
      rintro e w2 ⟨rfl, hB3⟩
      have hB := stepB hB hB3 hB.size
      go_wp2_with (refine (HP.out _).mono ?_; rintro e w3 ⟨rfl, rfl⟩)
      go_ret
      exact ⟨ret_int hRR.out.symm, hB⟩
  by_cases c1 : k = 1
  · subst c1
    by_cases c : V2 ≤ n
    · have hRR := Lib.hid (hR1.out.trans (if_pos c))
      go_enter Tryz.func128, Tryz.ntmps128
      go_wp2_with fail
      refine (HD.out _).mono ?_
      rintro e w1 ⟨rfl, hB⟩
      have hB := hB2 w1 hB
      go_wp2_with fail
      refine (H2.out _).mono ?_
      rintro e w2 ⟨rfl, hB3⟩
      have hB := stepB hB hB3 hB.size
      go_wp2_with (refine (HO.out _).mono ?_; rintro e w3 ⟨rfl, rfl⟩)
      go_ret
      exact ⟨ret_int hRR.out.symm, hB⟩
    · have hRR := Lib.hid (hR1.out.trans (if_neg c))
      have hn2 : decide (V2 ≤ n) = false := by simpa using c
      go_enter Tryz.func128, Tryz.ntmps128
      go_wp2_with fail
      refine (HD.out _).mono ?_
      rintro e w1 ⟨rfl, hB⟩
      have hB := hB2 w1 hB
      go_wp2_with fail
      refine (H2.out _).mono ?_
      rintro e w2 ⟨rfl, hB3⟩
      have hB := stepB hB hB3 hB.size
      go_wp2_with (refine (HP.out _).mono ?_; rintro e w3 ⟨rfl, rfl⟩)
      go_ret
      exact ⟨ret_int hRR.out.symm, hB⟩
  have c2 : k = 2 := by omega
  subst c2
  go_enter Tryz.func128, Tryz.ntmps128
  go_wp2_with fail
  refine (HD.out _).mono ?_
  rintro e w1 ⟨rfl, hB⟩
  have hB := hB2 w1 hB
  go_wp2_with (refine (HP.out _).mono ?_; rintro e w3 ⟨rfl, rfl⟩)
  go_ret
  exact ⟨ret_int hR2.out.symm, hB⟩
end

section
open Go.ChangeShapes Go.WideShapes Go.ChangeAt Go.RowKit Go.IntWalk

set_option maxRecDepth 100000 in
set_option maxHeartbeats 2000000 in
theorem l06On_any (s n : Int) (w : World) (hn0 : 0 ≤ n) (hn : n ≤ 730499) :
    Calls Tryz.prog 127 #[.int .i64 s, .int .i64 n] w fun e w' => e = .returned (.tuple #[.int .i64 (yoR s n).1, .bool (yoR s n).2]) ∧ Below w.heap.size w w' := by
  have HD := Lib.hid (fun W => l01Old_any n W hn0 hn)
  have hy := yrO_bd hn0 hn
  have hR : Hid (yoR s n = match fstR (inY s n) (yrO n - 1) 3 with | some y => (y, true) | none => (0, false)) := rfl
  generalize yoR s n = R at hR ⊢
  have HS := Lib.hid (fun y W h0 h1 => l06Begin_any s y W h0 h1)
  have HI := Lib.hid (fun y => (show inY s n y = (inB y 2 1999 && inB n (beO s y) (beO s (y + 1) - 1)) from rfl))
  have HB := Lib.hid (fun y h0 h1 => beO_bd (s := s) (y := y) h0 h1)
  generalize inY s n = q at hR HI
  generalize beO s = b at HS HI HB
  have hfd := fldY (yrO n) (mnO n) (dyO n)
  generalize (mnO n : Int) = M at HD hfd
  generalize dyO n = D at HD hfd
  generalize yrO n = Y at HD hy hR hfd
  have v0 := i64_in (Y - 1) (by omega)
  have v1 := i64_in (Y + 1) (by omega)
  go_enter Tryz.func127, Tryz.ntmps127
  go_wp2_with fail
  refine (HD.out _).mono ?_
  rintro e w1 ⟨rfl, hB1⟩
  go_wp2
  go_loopw [7] (fun i wr => ∃ k : Nat, k ≤ 3 ∧ i = .int .i64 (Y - 1 + k) ∧ Hid (fstR q (Y - 1) 3 = fstR q (Y - 1 + k) (3 - k)) ∧ Below w.heap.size w wr) (fun i _ => (Y + 2 - intOf i).toNat)
  case atStart => exact ⟨0, by decide, by simp, by unfold Hid; simp, hB1⟩
  case round =>
    clear hB1
    obtain ⟨k, hk, rfl, hH, hB⟩ := hrel
    by_cases hlt : k < 3
    · have hlt' : decide (Y - 1 + (k : Int) ≤ Y + 1) = true := by simp; omega
      have hek : 3 - k = (3 - (k + 1)) + 1 := by omega
      have HK := Lib.hid (HI.out (Y - 1 + k))
      have hH2 : Hid (fstR q (Y - 1) 3 = if q (Y - 1 + k) = true then some (Y - 1 + k) else fstR q (Y - 1 + k + 1) (3 - (k + 1))) := by unfold Hid; rw [hH.out, hek]; rfl
      have e3 : Hid (Y - 1 + (k : Int) + 1 = Y - 1 + ((k + 1 : Nat) : Int)) := by unfold Hid; omega
      have hyb : Y - 1 + (k : Int) ≤ 2001 ∧ 0 ≤ Y - 1 + (k : Int) := by omega
      have v2 := i64_in (Y - 1 + (k : Int) + 1) (by omega)
      have hyl : Y - 1 + (k : Int) ≤ Y + 1 := by omega
      have hk3 : k + 1 ≤ 3 := by omega
      clear hek hlt
      generalize Y - 1 + (k : Int) = y at *
      cases hs : inB y 2 1999
      · have HSt := Lib.hid (fun W => hs ▸ l06Year_any y W)
        have hq : Hid (q y = false) := by unfold Hid; rw [HK.out, hs]; rfl
        go_wp2_with (go_at_call 103; refine (HSt.out _).mono ?_; rintro e w' ⟨rfl, rfl⟩)
        go_roundw
        case rel => exact ⟨k + 1, hk3, by rw [e3.out], by unfold Hid; rw [hH2.out, hq.out, ← e3.out]; rfl, hB⟩
        case measure => simp [intOf]; omega
      · have HSt := Lib.hid (fun W => hs ▸ l06Year_any y W)
        have hyy : 2 ≤ y ∧ y ≤ 1999 := by simpa [inB] using hs
        have H1 := Lib.hid (fun W => HS.out y W hyy.1 (by omega))
        have H2 := Lib.hid (fun W => HS.out (y + 1) W (by omega) (by omega))
        have hb := HB.out (y + 1) (by omega) (by omega)
        have HK := Lib.hid HK.out
        have HW := Lib.hid (fun W => l01In_any n (b y) (b (y + 1) - 1) W)
        generalize b y = u at H1 HW HK
        generalize b (y + 1) = v at H2 HW HK hb
        have v3 := i64_in (v - 1) (by omega)
        cases hw : inB n u (v - 1)
        · have HW := Lib.hid (fun W => hw ▸ HW.out W)
          have hq : Hid (q y = false) := by unfold Hid; rw [HK.out, hs, hw]; rfl
          clear hs hw
          go_wp2_with (go_at_call 103; refine (HSt.out _).mono ?_; rintro e w' ⟨rfl, rfl⟩)
          refine (H1.out _).mono ?_
          rintro e w2 ⟨rfl, hB2⟩
          have hB := stepB hB hB2 hB.size
          clear hB2
          go_wp2_with fail
          refine (H2.out _).mono ?_
          rintro e w3 ⟨rfl, hB2⟩
          have hB := stepB hB hB2 hB.size
          clear hB2
          go_wp2_with (go_at_call 55; refine (HW.out _).mono ?_; rintro e w' ⟨rfl, rfl⟩)
          go_roundw
          case rel => exact ⟨k + 1, hk3, by rw [e3.out], by unfold Hid; rw [hH2.out, hq.out, ← e3.out]; rfl, hB⟩
          case measure => simp [intOf]; omega
        · have HW := Lib.hid (fun W => hw ▸ HW.out W)
          have hq : Hid (q y = true) := by unfold Hid; rw [HK.out, hs, hw]; rfl
          clear hs hw
          go_wp2_with (go_at_call 103; refine (HSt.out _).mono ?_; rintro e w' ⟨rfl, rfl⟩)
          refine (H1.out _).mono ?_
          rintro e w2 ⟨rfl, hB2⟩
          have hB := stepB hB hB2 hB.size
          clear hB2
          go_wp2_with fail
          refine (H2.out _).mono ?_
          rintro e w3 ⟨rfl, hB2⟩
          have hB := stepB hB hB2 hB.size
          clear hB2
          go_wp2_with (go_at_call 55; refine (HW.out _).mono ?_; rintro e w' ⟨rfl, rfl⟩)
          go_ret2
          have hRR : R = (y, true) := by rw [hR.out, hH2.out, hq.out]; rfl
          rw [hRR]
          exact ⟨rfl, hB⟩
    · have he : Hid (k = 3) := by unfold Hid; omega
      have hlt' : decide (Y - 1 + (k : Int) ≤ Y + 1) = false := by simp; omega
      go_wp2
      go_ret2
      have hRR : R = (0, false) := by rw [hR.out, hH.out, he.out]; rfl
      rw [hRR]
      exact ⟨rfl, hB⟩
theorem bgO_eq (fr k : Int) : bgO fr k = if mnO fr = 2 ∧ dyO fr = 29 ∧ (yrO fr + k - 1) % 4 ≠ 0 then numO (yrO fr + k - 1) 3 1 else numO (yrO fr + k - 1) (mnO fr) (dyO fr) := rfl
set_option maxRecDepth 100000 in
set_option maxHeartbeats 1000000 in
theorem l07Begin_any (m : Rg) (k : Int) (w : World) (hf0 : 0 ≤ m.fr) (hf1 : m.fr ≤ 730499) (hk0 : 1 ≤ k) (hk1 : k ≤ 3000 - 1) :
    Calls Tryz.prog 170 #[.agg #[.string m.king, .int .i64 m.fr, .int .i64 m.to], .int .i64 k] w fun e w' => e = .returned (.int .i64 (bgO m.fr k)) ∧ Below w.heap.size w w' := by
  obtain ⟨king, fr, t9⟩ := m
  simp only at hf0 hf1 ⊢
  have hA := At.start w [.string king, .int .i64 fr, .int .i64 t9] 115
  have HD := Lib.hid (fun W => l01Old_any fr W hf0 hf1)
  have hy := yrO_bd hf0 hf1
  have hmm := mnO_at fr
  have hdd := dyO_bd fr
  have hml := mlO_bd (yrO fr) (mnO fr)
  have hR := Lib.hid (bgO_eq fr k)
  generalize bgO fr k = R at hR ⊢
  have v1 := i64_in (yrO fr + k) (by omega)
  have v2 := i64_in (yrO fr + k - 1) (by omega)
  have HN := Lib.hid (fun W => l01Number_any (yrO fr + k - 1) (mnO fr) (dyO fr) W (by omega) (by omega) (by omega) (by omega) (by omega) (by omega))
  have HT := Lib.hid (fun W => l01Number_any (yrO fr + k - 1) 3 1 W (by omega) (by omega) (by decide) (by decide) (by decide) (by decide))
  have HL := Lib.hid (fun W => l01Leap_any (yrO fr + k - 1) W (by omega) (by omega))
  clear hmm hdd hml hy
  generalize numO (yrO fr + k - 1) (mnO fr) (dyO fr) = V1 at HN hR
  generalize numO (yrO fr + k - 1) 3 1 = V2 at HT hR
  have hRM : Hid (R = if (mnO fr : Int) = 2 ∧ dyO fr = 29 ∧ (yrO fr + k - 1) % 4 ≠ 0 then V2 else V1) := by
    unfold Hid
    rw [hR.out]
    have : ((mnO fr : Int) = 2) ↔ mnO fr = 2 := by omega
    simp only [this]
  clear hR
  generalize (mnO fr : Int) = M at *
  generalize dyO fr = D at *
  generalize yrO fr = Y at *
  generalize hyk : Y + k - 1 = y at *
  have c1 := hA.cell 1 _ rfl
  by_cases h1 : M = 2
  · subst h1
    by_cases h2 : D = 29
    · subst h2
      by_cases h3 : y % 4 = 0
      · have hRR : Hid (R = V1) := by unfold Hid; rw [hRM.out, if_neg (fun h => h.2.2 h3)]
        have HL := Lib.hid (fun W => decide_eq_true h3 ▸ HL.out W)
        clear h3
        go_enter Tryz.func170, Tryz.ntmps170
        go_wp2_with fail
        refine (HD.out _).mono ?_
        rintro e w1 ⟨rfl, hB1⟩
        have hB := stepB hA.below hB1 hA.below.size
        have hB := stepB hB ((Below.refl _ w1).alloc (Nat.le_refl _) (.cells #[.int .i64 y, .int .i64 2, .int .i64 29] 104)) hB.size
        go_wp2_with (go_at_call 211; refine (HL.out _).mono ?_; rintro e w' ⟨rfl, rfl⟩)
        refine (HN.out _).mono ?_
        rintro e w2 ⟨rfl, hB2⟩
        go_wp2
        go_ret
        exact ⟨ret_int hRR.out.symm, stepB hB hB2 hB.size⟩
      · have hRR : Hid (R = V2) := by unfold Hid; rw [hRM.out, if_pos ⟨rfl, rfl, h3⟩]
        have HL := Lib.hid (fun W => decide_eq_false h3 ▸ HL.out W)
        clear h3
        go_enter Tryz.func170, Tryz.ntmps170
        go_wp2_with fail
        refine (HD.out _).mono ?_
        rintro e w1 ⟨rfl, hB1⟩
        have hB := stepB hA.below hB1 hA.below.size
        have hB := stepB hB ((Below.refl _ w1).alloc (Nat.le_refl _) (.cells #[.int .i64 y, .int .i64 3, .int .i64 1] 104)) hB.size
        go_wp2_with (go_at_call 211; refine (HL.out _).mono ?_; rintro e w' ⟨rfl, rfl⟩)
        refine (HT.out _).mono ?_
        rintro e w2 ⟨rfl, hB2⟩
        go_wp2
        go_ret
        exact ⟨ret_int hRR.out.symm, stepB hB hB2 hB.size⟩
    · have hRR : Hid (R = V1) := by unfold Hid; rw [hRM.out, if_neg (fun h => h2 h.2.1)]
      have h2' : (D == 29) = false := by simpa using h2
      clear h2
      go_enter Tryz.func170, Tryz.ntmps170
      go_wp2_with fail
      refine (HD.out _).mono ?_
      rintro e w1 ⟨rfl, hB1⟩
      have hB := stepB hA.below hB1 hA.below.size
      have hB := stepB hB ((Below.refl _ w1).alloc (Nat.le_refl _) (.cells #[.int .i64 y, .int .i64 2, .int .i64 D] 104)) hB.size
      go_wp2_with fail
      refine (HN.out _).mono ?_
      rintro e w2 ⟨rfl, hB2⟩
      go_wp2
      go_ret
      exact ⟨ret_int hRR.out.symm, stepB hB hB2 hB.size⟩
  · have hRR : Hid (R = V1) := by unfold Hid; rw [hRM.out, if_neg (fun h => h1 h.1)]
    have h1' : (M == 2) = false := by simpa using h1
    clear h1
    go_enter Tryz.func170, Tryz.ntmps170
    go_wp2_with fail
    refine (HD.out _).mono ?_
    rintro e w1 ⟨rfl, hB1⟩
    have hB := stepB hA.below hB1 hA.below.size
    have hB := stepB hB ((Below.refl _ w1).alloc (Nat.le_refl _) (.cells #[.int .i64 y, .int .i64 M, .int .i64 D] 104)) hB.size
    go_wp2_with fail
    refine (HN.out _).mono ?_
    rintro e w2 ⟨rfl, hB2⟩
    go_wp2
    go_ret
    exact ⟨ret_int hRR.out.symm, stepB hB hB2 hB.size⟩
set_option maxRecDepth 100000 in
set_option maxHeartbeats 1000000 in
theorem l07Year_any (m : Rg) (n : Int) (w : World) (hf0 : 0 ≤ m.fr) (hf1 : m.fr ≤ n) (hn : n ≤ 730499) :
    Calls Tryz.prog 126 #[.agg #[.string m.king, .int .i64 m.fr, .int .i64 m.to], .int .i64 n] w fun e w' => e = .returned (.int .i64 (rgY m.fr n)) ∧ Below w.heap.size w w' := by
  have hA := At.start w [.string m.king, .int .i64 m.fr, .int .i64 m.to] 115
  have hb := rgY_bd hf1
  have hy := yrO_bd hf0 (by omega)
  have hyn := yrO_bd (n := n) (by omega) hn
  have hb3 : rgY m.fr n ≤ 2001 := by omega
  have HB := Lib.hid (fun k W h0 h1 => l07Begin_any m k W hf0 (by omega) h0 h1)
  have HL := Lib.hid (fun k => rgY_le (fr := m.fr) (n := n) (k := k))
  have HDn := Lib.hid (fun W => l01Old_any n W (by omega) hn)
  have HDf := Lib.hid (fun W => l01Old_any m.fr W hf0 (by omega))
  have hfn := fldY (yrO n) (mnO n) (dyO n)
  have hff := fldY (yrO m.fr) (mnO m.fr) (dyO m.fr)
  generalize rgY m.fr n = R at *
  obtain ⟨k0, hk0⟩ : ∃ k0 : Int, max 1 (yrO n - yrO m.fr) = k0 := ⟨_, rfl⟩
  have hk1 : 1 ≤ k0 ∧ k0 ≤ R := by omega
  have v0 := i64_in (yrO n - yrO m.fr) (by omega)
  clear hb hy hyn
  generalize yrO n = Yn at *
  generalize yrO m.fr = Yf at *
  generalize (mnO n : Int) = Mn at *
  generalize (mnO m.fr : Int) = Mf at *
  generalize dyO n = Dn at *
  generalize dyO m.fr = Df at *
  have E1 := Later.cell (hA.cell 1 _ rfl) hA.size
  go_enter Tryz.func126, Tryz.ntmps126
  go_wp2_with fail
  refine wp_region_later _ (by kernel_rfl) (by kernel_rfl) ?_
  repeat (go_big_quiet_step (fail))
  go_big_quiet_step ((go_at_call 122; exact Later.call (Nat.le_refl _) (HDn.out _)))
  repeat (go_big_quiet_step (fail))
  go_big_quiet_step ((go_at_call 122; exact Later.call (Nat.le_refl _) (HDf.out _)))
  repeat (go_big_quiet_step (fail))
  refine wpQuiet_nil ?_
  intro z
  have hz := z.prop
  generalize z.val = w2 at hz
  clear E1
  have hA := hA.step hz
  go_wp2
  clear hk0
  go_loopw [5] (fun i wr => ∃ k : Int, 1 ≤ k ∧ k ≤ R ∧ i = .int .i64 k ∧ At w [.string m.king, .int .i64 m.fr, .int .i64 m.to] wr) (fun i _ => (R - intOf i).toNat)
  case atStart => exact ⟨k0, hk1.1, hk1.2, rfl, hA⟩
  case round =>
    clear hA hz
    obtain ⟨k, hk, hkR, rfl, hA⟩ := hrel
    have a0 := hA.cell 0 _ rfl
    have a1 := hA.cell 1 _ rfl
    have a2 := hA.cell 2 _ rfl
    have v1 := i64_in (k + 1) (by omega)
    have HBk := Lib.hid (fun W => HB.out (k + 1) W (by omega) (by omega))
    have hl := HL.out (k + 1)
    generalize bgO m.fr (k + 1) = V at HBk hl
    by_cases c : V ≤ n
    · have hle := hl.1 c
      go_wp2_with fail
      refine (HBk.out _).mono ?_
      rintro e w1 ⟨rfl, hB1⟩
      go_wp2
      go_roundw
      case rel => exact ⟨k + 1, by omega, hle, rfl, hA.step hB1⟩
      case measure => simp [intOf]; omega
    · have c' : decide (V ≤ n) = false := by simpa using c
      have he : Hid (k = R) := by unfold Hid; have : ¬ k + 1 ≤ R := fun h => c (hl.2 h); omega
      go_wp2_with fail
      refine (HBk.out _).mono ?_
      rintro e w1 ⟨rfl, hB1⟩
      go_wp2
      go_ret
      exact ⟨ret_int he.out, (hA.step hB1).below⟩
end
end Go.Proofs.YteajkofgcmfaoaaGreatDoor
