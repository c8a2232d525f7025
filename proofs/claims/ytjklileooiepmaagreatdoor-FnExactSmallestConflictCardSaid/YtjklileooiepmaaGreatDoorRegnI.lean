/- Walks: years of reigns, by the program. -/
import Derived.Test.YtjklileooiepmaaGreatDoorFeastI
import Derived.Test.YtjklileooiepmaaGreatDoorTRg
namespace Go.Proofs.YtjklileooiepmaaGreatDoor
section
open Go.ChangeShapes Go.WideShapes Go.ChangeAt Go.RowKit Go.IntWalk

theorem indictionOf_any (y : Int) (w : World) (h0 : 0 ≤ y) (h1 : y ≤ 5000) : Calls Tryz.prog 105 #[.int .i64 y] w fun e w' => e = .returned (.int .i64 ((y + 2) % 15 + 1)) ∧ w = w' := by
  have v1 := i64_in (y + 2) (by omega)
  have v2 := i64_in ((y + 2) % 15 + 1) (by omega)
  go_enter Tryz.func105, Tryz.ntmps105
  go_wp2
  go_ret
  exact ⟨rfl, rfl⟩
theorem two_dates (w1 : World) (Y M D d : Int) : Below w1.heap.size w1 ((w1.alloc (.cells #[.int .i64 Y, .int .i64 M, .int .i64 D] 83)).alloc (.cells #[.int .i64 Y, .int .i64 9, .int .i64 d] 83)) ∧ ((w1.alloc (.cells #[.int .i64 Y, .int .i64 M, .int .i64 D] 83)).alloc (.cells #[.int .i64 Y, .int .i64 9, .int .i64 d] 83)).cell? ⟨w1.heap.size, 0, none⟩ = some (.int .i64 Y) ∧ w1.heap.size < ((w1.alloc (.cells #[.int .i64 Y, .int .i64 M, .int .i64 D] 83)).alloc (.cells #[.int .i64 Y, .int .i64 9, .int .i64 d] 83)).heap.size := by
  have b := (Below.refl _ (w1.alloc (.cells #[.int .i64 Y, .int .i64 M, .int .i64 D] 83))).alloc (Nat.le_refl _) (.cells #[.int .i64 Y, .int .i64 9, .int .i64 d] 83)
  exact ⟨by go_grown, (b.cell (p := ⟨w1.heap.size, 0, none⟩) (by simp)).trans (World.cell?_alloc_at _ _ _ _ rfl), by simp; omega⟩
set_option maxRecDepth 100000 in
set_option maxHeartbeats 1000000 in
theorem indictionOn_any (k n : Int) (w : World) (hn0 : 0 ≤ n) (hn : n ≤ 730499) :
    Calls Tryz.prog 68 #[.int .i64 k, .int .i64 n] w fun e w' => e = .returned (.int .i64 (ioO k n)) ∧ Below w.heap.size w w' := by
  have HD := Lib.hid (fun W => dateOf_any n W hn0 hn)
  have hy := yrO_bd hn0 hn
  have hR1 := Lib.hid (ioO_one n)
  have hR2 := Lib.hid (ioO_two n)
  have hR0 := Lib.hid (fun h1 h2 => ioO_else (k := k) (n := n) h1 h2)
  have H1 := Lib.hid (fun W => dayOf_any (yrO n) 9 1 W (by omega) (by omega) (by decide) (by decide) (by decide) (by decide))
  have H2 := Lib.hid (fun W => dayOf_any (yrO n) 9 24 W (by omega) (by omega) (by decide) (by decide) (by decide) (by decide))
  have HO := Lib.hid (fun W => indictionOf_any (yrO n + 1) W (by omega) (by omega))
  have HP := Lib.hid (fun W => indictionOf_any (yrO n) W (by omega) (by omega))
  have v1 := i64_in (yrO n + 1) (by omega)
  generalize (yrO n + 1 + 2) % 15 + 1 = r1 at hR0 hR1 hR2 HO
  generalize (yrO n + 2) % 15 + 1 = r0 at hR0 hR1 hR2 HP
  generalize (mnO n : Int) = M at HD
  generalize dyO n = D at HD
  generalize yrO n = Y at *
  generalize numO Y 9 1 = V1 at H1 hR0
  generalize numO Y 9 24 = V2 at H2 hR1
  by_cases c1 : k = 1
  · subst c1
    by_cases c2 : V2 ≤ n
    · have hRR := Lib.hid (hR1.out.trans (if_pos c2))
      go_enter Tryz.func68, Tryz.ntmps68
      go_wp2_with fail
      refine (HD.out _).mono ?_
      rintro e w1 ⟨rfl, hB⟩
      go_wp2_with fail
      obtain ⟨hB2, hc, hsz⟩ := two_dates w1 Y M D 24
      generalize ((w1.alloc (.cells #[.int .i64 Y, .int .i64 M, .int .i64 D] 83)).alloc (.cells #[.int .i64 Y, .int .i64 9, .int .i64 24] 83)) = W2 at hB2 hc hsz ⊢
      have hB := stepB hB hB2 hB.size
      clear hB2
      refine (H2.out _).mono ?_
      rintro e w2 ⟨rfl, hB2⟩
      have hc := (hB2.cell (p := ⟨w1.heap.size, 0, none⟩) hsz).trans hc
      have hB := stepB hB hB2 hB.size
      clear hB2 hsz
      go_wp2_with (refine (HO.out _).mono ?_; rintro e w3 ⟨rfl, rfl⟩)
      go_ret
      exact ⟨ret_int hRR.out.symm, hB⟩
    · have hRR := Lib.hid (hR1.out.trans (if_neg c2))
      have hn2 : decide (V2 ≤ n) = false := by simpa using c2
      go_enter Tryz.func68, Tryz.ntmps68
      go_wp2_with fail
      refine (HD.out _).mono ?_
      rintro e w1 ⟨rfl, hB⟩
      go_wp2_with fail
      obtain ⟨hB2, hc, hsz⟩ := two_dates w1 Y M D 24
      generalize ((w1.alloc (.cells #[.int .i64 Y, .int .i64 M, .int .i64 D] 83)).alloc (.cells #[.int .i64 Y, .int .i64 9, .int .i64 24] 83)) = W2 at hB2 hc hsz ⊢
      have hB := stepB hB hB2 hB.size
      clear hB2
      refine (H2.out _).mono ?_
      rintro e w2 ⟨rfl, hB2⟩
      have hc := (hB2.cell (p := ⟨w1.heap.size, 0, none⟩) hsz).trans hc
      have hB := stepB hB hB2 hB.size
      clear hB2 hsz
      go_wp2_with (refine (HP.out _).mono ?_; rintro e w3 ⟨rfl, rfl⟩)
      go_ret
      exact ⟨ret_int hRR.out.symm, hB⟩
  by_cases c3 : k = 2
  · subst c3
    go_enter Tryz.func68, Tryz.ntmps68
    go_wp2_with fail
    refine (HD.out _).mono ?_
    rintro e w1 ⟨rfl, hB⟩
    go_wp2_with fail
    obtain ⟨hB2, hc, hsz⟩ := two_dates w1 Y M D 1
    generalize ((w1.alloc (.cells #[.int .i64 Y, .int .i64 M, .int .i64 D] 83)).alloc (.cells #[.int .i64 Y, .int .i64 9, .int .i64 1] 83)) = W2 at hB2 hc hsz ⊢
    have hB := stepB hB hB2 hB.size
    clear hB2
    refine (HP.out _).mono ?_
    rintro e w3 ⟨rfl, rfl⟩
    go_wp2
    go_ret
    exact ⟨ret_int hR2.out.symm, hB⟩
  have d1 : (k == 1) = false := by simpa using c1
  have d2 : (k != 2) = true := by simpa using c3
  by_cases c2 : V1 ≤ n
  · have hRR := Lib.hid ((hR0.out c1 c3).trans (if_pos c2))
    go_enter Tryz.func68, Tryz.ntmps68
    go_wp2_with fail
    refine (HD.out _).mono ?_
    rintro e w1 ⟨rfl, hB⟩
    go_wp2_with fail
    obtain ⟨hB2, hc, hsz⟩ := two_dates w1 Y M D 1
    generalize ((w1.alloc (.cells #[.int .i64 Y, .int .i64 M, .int .i64 D] 83)).alloc (.cells #[.int .i64 Y, .int .i64 9, .int .i64 1] 83)) = W2 at hB2 hc hsz ⊢
    have hB := stepB hB hB2 hB.size
    clear hB2
    refine (H1.out _).mono ?_
    rintro e w2 ⟨rfl, hB2⟩
    have hc := (hB2.cell (p := ⟨w1.heap.size, 0, none⟩) hsz).trans hc
    have hB := stepB hB hB2 hB.size
    clear hB2 hsz
    go_wp2_with (refine (HO.out _).mono ?_; rintro e w3 ⟨rfl, rfl⟩)
    go_ret
    exact ⟨ret_int hRR.out.symm, hB⟩
  · have hRR := Lib.hid ((hR0.out c1 c3).trans (if_neg c2))
    have hn2 : decide (V1 ≤ n) = false := by simpa using c2
    go_enter Tryz.func68, Tryz.ntmps68
    go_wp2_with fail
    refine (HD.out _).mono ?_
    rintro e w1 ⟨rfl, hB⟩
    go_wp2_with fail
    obtain ⟨hB2, hc, hsz⟩ := two_dates w1 Y M D 1
    generalize ((w1.alloc (.cells #[.int .i64 Y, .int .i64 M, .int .i64 D] 83)).alloc (.cells #[.int .i64 Y, .int .i64 9, .int .i64 1] 83)) = W2 at hB2 hc hsz ⊢
    have hB := stepB hB hB2 hB.size
    clear hB2
    refine (H1.out _).mono ?_
    rintro e w2 ⟨rfl, hB2⟩
    have hc := (hB2.cell (p := ⟨w1.heap.size, 0, none⟩) hsz).trans hc
    have hB := stepB hB hB2 hB.size
    clear hB2 hsz
    go_wp2_with (refine (HP.out _).mono ?_; rintro e w3 ⟨rfl, rfl⟩)
    go_ret
    exact ⟨ret_int hRR.out.symm, hB⟩
end

section
open Go.ChangeShapes Go.WideShapes Go.ChangeAt Go.RowKit Go.IntWalk

set_option maxRecDepth 100000 in
set_option maxHeartbeats 1000000 in
theorem isDateIn_any (y m d : Int) (w : World) (h0 : 1 ≤ y) (h1 : y ≤ 2000) (hm0 : 1 ≤ m) (hm : m ≤ 12) :
    Calls Tryz.prog 119 #[.agg #[.int .i64 y, .int .i64 m, .int .i64 d], .bool false] w fun e w' => e = .returned (.bool (inB d 1 (mlO y m))) ∧ Below w.heap.size w w' := by
  have hA := At.start w [.int .i64 y, .int .i64 m, .int .i64 d] 83
  have hy : inB y 1 2000 = true := by simp [inB, h0, h1]
  have hmm : inB m 1 12 = true := by simp [inB, hm0, hm]
  have HY := Lib.hid (fun W => hy ▸ within_any y 1 2000 W)
  have HM := Lib.hid (fun W => hmm ▸ within_any m 1 12 W)
  have HL := Lib.hid (fun W => lengthOfMonth_any y m W (by omega) (by omega))
  generalize mlO y m = L at HL ⊢
  have HD := Lib.hid (fun W => within_any d 1 L W)
  clear hy hmm
  have E0 := Later.cell (hA.cell 0 _ rfl) hA.size
  have E1 := Later.cell (hA.cell 1 _ rfl) hA.size
  have E2 := Later.cell (hA.cell 2 _ rfl) hA.size
  go_enter Tryz.func119, Tryz.ntmps119
  go_wp2_with fail
  refine wp_region_later _ (by kernel_rfl) (by kernel_rfl) ?_
  repeat (go_big_quiet_step (fail))
  go_big_quiet_step ((go_at_call 88; exact Later.same (HY.out _)))
  repeat (go_big_quiet_step (fail))
  go_big_quiet_step ((go_at_call 88; exact Later.same (HM.out _)))
  repeat (go_big_quiet_step (fail))
  go_big_quiet_step ((go_at_call 99; exact Later.same (HL.out _)))
  go_big_quiet_step ((go_at_call 88; exact Later.same (HD.out _)))
  repeat (go_big_quiet_step (fail))
  refine wpQuiet_nil ?_
  intro z
  have hz := z.prop
  generalize z.val = w2 at hz
  clear E0 E1 E2
  go_wp2
  go_ret
  exact ⟨rfl, stepB hA.below hz hA.below.size⟩
theorem isOldDate_any (y m d : Int) (w : World) (h0 : 1 ≤ y) (h1 : y ≤ 2000) (hm0 : 1 ≤ m) (hm : m ≤ 12) :
    Calls Tryz.prog 110 #[.agg #[.int .i64 y, .int .i64 m, .int .i64 d]] w fun e w' => e = .returned (.bool (inB d 1 (mlO y m))) ∧ Below w.heap.size w w' := by
  have HI := Lib.hid (fun W => isDateIn_any y m d W h0 h1 hm0 hm)
  have hB : Below w.heap.size w (w.alloc (.cells #[.int .i64 y, .int .i64 m, .int .i64 d] 83)) := by go_grown
  go_enter Tryz.func110, Tryz.ntmps110
  go_wp2_with fail
  refine (HI.out _).mono ?_
  rintro e w1 ⟨rfl, hB1⟩
  go_wp2
  go_ret
  exact ⟨rfl, stepB hB hB1 hB.size⟩
theorem isYear_any (y : Int) (w : World) : Calls Tryz.prog 117 #[.int .i64 y] w fun e w' => e = .returned (.bool (inB y 1 2000)) ∧ w = w' := by
  go_enter Tryz.func117, Tryz.ntmps117
  go_wp2_with (go_at_call 88; refine (within_any _ _ _ _).mono ?_; rintro e w' ⟨rfl, rfl⟩)
  go_ret
  exact ⟨rfl, rfl⟩
set_option maxRecDepth 100000 in
set_option maxHeartbeats 1000000 in
theorem yearBegin_any (m : Rg) (k : Int) (w : World) (hf0 : 0 ≤ m.fr) (hf1 : m.fr ≤ 730499) (hk0 : 1 ≤ k) (hk1 : k ≤ 100000) :
    Calls Tryz.prog 102 #[.agg #[.string m.king, .int .i64 m.fr, .int .i64 m.to], .int .i64 k] w fun e w' => e = .returned (.int .i64 (ybO m.fr k)) ∧ Below w.heap.size w w' := by
  obtain ⟨king, fr, to⟩ := m
  simp only at hf0 hf1 ⊢
  have hA := At.start w [.string king, .int .i64 fr, .int .i64 to] 72
  have HD := Lib.hid (fun W => dateOf_any fr W hf0 hf1)
  have hy := yrO_bd hf0 hf1
  have hmm := mnO_at fr
  have hdd := dyO_bd fr
  have hml := mlO_bd (yrO fr) (mnO fr)
  have hR : Hid (ybO fr k = if 2000 < k then 730500 else if 2000 < yrO fr + (k - 1) then 730500 else if dyO fr ≤ mlO (yrO fr + (k - 1)) (mnO fr) then numO (yrO fr + (k - 1)) (mnO fr) (dyO fr) else numO (yrO fr + (k - 1)) 3 1) := by unfold Hid ybO; rw [bgO_if]
  generalize ybO fr k = R at hR ⊢
  have v1 := i64_in (k - 1) (by omega)
  have v2 := i64_in (yrO fr + (k - 1)) (by omega)
  have HO := Lib.hid (fun W (h : yrO fr + (k - 1) ≤ 2000) => isOldDate_any (yrO fr + (k - 1)) (mnO fr) (dyO fr) W (by omega) h (by omega) (by omega))
  have HN := Lib.hid (fun W (h : yrO fr + (k - 1) ≤ 2000) => dayOf_any (yrO fr + (k - 1)) (mnO fr) (dyO fr) W (by omega) (by omega) (by omega) (by omega) (by omega) (by omega))
  have HT := Lib.hid (fun W (h : yrO fr + (k - 1) ≤ 2000) => dayOf_any (yrO fr + (k - 1)) 3 1 W (by omega) (by omega) (by decide) (by decide) (by decide) (by decide))
  have HY := Lib.hid (fun W => isYear_any (yrO fr + (k - 1)) W)
  have hd1 := hdd.1
  have hy1 : 1 ≤ yrO fr + (k - 1) := by omega
  clear hmm hdd hml
  generalize numO (yrO fr + (k - 1)) (mnO fr) (dyO fr) = V1 at HN hR
  generalize numO (yrO fr + (k - 1)) 3 1 = V2 at HT hR
  generalize mlO (yrO fr + (k - 1)) (mnO fr) = L at HO hR
  generalize hyk : yrO fr + (k - 1) = y at *
  generalize dyO fr = D at *
  generalize (mnO fr : Int) = M at *
  have c1 := hA.cell 1 _ rfl
  by_cases ck : 2000 < k
  · have hRR := Lib.hid (hR.out.trans (if_pos ck))
    go_enter Tryz.func102, Tryz.ntmps102
    go_wp2_with fail
    refine (HD.out _).mono ?_
    rintro e w1 ⟨rfl, hB1⟩
    have hB := stepB hA.below hB1 hA.below.size
    have hB := stepB hB ((Below.refl _ w1).alloc (Nat.le_refl _) (.cells #[.int .i64 (yrO fr), .int .i64 M, .int .i64 D] 83)) hB.size
    go_wp2
    go_ret
    exact ⟨ret_int hRR.out.symm, hB⟩
  have hR := Lib.hid (hR.out.trans (if_neg ck))
  have ck' : decide (2000 < k) = false := by simpa using ck
  by_cases cy : 2000 < y
  · have hRR := Lib.hid (hR.out.trans (if_pos cy))
    have hin : inB y 1 2000 = false := by simp [inB]; omega
    have HY := Lib.hid (fun W => hin ▸ HY.out W)
    clear hin
    go_enter Tryz.func102, Tryz.ntmps102
    go_wp2_with fail
    refine (HD.out _).mono ?_
    rintro e w1 ⟨rfl, hB1⟩
    have hB := stepB hA.below hB1 hA.below.size
    have hx := Box.new w1 83 [.int .i64 y, .int .i64 M, .int .i64 D] w.heap.size hB.size (by simp)
    have hB := stepB hB ((Below.refl _ w1).alloc (Nat.le_refl _) (.cells #[.int .i64 y, .int .i64 M, .int .i64 D] 83)) hB.size
    clear hB1
    go_wp2_with fail
    refine (HY.out _).mono ?_
    rintro e w2 ⟨rfl, rfl⟩
    go_wp2
    go_ret
    exact ⟨ret_int hRR.out.symm, hB⟩
  have hR := Lib.hid (hR.out.trans (if_neg cy))
  have hin : inB y 1 2000 = true := by simp [inB]; omega
  have HY := Lib.hid (fun W => hin ▸ HY.out W)
  have HO := Lib.hid (fun W => HO.out W (by omega))
  have HN := Lib.hid (fun W => HN.out W (by omega))
  have HT := Lib.hid (fun W => HT.out W (by omega))
  clear hin
  by_cases cd : D ≤ L
  · have hRR := Lib.hid (hR.out.trans (if_pos cd))
    have hin : inB D 1 L = true := by simp [inB]; omega
    have HO := Lib.hid (fun W => hin ▸ HO.out W)
    clear hin
    go_enter Tryz.func102, Tryz.ntmps102
    go_wp2_with fail
    refine (HD.out _).mono ?_
    rintro e w1 ⟨rfl, hB1⟩
    have hB := stepB hA.below hB1 hA.below.size
    have hx := Box.new w1 83 [.int .i64 y, .int .i64 M, .int .i64 D] w.heap.size hB.size (by simp)
    have hB := stepB hB ((Below.refl _ w1).alloc (Nat.le_refl _) (.cells #[.int .i64 y, .int .i64 M, .int .i64 D] 83)) hB.size
    clear hB1
    go_wp2_with fail
    refine (HY.out _).mono ?_
    rintro e w2 ⟨rfl, rfl⟩
    go_wp2_with fail
    refine (HO.out _).mono ?_
    rintro e w2 ⟨rfl, hB1⟩
    have hx := hx.below hB1
    have hB := stepB hB hB1 hB.size
    clear hB1
    have x0 := hx.cell 0 _ rfl
    have x1 := hx.cell 1 _ rfl
    have x2 := hx.cell 2 _ rfl
    go_wp2_with fail
    refine (HN.out _).mono ?_
    rintro e w3 ⟨rfl, hB1⟩
    go_wp2
    go_ret
    exact ⟨ret_int hRR.out.symm, stepB hB hB1 hB.size⟩
  · have hRR := Lib.hid (hR.out.trans (if_neg cd))
    have hin : inB D 1 L = false := by simp [inB]; omega
    have HO := Lib.hid (fun W => hin ▸ HO.out W)
    clear hin
    go_enter Tryz.func102, Tryz.ntmps102
    go_wp2_with fail
    refine (HD.out _).mono ?_
    rintro e w1 ⟨rfl, hB1⟩
    have hB := stepB hA.below hB1 hA.below.size
    have hx := Box.new w1 83 [.int .i64 y, .int .i64 M, .int .i64 D] w.heap.size hB.size (by simp)
    have hB := stepB hB ((Below.refl _ w1).alloc (Nat.le_refl _) (.cells #[.int .i64 y, .int .i64 M, .int .i64 D] 83)) hB.size
    clear hB1
    go_wp2_with fail
    refine (HY.out _).mono ?_
    rintro e w2 ⟨rfl, rfl⟩
    go_wp2_with fail
    refine (HO.out _).mono ?_
    rintro e w2 ⟨rfl, hB1⟩
    have hx := hx.below hB1
    have hB := stepB hB hB1 hB.size
    have hlo := hx.lt.1
    clear hB1
    have x1 := hx.cell 1 _ rfl
    have x2 := hx.cell 2 _ rfl
    have f1 := World.ownsRow.frozenAt hx 1
    have f2 := World.ownsRow.frozenAt hx 2
    have hp1 := Box.put (i := 1) (pre := [.int .i64 y]) (post := [.int .i64 D]) hx rfl (.int .i64 3)
    have hp2 := Box.put (i := 2) (pre := [.int .i64 y, .int .i64 3]) (post := []) hp1.1 rfl (.int .i64 1)
    have hBe := (hB.grown hp1.2 hB.size (fun g e => by cases e; exact hlo)).grown hp2.2 (Nat.le_trans hB.size hp1.2.size) (fun g e => by cases e; exact hlo)
    have HX := Lib.hid (And.intro hp2.1 hBe)
    clear hp1 hp2 hBe
    go_upto_region 9 with (fail)
    obtain ⟨hx, hB⟩ := HX.out
    generalize (w2.setCell ⟨w1.heap.size, 1, none⟩ (.int .i64 3)).setCell ⟨w1.heap.size, 2, none⟩ (.int .i64 1) = W3 at hx hB ⊢
    clear x1 x2 f1 f2
    have x0 := hx.cell 0 _ rfl
    have x1 := hx.cell 1 _ rfl
    have x2 := hx.cell 2 _ rfl
    go_wp2_with fail
    refine (HT.out _).mono ?_
    rintro e w3 ⟨rfl, hB1⟩
    go_wp2
    go_ret
    exact ⟨ret_int hRR.out.symm, stepB hB hB1 hB.size⟩
set_option maxRecDepth 100000 in
set_option maxHeartbeats 1000000 in
theorem regnalYear_any (m : Rg) (n : Int) (w : World) (hf0 : 0 ≤ m.fr) (hf1 : m.fr ≤ n) (hn : n ≤ 730499) :
    Calls Tryz.prog 66 #[.agg #[.string m.king, .int .i64 m.fr, .int .i64 m.to], .int .i64 n] w fun e w' => e = .returned (.int .i64 (rgY m.fr n)) ∧ Below w.heap.size w w' := by
  have hA := At.start w [.string m.king, .int .i64 m.fr, .int .i64 m.to] 72
  have hb := rgY_bd hf1
  have hy := yrO_bd hf0 (by omega)
  have hyn := yrO_bd (n := n) (by omega) hn
  have hb3 : rgY m.fr n ≤ 2001 := by omega
  have HB := Lib.hid (fun k W h0 h1 => yearBegin_any m k W hf0 (by omega) h0 h1)
  have HL := Lib.hid (fun k (hk : 1 ≤ k) => (ybO_le hf0 hk hn).trans rgY_le)
  have hb1 := hb.1
  clear hb hy hyn
  generalize rgY m.fr n = R at *
  go_enter Tryz.func66, Tryz.ntmps66
  go_wp2
  go_loopw [5] (fun i wr => ∃ k : Int, 1 ≤ k ∧ k ≤ R ∧ i = .int .i64 k ∧ At w [.string m.king, .int .i64 m.fr, .int .i64 m.to] wr) (fun i _ => (R - intOf i).toNat)
  case atStart => exact ⟨1, by omega, hb1, rfl, hA⟩
  case round =>
    clear hA
    obtain ⟨k, hk, hkR, rfl, hA⟩ := hrel
    have a0 := hA.cell 0 _ rfl
    have a1 := hA.cell 1 _ rfl
    have a2 := hA.cell 2 _ rfl
    have v1 := i64_in (k + 1) (by omega)
    have HBk := Lib.hid (fun W => HB.out (k + 1) W (by omega) (by omega))
    have hl := HL.out (k + 1) (by omega)
    generalize ybO m.fr (k + 1) = V at HBk hl
    by_cases c : V ≤ n
    · have hle := hl.1 c
      go_wp2_with fail
      refine (HBk.out _).mono ?_
      rintro e w1 ⟨rfl, hB1⟩
      go_wp2
      go_roundw
      case rel => exact ⟨k + 1, by omega, hle, rfl, hA.step hB1⟩
      case measure => simp [intOf]; omega
    · have c' : decide (V ≤ n) = false := by simpa using c
      have he : Hid (k = R) := by unfold Hid; have : ¬ k + 1 ≤ R := fun h => c (hl.2 h); omega
      go_wp2_with fail
      refine (HBk.out _).mono ?_
      rintro e w1 ⟨rfl, hB1⟩
      go_wp2
      go_ret
      exact ⟨ret_int he.out, (hA.step hB1).below⟩
theorem covers_any (m : Rg) (n : Int) (w : World) :
    Calls Tryz.prog 65 #[.agg #[.string m.king, .int .i64 m.fr, .int .i64 m.to], .int .i64 n] w fun e w' => e = .returned (.bool (inB n m.fr m.to)) ∧ Below w.heap.size w w' := by
  have hA := At.start w [.string m.king, .int .i64 m.fr, .int .i64 m.to] 72
  go_enter Tryz.func65, Tryz.ntmps65
  go_wp2_with (go_at_call 88; refine (within_any _ _ _ _).mono ?_; rintro e w' ⟨rfl, rfl⟩)
  go_ret
  exact ⟨rfl, hA.below⟩
end
end Go.Proofs.YtjklileooiepmaaGreatDoor
