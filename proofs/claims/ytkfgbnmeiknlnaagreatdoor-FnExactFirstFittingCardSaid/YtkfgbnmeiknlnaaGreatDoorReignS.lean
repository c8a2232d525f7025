/- Walks: indictions and years of reigns, by the reference. -/
import Derived.Test.YtkfgbnmeiknlnaaGreatDoorFeastS
import Derived.Test.YtkfgbnmeiknlnaaGreatDoorRegnI
namespace Go.Proofs.YtkfgbnmeiknlnaaGreatDoor
open Go.ChangeShapes Go.WideShapes Go.ChangeAt Go.RowKit Go.IntWalk

set_option maxHeartbeats 1000000 in
theorem l06Begin_any (s y : Int) (w : World) (h0 : 2 ≤ y) (h1 : y ≤ 2005) : Calls Tryz.prog 115 #[.int .i64 s, .int .i64 y] w fun e w' => e = .returned (.int .i64 (beO s y)) ∧ Below w.heap.size w w' := by
  have hR : Hid (beO s y = if s = 1 then numO y 3 1 else if s = 2 then numO y 3 25 else if s = 3 then numO (y - 1) 3 25 else if s = 4 then eaO y
    else if s = 5 then numO (y - 1) 12 25 else if s = 6 then numO (y - 1) 9 1 else nyO y) := rfl
  generalize beO s y = R at hR ⊢
  have hs := esO_bd y
  have H0 := Lib.hid (fun W => l01Number_any y 1 1 W (by omega) (by omega) (by decide) (by decide) (by decide) (by decide))
  have H1 := Lib.hid (fun W => l01Number_any y 3 1 W (by omega) (by omega) (by decide) (by decide) (by decide) (by decide))
  have H2 := Lib.hid (fun W => l01Number_any y 3 25 W (by omega) (by omega) (by decide) (by decide) (by decide) (by decide))
  have H3 := Lib.hid (fun W => l01Number_any (y - 1) 3 25 W (by omega) (by omega) (by decide) (by decide) (by decide) (by decide))
  have HO := Lib.hid (fun W => l04Old_any y W (by omega) h1)
  have H4 := Lib.hid (fun W => l01Number_any y (esO y / 31).toNat (esO y % 31 + 1) W (by omega) (by omega) (by omega) (by omega) (by omega) (by omega))
  have e1 : ((esO y / 31).toNat : Int) = esO y / 31 := by omega
  have H4 := Lib.hid (fun W => e1 ▸ H4.out W)
  have hea : eaO y = numO y (esO y / 31).toNat (esO y % 31 + 1) := rfl
  rw [← hea] at H4
  clear e1 hea hs
  have H5 := Lib.hid (fun W => l01Number_any (y - 1) 12 25 W (by omega) (by omega) (by decide) (by decide) (by decide) (by decide))
  have H6 := Lib.hid (fun W => l01Number_any (y - 1) 9 1 W (by omega) (by omega) (by decide) (by decide) (by decide) (by decide))
  have hny : numO y 1 1 = nyO y := by unfold numO; simp [cumO]
  rw [hny] at H0
  clear hny
  generalize numO y 3 1 = r1 at H1 hR
  generalize numO y 3 25 = r2 at H2 hR
  generalize numO (y - 1) 3 25 = r3 at H3 hR
  generalize eaO y = r4 at H4 hR
  generalize numO (y - 1) 12 25 = r5 at H5 hR
  generalize numO (y - 1) 9 1 = r6 at H6 hR
  generalize nyO y = r0 at H0 hR
  generalize esO y / 31 = q1 at HO H4
  generalize esO y % 31 + 1 = q2 at HO H4
  have v1 := i64_in (y - 1) (by omega)
  have hB0 : ∀ a b c : Int, Below w.heap.size w (w.alloc (.cells #[.int .i64 a, .int .i64 b, .int .i64 c] 93)) := fun a b c => by go_grown
  by_cases c1 : s = 1
  · subst c1
    go_enter Tryz.func115, Tryz.ntmps115
    go_wp2_with fail
    refine (H1.out _).mono ?_
    rintro e w1 ⟨rfl, hB⟩
    go_wp2
    go_ret
    exact ⟨ret_int hR.out.symm, stepB (hB0 _ _ _) hB (hB0 _ _ _).size⟩
  by_cases c2 : s = 2
  · subst c2
    go_enter Tryz.func115, Tryz.ntmps115
    go_wp2_with fail
    refine (H2.out _).mono ?_
    rintro e w1 ⟨rfl, hB⟩
    go_wp2
    go_ret
    exact ⟨ret_int hR.out.symm, stepB (hB0 _ _ _) hB (hB0 _ _ _).size⟩
  by_cases c3 : s = 3
  · subst c3
    go_enter Tryz.func115, Tryz.ntmps115
    go_wp2_with fail
    refine (H3.out _).mono ?_
    rintro e w1 ⟨rfl, hB⟩
    go_wp2
    go_ret
    exact ⟨ret_int hR.out.symm, stepB (hB0 _ _ _) hB (hB0 _ _ _).size⟩
  by_cases c5 : s = 5
  · subst c5
    go_enter Tryz.func115, Tryz.ntmps115
    go_wp2_with fail
    refine (H5.out _).mono ?_
    rintro e w1 ⟨rfl, hB⟩
    go_wp2
    go_ret
    exact ⟨ret_int hR.out.symm, stepB (hB0 _ _ _) hB (hB0 _ _ _).size⟩
  by_cases c6 : s = 6
  · subst c6
    go_enter Tryz.func115, Tryz.ntmps115
    go_wp2_with fail
    refine (H6.out _).mono ?_
    rintro e w1 ⟨rfl, hB⟩
    go_wp2
    go_ret
    exact ⟨ret_int hR.out.symm, stepB (hB0 _ _ _) hB (hB0 _ _ _).size⟩
  by_cases c4 : s = 4
  · subst c4
    have hx := Box.new w 93 [.int .i64 y, .int .i64 1, .int .i64 1] w.heap.size (Nat.le_refl _) (by simp)
    have hB := hB0 y 1 1
    go_enter Tryz.func115, Tryz.ntmps115
    go_wp2_with fail
    refine (HO.out _).mono ?_
    rintro e w1 ⟨rfl, hB1⟩
    have hx := hx.below hB1
    have hB := stepB hB hB1 hB.size
    clear hB1
    have x0 := hx.cell 0 _ rfl
    have x1 := hx.cell 1 _ rfl
    have x2 := hx.cell 2 _ rfl
    have f0 := World.ownsRow.frozenAt hx 0
    have f1 := World.ownsRow.frozenAt hx 1
    have f2 := World.ownsRow.frozenAt hx 2
    have HP := Lib.hid (hx.put3 (.int .i64 y) (.int .i64 q1) (.int .i64 q2))
    go_upto_region 15 with (fail)
    have hp := HP.out
    have hBe := hB.grown hp.2 hB.size (fun g e => by cases e; exact Nat.le_refl _)
    generalize ((w1.setCell ⟨w.heap.size, 0, none⟩ (.int .i64 y)).setCell ⟨w.heap.size, 1, none⟩ (.int .i64 q1)).setCell ⟨w.heap.size, 2, none⟩ (.int .i64 q2) = Wf at hp hBe ⊢
    clear x0 x1 x2 f0 f1 f2 hx
    have z0 := hp.1.cell 0 _ rfl
    have z1 := hp.1.cell 1 _ rfl
    have z2 := hp.1.cell 2 _ rfl
    clear hp
    go_wp2_with fail
    refine (H4.out _).mono ?_
    rintro e w2 ⟨rfl, hB2⟩
    go_wp2
    go_ret
    exact ⟨ret_int hR.out.symm, stepB hBe hB2 hBe.size⟩
  have hR' : R = r0 := by rw [hR.out, if_neg c1, if_neg c2, if_neg c3, if_neg c4, if_neg c5, if_neg c6]
  have d1 : (s == 1) = false := by simpa using c1
  have d2 : (s == 2) = false := by simpa using c2
  have d3 : (s == 3) = false := by simpa using c3
  have d4 : (s == 4) = false := by simpa using c4
  have d5 : (s == 5) = false := by simpa using c5
  have d6 : (s == 6) = false := by simpa using c6
  subst hR'
  clear hR
  go_enter Tryz.func115, Tryz.ntmps115
  go_wp2_with fail
  refine (H0.out _).mono ?_
  rintro e w1 ⟨rfl, hB⟩
  go_wp2
  go_ret
  exact ⟨rfl, stepB (hB0 _ _ _) hB (hB0 _ _ _).size⟩
theorem l08Year_any (y : Int) (w : World) (h0 : 0 ≤ y) (h1 : y ≤ 5000) : Calls Tryz.prog 117 #[.int .i64 y] w fun e w' => e = .returned (.int .i64 ((y + 2) % 15 + 1)) ∧ w = w' := by
  have v1 := i64_in (y + 2) (by omega)
  have v2 := i64_in ((y + 2) % 15 + 1) (by omega)
  go_enter Tryz.func117, Tryz.ntmps117
  go_wp2
  go_ret
  exact ⟨rfl, rfl⟩
set_option maxRecDepth 100000 in
set_option maxHeartbeats 1000000 in
theorem l08On_any (k n : Int) (w : World) (hk0 : 0 ≤ k) (hk1 : k ≤ 2) (hn0 : 0 ≤ n) (hn : n ≤ 730499) :
    Calls Tryz.prog 75 #[.int .i64 k, .int .i64 n] w fun e w' => e = .returned (.int .i64 (ioO k n)) ∧ Below w.heap.size w w' := by
  have HD := Lib.hid (fun W => l01Old_any n W hn0 hn)
  have hy := yrO_bd hn0 hn
  have hR1 := Lib.hid (ioO_one n)
  have hR2 := Lib.hid (ioO_two n)
  have hR0 := Lib.hid (ioO_else (k := 0) (n := n) (by decide) (by decide))
  have H1 := Lib.hid (fun W => l01Number_any (yrO n) 9 1 W (by omega) (by omega) (by decide) (by decide) (by decide) (by decide))
  have H2 := Lib.hid (fun W => l01Number_any (yrO n) 9 24 W (by omega) (by omega) (by decide) (by decide) (by decide) (by decide))
  have HO := Lib.hid (fun W => l08Year_any (yrO n + 1) W (by omega) (by omega))
  have HP := Lib.hid (fun W => l08Year_any (yrO n) W (by omega) (by omega))
  have hfd := fldY (yrO n) (mnO n) (dyO n)
  have v1 := i64_in (yrO n + 1) (by omega)
  generalize (yrO n + 1 + 2) % 15 + 1 = r1 at hR0 hR1 hR2 HO
  generalize (yrO n + 2) % 15 + 1 = r0 at hR0 hR1 hR2 HP
  generalize (mnO n : Int) = M at HD hfd
  generalize dyO n = D at HD hfd
  generalize yrO n = Y at *
  generalize numO Y 9 1 = V1 at H1 hR0
  generalize numO Y 9 24 = V2 at H2 hR1
  have hB2 : ∀ u : World, Below w.heap.size w u → Below w.heap.size w (u.alloc (.cells #[.int .i64 1, .int .i64 24] 2)) := fun u h => h.alloc h.size _
  by_cases c0 : k = 0
  · subst c0
    by_cases c : V1 ≤ n
    · have hRR := Lib.hid (hR0.out.trans (if_pos c))
      go_enter Tryz.func75, Tryz.ntmps75
      go_wp2_with fail
      refine (HD.out _).mono ?_
      rintro e w1 ⟨rfl, hB⟩
      have hB := hB2 w1 hB
      go_wp2_with fail
      refine (H1.out _).mono ?_
      rintro e w2 ⟨rfl, hB3⟩
      have hB := stepB hB hB3 hB.size
      go_wp2_with (refine (HO.out _).mono ?_; rintro e w3 ⟨rfl, rfl⟩)
      go_ret
      exact ⟨ret_int hRR.out.symm, hB⟩
    · have hRR := Lib.hid (hR0.out.trans (if_neg c))
      have hn2 : decide (V1 ≤ n) = false := by simpa using c
      go_enter Tryz.func75, Tryz.ntmps75
      go_wp2_with fail
      refine (HD.out _).mono ?_
      rintro e w1 ⟨rfl, hB⟩
      have hB := hB2 w1 hB
      go_wp2_with fail
      refine (H1.out _).mono ?_
      rintro e w2 ⟨rfl, hB3⟩
      have hB := stepB hB hB3 hB.size
      go_wp2_with (refine (HP.out _).mono ?_; rintro e w3 ⟨rfl, rfl⟩)
      go_ret
      exact ⟨ret_int hRR.out.symm, hB⟩
  by_cases c1 : k = 1
  · subst c1
    by_cases c : V2 ≤ n
    · have hRR := Lib.hid (hR1.out.trans (if_pos c))
      go_enter Tryz.func75, Tryz.ntmps75
      go_wp2_with fail
      refine (HD.out _).mono ?_
      rintro e w1 ⟨rfl, hB⟩
      have hB := hB2 w1 hB
      go_wp2_with fail
      refine (H2.out _).mono ?_
      rintro e w2 ⟨rfl, hB3⟩
      have hB := stepB hB hB3 hB.size
      go_wp2_with (refine (HO.out _).mono ?_; rintro e w3 ⟨rfl, rfl⟩)
      go_ret
      exact ⟨ret_int hRR.out.symm, hB⟩
    · have hRR := Lib.hid (hR1.out.trans (if_neg c))
      have hn2 : decide (V2 ≤ n) = false := by simpa using c
      go_enter Tryz.func75, Tryz.ntmps75
      go_wp2_with fail
      refine (HD.out _).mono ?_
      rintro e w1 ⟨rfl, hB⟩
      have hB := hB2 w1 hB
      go_wp2_with fail
      refine (H2.out _).mono ?_
      rintro e w2 ⟨rfl, hB3⟩
      have hB := stepB hB hB3 hB.size
      go_wp2_with (refine (HP.out _).mono ?_; rintro e w3 ⟨rfl, rfl⟩)
      go_ret
      exact ⟨ret_int hRR.out.symm, hB⟩
  have c2 : k = 2 := by omega
  subst c2
  go_enter Tryz.func75, Tryz.ntmps75
  go_wp2_with fail
  refine (HD.out _).mono ?_
  rintro e w1 ⟨rfl, hB⟩
  have hB := hB2 w1 hB
  go_wp2_with (refine (HP.out _).mono ?_; rintro e w3 ⟨rfl, rfl⟩)
  go_ret
  exact ⟨ret_int hR2.out.symm, hB⟩
end Go.Proofs.YtkfgbnmeiknlnaaGreatDoor
