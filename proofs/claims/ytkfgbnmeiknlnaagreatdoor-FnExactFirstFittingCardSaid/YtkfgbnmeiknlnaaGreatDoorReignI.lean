/- Walks: indictions and years of reigns, by the program. -/
import Derived.Test.YtkfgbnmeiknlnaaGreatDoorFeastI
import Derived.Test.YtkfgbnmeiknlnaaGreatDoorTRg
namespace Go.Proofs.YtkfgbnmeiknlnaaGreatDoor
open Go.ChangeShapes Go.WideShapes Go.ChangeAt Go.RowKit Go.IntWalk

theorem indictionOf_any (y : Int) (w : World) (h0 : 0 ≤ y) (h1 : y ≤ 5000) : Calls Tryz.prog 130 #[.int .i64 y] w fun e w' => e = .returned (.int .i64 ((y + 2) % 15 + 1)) ∧ w = w' := by
  have v1 := i64_in (y + 2) (by omega)
  have v2 := i64_in ((y + 2) % 15 + 1) (by omega)
  go_enter Tryz.func130, Tryz.ntmps130
  go_wp2
  go_ret
  exact ⟨rfl, rfl⟩
theorem two_dates (w1 : World) (Y M D d : Int) : Below w1.heap.size w1 ((w1.alloc (.cells #[.int .i64 Y, .int .i64 M, .int .i64 D] 93)).alloc (.cells #[.int .i64 Y, .int .i64 9, .int .i64 d] 93)) ∧ ((w1.alloc (.cells #[.int .i64 Y, .int .i64 M, .int .i64 D] 93)).alloc (.cells #[.int .i64 Y, .int .i64 9, .int .i64 d] 93)).cell? ⟨w1.heap.size, 0, none⟩ = some (.int .i64 Y) ∧ w1.heap.size < ((w1.alloc (.cells #[.int .i64 Y, .int .i64 M, .int .i64 D] 93)).alloc (.cells #[.int .i64 Y, .int .i64 9, .int .i64 d] 93)).heap.size := by
  have b := (Below.refl _ (w1.alloc (.cells #[.int .i64 Y, .int .i64 M, .int .i64 D] 93))).alloc (Nat.le_refl _) (.cells #[.int .i64 Y, .int .i64 9, .int .i64 d] 93)
  exact ⟨by go_grown, (b.cell (p := ⟨w1.heap.size, 0, none⟩) (by simp)).trans (World.cell?_alloc_at _ _ _ _ rfl), by simp; omega⟩
set_option maxRecDepth 100000 in
set_option maxHeartbeats 1000000 in
theorem indictionOn_any (k n : Int) (w : World) (hn0 : 0 ≤ n) (hn : n ≤ 730499) :
    Calls Tryz.prog 91 #[.int .i64 k, .int .i64 n] w fun e w' => e = .returned (.int .i64 (ioO k n)) ∧ Below w.heap.size w w' := by
  have HD := Lib.hid (fun W => dateOf_any n W hn0 hn)
  have hy := yrO_bd hn0 hn
  have hR1 := Lib.hid (ioO_one n)
  have hR2 := Lib.hid (ioO_two n)
  have hR0 := Lib.hid (fun h1 h2 => ioO_else (k := k) (n := n) h1 h2)
  have H1 := Lib.hid (fun W => dayOf_any (yrO n) 9 1 W (by omega) (by omega) (by decide) (by decide) (by decide) (by decide))
  have H2 := Lib.hid (fun W => dayOf_any (yrO n) 9 24 W (by omega) (by omega) (by decide) (by decide) (by decide) (by decide))
  have HO := Lib.hid (fun W => indictionOf_any (yrO n + 1) W (by omega) (by omega))
  have HP := Lib.hid (fun W => indictionOf_any (yrO n) W (by omega) (by omega))
  have v1 := i64_in (yrO n + 1) (by omega)
  generalize (yrO n + 1 + 2) % 15 + 1 = r1 at hR0 hR1 hR2 HO
  generalize (yrO n + 2) % 15 + 1 = r0 at hR0 hR1 hR2 HP
  generalize (mnO n : Int) = M at HD
  generalize dyO n = D at HD
  generalize yrO n = Y at *
  generalize numO Y 9 1 = V1 at H1 hR0
  generalize numO Y 9 24 = V2 at H2 hR1
  by_cases c1 : k = 1
  · subst c1
    by_cases c2 : V2 ≤ n
    · have hRR := Lib.hid (hR1.out.trans (if_pos c2))
      go_enter Tryz.func91, Tryz.ntmps91
      go_wp2_with fail
      refine (HD.out _).mono ?_
      rintro e w1 ⟨rfl, hB⟩
      go_wp2_with fail
      obtain ⟨hB2, hc, hsz⟩ := two_dates w1 Y M D 24
      generalize ((w1.alloc (.cells #[.int .i64 Y, .int .i64 M, .int .i64 D] 93)).alloc (.cells #[.int .i64 Y, .int .i64 9, .int .i64 24] 93)) = W2 at hB2 hc hsz ⊢
      have hB := stepB hB hB2 hB.size
      clear hB2
      refine (H2.out _).mono ?_
      rintro e w2 ⟨rfl, hB2⟩
      have hc := (hB2.cell (p := ⟨w1.heap.size, 0, none⟩) hsz).trans hc
      have hB := stepB hB hB2 hB.size
      clear hB2 hsz
      go_wp2_with (refine (HO.out _).mono ?_; rintro e w3 ⟨rfl, rfl⟩)
      go_ret
      exact ⟨ret_int hRR.out.symm, hB⟩
    · have hRR := Lib.hid (hR1.out.trans (if_neg c2))
      have hn2 : decide (V2 ≤ n) = false := by simpa using c2
      go_enter Tryz.func91, Tryz.ntmps91
      go_wp2_with fail
      refine (HD.out _).mono ?_
      rintro e w1 ⟨rfl, hB⟩
      go_wp2_with fail
      obtain ⟨hB2, hc, hsz⟩ := two_dates w1 Y M D 24
      generalize ((w1.alloc (.cells #[.int .i64 Y, .int .i64 M, .int .i64 D] 93)).alloc (.cells #[.int .i64 Y, .int .i64 9, .int .i64 24] 93)) = W2 at hB2 hc hsz ⊢
      have hB := stepB hB hB2 hB.size
      clear hB2
      refine (H2.out _).mono ?_
      rintro e w2 ⟨rfl, hB2⟩
      have hc := (hB2.cell (p := ⟨w1.heap.size, 0, none⟩) hsz).trans hc
      have hB := stepB hB hB2 hB.size
      clear hB2 hsz
      go_wp2_with (refine (HP.out _).mono ?_; rintro e w3 ⟨rfl, rfl⟩)
      go_ret
      exact ⟨ret_int hRR.out.symm, hB⟩
  by_cases c3 : k = 2
  · subst c3
    go_enter Tryz.func91, Tryz.ntmps91
    go_wp2_with fail
    refine (HD.out _).mono ?_
    rintro e w1 ⟨rfl, hB⟩
    go_wp2_with fail
    obtain ⟨hB2, hc, hsz⟩ := two_dates w1 Y M D 1
    generalize ((w1.alloc (.cells #[.int .i64 Y, .int .i64 M, .int .i64 D] 93)).alloc (.cells #[.int .i64 Y, .int .i64 9, .int .i64 1] 93)) = W2 at hB2 hc hsz ⊢
    have hB := stepB hB hB2 hB.size
    clear hB2
    refine (HP.out _).mono ?_
    rintro e w3 ⟨rfl, rfl⟩
    go_wp2
    go_ret
    exact ⟨ret_int hR2.out.symm, hB⟩
  have d1 : (k == 1) = false := by simpa using c1
  have d2 : (k != 2) = true := by simpa using c3
  by_cases c2 : V1 ≤ n
  · have hRR := Lib.hid ((hR0.out c1 c3).trans (if_pos c2))
    go_enter Tryz.func91, Tryz.ntmps91
    go_wp2_with fail
    refine (HD.out _).mono ?_
    rintro e w1 ⟨rfl, hB⟩
    go_wp2_with fail
    obtain ⟨hB2, hc, hsz⟩ := two_dates w1 Y M D 1
    generalize ((w1.alloc (.cells #[.int .i64 Y, .int .i64 M, .int .i64 D] 93)).alloc (.cells #[.int .i64 Y, .int .i64 9, .int .i64 1] 93)) = W2 at hB2 hc hsz ⊢
    have hB := stepB hB hB2 hB.size
    clear hB2
    refine (H1.out _).mono ?_
    rintro e w2 ⟨rfl, hB2⟩
    have hc := (hB2.cell (p := ⟨w1.heap.size, 0, none⟩) hsz).trans hc
    have hB := stepB hB hB2 hB.size
    clear hB2 hsz
    go_wp2_with (refine (HO.out _).mono ?_; rintro e w3 ⟨rfl, rfl⟩)
    go_ret
    exact ⟨ret_int hRR.out.symm, hB⟩
  · have hRR := Lib.hid ((hR0.out c1 c3).trans (if_neg c2))
    have hn2 : decide (V1 ≤ n) = false := by simpa using c2
    go_enter Tryz.func91, Tryz.ntmps91
    go_wp2_with fail
    refine (HD.out _).mono ?_
    rintro e w1 ⟨rfl, hB⟩
    go_wp2_with fail
    obtain ⟨hB2, hc, hsz⟩ := two_dates w1 Y M D 1
    generalize ((w1.alloc (.cells #[.int .i64 Y, .int .i64 M, .int .i64 D] 93)).alloc (.cells #[.int .i64 Y, .int .i64 9, .int .i64 1] 93)) = W2 at hB2 hc hsz ⊢
    have hB := stepB hB hB2 hB.size
    clear hB2
    refine (H1.out _).mono ?_
    rintro e w2 ⟨rfl, hB2⟩
    have hc := (hB2.cell (p := ⟨w1.heap.size, 0, none⟩) hsz).trans hc
    have hB := stepB hB hB2 hB.size
    clear hB2 hsz
    go_wp2_with (refine (HP.out _).mono ?_; rintro e w3 ⟨rfl, rfl⟩)
    go_ret
    exact ⟨ret_int hRR.out.symm, hB⟩
end Go.Proofs.YtkfgbnmeiknlnaaGreatDoor
