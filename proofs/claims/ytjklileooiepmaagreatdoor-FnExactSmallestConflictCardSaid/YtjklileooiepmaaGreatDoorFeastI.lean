/- Walks: feasts, styles and indictions of the program. -/
import Derived.Test.YtjklileooiepmaaGreatDoorDateI
import Derived.Test.YtjklileooiepmaaGreatDoorClauseS
namespace Go.Proofs.YtjklileooiepmaaGreatDoor
open Go.ChangeShapes Go.WideShapes Go.ChangeAt Go.RowKit Go.IntWalk

theorem moonDays_any (y : Int) (w : World) (h0 : 0 ≤ y) (h1 : y ≤ 5000) : Calls Tryz.prog 127 #[.int .i64 y] w fun e w' => e = .returned (.int .i64 (epO y)) ∧ w = w' := by
  have v1 := i64_in (y % 19) (by omega)
  have v2 := i64_in (19 * (y % 19)) (by omega)
  have v3 := i64_in (19 * (y % 19) + 15) (by omega)
  have v4 := i64_in ((19 * (y % 19) + 15) % 30) (by omega)
  go_enter Tryz.func127, Tryz.ntmps127
  go_wp2
  go_ret
  exact ⟨rfl, rfl⟩
set_option maxHeartbeats 1000000 in
theorem oldEaster_any (y : Int) (w : World) (h0 : 1 ≤ y) (h1 : y ≤ 2005) : Calls Tryz.prog 115 #[.int .i64 y] w fun e w' => e = .returned (.int .i64 (eaO y)) ∧ Below w.heap.size w w' := by
  have HM := Lib.hid (fun W => moonDays_any y W (by omega) (by omega))
  have hp : 0 ≤ epO y ∧ epO y ≤ 29 := by unfold epO; omega
  have hs := esO_bd y
  have HD := Lib.hid (fun W => dayOf_any y (esO y / 31).toNat (esO y % 31 + 1) W h0 (by omega) (by omega) (by omega) (by omega) (by omega))
  have hR : Hid (eaO y = numO y (esO y / 31).toNat (esO y % 31 + 1)) := rfl
  generalize numO y (esO y / 31).toNat (esO y % 31 + 1) = R at HD hR
  have e1 : ((esO y / 31).toNat : Int) = esO y / 31 := by omega
  rw [e1] at HD
  clear e1
  have he : esO y = epO y + (2 * (y % 4) + 4 * (y % 7) - epO y + 34) % 7 + 114 := rfl
  rw [he] at HD hs
  clear he
  generalize epO y = p at hp HM HD hs
  have v1 := i64_in (2 * (y % 4)) (by omega)
  have v2 := i64_in (4 * (y % 7)) (by omega)
  have v3 := i64_in (2 * (y % 4) + 4 * (y % 7)) (by omega)
  have v4 := i64_in (2 * (y % 4) + 4 * (y % 7) - p) (by omega)
  have v5 := i64_in (2 * (y % 4) + 4 * (y % 7) - p + 34) (by omega)
  have v6 := i64_in (p + (2 * (y % 4) + 4 * (y % 7) - p + 34) % 7) (by omega)
  have v7 := i64_in (p + (2 * (y % 4) + 4 * (y % 7) - p + 34) % 7 + 114) (by omega)
  have v8 := i64_in ((p + (2 * (y % 4) + 4 * (y % 7) - p + 34) % 7 + 114) / 31) (by omega)
  have v9 := i64_in ((p + (2 * (y % 4) + 4 * (y % 7) - p + 34) % 7 + 114) % 31 + 1) (by omega)
  go_enter Tryz.func115, Tryz.ntmps115
  go_wp2_with fail
  refine (HM.out _).mono ?_
  rintro e w1 ⟨rfl, rfl⟩
  go_wp2_with fail
  refine (HD.out _).mono ?_
  rintro e w1 ⟨rfl, hB⟩
  go_wp2
  go_ret
  exact ⟨ret_int hR.out.symm, hB⟩

def fxA : Array Value := #[.int .i64 0, .int .i64 1, .int .i64 1, .int .i64 0, .int .i64 1, .int .i64 6, .int .i64 0, .int .i64 2, .int .i64 2, .int .i64 0, .int .i64 3, .int .i64 25, .int .i64 0, .int .i64 6, .int .i64 24, .int .i64 0, .int .i64 6, .int .i64 29, .int .i64 0, .int .i64 8, .int .i64 10, .int .i64 0, .int .i64 8, .int .i64 15, .int .i64 0, .int .i64 9, .int .i64 29, .int .i64 0, .int .i64 11, .int .i64 1, .int .i64 0, .int .i64 11, .int .i64 11, .int .i64 0, .int .i64 11, .int .i64 30, .int .i64 0, .int .i64 12, .int .i64 6, .int .i64 0, .int .i64 12, .int .i64 25]
def fxVA : Array Value := #[.int .i64 (-46), .int .i64 (-7), .int .i64 0, .int .i64 39, .int .i64 49, .int .i64 56]
theorem fx_at (f : Nat) (hf : f < 14) : ∃ (m : Nat) (d : Int), 1 ≤ m ∧ m ≤ 12 ∧ 1 ≤ d ∧ d ≤ 31 ∧ fxA[f * 3]? = some (.int .i64 0) ∧ fxA[f * 3 + 1]? = some (.int .i64 m) ∧ fxA[f * 3 + 2]? = some (.int .i64 d) ∧ ∀ y, feO f y = numO y m d := by
  have hc : f = 0 ∨ f = 1 ∨ f = 2 ∨ f = 3 ∨ f = 4 ∨ f = 5 ∨ f = 6 ∨ f = 7 ∨ f = 8 ∨ f = 9 ∨ f = 10 ∨ f = 11 ∨ f = 12 ∨ f = 13 := by omega
  rcases hc with rfl | rfl | rfl | rfl | rfl | rfl | rfl | rfl | rfl | rfl | rfl | rfl | rfl | rfl
  · exact ⟨1, 1, by decide, by decide, by decide, by decide, rfl, rfl, rfl, fun _ => rfl⟩
  · exact ⟨1, 6, by decide, by decide, by decide, by decide, rfl, rfl, rfl, fun _ => rfl⟩
  · exact ⟨2, 2, by decide, by decide, by decide, by decide, rfl, rfl, rfl, fun _ => rfl⟩
  · exact ⟨3, 25, by decide, by decide, by decide, by decide, rfl, rfl, rfl, fun _ => rfl⟩
  · exact ⟨6, 24, by decide, by decide, by decide, by decide, rfl, rfl, rfl, fun _ => rfl⟩
  · exact ⟨6, 29, by decide, by decide, by decide, by decide, rfl, rfl, rfl, fun _ => rfl⟩
  · exact ⟨8, 10, by decide, by decide, by decide, by decide, rfl, rfl, rfl, fun _ => rfl⟩
  · exact ⟨8, 15, by decide, by decide, by decide, by decide, rfl, rfl, rfl, fun _ => rfl⟩
  · exact ⟨9, 29, by decide, by decide, by decide, by decide, rfl, rfl, rfl, fun _ => rfl⟩
  · exact ⟨11, 1, by decide, by decide, by decide, by decide, rfl, rfl, rfl, fun _ => rfl⟩
  · exact ⟨11, 11, by decide, by decide, by decide, by decide, rfl, rfl, rfl, fun _ => rfl⟩
  · exact ⟨11, 30, by decide, by decide, by decide, by decide, rfl, rfl, rfl, fun _ => rfl⟩
  · exact ⟨12, 6, by decide, by decide, by decide, by decide, rfl, rfl, rfl, fun _ => rfl⟩
  · exact ⟨12, 25, by decide, by decide, by decide, by decide, rfl, rfl, rfl, fun _ => rfl⟩
theorem fxV_at (f : Nat) (hf : f < 6) : ∃ v : Int, -46 ≤ v ∧ v ≤ 56 ∧ fxVA[f]? = some (.int .i64 v) ∧ ∀ y, feO ((f + 14 : Nat) : Int) y = eaO y + v := by
  have hc : f = 0 ∨ f = 1 ∨ f = 2 ∨ f = 3 ∨ f = 4 ∨ f = 5 := by omega
  rcases hc with rfl | rfl | rfl | rfl | rfl | rfl
  · exact ⟨-46, by decide, by decide, rfl, fun _ => rfl⟩
  · exact ⟨-7, by decide, by decide, rfl, fun _ => rfl⟩
  · exact ⟨0, by decide, by decide, rfl, fun _ => rfl⟩
  · exact ⟨39, by decide, by decide, rfl, fun _ => rfl⟩
  · exact ⟨49, by decide, by decide, rfl, fun _ => rfl⟩
  · exact ⟨56, by decide, by decide, rfl, fun _ => rfl⟩
theorem fixedFeasts_any (w : World) : Calls Tryz.prog 114 #[] w fun e w' => e = .returned (.slice (some ⟨w.heap.size, 0, none⟩) 14 14) ∧ w' = w.alloc (.cells fxA 83) := by
  go_enter Tryz.func114, Tryz.ntmps114
  go_wp2
  go_ret
  exact ⟨rfl, rfl⟩
theorem movableFeasts_any (w : World) : Calls Tryz.prog 116 #[] w fun e w' => e = .returned (.slice (some ⟨w.heap.size, 0, none⟩) 6 6) ∧ w' = w.alloc (.cells fxVA 2) := by
  go_enter Tryz.func116, Tryz.ntmps116
  go_wp2
  go_ret
  exact ⟨rfl, rfl⟩
set_option maxRecDepth 100000 in
set_option maxHeartbeats 1000000 in
theorem feastDay_any (f : Nat) (y : Int) (w : World) (hf : f < 20) (h0 : 1 ≤ y) (h1 : y ≤ 2005) : Calls Tryz.prog 100 #[.int .i64 f, .int .i64 y] w fun e w' => e = .returned (.int .i64 (feO f y)) ∧ Below w.heap.size w w' := by
  have hB0 : Below w.heap.size w (w.alloc (.cells fxA 83)) := (Below.refl _ w).alloc (Nat.le_refl _) _
  by_cases hf14 : f < 14
  · obtain ⟨m, d, hm1, hm2, hd1, hd2, e0, e1, e2, hfe⟩ := fx_at f hf14
    have hR := Lib.hid (hfe y)
    have HD := Lib.hid (fun W => dayOf_any y m d W h0 (by omega) (by omega) (by omega) (by omega) (by omega))
    generalize numO y m d = R at HD hR
    have hlt : (f : Int) < 14 := by omega
    have hlt' : decide ((14 : Int) ≤ (f : Int)) = false := by simp; omega
    clear hfe
    go_enter Tryz.func100, Tryz.ntmps100
    go_wp2_with fail
    refine (fixedFeasts_any _).mono ?_
    rintro e w1 ⟨rfl, hw⟩
    have c0 : w1.cell? ⟨w.heap.size, f * 3, none⟩ = some (.int .i64 0) := by rw [hw, World.cell?_alloc_at _ _ _ _ rfl]; exact e0
    have c1 : w1.cell? ⟨w.heap.size, f * 3 + 1, none⟩ = some (.int .i64 m) := by rw [hw, World.cell?_alloc_at _ _ _ _ rfl]; exact e1
    have c2 : w1.cell? ⟨w.heap.size, f * 3 + 2, none⟩ = some (.int .i64 d) := by rw [hw, World.cell?_alloc_at _ _ _ _ rfl]; exact e2
    rw [← hw] at hB0
    clear hw e0 e1 e2
    go_wp2_with fail
    refine (HD.out _).mono ?_
    rintro e w2 ⟨rfl, hB1⟩
    have hB2 := stepB (stepB hB0 ((Below.refl _ w1).alloc (Nat.le_refl _) (.cells #[.int .i64 y, .int .i64 m, .int .i64 d] 83)) hB0.size) hB1 (by simp; have := hB0.size; omega)
    go_wp2
    go_ret
    exact ⟨ret_int hR.out.symm, hB2⟩
  · obtain ⟨g, rfl⟩ : ∃ g, f = g + 14 := ⟨f - 14, by omega⟩
    obtain ⟨v, hv1, hv2, e0, hfe⟩ := fxV_at g (by omega)
    have hR := Lib.hid (hfe y)
    have HE := Lib.hid (fun W => oldEaster_any y W h0 h1)
    have hbd := eaO_bd y
    have hny : nyO y ≤ 740000 ∧ 0 ≤ nyO y := by unfold nyO; omega
    generalize nyO y = N at hbd hny
    generalize eaO y = E at HE hR hbd
    have hfi : ((g + 14 : Nat) : Int) = (g : Int) + 14 := by omega
    rw [hfi] at hR ⊢
    have hlt' : decide ((14 : Int) ≤ (g : Int) + 14) = true := by simp; omega
    have hg6 : (g : Int) < 6 := by omega
    have v1 := i64_in (g : Int) (by omega)
    have v2 := i64_in (E + v) (by omega)
    clear hfe hf14 hfi
    go_enter Tryz.func100, Tryz.ntmps100
    go_wp2_with fail
    refine (fixedFeasts_any _).mono ?_
    rintro e w1 ⟨rfl, hw⟩
    rw [← hw] at hB0
    clear hw
    go_wp2_with fail
    refine (HE.out _).mono ?_
    rintro e w2 ⟨rfl, hB1⟩
    have hB := stepB hB0 hB1 hB0.size
    clear hB0 hB1
    go_wp2_with fail
    refine (movableFeasts_any _).mono ?_
    rintro e w3 ⟨rfl, hw⟩
    have c0 : w3.cell? ⟨w2.heap.size, g, none⟩ = some (.int .i64 v) := by rw [hw, World.cell?_alloc_at _ _ _ _ rfl]; exact e0
    have hB2 : Below w2.heap.size w2 w3 := by rw [hw]; exact (Below.refl _ w2).alloc (Nat.le_refl _) _
    have hB := stepB hB hB2 hB.size
    clear hw e0 hB2
    go_wp2
    go_ret
    exact ⟨ret_int hR.out.symm, hB⟩
theorem feO_in {f : Nat} {y : Int} (hf : f < 20) (h0 : 1 ≤ y) (h1 : y ≤ 2005) : 0 ≤ feO f y ∧ feO f y ≤ 750000 := by
  have h := feO_bd (f := f) (y := y) (by omega) (by omega)
  have hny : nyO y ≤ 740000 ∧ 0 ≤ nyO y := by unfold nyO; omega
  omega
set_option maxHeartbeats 1000000 in
theorem relatedDay_any (f : Nat) (r wd y : Int) (w : World) (hf : f < 20) (hw0 : 0 ≤ wd) (hw1 : wd ≤ 6) (h0 : 1 ≤ y) (h1 : y ≤ 2005) :
    Calls Tryz.prog 62 #[.int .i64 f, .int .i64 r, .int .i64 wd, .int .i64 y] w fun e w' => e = .returned (.int .i64 (reO f r wd y)) ∧ Below w.heap.size w w' := by
  have HF := Lib.hid (fun W => feastDay_any f y W hf h0 h1)
  have hb := feO_in hf h0 h1
  have hR : Hid (reO f r wd y = if r = 1 then feO f y - 1 else if r = 2 then feO f y + 7 else if r = 3 then feO f y + 1 + (wd - (feO f y + 5) % 7 + 13) % 7
    else if r = 4 then feO f y - 1 - ((feO f y + 5) % 7 - wd + 13) % 7 else feO f y) := rfl
  generalize reO f r wd y = R at hR ⊢
  generalize feO f y = n at HF hb hR
  have HW := Lib.hid (fun W => weekdayOf_any n W (by omega) (by omega))
  generalize hq : (n + 5) % 7 = q at HW hR
  have hqb : 0 ≤ q ∧ q ≤ 6 := by omega
  clear hq
  have v1 := i64_in (n - 1) (by omega)
  have v2 := i64_in (n + 7) (by omega)
  have v3 := i64_in (n + 1) (by omega)
  have v4 := i64_in (wd - q) (by omega)
  have v5 := i64_in (wd - q + 13) (by omega)
  have v6 := i64_in (n + 1 + (wd - q + 13) % 7) (by omega)
  have v7 := i64_in (q - wd) (by omega)
  have v8 := i64_in (q - wd + 13) (by omega)
  have v9 := i64_in (n - 1 - (q - wd + 13) % 7) (by omega)
  go_enter Tryz.func62, Tryz.ntmps62
  go_wp2_with fail
  refine (HF.out _).mono ?_
  rintro e w1 ⟨rfl, hB⟩
  go_wp2_with (go_at_call 69; refine (HW.out _).mono ?_; rintro e w' ⟨rfl, rfl⟩)
  all_goals go_ret
  all_goals exact ⟨ret_int (by rw [hR.out]; clear hR; simp_all), hB⟩
set_option maxHeartbeats 1000000 in
theorem beginOf_any (s y : Int) (w : World) (h0 : 2 ≤ y) (h1 : y ≤ 2005) : Calls Tryz.prog 118 #[.int .i64 s, .int .i64 y] w fun e w' => e = .returned (.int .i64 (beO s y)) ∧ Below w.heap.size w w' := by
  have hR : Hid (beO s y = if s = 1 then numO y 3 1 else if s = 2 then numO y 3 25 else if s = 3 then numO (y - 1) 3 25 else if s = 4 then eaO y
    else if s = 5 then numO (y - 1) 12 25 else if s = 6 then numO (y - 1) 9 1 else nyO y) := rfl
  generalize beO s y = R at hR ⊢
  have H1 := Lib.hid (fun W => dayOf_any y 3 1 W (by omega) (by omega) (by decide) (by decide) (by decide) (by decide))
  have H2 := Lib.hid (fun W => dayOf_any y 3 25 W (by omega) (by omega) (by decide) (by decide) (by decide) (by decide))
  have H3 := Lib.hid (fun W => dayOf_any (y - 1) 3 25 W (by omega) (by omega) (by decide) (by decide) (by decide) (by decide))
  have H4 := Lib.hid (fun W => oldEaster_any y W (by omega) h1)
  have H5 := Lib.hid (fun W => dayOf_any (y - 1) 12 25 W (by omega) (by omega) (by decide) (by decide) (by decide) (by decide))
  have H6 := Lib.hid (fun W => dayOf_any (y - 1) 9 1 W (by omega) (by omega) (by decide) (by decide) (by decide) (by decide))
  have H0 := Lib.hid (fun W => newYear_any y W (by omega) (by omega))
  generalize numO y 3 1 = r1 at H1 hR
  generalize numO y 3 25 = r2 at H2 hR
  generalize numO (y - 1) 3 25 = r3 at H3 hR
  generalize eaO y = r4 at H4 hR
  generalize numO (y - 1) 12 25 = r5 at H5 hR
  generalize numO (y - 1) 9 1 = r6 at H6 hR
  generalize nyO y = r0 at H0 hR
  have v1 := i64_in (y - 1) (by omega)
  by_cases c1 : s = 1
  · subst c1
    go_enter Tryz.func118, Tryz.ntmps118
    go_wp2_with (refine (H1.out _).mono ?_; rintro e w1 ⟨rfl, hB⟩)
    go_ret
    exact ⟨ret_int hR.out.symm, hB⟩
  by_cases c2 : s = 2
  · subst c2
    go_enter Tryz.func118, Tryz.ntmps118
    go_wp2_with (refine (H2.out _).mono ?_; rintro e w1 ⟨rfl, hB⟩)
    go_ret
    exact ⟨ret_int hR.out.symm, hB⟩
  by_cases c3 : s = 3
  · subst c3
    go_enter Tryz.func118, Tryz.ntmps118
    go_wp2_with (refine (H3.out _).mono ?_; rintro e w1 ⟨rfl, hB⟩)
    go_ret
    exact ⟨ret_int hR.out.symm, hB⟩
  by_cases c4 : s = 4
  · subst c4
    go_enter Tryz.func118, Tryz.ntmps118
    go_wp2_with (refine (H4.out _).mono ?_; rintro e w1 ⟨rfl, hB⟩)
    go_ret
    exact ⟨ret_int hR.out.symm, hB⟩
  by_cases c5 : s = 5
  · subst c5
    go_enter Tryz.func118, Tryz.ntmps118
    go_wp2_with (refine (H5.out _).mono ?_; rintro e w1 ⟨rfl, hB⟩)
    go_ret
    exact ⟨ret_int hR.out.symm, hB⟩
  by_cases c6 : s = 6
  · subst c6
    go_enter Tryz.func118, Tryz.ntmps118
    go_wp2_with (refine (H6.out _).mono ?_; rintro e w1 ⟨rfl, hB⟩)
    go_ret
    exact ⟨ret_int hR.out.symm, hB⟩
  have hR' : R = r0 := by rw [hR.out, if_neg c1, if_neg c2, if_neg c3, if_neg c4, if_neg c5, if_neg c6]
  have d1 : (s == 1) = false := by simpa using c1
  have d2 : (s == 2) = false := by simpa using c2
  have d3 : (s == 3) = false := by simpa using c3
  have d4 : (s == 4) = false := by simpa using c4
  have d5 : (s == 5) = false := by simpa using c5
  have d6 : (s == 6) = false := by simpa using c6
  subst hR'
  clear hR
  go_enter Tryz.func118, Tryz.ntmps118
  go_wp2_with (refine (H0.out _).mono ?_; rintro e w1 ⟨rfl, rfl⟩)
  go_ret
  exact ⟨rfl, Below.refl _ _⟩
theorem beO_bd {s y : Int} (h0 : 2 ≤ y) (h1 : y ≤ 2005) : -400 ≤ beO s y ∧ beO s y ≤ 750000 := by
  have hny : nyO y ≤ 740000 ∧ 300 ≤ nyO y ∧ nyO (y - 1) ≤ 740000 ∧ 0 ≤ nyO (y - 1) := by unfold nyO; omega
  have hk : ∀ z (m : Nat), m ≤ 12 → ∀ d, 1 ≤ d → d ≤ 31 → nyO z ≤ numO z m d ∧ numO z m d ≤ nyO z + 400 := fun z m hm d h1 h2 => by
    have := cumO_bd z (m - 1)
    unfold numO
    omega
  have he := eaO_bd y
  have k1 := hk y 3 (by decide) 1 (by decide) (by decide)
  have k2 := hk y 3 (by decide) 25 (by decide) (by decide)
  have k3 := hk (y - 1) 3 (by decide) 25 (by decide) (by decide)
  have k5 := hk (y - 1) 12 (by decide) 25 (by decide) (by decide)
  have k6 := hk (y - 1) 9 (by decide) 1 (by decide) (by decide)
  unfold beO
  repeat' split
  all_goals omega
set_option maxHeartbeats 1000000 in
theorem yearSpan_any (s y : Int) (w : World) (h0 : 2 ≤ y) (h1 : y ≤ 2004) :
    Calls Tryz.prog 103 #[.int .i64 s, .int .i64 y] w fun e w' => e = .returned (.agg #[.int .i64 (beO s y), .int .i64 (beO s (y + 1) - 1)]) ∧ Below w.heap.size w w' := by
  have H1 := Lib.hid (fun W => beginOf_any s y W h0 (by omega))
  have H2 := Lib.hid (fun W => beginOf_any s (y + 1) W (by omega) (by omega))
  have hb := beO_bd (s := s) (y := y + 1) (by omega) (by omega)
  generalize beO s y = a at H1 ⊢
  generalize beO s (y + 1) = b at H2 hb ⊢
  have v1 := i64_in (y + 1) (by omega)
  have v2 := i64_in (b - 1) (by omega)
  have hR := Box.new w 110 [.int .i64 0, .int .i64 0] w.heap.size (Nat.le_refl _) (by simp)
  have hB : Below w.heap.size w (w.alloc (.cells #[.int .i64 0, .int .i64 0] 110)) := by go_grown
  go_enter Tryz.func103, Tryz.ntmps103
  go_wp2_with fail
  refine (H1.out _).mono ?_
  rintro e w1 ⟨rfl, hB1⟩
  have hR := hR.below hB1
  have hB := stepB hB hB1 hB.size
  clear hB1
  go_wp2_with fail
  refine (H2.out _).mono ?_
  rintro e w2 ⟨rfl, hB1⟩
  have hR := hR.below hB1
  have hB := stepB hB hB1 hB.size
  clear hB1
  have r0 := hR.cell 0 _ rfl
  have r1 := hR.cell 1 _ rfl
  have f0 := World.ownsRow.frozenAt hR 0
  have f1 := World.ownsRow.frozenAt hR 1
  have HP := Lib.hid (hR.put2 (.int .i64 a) (.int .i64 (b - 1)))
  go_wp2
  have hp := HP.out
  have hBe := hB.grown hp.2 hB.size (fun g e => by cases e; exact Nat.le_refl _)
  generalize (w2.setCell ⟨w.heap.size, 0, none⟩ (.int .i64 a)).setCell ⟨w.heap.size, 1, none⟩ (.int .i64 (b - 1)) = Wf at hp hBe ⊢
  have z0 := hp.1.cell 0 _ rfl
  have z1 := hp.1.cell 1 _ rfl
  refine bodyPost_ret_by (v := .agg #[.int .i64 a, .int .i64 (b - 1)]) ?_ rfl ⟨rfl, hBe⟩
  simp [results, go_sem, z0, z1]
theorem fldY (Y M D : Int) (w : World) : (Instr.field 83 (.agg #[.int .i64 Y, .int .i64 M, .int .i64 D]) 0).run Tryz.prog w = .ok (.int .i64 Y) w := by kernel_rfl
def yoR (s n : Int) : Int × Bool := match yoO s n with
  | some y => (y, true)
  | none => (0, false)
set_option maxRecDepth 100000 in
set_option maxHeartbeats 2000000 in
theorem yearOn_any (s n : Int) (w : World) (hn0 : 0 ≤ n) (hn : n ≤ 730499) :
    Calls Tryz.prog 67 #[.int .i64 s, .int .i64 n] w fun e w' => e = .returned (.tuple #[.int .i64 (yoR s n).1, .bool (yoR s n).2]) ∧ Below w.heap.size w w' := by
  have HD := Lib.hid (fun W => dateOf_any n W hn0 hn)
  have hy := yrO_bd hn0 hn
  have hR : Hid (yoR s n = match fstR (inY s n) (yrO n - 1) 3 with | some y => (y, true) | none => (0, false)) := rfl
  generalize yoR s n = R at hR ⊢
  have HS := Lib.hid (fun y W h0 h1 => yearSpan_any s y W h0 h1)
  have HI := Lib.hid (fun y => (show inY s n y = (inB y 2 1999 && inB n (beO s y) (beO s (y + 1) - 1)) from rfl))
  have HB := Lib.hid (fun y h0 h1 => beO_bd (s := s) (y := y) h0 h1)
  generalize inY s n = q at hR HI
  generalize beO s = b at HS HI HB
  generalize (mnO n : Int) = M at HD
  generalize dyO n = D at HD
  generalize yrO n = Y at HD hy hR
  have v0 := i64_in (Y - 1) (by omega)
  have v1 := i64_in (Y + 1) (by omega)
  have hfd := fldY Y M D
  go_enter Tryz.func67, Tryz.ntmps67
  go_wp2_with fail
  refine (HD.out _).mono ?_
  rintro e w1 ⟨rfl, hB1⟩
  go_wp2
  go_loopw [7] (fun i wr => ∃ k : Nat, k ≤ 3 ∧ i = .int .i64 (Y - 1 + k) ∧ Hid (fstR q (Y - 1) 3 = fstR q (Y - 1 + k) (3 - k)) ∧ Below w.heap.size w wr) (fun i _ => (Y + 2 - intOf i).toNat)
  case atStart => exact ⟨0, by decide, by simp, by unfold Hid; simp, hB1⟩
  case round =>
    clear hB1
    obtain ⟨k, hk, rfl, hH, hB⟩ := hrel
    by_cases hlt : k < 3
    · have hlt' : decide (Y - 1 + (k : Int) ≤ Y + 1) = true := by simp; omega
      have hek : 3 - k = (3 - (k + 1)) + 1 := by omega
      have HK := Lib.hid (HI.out (Y - 1 + k))
      have hH2 : Hid (fstR q (Y - 1) 3 = if q (Y - 1 + k) = true then some (Y - 1 + k) else fstR q (Y - 1 + k + 1) (3 - (k + 1))) := by unfold Hid; rw [hH.out, hek]; rfl
      have e3 : Hid (Y - 1 + (k : Int) + 1 = Y - 1 + ((k + 1 : Nat) : Int)) := by unfold Hid; omega
      have hyb : Y - 1 + (k : Int) ≤ 2001 ∧ 0 ≤ Y - 1 + (k : Int) := by omega
      have v2 := i64_in (Y - 1 + (k : Int) + 1) (by omega)
      have hyl : Y - 1 + (k : Int) ≤ Y + 1 := by omega
      have hk3 : k + 1 ≤ 3 := by omega
      clear hek hlt
      generalize Y - 1 + (k : Int) = y at *
      cases hs : inB y 2 1999
      · have HSt := Lib.hid (fun W => hs ▸ isStyleYear_any y W)
        have hq : Hid (q y = false) := by unfold Hid; rw [HK.out, hs]; rfl
        go_wp2_with (go_at_call 93; refine (HSt.out _).mono ?_; rintro e w' ⟨rfl, rfl⟩)
        go_roundw
        case rel => exact ⟨k + 1, hk3, by rw [e3.out], by unfold Hid; rw [hH2.out, hq.out, ← e3.out]; rfl, hB⟩
        case measure => simp [intOf]; omega
      · have HSt := Lib.hid (fun W => hs ▸ isStyleYear_any y W)
        have hyy : 2 ≤ y ∧ y ≤ 1999 := by simpa [inB] using hs
        have HSy := Lib.hid (fun W => HS.out y W hyy.1 (by omega))
        cases hw : inB n (b y) (b (y + 1) - 1)
        · have HW := Lib.hid (fun W => hw ▸ within_any n (b y) (b (y + 1) - 1) W)
          have hq : Hid (q y = false) := by unfold Hid; rw [HK.out, hs, hw]; rfl
          generalize b y = u at HSy HW
          generalize b (y + 1) - 1 = v at HSy HW
          clear hs hw
          go_wp2_with (go_at_call 93; refine (HSt.out _).mono ?_; rintro e w' ⟨rfl, rfl⟩)
          refine (HSy.out _).mono ?_
          rintro e w2 ⟨rfl, hB2⟩
          have hB := stepB hB hB2 hB.size
          clear hB2
          go_wp2_with (go_at_call 88; refine (HW.out _).mono ?_; rintro e w' ⟨rfl, rfl⟩)
          go_roundw
          case rel => exact ⟨k + 1, hk3, by rw [e3.out], by unfold Hid; rw [hH2.out, hq.out, ← e3.out]; rfl, stepB hB ((Below.refl _ _).alloc (Nat.le_refl _) _) hB.size⟩
          case measure => simp [intOf]; omega
        · have HW := Lib.hid (fun W => hw ▸ within_any n (b y) (b (y + 1) - 1) W)
          have hq : Hid (q y = true) := by unfold Hid; rw [HK.out, hs, hw]; rfl
          generalize b y = u at HSy HW
          generalize b (y + 1) - 1 = v at HSy HW
          clear hs hw
          go_wp2_with (go_at_call 93; refine (HSt.out _).mono ?_; rintro e w' ⟨rfl, rfl⟩)
          refine (HSy.out _).mono ?_
          rintro e w2 ⟨rfl, hB2⟩
          have hB := stepB hB hB2 hB.size
          clear hB2
          go_wp2_with (go_at_call 88; refine (HW.out _).mono ?_; rintro e w' ⟨rfl, rfl⟩)
          go_ret2
          have hRR : R = (y, true) := by rw [hR.out, hH2.out, hq.out]; rfl
          rw [hRR]
          exact ⟨rfl, stepB hB ((Below.refl _ _).alloc (Nat.le_refl _) _) hB.size⟩
    · have he : Hid (k = 3) := by unfold Hid; omega
      have hlt' : decide (Y - 1 + (k : Int) ≤ Y + 1) = false := by simp; omega
      go_wp2
      go_ret2
      have hRR : R = (0, false) := by rw [hR.out, hH.out, he.out]; rfl
      rw [hRR]
      exact ⟨rfl, hB⟩
end Go.Proofs.YtjklileooiepmaaGreatDoor
