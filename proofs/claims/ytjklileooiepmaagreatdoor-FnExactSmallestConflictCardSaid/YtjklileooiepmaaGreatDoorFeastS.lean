/- Walks: feasts, styles and indictions of the reference. -/
import Derived.Test.YtjklileooiepmaaGreatDoorDateS
import Derived.Test.YtjklileooiepmaaGreatDoorFeastI
import Derived.Deep.RegionWith
namespace Go.Proofs.YtjklileooiepmaaGreatDoor
open Go.ChangeShapes Go.WideShapes Go.ChangeAt Go.RowKit Go.IntWalk

set_option maxHeartbeats 1000000 in
theorem l04Old_any (y : Int) (w : World) (h0 : 1 ≤ y) (h1 : y ≤ 2005) : Calls Tryz.prog 107 #[.int .i64 y] w fun e w' => e = .returned (.agg #[.int .i64 y, .int .i64 (esO y / 31), .int .i64 (esO y % 31 + 1)]) ∧ Below w.heap.size w w' := by
  have hs := esO_bd y
  have hp : 0 ≤ epO y ∧ epO y ≤ 29 := by unfold epO; omega
  have he : esO y = epO y + (2 * (y % 4) + 4 * (y % 7) - epO y + 34) % 7 + 114 := rfl
  rw [he] at hs ⊢
  clear he
  have hpe : (19 * (y % 19) + 15) % 30 = epO y := rfl
  generalize epO y = p at hp hs hpe ⊢
  have v1 := i64_in (2 * (y % 4)) (by omega)
  have v2 := i64_in (4 * (y % 7)) (by omega)
  have v3 := i64_in (2 * (y % 4) + 4 * (y % 7)) (by omega)
  have v4 := i64_in (2 * (y % 4) + 4 * (y % 7) - p) (by omega)
  have v5 := i64_in (2 * (y % 4) + 4 * (y % 7) - p + 34) (by omega)
  have v6 := i64_in (p + (2 * (y % 4) + 4 * (y % 7) - p + 34) % 7) (by omega)
  have v7 := i64_in (p + (2 * (y % 4) + 4 * (y % 7) - p + 34) % 7 + 114) (by omega)
  have v8 := i64_in ((p + (2 * (y % 4) + 4 * (y % 7) - p + 34) % 7 + 114) / 31) (by omega)
  have v9 := i64_in ((p + (2 * (y % 4) + 4 * (y % 7) - p + 34) % 7 + 114) % 31 + 1) (by omega)
  have u1 := i64_in (19 * (y % 19)) (by omega)
  have u2 := i64_in (19 * (y % 19) + 15) (by omega)
  go_enter Tryz.func107, Tryz.ntmps107
  go_wp2
  go_returns
  exact ⟨rfl, by go_grown⟩
def mnA : Array Value := #[.int .i64 1, .int .i64 1, .int .i64 2, .int .i64 3, .int .i64 6, .int .i64 6, .int .i64 8, .int .i64 8, .int .i64 9, .int .i64 11, .int .i64 11, .int .i64 11, .int .i64 12, .int .i64 12]
def dyA : Array Value := #[.int .i64 1, .int .i64 6, .int .i64 2, .int .i64 25, .int .i64 24, .int .i64 29, .int .i64 10, .int .i64 15, .int .i64 29, .int .i64 1, .int .i64 11, .int .i64 30, .int .i64 6, .int .i64 25]
theorem fxS_at (f : Nat) (hf : f < 14) : ∃ (m : Nat) (d : Int), 1 ≤ m ∧ m ≤ 12 ∧ 1 ≤ d ∧ d ≤ 31 ∧ mnA[f]? = some (.int .i64 m) ∧ dyA[f]? = some (.int .i64 d) ∧ ∀ y, feO f y = numO y m d := by
  have hc : f = 0 ∨ f = 1 ∨ f = 2 ∨ f = 3 ∨ f = 4 ∨ f = 5 ∨ f = 6 ∨ f = 7 ∨ f = 8 ∨ f = 9 ∨ f = 10 ∨ f = 11 ∨ f = 12 ∨ f = 13 := by omega
  rcases hc with rfl | rfl | rfl | rfl | rfl | rfl | rfl | rfl | rfl | rfl | rfl | rfl | rfl | rfl
  · exact ⟨1, 1, by decide, by decide, by decide, by decide, rfl, rfl, fun _ => rfl⟩
  · exact ⟨1, 6, by decide, by decide, by decide, by decide, rfl, rfl, fun _ => rfl⟩
  · exact ⟨2, 2, by decide, by decide, by decide, by decide, rfl, rfl, fun _ => rfl⟩
  · exact ⟨3, 25, by decide, by decide, by decide, by decide, rfl, rfl, fun _ => rfl⟩
  · exact ⟨6, 24, by decide, by decide, by decide, by decide, rfl, rfl, fun _ => rfl⟩
  · exact ⟨6, 29, by decide, by decide, by decide, by decide, rfl, rfl, fun _ => rfl⟩
  · exact ⟨8, 10, by decide, by decide, by decide, by decide, rfl, rfl, fun _ => rfl⟩
  · exact ⟨8, 15, by decide, by decide, by decide, by decide, rfl, rfl, fun _ => rfl⟩
  · exact ⟨9, 29, by decide, by decide, by decide, by decide, rfl, rfl, fun _ => rfl⟩
  · exact ⟨11, 1, by decide, by decide, by decide, by decide, rfl, rfl, fun _ => rfl⟩
  · exact ⟨11, 11, by decide, by decide, by decide, by decide, rfl, rfl, fun _ => rfl⟩
  · exact ⟨11, 30, by decide, by decide, by decide, by decide, rfl, rfl, fun _ => rfl⟩
  · exact ⟨12, 6, by decide, by decide, by decide, by decide, rfl, rfl, fun _ => rfl⟩
  · exact ⟨12, 25, by decide, by decide, by decide, by decide, rfl, rfl, fun _ => rfl⟩
theorem two_rows (w : World) : Below w.heap.size w ((w.alloc (.cells mnA 2)).alloc (.cells dyA 2)) ∧ (∀ i v, mnA[i]? = some v → ((w.alloc (.cells mnA 2)).alloc (.cells dyA 2)).cell? ⟨w.heap.size, i, none⟩ = some v) ∧ (∀ i v, dyA[i]? = some v → ((w.alloc (.cells mnA 2)).alloc (.cells dyA 2)).cell? ⟨w.heap.size + 1, i, none⟩ = some v) ∧
    w.heap.size + 1 < ((w.alloc (.cells mnA 2)).alloc (.cells dyA 2)).heap.size := by
  have b := (Below.refl _ (w.alloc (.cells mnA 2))).alloc (Nat.le_refl _) (.cells dyA 2)
  refine ⟨by go_grown, fun i v h => (b.cell (p := ⟨w.heap.size, i, none⟩) (by simp)).trans ((World.cell?_alloc_at _ _ _ _ rfl).trans h), fun i v h => (World.cell?_alloc_at _ _ _ _ (by simp)).trans h, by simp⟩
set_option maxRecDepth 100000 in
set_option maxHeartbeats 2000000 in
theorem l05Day_any (f : Nat) (y : Int) (w : World) (hf : f < 20) (h0 : 1 ≤ y) (h1 : y ≤ 2005) : Calls Tryz.prog 82 #[.int .i64 f, .int .i64 y] w fun e w' => e = .returned (.int .i64 (feO f y)) ∧ Below w.heap.size w w' := by
  obtain ⟨hB0, hm, hd, hsz⟩ := two_rows w
  by_cases hf14 : f < 14
  · obtain ⟨m, d, hm1, hm2, hd1, hd2, e1, e2, hfe⟩ := fxS_at f hf14
    have hR := Lib.hid (hfe y)
    have HD := Lib.hid (fun W => l01Number_any y m d W h0 (by omega) (by omega) (by omega) (by omega) (by omega))
    generalize numO y m d = R at HD hR
    have hlt : (f : Int) < 14 := by omega
    have c1 := hm _ _ e1
    have c2 := hd _ _ e2
    clear hfe hm hd
    go_enter Tryz.func82, Tryz.ntmps82
    go_upto_region 4 with (fail)
    change (Code.region _ _ _).wp _ _ _ ((w.alloc (.cells mnA 2)).alloc (.cells dyA 2))
    generalize (w.alloc (.cells mnA 2)).alloc (.cells dyA 2) = W at hB0 c1 c2 hsz ⊢
    have E1 := Later.cell c1 (Nat.lt_of_succ_lt hsz)
    have E2 := Later.cell c2 hsz
    refine wp_region_later _ (by kernel_rfl) (by kernel_rfl) ?_
    repeat (go_big_quiet_step (fail))
    go_big_quiet_step ((go_at_call 85; exact Later.call (Nat.le_refl _) (HD.out _)))
    repeat (go_big_quiet_step (fail))
    refine wpQuiet_nil ?_
    intro z
    have hz := z.prop
    generalize z.val = w2 at hz
    clear E1 E2 c1 c2
    go_wp2
    go_ret
    exact ⟨ret_int hR.out.symm, stepB hB0 hz hB0.size⟩
  · obtain ⟨g, rfl⟩ : ∃ g, f = g + 14 := ⟨f - 14, by omega⟩
    obtain ⟨v, hv1, hv2, e0, hfe⟩ := fxV_at g (by omega)
    have hR := Lib.hid (hfe y)
    have HO := Lib.hid (fun W => l04Old_any y W h0 h1)
    have hs := esO_bd y
    have HD := Lib.hid (fun W => l01Number_any y (esO y / 31).toNat (esO y % 31 + 1) W h0 (by omega) (by omega) (by omega) (by omega) (by omega))
    have e1 : ((esO y / 31).toNat : Int) = esO y / 31 := by omega
    have HD := Lib.hid (fun W => e1 ▸ HD.out W)
    have hbd := eaO_bd y
    have hny : nyO y ≤ 740000 ∧ 0 ≤ nyO y := by unfold nyO; omega
    have hea : eaO y = numO y (esO y / 31).toNat (esO y % 31 + 1) := rfl
    rw [← hea] at HD
    clear e1 hea hs
    generalize nyO y = N at hbd hny
    generalize eaO y = E at HD hR hbd
    generalize esO y / 31 = q1 at HO HD
    generalize esO y % 31 + 1 = q2 at HO HD
    have hfi : ((g + 14 : Nat) : Int) = (g : Int) + 14 := by omega
    rw [hfi] at hR ⊢
    have hlt' : decide ((g : Int) + 14 < 14) = false := by simp; omega
    have hg6 : (g : Int) < 6 := by omega
    have v1 := i64_in (g : Int) (by omega)
    have v2 := i64_in (E + v) (by omega)
    clear hfe hf14 hfi hm hd
    go_enter Tryz.func82, Tryz.ntmps82
    go_upto_region 5 with (fail)
    change (Code.region _ _ _).wp _ _ _ ((w.alloc (.cells mnA 2)).alloc (.cells dyA 2))
    generalize (w.alloc (.cells mnA 2)).alloc (.cells dyA 2) = W at hB0 hsz ⊢
    clear hsz
    have hna : ∀ u : World, (u.alloc (.cells #[.int .i64 (-46), .int .i64 (-7), .int .i64 0, .int .i64 39, .int .i64 49, .int .i64 56] 2)).cell? ⟨u.heap.size, g, none⟩ = some (.int .i64 v) := fun u => (World.cell?_alloc_at _ _ _ _ rfl).trans e0
    go_region_with (first | (go_at_call 107; refine (HO.out _).mono ?_; rintro e wO ⟨rfl, hBO⟩; (try have c1 := (hBO.cell (p := ⟨W.heap.size, g, none⟩) (by simp)).trans (hna W))) | (go_at_call 85; refine (HD.out _).mono ?_; rintro e wN ⟨rfl, hBN⟩; (try have c1 := (hBN.cell (p := ⟨W.heap.size, g, none⟩) (Nat.lt_of_lt_of_le (by simp) hBO.size)).trans c1); (try have c2 := (hBN.cell (p := ⟨wO.heap.size, g, none⟩) (by simp)).trans (hna wO))) | fail)
    all_goals go_wp2
    all_goals go_ret
    all_goals refine ⟨ret_int hR.out.symm, ?_⟩
    all_goals have s1 := hBO.size
    all_goals have s0 := hB0.size
    all_goals first
      | exact (stepB (stepB hB0.drew hBO s0) hBN (Nat.le_trans s0 s1)).alloc (Nat.le_trans (Nat.le_trans s0 s1) hBN.size) _
      | exact stepB ((stepB hB0.drew hBO s0).alloc (Nat.le_trans s0 s1) _) hBN (Nat.le_trans (Nat.le_trans s0 s1) (by simp))
      | exact stepB (stepB (hB0.alloc s0 _).drew hBO (Nat.le_trans s0 (by simp))) hBN (Nat.le_trans (Nat.le_trans s0 (by simp)) s1)
set_option maxHeartbeats 1000000 in
theorem l05Related_any (f : Nat) (r wd y : Int) (w : World) (hf : f < 20) (hw0 : 0 ≤ wd) (hw1 : wd ≤ 6) (h0 : 1 ≤ y) (h1 : y ≤ 2005) :
    Calls Tryz.prog 51 #[.int .i64 f, .int .i64 r, .int .i64 wd, .int .i64 y] w fun e w' => e = .returned (.int .i64 (reO f r wd y)) ∧ Below w.heap.size w w' := by
  have HF := Lib.hid (fun W => l05Day_any f y W hf h0 h1)
  have hb := feO_in hf h0 h1
  have hR : Hid (reO f r wd y = if r = 1 then feO f y - 1 else if r = 2 then feO f y + 7 else if r = 3 then feO f y + 1 + (wd + 14 - (feO f y + 1 + 5) % 7) % 7
    else if r = 4 then feO f y - 1 - ((feO f y + 6 + 5) % 7 + 7 - wd) % 7 else feO f y) := by
    unfold Hid reO
    have e1 : feO f y + 1 + (wd - (feO f y + 5) % 7 + 13) % 7 = feO f y + 1 + (wd + 14 - (feO f y + 1 + 5) % 7) % 7 := by omega
    have e2 : feO f y - 1 - ((feO f y + 5) % 7 - wd + 13) % 7 = feO f y - 1 - ((feO f y + 6 + 5) % 7 + 7 - wd) % 7 := by omega
    rw [e1, e2]
  generalize reO f r wd y = R at hR ⊢
  generalize feO f y = n at HF hb hR
  have HW1 := Lib.hid (fun W => l01Weekday_any (n + 1) W (by omega) (by omega))
  have HW6 := Lib.hid (fun W => l01Weekday_any (n + 6) W (by omega) (by omega))
  generalize hq : (n + 1 + 5) % 7 = q at HW1 hR
  have hqb : 0 ≤ q ∧ q ≤ 6 := by omega
  clear hq
  generalize hq : (n + 6 + 5) % 7 = p at HW6 hR
  have hpb : 0 ≤ p ∧ p ≤ 6 := by omega
  clear hq
  have v1 := i64_in (n - 1) (by omega)
  have v2 := i64_in (n + 7) (by omega)
  have v3 := i64_in (n + 1) (by omega)
  have v3b := i64_in (n + 6) (by omega)
  have v4 := i64_in (wd + 14) (by omega)
  have v5 := i64_in (wd + 14 - q) (by omega)
  have v6 := i64_in (n + 1 + (wd + 14 - q) % 7) (by omega)
  have v7 := i64_in (p + 7) (by omega)
  have v8 := i64_in (p + 7 - wd) (by omega)
  have v9 := i64_in (n - 1 - (p + 7 - wd) % 7) (by omega)
  by_cases c3 : r = 3
  · subst c3
    go_enter Tryz.func51, Tryz.ntmps51
    go_wp2_with fail
    refine (HF.out _).mono ?_
    rintro e w1 ⟨rfl, hB⟩
    go_wp2_with (go_at_call 55; refine (HW1.out _).mono ?_; rintro e w' ⟨rfl, rfl⟩)
    go_ret
    exact ⟨ret_int hR.out.symm, hB⟩
  · go_enter Tryz.func51, Tryz.ntmps51
    go_wp2_with fail
    refine (HF.out _).mono ?_
    rintro e w1 ⟨rfl, hB⟩
    have c3' : (r == 3) = false := by simpa using c3
    go_wp2_with (go_at_call 55; refine (HW6.out _).mono ?_; rintro e w' ⟨rfl, rfl⟩)
    all_goals go_ret
    all_goals exact ⟨ret_int (by rw [hR.out]; clear hR; simp_all), hB⟩
end Go.Proofs.YtjklileooiepmaaGreatDoor
