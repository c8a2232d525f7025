/- Walks: SlackAfter. Printed by gen_slack.py. -/
import Derived.Test.YtmjbigeeokofeaaGreatDoorPlaceOn
import Derived.Deep.RegionHeld
import Derived.BigRegion
namespace Go.Proofs.YtmjbigeeokofeaaGreatDoor
open Go.ChangeShapes Go.WideShapes Go.ChangeAt Go.RowKit

theorem upGo_pair {α : Type} {ok : α → Bool} {lt : α → α → Bool} : ∀ {xs : List α} {p : Option α} {i : Nat} {x y : α}, upGo ok lt p xs = true → xs[i]? = some x → xs[i + 1]? = some y → lt x y = true
  | [], _, _, _, _, _, h, _ => by cases h
  | [a], _, i, _, _, _, _, h => by simp at h
  | a :: b :: l, p, 0, x, y, hu, hx, hy => by
    obtain rfl : a = x := by simpa using hx
    obtain rfl : b = y := by simpa using hy
    cases p <;> simp [upGo] at hu
    · exact hu.2.1.2
    · exact hu.2.1.2
  | a :: b :: l, p, i + 1, x, y, hu, hx, hy => by
    have hu' : upGo ok lt (some a) (b :: l) = true := by
      cases p with
      | none => simp only [upGo, Bool.and_eq_true] at hu ⊢; exact hu.2
      | some q => simp only [upGo, Bool.and_eq_true] at hu ⊢; exact hu.2
    exact upGo_pair hu' (by simpa using hx) (by simpa using hy)
def slackR (ps : List ByteArray) (ws : List Wy) (xs : List St) (i c : Int) : Int × Int :=
  if c = 0 then (match xs[i.toNat]?, xs[i.toNat + 1]? with | some x, some y => y.fr - x.to - travM ps.length ws x.place.toNat y.place.toNat | _, _ => 0, 0) else (0, c)

theorem slack_facts {xs0 : List ByteArray} {xs1 : List Wy} {xs2 : List St} {z : Int} (h : codeI xs0 xs1 xs2 (inB z 0 ((xs2.length : Int) - 2)) = 0) :
    ∃ (k A B : Nat) (pf pt mf mt : Int), z = k ∧ k + 1 < xs2.length ∧ xs2[k]? = some ⟨A, pf, pt⟩ ∧ xs2[k + 1]? = some ⟨B, mf, mt⟩ ∧ isLandB xs0 xs1 = true ∧ A < xs0.length ∧ B < xs0.length ∧ (0 ≤ pt ∧ pt ≤ 730499) ∧ (0 ≤ mf ∧ mf ≤ 730499) ∧ (0 ≤ travM xs0.length xs1 A B ∧ travM xs0.length xs1 A B < 1000000) ∧ distF xs0.length xs1 A B = travM xs0.length xs1 A B ∧ slackR xs0 xs1 xs2 z (codeI xs0 xs1 xs2 (inB z 0 ((xs2.length : Int) - 2))) = (mf - pt - travM xs0.length xs1 A B, 0) := by
  obtain ⟨h1, h2⟩ := codeI_zero h
  have h3 : 0 ≤ z ∧ z ≤ (xs2.length : Int) - 2 := by simpa [inB] using h2
  unfold isItinB at h1
  simp only [Bool.and_eq_true, decide_eq_true_eq] at h1
  obtain ⟨⟨hA, hup⟩, hl⟩ := h1
  obtain ⟨k, rfl⟩ : ∃ k : Nat, z = k := ⟨z.toNat, by omega⟩
  have hk : k + 1 < xs2.length := by omega
  have hx := List.getElem?_eq_getElem (show k < xs2.length by omega)
  have hy := List.getElem?_eq_getElem hk
  generalize xs2[k] = x at hx
  generalize xs2[k + 1] = y at hy
  have hox := okSt_bd (upGo_all hup x (List.mem_of_getElem? hx))
  have hoy := okSt_bd (upGo_all hup y (List.mem_of_getElem? hy))
  have hlt := upGo_pair hup hx hy
  obtain ⟨xp, pf, pt⟩ := x
  obtain ⟨yp, mf, mt⟩ := y
  obtain ⟨⟨A, hxA, hA1⟩, _, _, hpt⟩ := hox
  obtain ⟨⟨B, hyB, hB1⟩, hmf, hmf2, _⟩ := hoy
  simp only at hxA hyB hpt hmf hmf2
  subst hxA hyB
  unfold ltSt at hlt
  simp only [Bool.and_eq_true, decide_eq_true_eq, Int.toNat_natCast] at hlt
  have hb := trav_bd hA hA1 hB1
  refine ⟨k, A, B, pf, pt, mf, mt, rfl, hk, hx, hy, hA, hA1, hB1, hpt, ⟨hmf, hmf2⟩, ⟨hb.1, hlt.1.1⟩, if_pos hlt.1.1, ?_⟩
  unfold slackR
  rw [if_pos h]
  simp [hx, hy]

set_option maxRecDepth 100000 in
set_option maxHeartbeats 4000000 in
theorem specSlack_any (a0 a1 a2 : Option Addr) (cap0 cap1 cap2 : Nat) (xs0 : List ByteArray) (xs1 : List Wy) (xs2 : List St) (z : Int) (w : World) (hz64 : -9223372036854775808 ≤ z ∧ z ≤ 9223372036854775807) (hc0 : xs0.length ≤ cap0) (hc1 : cap0 ≤ 9223372036854775807) (hl0 : xs0.length ≤ 1048576) (hx0 : Rd encS w a0 xs0) (hs0 : ∀ m ∈ xs0, m.size ≤ 1048576) (hl1 : xs1.length ≤ 1048576) (hx1 : Rd encWy w a1 xs1) (hl2 : xs2.length ≤ 1048576) (hx2 : Rd encSt w a2 xs2) :
    Calls Tryz.prog 12 #[.agg #[.slice a0 xs0.length cap0, .slice a1 xs1.length cap1], .slice a2 xs2.length cap2, .int .i64 z] w fun e w' => e = .returned (.tuple #[.int .i64 (slackR xs0 xs1 xs2 z (codeI xs0 xs1 xs2 (inB z 0 ((xs2.length : Int) - 2)))).1, .int .i64 (slackR xs0 xs1 xs2 z (codeI xs0 xs1 xs2 (inB z 0 ((xs2.length : Int) - 2)))).2]) ∧ Below w.heap.size w w' := by
  have HC := Lib.hid (fun W b (h0 : Rd encS W a0 xs0) (h1 : Rd encWy W a1 xs1) (h2 : Rd encSt W a2 xs2) => l15Code_any a0 a1 a2 cap0 cap1 cap2 xs0 xs1 xs2 b W hc0 hc1 hl0 h0 hs0 hl1 h1 hl2 h2)
  have HI := Lib.hid (fun x lo hi W => l01In_any x lo hi W)
  have hw2 : IntKind.i64.wrap ((xs2.length : Int) - 2) = (xs2.length : Int) - 2 := by rw [IntKind.wrap_i64]; omega
  have hfacts := Lib.hid (slack_facts (xs0 := xs0) (xs1 := xs1) (xs2 := xs2) (z := z))
  generalize hcc : codeI xs0 xs1 xs2 (inB z 0 ((xs2.length : Int) - 2)) = c at hfacts ⊢
  go_enter Tryz.func12, Tryz.ntmps12
  go_wp2_with fail
  generalize hW : w.alloc (.cells #[.slice a0 xs0.length cap0, .slice a1 xs1.length cap1] 27) = W
  have hA0 : At w [.slice a0 xs0.length cap0, .slice a1 xs1.length cap1] W := hW ▸ At.start _ _ _
  clear hW
  have E0 := Later.cell (hA0.cell 0 _ rfl) hA0.size
  have E1 := Later.cell (hA0.cell 1 _ rfl) hA0.size
  have hx0' := hx0.below hA0.below
  have hx1' := hx1.below hA0.below
  have hx2' := hx2.below hA0.below
  refine wp_region_later W (by kernel_rfl) (by kernel_rfl) ?_
  repeat (go_big_quiet_step ((first | (go_at_call 65; exact Later.same (HI.out _ _ _ _)) | (go_at_call 57; exact Later.call (Nat.le_refl _) (HC.out _ _ (hx0'.below (Later.prop _)) (hx1'.below (Later.prop _)) (hx2'.below (Later.prop _)))))))
  refine wpQuiet_nil ?_
  intro z'
  have hz := z'.prop
  generalize z'.val = w1 at hz
  have hA1 := hA0.step hz
  clear E0 E1 hA0 hz hx0' hx1' hx2' HC
  rw [hcc]
  by_cases hc : c = 0
  · subst hc
    obtain ⟨k, A, B, pf, pt, mf, mt, rfl, hk, hm0, hm1, hA, hA2, hB2, hpt, hmf, hT, hdist, hR0⟩ := hfacts.out rfl
    have hR := Lib.hid hR0
    have HF := Lib.hid (fun W (h1 : Rd encWy W a1 xs1) => fromDist_any a0 a1 cap0 cap1 A xs0 xs1 W hA hA2 h1)
    obtain ⟨b, off, rfl, hb, c0, _, c2⟩ := (hx2.below hA1.below).st hm0
    obtain ⟨_, _, e', _, d0, d1, _⟩ := (hx2.below hA1.below).st hm1
    simp only [Option.some.injEq, Addr.mk.injEq, and_true] at e'
    obtain ⟨rfl, rfl⟩ := e'
    generalize travM xs0.length xs1 A B = T at hT hdist hR
    have hk1 : (k : Int) < (xs2.length : Int) := by omega
    have hk2 : (k : Int) + 1 < (xs2.length : Int) := by omega
    have hk3 : ((k : Int) + 1).toNat = k + 1 := by omega
    have hw3 : IntKind.i64.wrap ((k : Int) + 1) = (k : Int) + 1 := by rw [IntKind.wrap_i64]; omega
    have hk4 : (0 : Int) ≤ (k : Int) + 1 := by omega
    have hBi : (B : Int) < (xs0.length : Int) := by omega
    have hw4 : IntKind.i64.wrap (mf - pt) = mf - pt := by rw [IntKind.wrap_i64]; omega
    have hw5 : IntKind.i64.wrap (mf - pt - T) = mf - pt - T := by rw [IntKind.wrap_i64]; omega
    have s1 : -2000000 ≤ mf - pt ∧ mf - pt ≤ 2000000 := by omega
    have s2 : -3000000 ≤ mf - pt - T ∧ mf - pt - T ≤ 2000000 := by omega
    have b0 := hA1.cell 0 _ rfl
    have b1 := hA1.cell 1 _ rfl
    have hs := hA1.size
    have hBd : Below w.heap.size w w1.drew := hA1.below.drew
    clear hm0 hm1 hcc hR0 hfacts hz64
    go_wp2_with fail
    refine wp_region_held_drew (S := fun w' => w'.cell? ⟨w.heap.size, 0, none⟩ = some (.slice a0 xs0.length cap0) ∧ w'.cell? ⟨w.heap.size, 1, none⟩ = some (.slice a1 xs1.length cap1) ∧ w'.cell? ⟨b, off + k * 3, none⟩ = some (.int .i64 A) ∧ w'.cell? ⟨b, off + k * 3 + 2, none⟩ = some (.int .i64 pt) ∧ w'.cell? ⟨b, off + (k + 1) * 3, none⟩ = some (.int .i64 B) ∧ w'.cell? ⟨b, off + (k + 1) * 3 + 1, none⟩ = some (.int .i64 mf)) (by kernel_rfl) ?_ (fun hHeld => ?_)
    · exact ⟨b0, b1, c0, c2, d0, d1⟩
    refine wpAnyH_take (i := 0) (v := ?_) rfl (by kernel_rfl) (by kernel_rfl) (by kernel_rfl) (fun _ _ _ h => h) (Or.inl ⟨by rfl, ?_⟩) (by assumption) ?_
    rotate_left
    · (intro w' hSw; (try dsimp only at hSw); go_simp; try (with_reducible rfl))
    try simp only [Act.put, List.setIfInBounds_toArray]
    refine wpAnyH_take (i := 1) (v := ?_) rfl (by kernel_rfl) (by kernel_rfl) (by kernel_rfl) (fun _ _ _ h => h) (Or.inl ⟨by rfl, ?_⟩) (by assumption) ?_
    rotate_left
    · (intro w' hSw; (try dsimp only at hSw); go_simp; try (with_reducible rfl))
    try simp only [Act.put]
    refine wpAnyH_take (i := 2) (v := ?_) rfl (by kernel_rfl) (by kernel_rfl) (by kernel_rfl) (fun _ _ _ h => h) (Or.inl ⟨by rfl, ?_⟩) (by assumption) ?_
    rotate_left
    · (intro w' hSw; (try dsimp only at hSw); go_simp; try (with_reducible rfl))
    try simp only [Act.put]
    refine wpAnyH_take (i := 3) (v := ?_) rfl (by kernel_rfl) (by kernel_rfl) (by kernel_rfl) (fun _ _ _ h => h) (Or.inl ⟨by rfl, ?_⟩) (by assumption) ?_
    rotate_left
    · (intro w' hSw; (try dsimp only at hSw); go_simp; try (with_reducible rfl))
    try simp only [Act.put]
    refine wpAnyH_take (i := 4) (v := ?_) rfl (by kernel_rfl) (by kernel_rfl) (by kernel_rfl) (fun _ _ _ h => h) (Or.inl ⟨by rfl, ?_⟩) (by assumption) ?_
    rotate_left
    · (intro w' hSw; (try dsimp only at hSw); go_simp; try (with_reducible rfl))
    try simp only [Act.put]
    refine wpAnyH_take (i := 5) (v := ?_) rfl (by kernel_rfl) (by kernel_rfl) (by kernel_rfl) (fun _ _ _ h => h) (Or.inl ⟨by rfl, ?_⟩) (by assumption) ?_
    rotate_left
    · (intro w' hSw; (try dsimp only at hSw); go_simp; try (with_reducible rfl))
    try simp only [Act.put]
    refine wpAnyH_take (i := 6) (v := ?_) rfl (by kernel_rfl) (by kernel_rfl) (by kernel_rfl) (fun _ _ _ h => h) (Or.inl ⟨by rfl, ?_⟩) (by assumption) ?_
    rotate_left
    · (intro w' hSw; (try dsimp only at hSw); go_simp; try (with_reducible rfl))
    try simp only [Act.put]
    refine wpAnyH_take (i := 7) (v := ?_) rfl (by kernel_rfl) (by kernel_rfl) (by kernel_rfl) (fun _ _ _ h => h) (Or.inl ⟨by rfl, ?_⟩) (by assumption) ?_
    rotate_left
    · (intro w' hSw; (try dsimp only at hSw); go_simp; try (with_reducible rfl))
    try simp only [Act.put]
    refine wpAnyH_take (i := 8) (v := ?_) rfl (by kernel_rfl) (by kernel_rfl) (by kernel_rfl) (fun _ _ _ h => h) (Or.inl ⟨by rfl, ?_⟩) (by assumption) ?_
    rotate_left
    · (intro w' hSw; (try dsimp only at hSw); go_simp; try (with_reducible rfl))
    try simp only [Act.put]
    refine wpAnyH_take (i := 9) (v := ?_) rfl (by kernel_rfl) (by kernel_rfl) (by kernel_rfl) (fun _ _ _ h => h) (Or.inl ⟨by rfl, ?_⟩) (by assumption) ?_
    rotate_left
    · (intro w' hSw; (try dsimp only at hSw); go_simp; try (with_reducible rfl))
    try simp only [Act.put]
    refine wpAnyH_take (i := 10) (v := ?_) rfl (by kernel_rfl) (by kernel_rfl) (by kernel_rfl) (fun _ _ _ h => h) (Or.inl ⟨by rfl, ?_⟩) (by assumption) ?_
    rotate_left
    · (intro w' hSw; (try dsimp only at hSw); go_simp; try (with_reducible rfl))
    try simp only [Act.put]
    refine wpAnyH_take (i := 11) (v := ?_) rfl (by kernel_rfl) (by kernel_rfl) (by kernel_rfl) (fun _ _ _ h => h) (Or.inl ⟨by rfl, ?_⟩) (by assumption) ?_
    rotate_left
    · (intro w' hSw; (try dsimp only at hSw); go_simp; try (with_reducible rfl))
    try simp only [Act.put]
    refine wpAnyH_take (i := 12) (v := ?_) rfl (by kernel_rfl) (by kernel_rfl) (by kernel_rfl) (fun _ _ _ h => h) (Or.inl ⟨by rfl, ?_⟩) (by assumption) ?_
    rotate_left
    · (intro w' hSw; (try dsimp only at hSw); go_simp; try (with_reducible rfl))
    try simp only [Act.put]
    refine wpAnyH_take (i := 13) (v := ?_) rfl (by kernel_rfl) (by kernel_rfl) (by kernel_rfl) (fun _ _ _ h => h) (Or.inl ⟨by rfl, ?_⟩) (by assumption) ?_
    rotate_left
    · (intro w' hSw; (try dsimp only at hSw); go_simp; try (with_reducible rfl))
    try simp only [Act.put]
    refine wpAnyH_take (i := 14) (v := ?_) rfl (by kernel_rfl) (by kernel_rfl) (by kernel_rfl) (fun _ _ _ h => h) (Or.inl ⟨by rfl, ?_⟩) (by assumption) ?_
    rotate_left
    · (intro w' hSw; (try dsimp only at hSw); go_simp; try (with_reducible rfl))
    try simp only [Act.put]
    refine wpAnyH_take (i := 15) (v := ?_) rfl (by kernel_rfl) (by kernel_rfl) (by kernel_rfl) (fun _ _ _ h => h) (Or.inl ⟨by rfl, ?_⟩) (by assumption) ?_
    rotate_left
    · (intro w' hSw; (try dsimp only at hSw); go_simp; try (with_reducible rfl))
    try simp only [Act.put]
    refine wpAnyH_take (i := 16) (v := ?_) rfl (by kernel_rfl) (by kernel_rfl) (by kernel_rfl) (fun _ _ _ h => h) (Or.inl ⟨by rfl, ?_⟩) (by assumption) ?_
    rotate_left
    · (intro w' hSw; (try dsimp only at hSw); go_simp; try (with_reducible rfl))
    try simp only [Act.put]
    refine wpAnyH_take (i := 17) (v := ?_) rfl (by kernel_rfl) (by kernel_rfl) (by kernel_rfl) (fun _ _ _ h => h) (Or.inl ⟨by rfl, ?_⟩) (by assumption) ?_
    rotate_left
    · (intro w' hSw; (try dsimp only at hSw); go_simp; try (with_reducible rfl))
    try simp only [Act.put]
    refine wpAnyH_take (i := 19) (v := ?_) rfl (by kernel_rfl) (by kernel_rfl) (by kernel_rfl) (fun _ _ _ h => h) (Or.inl ⟨by rfl, ?_⟩) (by assumption) ?_
    rotate_left
    · (intro w' hSw; (try dsimp only at hSw); go_simp; try (with_reducible rfl))
    try simp only [Act.put]
    refine wpAnyH_take (i := 20) (v := ?_) rfl (by kernel_rfl) (by kernel_rfl) (by kernel_rfl) (fun _ _ _ h => h) (Or.inl ⟨by rfl, ?_⟩) (by assumption) ?_
    rotate_left
    · (intro w' hSw; (try dsimp only at hSw); go_simp; try (with_reducible rfl))
    try simp only [Act.put]
    refine wpAnyH_take (i := 21) (v := ?_) rfl (by kernel_rfl) (by kernel_rfl) (by kernel_rfl) (fun _ _ _ h => h) (Or.inl ⟨by rfl, ?_⟩) (by assumption) ?_
    rotate_left
    · (intro w' hSw; (try dsimp only at hSw); go_simp; try (with_reducible rfl))
    try simp only [Act.put]
    refine wpAnyH_take (i := 22) (v := ?_) rfl (by kernel_rfl) (by kernel_rfl) (by kernel_rfl) (fun _ _ _ h => h) (Or.inl ⟨by rfl, ?_⟩) (by assumption) ?_
    rotate_left
    · (intro w' hSw; (try dsimp only at hSw); go_simp; try (with_reducible rfl))
    try simp only [Act.put]
    refine wpAnyH_take (i := 23) (v := ?_) rfl (by kernel_rfl) (by kernel_rfl) (by kernel_rfl) (fun _ _ _ h => h) (Or.inl ⟨by rfl, ?_⟩) (by assumption) ?_
    rotate_left
    · (intro w' hSw; (try dsimp only at hSw); go_simp; try (with_reducible rfl))
    try simp only [Act.put]
    refine wpAnyH_take (i := 24) (v := ?_) rfl (by kernel_rfl) (by kernel_rfl) (by kernel_rfl) (fun _ _ _ h => h) (Or.inl ⟨by rfl, ?_⟩) (by assumption) ?_
    rotate_left
    · (intro w' hSw; (try dsimp only at hSw); go_simp; try (with_reducible rfl))
    try simp only [Act.put]
    refine wpAnyH_ready (rs := [18]) (by kernel_rfl) (by simp) ?_
    refine AllReadyH.cons rfl (fun K hK => ?_) AllReadyH.nil
    go_simp
    go_wp2_with (go_at_call 66; refine (HF.out _ (hx1.below hBd)).mono ?_; rintro e w3 ⟨g, rfl, ho, hB3⟩; have cg := own_rowI ho hB2; rw [hdist] at cg)
    refine hK.out _ _ ?_ (fun hHeld => ?_)
    · exact ⟨(hB3.cell (p := ⟨w.heap.size, 0, none⟩) hs).trans b0, (hB3.cell (p := ⟨w.heap.size, 1, none⟩) hs).trans b1, (hB3.cell (p := ⟨b, off + k * 3, none⟩) hb).trans c0, (hB3.cell (p := ⟨b, off + k * 3 + 2, none⟩) hb).trans c2, (hB3.cell (p := ⟨b, off + (k + 1) * 3, none⟩) hb).trans d0, (hB3.cell (p := ⟨b, off + (k + 1) * 3 + 1, none⟩) hb).trans d1⟩
    clear hK K
    refine wpAnyH_take (i := 25) (v := ?_) rfl (by kernel_rfl) (by kernel_rfl) (by kernel_rfl) (fun _ _ _ h => h) (Or.inl ⟨by rfl, ?_⟩) (by assumption) ?_
    rotate_left
    · (intro w' hSw; (try dsimp only at hSw); go_simp; try (with_reducible rfl))
    try simp only [Act.put, List.setIfInBounds_toArray]
    refine wpAnyH_ready (rs := [26]) (by kernel_rfl) (by simp) ?_
    refine AllReadyH.cons rfl (fun K hK => ?_) AllReadyH.nil
    go_simp
    refine hK.out _ _ ?_ (fun hHeld => ?_)
    · exact ⟨(hB3.cell (p := ⟨w.heap.size, 0, none⟩) hs).trans b0, (hB3.cell (p := ⟨w.heap.size, 1, none⟩) hs).trans b1, (hB3.cell (p := ⟨b, off + k * 3, none⟩) hb).trans c0, (hB3.cell (p := ⟨b, off + k * 3 + 2, none⟩) hb).trans c2, (hB3.cell (p := ⟨b, off + (k + 1) * 3, none⟩) hb).trans d0, (hB3.cell (p := ⟨b, off + (k + 1) * 3 + 1, none⟩) hb).trans d1⟩
    clear hK K
    refine wpAnyH_take (i := 27) (v := ?_) rfl (by kernel_rfl) (by kernel_rfl) (by kernel_rfl) (fun _ _ _ h => h) (Or.inl ⟨by rfl, ?_⟩) (by assumption) ?_
    rotate_left
    · (intro w' hSw; (try dsimp only at hSw); go_simp; try (with_reducible rfl))
    try simp only [Act.put, List.setIfInBounds_toArray]
    refine wpAnyH_take (i := 28) (v := ?_) rfl (by kernel_rfl) (by kernel_rfl) (by kernel_rfl) (fun _ _ _ h => h) (Or.inl ⟨by rfl, ?_⟩) (by assumption) ?_
    rotate_left
    · (intro w' hSw; (try dsimp only at hSw); go_simp; try (with_reducible rfl))
    try simp only [Act.put]
    refine wpAnyH_take (i := 29) (v := ?_) rfl (by kernel_rfl) (by kernel_rfl) (by kernel_rfl) (fun _ _ _ h => h) (Or.inl ⟨by rfl, ?_⟩) (by assumption) ?_
    rotate_left
    · (intro w' hSw; (try dsimp only at hSw); go_simp; try (with_reducible rfl))
    try simp only [Act.put]
    refine wpAnyH_done (by kernel_rfl) ?_ _
    simp only [List.getElem_toArray, List.getElem_cons_succ, List.getElem_cons_zero]
    have hBz := stepB hBd hB3 hBd.size
    clear hHeld hB3 cg ho hBd
    go_wp2
    go_ret2
    rw [hR.out]
    exact ⟨rfl, hBz⟩
  · have hR : Hid (slackR xs0 xs1 xs2 z c = (0, c)) := by unfold Hid slackR; rw [if_neg hc]
    have hc2 : (c != 0) = true := by simpa using hc
    go_wp2
    go_ret2
    rw [hR.out]
    exact ⟨rfl, hA1.below⟩

set_option maxRecDepth 100000 in
set_option maxHeartbeats 4000000 in
theorem implSlack_any (a0 a1 a2 : Option Addr) (cap0 cap1 cap2 : Nat) (xs0 : List ByteArray) (xs1 : List Wy) (xs2 : List St) (z : Int) (w : World) (hz64 : -9223372036854775808 ≤ z ∧ z ≤ 9223372036854775807) (hc0 : xs0.length ≤ cap0) (hc1 : cap0 ≤ 9223372036854775807) (hl0 : xs0.length ≤ 1048576) (hx0 : Rd encS w a0 xs0) (hs0 : ∀ m ∈ xs0, m.size ≤ 1048576) (hl1 : xs1.length ≤ 1048576) (hx1 : Rd encWy w a1 xs1) (hl2 : xs2.length ≤ 1048576) (hx2 : Rd encSt w a2 xs2) :
    Calls Tryz.prog 11 #[.agg #[.slice a0 xs0.length cap0, .slice a1 xs1.length cap1], .slice a2 xs2.length cap2, .int .i64 z] w fun e w' => e = .returned (.tuple #[.int .i64 (slackR xs0 xs1 xs2 z (codeI xs0 xs1 xs2 (inB z 0 ((xs2.length : Int) - 2)))).1, .int .i64 (slackR xs0 xs1 xs2 z (codeI xs0 xs1 xs2 (inB z 0 ((xs2.length : Int) - 2)))).2]) ∧ Below w.heap.size w w' := by
  have hA0 : At w [.slice a0 xs0.length cap0, .slice a1 xs1.length cap1] (w.alloc (.cells #[.slice a0 xs0.length cap0, .slice a1 xs1.length cap1] 27)) := At.start _ _ _
  have HM := Lib.hid (fun W (hAt : At w [.slice a0 xs0.length cap0, .slice a1 xs1.length cap1] W) => implIsItin_any a0 a1 a2 cap0 cap1 cap2 xs0 xs1 xs2 W hc0 hc1 hl0 (hx0.below hAt.below) hs0 hl1 (hx1.below hAt.below) hl2 (hx2.below hAt.below))
  have hw2 : IntKind.i64.wrap ((xs2.length : Int) - 2) = (xs2.length : Int) - 2 := by rw [IntKind.wrap_i64]; omega
  have hfacts := Lib.hid (slack_facts (xs0 := xs0) (xs1 := xs1) (xs2 := xs2) (z := z))
  have hcc : codeI xs0 xs1 xs2 (inB z 0 ((xs2.length : Int) - 2)) = if isItinB xs0 xs1 xs2 then (if inB z 0 ((xs2.length : Int) - 2) then 0 else 2) else 1 := rfl
  cases hI : isItinB xs0 xs1 xs2
  · have HM := Lib.hid (fun W h => hI ▸ HM.out W h)
    have hR : Hid (slackR xs0 xs1 xs2 z (codeI xs0 xs1 xs2 (inB z 0 ((xs2.length : Int) - 2))) = (0, 1)) := by unfold Hid; rw [hcc, hI]; rfl
    clear hcc hfacts hI
    go_enter Tryz.func11, Tryz.ntmps11
    go_wp2_with fail
    refine (HM.out _ hA0).mono ?_
    rintro e w1 ⟨rfl, hB1⟩
    go_wp2
    go_ret2
    rw [hR.out]
    exact ⟨rfl, (hA0.step hB1).below⟩
  · have HM := Lib.hid (fun W h => hI ▸ HM.out W h)
    cases hin : inB z 0 ((xs2.length : Int) - 2)
    · have HW := Lib.hid (fun W => hin ▸ within_any z 0 ((xs2.length : Int) - 2) W)
      have hR : Hid (slackR xs0 xs1 xs2 z (codeI xs0 xs1 xs2 (inB z 0 ((xs2.length : Int) - 2))) = (0, 2)) := by unfold Hid; rw [hcc, hI, hin]; rfl
      rw [hin] at hR
      clear hcc hfacts hI
      go_enter Tryz.func11, Tryz.ntmps11
      go_wp2_with fail
      refine (HM.out _ hA0).mono ?_
      rintro e w1 ⟨rfl, hB1⟩
      go_wp2_with fail
      refine (HW.out _).mono ?_
      rintro e w2 ⟨rfl, rfl⟩
      go_wp2
      go_ret2
      rw [hR.out]
      exact ⟨rfl, (hA0.step hB1).below⟩
    · have HW := Lib.hid (fun W => hin ▸ within_any z 0 ((xs2.length : Int) - 2) W)
      rw [hin] at hfacts hcc
      rw [hI] at hcc
      obtain ⟨k, A, B, pf, pt, mf, mt, rfl, hk, hm0, hm1, hA, hA2, hB2, hpt, hmf, hT, hdist, hR0⟩ := hfacts.out hcc
      have hR := Lib.hid hR0
      have HF := Lib.hid (fun W (h1 : Rd encWy W a1 xs1) => trav_any a0 a1 cap0 cap1 xs0 xs1 W hA h1)
      clear hcc hfacts hI hin hR0 hdist
      go_enter Tryz.func11, Tryz.ntmps11
      go_wp2_with fail
      refine (HM.out _ hA0).mono ?_
      rintro e w1 ⟨rfl, hB1⟩
      have hA1 := hA0.step hB1
      clear hA0 hB1
      go_wp2_with fail
      refine (HW.out _).mono ?_
      rintro e w2 ⟨rfl, rfl⟩
      obtain ⟨b, off, rfl, hb, c0, c1, c2⟩ := (hx2.below hA1.below).st hm0
      obtain ⟨_, _, e', _, d0, d1, d2⟩ := (hx2.below hA1.below).st hm1
      simp only [Option.some.injEq, Addr.mk.injEq, and_true] at e'
      obtain ⟨rfl, rfl⟩ := e'
      have hk1 : (k : Int) < (xs2.length : Int) := by omega
      have hk2 : (k : Int) + 1 < (xs2.length : Int) := by omega
      have hk3 : ((k : Int) + 1).toNat = k + 1 := by omega
      have hw3 : IntKind.i64.wrap ((k : Int) + 1) = (k : Int) + 1 := by rw [IntKind.wrap_i64]; omega
      have hk4 : (0 : Int) ≤ (k : Int) + 1 := by omega
      have hAi : (A : Int) < (xs0.length : Int) := by omega
      have hBi : (B : Int) < (xs0.length : Int) := by omega
      have s1 : -2000000 ≤ mf - pt ∧ mf - pt ≤ 2000000 := by omega
      have hw4 : IntKind.i64.wrap (mf - pt) = mf - pt := by rw [IntKind.wrap_i64]; omega
      have hw5 : IntKind.i64.wrap (mf - pt - travM xs0.length xs1 A B) = mf - pt - travM xs0.length xs1 A B := by rw [IntKind.wrap_i64]; omega
      have b0 := hA1.cell 0 _ rfl
      have b1 := hA1.cell 1 _ rfl
      have hs := hA1.size
      clear hm0 hm1 hz64 HM HW
      go_wp2_with fail
      go_region
      · generalize hX : ((w1.alloc (.cells #[.int .i64 A, .int .i64 pf, .int .i64 pt] 69)).alloc (.cells #[.int .i64 B, .int .i64 mf, .int .i64 mt] 69)).drew = X
        have hBX : Below w1.heap.size w1 X := by rw [← hX]; exact (((Below.refl _ w1).alloc (Nat.le_refl _) _).alloc (by simp) _).drew
        have hsX : X.heap.size = w1.heap.size + 2 := by rw [← hX]; simp
        have u0 : X.cell? ⟨w1.heap.size, 0, none⟩ = some (.int .i64 A) := by rw [← hX]; show ((w1.alloc _).alloc _).cell? _ = _; rw [World.cell?_alloc_past _ _ _ (by simp)]; exact World.cell?_alloc_at _ _ _ _ (by simp)
        have u2 : X.cell? ⟨w1.heap.size, 2, none⟩ = some (.int .i64 pt) := by rw [← hX]; show ((w1.alloc _).alloc _).cell? _ = _; rw [World.cell?_alloc_past _ _ _ (by simp)]; exact World.cell?_alloc_at _ _ _ _ (by simp)
        have v0 : X.cell? ⟨w1.heap.size + 1, 0, none⟩ = some (.int .i64 B) := by rw [← hX]; show ((w1.alloc _).alloc _).cell? _ = _; exact World.cell?_alloc_at _ _ _ _ (by simp)
        have v1 : X.cell? ⟨w1.heap.size + 1, 1, none⟩ = some (.int .i64 mf) := by rw [← hX]; show ((w1.alloc _).alloc _).cell? _ = _; exact World.cell?_alloc_at _ _ _ _ (by simp)
        have hAX := hA1.step hBX
        have b0 := hAX.cell 0 _ rfl
        have b1 := hAX.cell 1 _ rfl
        have hs := hAX.size
        have hua : w1.heap.size < X.heap.size := by omega
        have hvb : w1.heap.size + 1 < X.heap.size := by omega
        have hBd : Below w.heap.size w X.drew := hAX.below.drew
        clear hX hBX c0 c1 c2 d0 d1 d2 hb
        go_wp2_with fail
        refine wp_region_held_drew (S := fun w' => w'.cell? ⟨w.heap.size, 0, none⟩ = some (.slice a0 xs0.length cap0) ∧ w'.cell? ⟨w.heap.size, 1, none⟩ = some (.slice a1 xs1.length cap1) ∧ w'.cell? ⟨w1.heap.size, 0, none⟩ = some (.int .i64 A) ∧ w'.cell? ⟨w1.heap.size, 2, none⟩ = some (.int .i64 pt) ∧ w'.cell? ⟨w1.heap.size + 1, 0, none⟩ = some (.int .i64 B) ∧ w'.cell? ⟨w1.heap.size + 1, 1, none⟩ = some (.int .i64 mf)) (by kernel_rfl) ?_ (fun hHeld => ?_)
        · exact ⟨b0, b1, u0, u2, v0, v1⟩
        refine wpAnyH_take (i := 0) (v := ?_) rfl (by kernel_rfl) (by kernel_rfl) (by kernel_rfl) (fun _ _ _ h => h) (Or.inl ⟨by rfl, ?_⟩) (by assumption) ?_
        rotate_left
        · (intro w' hSw; (try dsimp only at hSw); go_simp; try (with_reducible rfl))
        try simp only [Act.put, List.setIfInBounds_toArray]
        refine wpAnyH_take (i := 1) (v := ?_) rfl (by kernel_rfl) (by kernel_rfl) (by kernel_rfl) (fun _ _ _ h => h) (Or.inl ⟨by rfl, ?_⟩) (by assumption) ?_
        rotate_left
        · (intro w' hSw; (try dsimp only at hSw); go_simp; try (with_reducible rfl))
        try simp only [Act.put]
        refine wpAnyH_take (i := 2) (v := ?_) rfl (by kernel_rfl) (by kernel_rfl) (by kernel_rfl) (fun _ _ _ h => h) (Or.inl ⟨by rfl, ?_⟩) (by assumption) ?_
        rotate_left
        · (intro w' hSw; (try dsimp only at hSw); go_simp; try (with_reducible rfl))
        try simp only [Act.put]
        refine wpAnyH_take (i := 3) (v := ?_) rfl (by kernel_rfl) (by kernel_rfl) (by kernel_rfl) (fun _ _ _ h => h) (Or.inl ⟨by rfl, ?_⟩) (by assumption) ?_
        rotate_left
        · (intro w' hSw; (try dsimp only at hSw); go_simp; try (with_reducible rfl))
        try simp only [Act.put]
        refine wpAnyH_take (i := 4) (v := ?_) rfl (by kernel_rfl) (by kernel_rfl) (by kernel_rfl) (fun _ _ _ h => h) (Or.inl ⟨by rfl, ?_⟩) (by assumption) ?_
        rotate_left
        · (intro w' hSw; (try dsimp only at hSw); go_simp; try (with_reducible rfl))
        try simp only [Act.put]
        refine wpAnyH_take (i := 5) (v := ?_) rfl (by kernel_rfl) (by kernel_rfl) (by kernel_rfl) (fun _ _ _ h => h) (Or.inl ⟨by rfl, ?_⟩) (by assumption) ?_
        rotate_left
        · (intro w' hSw; (try dsimp only at hSw); go_simp; try (with_reducible rfl))
        try simp only [Act.put]
        refine wpAnyH_take (i := 7) (v := ?_) rfl (by kernel_rfl) (by kernel_rfl) (by kernel_rfl) (fun _ _ _ h => h) (Or.inl ⟨by rfl, ?_⟩) (by assumption) ?_
        rotate_left
        · (intro w' hSw; (try dsimp only at hSw); go_simp; try (with_reducible rfl))
        try simp only [Act.put]
        refine wpAnyH_take (i := 8) (v := ?_) rfl (by kernel_rfl) (by kernel_rfl) (by kernel_rfl) (fun _ _ _ h => h) (Or.inl ⟨by rfl, ?_⟩) (by assumption) ?_
        rotate_left
        · (intro w' hSw; (try dsimp only at hSw); go_simp; try (with_reducible rfl))
        try simp only [Act.put]
        refine wpAnyH_take (i := 11) (v := ?_) rfl (by kernel_rfl) (by kernel_rfl) (by kernel_rfl) (fun _ _ _ h => h) (Or.inl ⟨by rfl, ?_⟩) (by assumption) ?_
        rotate_left
        · (intro w' hSw; (try dsimp only at hSw); go_simp; try (with_reducible rfl))
        try simp only [Act.put]
        refine wpAnyH_take (i := 12) (v := ?_) rfl (by kernel_rfl) (by kernel_rfl) (by kernel_rfl) (fun _ _ _ h => h) (Or.inl ⟨by rfl, ?_⟩) (by assumption) ?_
        rotate_left
        · (intro w' hSw; (try dsimp only at hSw); go_simp; try (with_reducible rfl))
        try simp only [Act.put]
        refine wpAnyH_ready (rs := [6]) (by kernel_rfl) (by simp) ?_
        refine AllReadyH.cons rfl (fun K hK => ?_) AllReadyH.nil
        go_simp
        go_wp2_with (go_at_call 64; refine (HF.out _ (hx1.below hBd)).mono ?_; rintro e w3 ⟨H, cH, g, rfl, hM, hB3⟩; have q0 := hM.hcell hA2; have q1 := hM.cell hA2 hB2)
        refine hK.out _ _ ?_ (fun hHeld => ?_)
        · exact ⟨(hB3.cell (p := ⟨w.heap.size, 0, none⟩) hs).trans b0, (hB3.cell (p := ⟨w.heap.size, 1, none⟩) hs).trans b1, (hB3.cell (p := ⟨w1.heap.size, 0, none⟩) hua).trans u0, (hB3.cell (p := ⟨w1.heap.size, 2, none⟩) hua).trans u2, (hB3.cell (p := ⟨w1.heap.size + 1, 0, none⟩) hvb).trans v0, (hB3.cell (p := ⟨w1.heap.size + 1, 1, none⟩) hvb).trans v1⟩
        clear hK K
        refine wpAnyH_take (i := 9) (v := ?_) rfl (by kernel_rfl) (by kernel_rfl) (by kernel_rfl) (fun _ _ _ h => h) (Or.inl ⟨by rfl, ?_⟩) (by assumption) ?_
        rotate_left
        · (intro w' hSw; (try dsimp only at hSw); go_simp; try (with_reducible rfl))
        try simp only [Act.put, List.setIfInBounds_toArray]
        refine wpAnyH_ready (rs := [10]) (by kernel_rfl) (by simp) ?_
        refine AllReadyH.cons rfl (fun K hK => ?_) AllReadyH.nil
        go_simp
        refine hK.out _ _ ?_ (fun hHeld => ?_)
        · exact ⟨(hB3.cell (p := ⟨w.heap.size, 0, none⟩) hs).trans b0, (hB3.cell (p := ⟨w.heap.size, 1, none⟩) hs).trans b1, (hB3.cell (p := ⟨w1.heap.size, 0, none⟩) hua).trans u0, (hB3.cell (p := ⟨w1.heap.size, 2, none⟩) hua).trans u2, (hB3.cell (p := ⟨w1.heap.size + 1, 0, none⟩) hvb).trans v0, (hB3.cell (p := ⟨w1.heap.size + 1, 1, none⟩) hvb).trans v1⟩
        clear hK K
        refine wpAnyH_take (i := 13) (v := ?_) rfl (by kernel_rfl) (by kernel_rfl) (by kernel_rfl) (fun _ _ _ h => h) (Or.inl ⟨by rfl, ?_⟩) (by assumption) ?_
        rotate_left
        · (intro w' hSw; (try dsimp only at hSw); go_simp; try (with_reducible rfl))
        try simp only [Act.put, List.setIfInBounds_toArray]
        refine wpAnyH_ready (rs := [14]) (by kernel_rfl) (by simp) ?_
        refine AllReadyH.cons rfl (fun K hK => ?_) AllReadyH.nil
        go_simp
        refine hK.out _ _ ?_ (fun hHeld => ?_)
        · exact ⟨(hB3.cell (p := ⟨w.heap.size, 0, none⟩) hs).trans b0, (hB3.cell (p := ⟨w.heap.size, 1, none⟩) hs).trans b1, (hB3.cell (p := ⟨w1.heap.size, 0, none⟩) hua).trans u0, (hB3.cell (p := ⟨w1.heap.size, 2, none⟩) hua).trans u2, (hB3.cell (p := ⟨w1.heap.size + 1, 0, none⟩) hvb).trans v0, (hB3.cell (p := ⟨w1.heap.size + 1, 1, none⟩) hvb).trans v1⟩
        clear hK K
        refine wpAnyH_take (i := 15) (v := ?_) rfl (by kernel_rfl) (by kernel_rfl) (by kernel_rfl) (fun _ _ _ h => h) (Or.inl ⟨by rfl, ?_⟩) (by assumption) ?_
        rotate_left
        · (intro w' hSw; (try dsimp only at hSw); go_simp; try (with_reducible rfl))
        try simp only [Act.put, List.setIfInBounds_toArray]
        refine wpAnyH_take (i := 16) (v := ?_) rfl (by kernel_rfl) (by kernel_rfl) (by kernel_rfl) (fun _ _ _ h => h) (Or.inl ⟨by rfl, ?_⟩) (by assumption) ?_
        rotate_left
        · (intro w' hSw; (try dsimp only at hSw); go_simp; try (with_reducible rfl))
        try simp only [Act.put]
        refine wpAnyH_take (i := 17) (v := ?_) rfl (by kernel_rfl) (by kernel_rfl) (by kernel_rfl) (fun _ _ _ h => h) (Or.inl ⟨by rfl, ?_⟩) (by assumption) ?_
        rotate_left
        · (intro w' hSw; (try dsimp only at hSw); go_simp; try (with_reducible rfl))
        try simp only [Act.put]
        refine wpAnyH_done (by kernel_rfl) ?_ _
        simp only [List.getElem_toArray, List.getElem_cons_succ, List.getElem_cons_zero]
        have hBz := stepB hBd hB3 hBd.size
        clear hHeld hB3 q0 q1 hM hBd
        go_wp2
        go_ret2
        rw [hR.out]
        exact ⟨rfl, hBz⟩
      · generalize hX : ((w1.alloc (.cells #[.int .i64 B, .int .i64 mf, .int .i64 mt] 69)).alloc (.cells #[.int .i64 A, .int .i64 pf, .int .i64 pt] 69)).drew = X
        have hBX : Below w1.heap.size w1 X := by rw [← hX]; exact (((Below.refl _ w1).alloc (Nat.le_refl _) _).alloc (by simp) _).drew
        have hsX : X.heap.size = w1.heap.size + 2 := by rw [← hX]; simp
        have u0 : X.cell? ⟨w1.heap.size + 1, 0, none⟩ = some (.int .i64 A) := by rw [← hX]; show ((w1.alloc _).alloc _).cell? _ = _; exact World.cell?_alloc_at _ _ _ _ (by simp)
        have u2 : X.cell? ⟨w1.heap.size + 1, 2, none⟩ = some (.int .i64 pt) := by rw [← hX]; show ((w1.alloc _).alloc _).cell? _ = _; exact World.cell?_alloc_at _ _ _ _ (by simp)
        have v0 : X.cell? ⟨w1.heap.size, 0, none⟩ = some (.int .i64 B) := by rw [← hX]; show ((w1.alloc _).alloc _).cell? _ = _; rw [World.cell?_alloc_past _ _ _ (by simp)]; exact World.cell?_alloc_at _ _ _ _ (by simp)
        have v1 : X.cell? ⟨w1.heap.size, 1, none⟩ = some (.int .i64 mf) := by rw [← hX]; show ((w1.alloc _).alloc _).cell? _ = _; rw [World.cell?_alloc_past _ _ _ (by simp)]; exact World.cell?_alloc_at _ _ _ _ (by simp)
        have hAX := hA1.step hBX
        have b0 := hAX.cell 0 _ rfl
        have b1 := hAX.cell 1 _ rfl
        have hs := hAX.size
        have hua : w1.heap.size + 1 < X.heap.size := by omega
        have hvb : w1.heap.size < X.heap.size := by omega
        have hBd : Below w.heap.size w X.drew := hAX.below.drew
        clear hX hBX c0 c1 c2 d0 d1 d2 hb
        go_wp2_with fail
        refine wp_region_held_drew (S := fun w' => w'.cell? ⟨w.heap.size, 0, none⟩ = some (.slice a0 xs0.length cap0) ∧ w'.cell? ⟨w.heap.size, 1, none⟩ = some (.slice a1 xs1.length cap1) ∧ w'.cell? ⟨w1.heap.size + 1, 0, none⟩ = some (.int .i64 A) ∧ w'.cell? ⟨w1.heap.size + 1, 2, none⟩ = some (.int .i64 pt) ∧ w'.cell? ⟨w1.heap.size, 0, none⟩ = some (.int .i64 B) ∧ w'.cell? ⟨w1.heap.size, 1, none⟩ = some (.int .i64 mf)) (by kernel_rfl) ?_ (fun hHeld => ?_)
        · exact ⟨b0, b1, u0, u2, v0, v1⟩
        refine wpAnyH_take (i := 0) (v := ?_) rfl (by kernel_rfl) (by kernel_rfl) (by kernel_rfl) (fun _ _ _ h => h) (Or.inl ⟨by rfl, ?_⟩) (by assumption) ?_
        rotate_left
        · (intro w' hSw; (try dsimp only at hSw); go_simp; try (with_reducible rfl))
        try simp only [Act.put, List.setIfInBounds_toArray]
        refine wpAnyH_take (i := 1) (v := ?_) rfl (by kernel_rfl) (by kernel_rfl) (by kernel_rfl) (fun _ _ _ h => h) (Or.inl ⟨by rfl, ?_⟩) (by assumption) ?_
        rotate_left
        · (intro w' hSw; (try dsimp only at hSw); go_simp; try (with_reducible rfl))
        try simp only [Act.put]
        refine wpAnyH_take (i := 2) (v := ?_) rfl (by kernel_rfl) (by kernel_rfl) (by kernel_rfl) (fun _ _ _ h => h) (Or.inl ⟨by rfl, ?_⟩) (by assumption) ?_
        rotate_left
        · (intro w' hSw; (try dsimp only at hSw); go_simp; try (with_reducible rfl))
        try simp only [Act.put]
        refine wpAnyH_take (i := 3) (v := ?_) rfl (by kernel_rfl) (by kernel_rfl) (by kernel_rfl) (fun _ _ _ h => h) (Or.inl ⟨by rfl, ?_⟩) (by assumption) ?_
        rotate_left
        · (intro w' hSw; (try dsimp only at hSw); go_simp; try (with_reducible rfl))
        try simp only [Act.put]
        refine wpAnyH_take (i := 4) (v := ?_) rfl (by kernel_rfl) (by kernel_rfl) (by kernel_rfl) (fun _ _ _ h => h) (Or.inl ⟨by rfl, ?_⟩) (by assumption) ?_
        rotate_left
        · (intro w' hSw; (try dsimp only at hSw); go_simp; try (with_reducible rfl))
        try simp only [Act.put]
        refine wpAnyH_take (i := 5) (v := ?_) rfl (by kernel_rfl) (by kernel_rfl) (by kernel_rfl) (fun _ _ _ h => h) (Or.inl ⟨by rfl, ?_⟩) (by assumption) ?_
        rotate_left
        · (intro w' hSw; (try dsimp only at hSw); go_simp; try (with_reducible rfl))
        try simp only [Act.put]
        refine wpAnyH_take (i := 7) (v := ?_) rfl (by kernel_rfl) (by kernel_rfl) (by kernel_rfl) (fun _ _ _ h => h) (Or.inl ⟨by rfl, ?_⟩) (by assumption) ?_
        rotate_left
        · (intro w' hSw; (try dsimp only at hSw); go_simp; try (with_reducible rfl))
        try simp only [Act.put]
        refine wpAnyH_take (i := 8) (v := ?_) rfl (by kernel_rfl) (by kernel_rfl) (by kernel_rfl) (fun _ _ _ h => h) (Or.inl ⟨by rfl, ?_⟩) (by assumption) ?_
        rotate_left
        · (intro w' hSw; (try dsimp only at hSw); go_simp; try (with_reducible rfl))
        try simp only [Act.put]
        refine wpAnyH_take (i := 11) (v := ?_) rfl (by kernel_rfl) (by kernel_rfl) (by kernel_rfl) (fun _ _ _ h => h) (Or.inl ⟨by rfl, ?_⟩) (by assumption) ?_
        rotate_left
        · (intro w' hSw; (try dsimp only at hSw); go_simp; try (with_reducible rfl))
        try simp only [Act.put]
        refine wpAnyH_take (i := 12) (v := ?_) rfl (by kernel_rfl) (by kernel_rfl) (by kernel_rfl) (fun _ _ _ h => h) (Or.inl ⟨by rfl, ?_⟩) (by assumption) ?_
        rotate_left
        · (intro w' hSw; (try dsimp only at hSw); go_simp; try (with_reducible rfl))
        try simp only [Act.put]
        refine wpAnyH_ready (rs := [6]) (by kernel_rfl) (by simp) ?_
        refine AllReadyH.cons rfl (fun K hK => ?_) AllReadyH.nil
        go_simp
        go_wp2_with (go_at_call 64; refine (HF.out _ (hx1.below hBd)).mono ?_; rintro e w3 ⟨H, cH, g, rfl, hM, hB3⟩; have q0 := hM.hcell hA2; have q1 := hM.cell hA2 hB2)
        refine hK.out _ _ ?_ (fun hHeld => ?_)
        · exact ⟨(hB3.cell (p := ⟨w.heap.size, 0, none⟩) hs).trans b0, (hB3.cell (p := ⟨w.heap.size, 1, none⟩) hs).trans b1, (hB3.cell (p := ⟨w1.heap.size + 1, 0, none⟩) hua).trans u0, (hB3.cell (p := ⟨w1.heap.size + 1, 2, none⟩) hua).trans u2, (hB3.cell (p := ⟨w1.heap.size, 0, none⟩) hvb).trans v0, (hB3.cell (p := ⟨w1.heap.size, 1, none⟩) hvb).trans v1⟩
        clear hK K
        refine wpAnyH_take (i := 9) (v := ?_) rfl (by kernel_rfl) (by kernel_rfl) (by kernel_rfl) (fun _ _ _ h => h) (Or.inl ⟨by rfl, ?_⟩) (by assumption) ?_
        rotate_left
        · (intro w' hSw; (try dsimp only at hSw); go_simp; try (with_reducible rfl))
        try simp only [Act.put, List.setIfInBounds_toArray]
        refine wpAnyH_ready (rs := [10]) (by kernel_rfl) (by simp) ?_
        refine AllReadyH.cons rfl (fun K hK => ?_) AllReadyH.nil
        go_simp
        refine hK.out _ _ ?_ (fun hHeld => ?_)
        · exact ⟨(hB3.cell (p := ⟨w.heap.size, 0, none⟩) hs).trans b0, (hB3.cell (p := ⟨w.heap.size, 1, none⟩) hs).trans b1, (hB3.cell (p := ⟨w1.heap.size + 1, 0, none⟩) hua).trans u0, (hB3.cell (p := ⟨w1.heap.size + 1, 2, none⟩) hua).trans u2, (hB3.cell (p := ⟨w1.heap.size, 0, none⟩) hvb).trans v0, (hB3.cell (p := ⟨w1.heap.size, 1, none⟩) hvb).trans v1⟩
        clear hK K
        refine wpAnyH_take (i := 13) (v := ?_) rfl (by kernel_rfl) (by kernel_rfl) (by kernel_rfl) (fun _ _ _ h => h) (Or.inl ⟨by rfl, ?_⟩) (by assumption) ?_
        rotate_left
        · (intro w' hSw; (try dsimp only at hSw); go_simp; try (with_reducible rfl))
        try simp only [Act.put, List.setIfInBounds_toArray]
        refine wpAnyH_ready (rs := [14]) (by kernel_rfl) (by simp) ?_
        refine AllReadyH.cons rfl (fun K hK => ?_) AllReadyH.nil
        go_simp
        refine hK.out _ _ ?_ (fun hHeld => ?_)
        · exact ⟨(hB3.cell (p := ⟨w.heap.size, 0, none⟩) hs).trans b0, (hB3.cell (p := ⟨w.heap.size, 1, none⟩) hs).trans b1, (hB3.cell (p := ⟨w1.heap.size + 1, 0, none⟩) hua).trans u0, (hB3.cell (p := ⟨w1.heap.size + 1, 2, none⟩) hua).trans u2, (hB3.cell (p := ⟨w1.heap.size, 0, none⟩) hvb).trans v0, (hB3.cell (p := ⟨w1.heap.size, 1, none⟩) hvb).trans v1⟩
        clear hK K
        refine wpAnyH_take (i := 15) (v := ?_) rfl (by kernel_rfl) (by kernel_rfl) (by kernel_rfl) (fun _ _ _ h => h) (Or.inl ⟨by rfl, ?_⟩) (by assumption) ?_
        rotate_left
        · (intro w' hSw; (try dsimp only at hSw); go_simp; try (with_reducible rfl))
        try simp only [Act.put, List.setIfInBounds_toArray]
        refine wpAnyH_take (i := 16) (v := ?_) rfl (by kernel_rfl) (by kernel_rfl) (by kernel_rfl) (fun _ _ _ h => h) (Or.inl ⟨by rfl, ?_⟩) (by assumption) ?_
        rotate_left
        · (intro w' hSw; (try dsimp only at hSw); go_simp; try (with_reducible rfl))
        try simp only [Act.put]
        refine wpAnyH_take (i := 17) (v := ?_) rfl (by kernel_rfl) (by kernel_rfl) (by kernel_rfl) (fun _ _ _ h => h) (Or.inl ⟨by rfl, ?_⟩) (by assumption) ?_
        rotate_left
        · (intro w' hSw; (try dsimp only at hSw); go_simp; try (with_reducible rfl))
        try simp only [Act.put]
        refine wpAnyH_done (by kernel_rfl) ?_ _
        simp only [List.getElem_toArray, List.getElem_cons_succ, List.getElem_cons_zero]
        have hBz := stepB hBd hB3 hBd.size
        clear hHeld hB3 q0 q1 hM hBd
        go_wp2
        go_ret2
        rw [hR.out]
        exact ⟨rfl, hBz⟩
end Go.Proofs.YtmjbigeeokofeaaGreatDoor
