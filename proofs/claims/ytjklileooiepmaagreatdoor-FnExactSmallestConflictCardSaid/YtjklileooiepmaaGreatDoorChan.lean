/- Walks: IsChancery, the reference's and the program's. -/
import Derived.Test.YtjklileooiepmaaGreatDoorTRg
import Derived.Test.YtjklileooiepmaaGreatDoorRgs
namespace Go.Proofs.YtjklileooiepmaaGreatDoor
section
open Go.ChangeShapes Go.WideShapes Go.ChangeAt Go.RowKit

def szChancery (xs0 : List Rg) (left : Int) : Int := if szS szRg xs0 left < 0 then -1 else szS szRg xs0 left
theorem szChancery_ok {xs0 : List Rg} {left : Int} (h : ¬ szChancery xs0 left < 0) : ¬ szS szRg xs0 left < 0 := by
  unfold szChancery at h
  by_cases h0 : szS szRg xs0 left < 0
  · rw [if_pos h0] at h; omega
  · exact h0

set_option maxHeartbeats 400000 in
theorem szChancery_any (a0 : Option Addr) (cap0 : Nat) (xs0 : List Rg) (z1 z2 : Int) (left : Int) (w : World) (h1 : 0 ≤ left) (h2 : left ≤ 1048576) (hl0 : xs0.length ≤ maxLen) (hx0 : Rd encRg w a0 xs0) (hs0 : ∀ m ∈ xs0, goodRg m) :
    Calls Tryz.prog 4 #[.agg #[.slice a0 xs0.length cap0, .int .i64 z1, .int .i64 z2], .int .i64 left] w fun e w' => e = .returned (.int .i64 (szChancery xs0 left)) ∧ Below w.heap.size w w' := by
  by_cases h0 : szS szRg xs0 left < 0
  · have H := Lib.hid h0
    go_enter Tryz.func4, Tryz.ntmps4
    have hB : Below w.heap.size w (w.alloc (.cells #[.slice a0 xs0.length cap0, .int .i64 z1, .int .i64 z2] 24)) := (Below.refl _ w).alloc (Nat.le_refl _) _
    go_wp2_with fail
    refine (szReignS_any a0 cap0 xs0 (left) _ (by omega) (by omega) hl0 (hx0.below hB) hs0).mono ?_
    rintro e w1 ⟨rfl, hB1⟩
    have hB := stepB hB hB1 hB.size
    go_wp2
    go_ret
    exact ⟨ret_int (by unfold szChancery; rw [if_pos H.out]), hB⟩
  · have h0' : 0 ≤ szS szRg xs0 left := by omega
    go_enter Tryz.func4, Tryz.ntmps4
    have hB : Below w.heap.size w (w.alloc (.cells #[.slice a0 xs0.length cap0, .int .i64 z1, .int .i64 z2] 24)) := (Below.refl _ w).alloc (Nat.le_refl _) _
    go_wp2_with fail
    refine (szReignS_any a0 cap0 xs0 (left) _ (by omega) (by omega) hl0 (hx0.below hB) hs0).mono ?_
    rintro e w1 ⟨rfl, hB1⟩
    have hB := stepB hB hB1 hB.size
    go_wp2
    go_ret
    exact ⟨ret_int (by unfold szChancery; rw [if_neg (by omega : ¬ szS szRg xs0 left < 0)]), hB⟩

set_option maxHeartbeats 1000000 in
theorem toChancery_any (a0 : Option Addr) (cap0 : Nat) (xs0 : List Rg) (z1 z2 : Int) (w : World) (hl0 : xs0.length ≤ 1048576) (hx0 : Rd encRg w a0 xs0) :
    Calls Tryz.prog 7 #[.agg #[.slice a0 xs0.length cap0, .int .i64 z1, .int .i64 z2]] w fun e w' => ∃ g0, e = .returned (.agg #[.slice (some ⟨g0, 0, none⟩) xs0.length xs0.length, .int .i64 z1, .int .i64 z2]) ∧ w'.ownsRow w.heap.size 72 3 (.slice (some ⟨g0, 0, none⟩) xs0.length xs0.length) xs0.length (xs0.flatMap encRg) ∧ Below w.heap.size w w' := by
  go_enter Tryz.func7, Tryz.ntmps7
  go_wp2_with fail
  have hB : Below w.heap.size w (((w.alloc (.cells #[.slice a0 xs0.length cap0, .int .i64 z1, .int .i64 z2] 24)).alloc (.cells #[.slice none 0 0, .int .i64 0, .int .i64 0] 33)).alloc (.cells #[.slice none 0 0, .int .i64 0, .int .i64 0] 33)) := by go_grown
  have hK : Loc3 w.heap.size [.slice a0 xs0.length cap0, .int .i64 z1, .int .i64 z2] [.slice none 0 0, .int .i64 0, .int .i64 0] [.slice none 0 0, .int .i64 0, .int .i64 0] (((w.alloc (.cells #[.slice a0 xs0.length cap0, .int .i64 z1, .int .i64 z2] 24)).alloc (.cells #[.slice none 0 0, .int .i64 0, .int .i64 0] 33)).alloc (.cells #[.slice none 0 0, .int .i64 0, .int .i64 0] 33)) := Loc3.start w [.slice a0 xs0.length cap0, .int .i64 z1, .int .i64 z2] [.slice none 0 0, .int .i64 0, .int .i64 0] [.slice none 0 0, .int .i64 0, .int .i64 0] _ _ _
  generalize (((w.alloc (.cells #[.slice a0 xs0.length cap0, .int .i64 z1, .int .i64 z2] 24)).alloc (.cells #[.slice none 0 0, .int .i64 0, .int .i64 0] 33)).alloc (.cells #[.slice none 0 0, .int .i64 0, .int .i64 0] 33)) = W0 at hB hK ⊢
  refine (toReignS_any a0 cap0 xs0 _ hl0 (hx0.below hB)).mono ?_
  rintro e w1 ⟨g0, rfl, ho0, hB1⟩
  have hK0 := hK
  have hK := hK.below hB1
  have hg0 : w.heap.size + 1 + 1 < g0 := by have h1 := (own_lt ho0).1; have h2 := hK0.size; omega
  have ho0 := own_base ho0 hB.size
  have hB := stepB hB hB1 hB.size
  have b0_0 := hK.box 0 _ rfl
  have l0_0 := hK.loc 0 _ rfl
  have f0_0 := hK.floc 0
  have r0_0 := hK.res 0 _ rfl
  have e0_0 := hK.fres 0
  have b0_1 := hK.box 1 _ rfl
  have l0_1 := hK.loc 1 _ rfl
  have f0_1 := hK.floc 1
  have r0_1 := hK.res 1 _ rfl
  have e0_1 := hK.fres 1
  have b0_2 := hK.box 2 _ rfl
  have l0_2 := hK.loc 2 _ rfl
  have f0_2 := hK.floc 2
  have r0_2 := hK.res 2 _ rfl
  have e0_2 := hK.fres 2
  have hsz := hK.size
  go_wp2
  refine bodyPost_ret (v := .agg #[.slice (some ⟨g0, 0, none⟩) xs0.length xs0.length, .int .i64 z1, .int .i64 z2]) (by simp [results, Tryz.results7, go_sem, *]) rfl ⟨g0, rfl, own_setOther (own_setOther (own_setOther (own_setOther (own_setOther (own_setOther (ho0) (by simp; omega) _) (by simp; omega) _) (by simp; omega) _) (by simp; omega) _) (by simp; omega) _) (by simp; omega) _, by go_grown⟩

set_option maxHeartbeats 1000000 in
theorem eqChancery_self (a0 b0 : Option Addr) (cap0 cbp0 : Nat) (xs0 : List Rg) (z1 z2 : Int) (w : World) (hl0 : xs0.length ≤ 1048576) (hx0 : Rd encRg w a0 xs0) (hy0 : Rd encRg w b0 xs0) :
    Calls Tryz.prog 11 #[.agg #[.slice a0 xs0.length cap0, .int .i64 z1, .int .i64 z2], .agg #[.slice b0 xs0.length cbp0, .int .i64 z1, .int .i64 z2]] w fun e w' => e = .returned (.bool true) ∧ Below w.heap.size w w' := by
  go_enter Tryz.func11, Tryz.ntmps11
  go_wp2_with fail
  generalize hW : (w.alloc (.cells #[.slice a0 xs0.length cap0, .int .i64 z1, .int .i64 z2] 33)).alloc (.cells #[.slice b0 xs0.length cbp0, .int .i64 z1, .int .i64 z2] 33) = W0
  have hB : Below w.heap.size w W0 := by rw [← hW]; go_grown
  have hsz : w.heap.size + 1 < W0.heap.size := by rw [← hW]; simp
  have A1 : W0.cell? ⟨w.heap.size, 1, none⟩ = some (.int .i64 z1) := by rw [← hW]; simp [go_sem]
  have B1 : W0.cell? ⟨w.heap.size + 1, 1, none⟩ = some (.int .i64 z1) := by rw [← hW]; simp [go_sem]
  have A2 : W0.cell? ⟨w.heap.size, 2, none⟩ = some (.int .i64 z2) := by rw [← hW]; simp [go_sem]
  have B2 : W0.cell? ⟨w.heap.size + 1, 2, none⟩ = some (.int .i64 z2) := by rw [← hW]; simp [go_sem]
  clear hW
  refine (eqReignS_self a0 b0 cap0 cbp0 xs0 _ (by omega) (hx0.below hB) (hy0.below hB)).mono ?_
  rintro e w1 ⟨rfl, hB1⟩
  have A1 := (hB1.cell (p := ⟨w.heap.size, 1, none⟩) (by simp; omega)).trans A1
  have B1 := (hB1.cell (p := ⟨w.heap.size + 1, 1, none⟩) (by simp; omega)).trans B1
  have A2 := (hB1.cell (p := ⟨w.heap.size, 2, none⟩) (by simp; omega)).trans A2
  have B2 := (hB1.cell (p := ⟨w.heap.size + 1, 2, none⟩) (by simp; omega)).trans B2
  have hsz := Nat.lt_of_lt_of_le hsz hB1.size
  have hB := stepB hB hB1 hB.size
  go_wp2
  all_goals go_ret
  all_goals first
    | exact ⟨rfl, hB⟩
    | (exfalso; simp_all; done)
end

section
open Go.ChangeShapes Go.WideShapes Go.ChangeAt Go.RowKit

def isChanceryB (rs : List Rg) (f t : Int) : Bool := areReignsB rs && dayB f && dayB t && decide (f ≤ t) && decide (t - f ≤ 20000)

set_option maxHeartbeats 1000000 in
theorem specIsChancery_any (a : Option Addr) (cap : Nat) (xs : List Rg) (f t : Int) (w : World) (hl : xs.length ≤ 1048576) (hx : Rd encRg w a xs) (hs : ∀ m ∈ xs, m.king.size ≤ 1048576) :
    Calls Tryz.prog 33 #[.agg #[.slice a xs.length cap, .int .i64 f, .int .i64 t]] w fun e w' => e = .returned (.bool (isChanceryB xs f t)) ∧ Below w.heap.size w w' := by
  cases h0 : areReignsB xs
  · go_enter Tryz.func33, Tryz.ntmps33
    go_wp2_with fail
    refine (specAreReigns_any _ _ xs _ hl (hx.below ((Below.refl _ w).alloc (Nat.le_refl _) _)) hs).mono ?_
    rintro e w1 ⟨rfl, hB1⟩
    go_wp2
    go_ret
    exact ⟨ret_bool (by simp [isChanceryB, h0]), stepB ((Below.refl _ w).alloc (Nat.le_refl _) _) hB1 (by simp)⟩
  · have hd : dayB f = true → 0 ≤ f ∧ f ≤ 730499 := dayB_bd
    cases h1 : dayB f <;> cases h2 : dayB t
    all_goals
      try (rw [h1] at hd; have hd := hd rfl)
      go_enter Tryz.func33, Tryz.ntmps33
      go_wp2_with fail
      refine (specAreReigns_any _ _ xs _ hl (hx.below ((Below.refl _ w).alloc (Nat.le_refl _) _)) hs).mono ?_
      rintro e w1 ⟨rfl, hB1⟩
      have e1 := (hB1.cell (p := ⟨w.heap.size, 1, none⟩) (by simp)).trans (World.cell?_alloc_at _ _ _ _ rfl)
      have e2 := (hB1.cell (p := ⟨w.heap.size, 2, none⟩) (by simp)).trans (World.cell?_alloc_at _ _ _ _ rfl)
      go_wp2_with (first | (go_at_call 47; refine (l01Day_any _ _).mono ?_; rintro e w' ⟨rfl, rfl⟩) | (go_at_call 48; refine (l01In_any _ _ _ _).mono ?_; rintro e w' ⟨rfl, rfl⟩))
      all_goals go_ret
      all_goals exact ⟨ret_bool (by simp only [isChanceryB, inB, h0, h1, h2]; first | (simp; done) | (simp; omega) | (rw [Bool.eq_iff_iff]; simp; omega)), stepB ((Below.refl _ w).alloc (Nat.le_refl _) _) hB1 (by simp)⟩

set_option maxHeartbeats 1000000 in
theorem implIsChancery_any (a : Option Addr) (cap : Nat) (xs : List Rg) (f t : Int) (w : World) (hl : xs.length ≤ 1048576) (hx : Rd encRg w a xs) (hs : ∀ m ∈ xs, m.king.size ≤ 1048576) :
    Calls Tryz.prog 40 #[.agg #[.slice a xs.length cap, .int .i64 f, .int .i64 t]] w fun e w' => e = .returned (.bool (isChanceryB xs f t)) ∧ Below w.heap.size w w' := by
  cases h0 : areReignsB xs
  · go_enter Tryz.func40, Tryz.ntmps40
    go_wp2_with fail
    refine (implAreReigns_any _ _ xs _ hl (hx.below ((Below.refl _ w).alloc (Nat.le_refl _) _)) hs).mono ?_
    rintro e w1 ⟨rfl, hB1⟩
    go_wp2
    go_ret
    exact ⟨ret_bool (by simp [isChanceryB, h0]), stepB ((Below.refl _ w).alloc (Nat.le_refl _) _) hB1 (by simp)⟩
  · have hd : dayB f = true → 0 ≤ f ∧ f ≤ 730499 := dayB_bd
    have hd' : dayB t = true → 0 ≤ t ∧ t ≤ 730499 := dayB_bd
    cases h1 : dayB f <;> cases h2 : dayB t <;> by_cases h3 : f ≤ t
    all_goals
      try (rw [h1] at hd; have hd := hd rfl)
      try (rw [h2] at hd'; have hd' := hd' rfl)
      go_enter Tryz.func40, Tryz.ntmps40
      go_wp2_with fail
      refine (implAreReigns_any _ _ xs _ hl (hx.below ((Below.refl _ w).alloc (Nat.le_refl _) _)) hs).mono ?_
      rintro e w1 ⟨rfl, hB1⟩
      have e1 := (hB1.cell (p := ⟨w.heap.size, 1, none⟩) (by simp)).trans (World.cell?_alloc_at _ _ _ _ rfl)
      have e2 := (hB1.cell (p := ⟨w.heap.size, 2, none⟩) (by simp)).trans (World.cell?_alloc_at _ _ _ _ rfl)
      go_wp2_with (first | (go_at_call 57; refine (isDay_any _ _).mono ?_; rintro e w' ⟨rfl, rfl⟩))
      all_goals go_ret
      all_goals exact ⟨ret_bool (by simp only [isChanceryB, h0, h1, h2]; first | (simp; done) | (simp; omega) | (rw [Bool.eq_iff_iff]; simp; omega)), stepB ((Below.refl _ w).alloc (Nat.le_refl _) _) hB1 (by simp)⟩
end
end Go.Proofs.YtjklileooiepmaaGreatDoor
