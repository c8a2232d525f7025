/- Walks: IsChancery, the reference's and the program's. -/
import Derived.Test.YteajkofgcmfaoaaGreatDoorDr1
import Derived.Test.YteajkofgcmfaoaaGreatDoorQL
namespace Go.Proofs.YteajkofgcmfaoaaGreatDoor
section
open Go.ChangeShapes Go.WideShapes Go.ChangeAt Go.RowKit

def isChanceryB (rs : List Rg) (f t : Int) : Bool := areReignsB rs && dayB f && dayB t && decide (f ≤ t) && decide (t - f ≤ 20000)

set_option maxHeartbeats 1000000 in
theorem specIsChancery_any (a : Option Addr) (cap : Nat) (xs : List Rg) (f t : Int) (w : World) (hl : xs.length ≤ 1048576) (hx : Rd encRg w a xs) (hs : ∀ m ∈ xs, m.king.size ≤ 1048576) :
    Calls Tryz.prog 66 #[.agg #[.slice a xs.length cap, .int .i64 f, .int .i64 t]] w fun e w' => e = .returned (.bool (isChanceryB xs f t)) ∧ Below w.heap.size w w' := by
  cases h0 : areReignsB xs
  · go_enter Tryz.func66, Tryz.ntmps66
    go_wp2_with fail
    refine (specAreReigns_any _ _ xs _ hl (hx.below ((Below.refl _ w).alloc (Nat.le_refl _) _)) hs).mono ?_
    rintro e w1 ⟨rfl, hB1⟩
    go_wp2
    go_ret
    exact ⟨ret_bool (by simp [isChanceryB, h0]), stepB ((Below.refl _ w).alloc (Nat.le_refl _) _) hB1 (by simp)⟩
  · have hd : dayB f = true → 0 ≤ f ∧ f ≤ 730499 := dayB_bd
    cases h1 : dayB f <;> cases h2 : dayB t
    all_goals
      try (rw [h1] at hd; have hd := hd rfl)
      go_enter Tryz.func66, Tryz.ntmps66
      go_wp2_with fail
      refine (specAreReigns_any _ _ xs _ hl (hx.below ((Below.refl _ w).alloc (Nat.le_refl _) _)) hs).mono ?_
      rintro e w1 ⟨rfl, hB1⟩
      have e1 := (hB1.cell (p := ⟨w.heap.size, 1, none⟩) (by simp)).trans (World.cell?_alloc_at _ _ _ _ rfl)
      have e2 := (hB1.cell (p := ⟨w.heap.size, 2, none⟩) (by simp)).trans (World.cell?_alloc_at _ _ _ _ rfl)
      go_wp2_with (first | (go_at_call 121; refine (l01Day_any _ _).mono ?_; rintro e w' ⟨rfl, rfl⟩) | (go_at_call 55; refine (l01In_any _ _ _ _).mono ?_; rintro e w' ⟨rfl, rfl⟩))
      all_goals go_ret
      all_goals exact ⟨ret_bool (by simp only [isChanceryB, inB, h0, h1, h2]; first | (simp; done) | (simp; omega) | (rw [Bool.eq_iff_iff]; simp; omega)), stepB ((Below.refl _ w).alloc (Nat.le_refl _) _) hB1 (by simp)⟩

set_option maxHeartbeats 1000000 in
theorem implIsChancery_any (a : Option Addr) (cap : Nat) (xs : List Rg) (f t : Int) (w : World) (hl : xs.length ≤ 1048576) (hx : Rd encRg w a xs) (hs : ∀ m ∈ xs, m.king.size ≤ 1048576) :
    Calls Tryz.prog 129 #[.agg #[.slice a xs.length cap, .int .i64 f, .int .i64 t]] w fun e w' => e = .returned (.bool (isChanceryB xs f t)) ∧ Below w.heap.size w w' := by
  cases h0 : areReignsB xs
  · go_enter Tryz.func129, Tryz.ntmps129
    go_wp2_with fail
    refine (implAreReigns_any _ _ xs _ hl (hx.below ((Below.refl _ w).alloc (Nat.le_refl _) _)) hs).mono ?_
    rintro e w1 ⟨rfl, hB1⟩
    go_wp2
    go_ret
    exact ⟨ret_bool (by simp [isChanceryB, h0]), stepB ((Below.refl _ w).alloc (Nat.le_refl _) _) hB1 (by simp)⟩
  · have hd : dayB f = true → 0 ≤ f ∧ f ≤ 730499 := dayB_bd
    have hd' : dayB t = true → 0 ≤ t ∧ t ≤ 730499 := dayB_bd
    cases h1 : dayB f <;> cases h2 : dayB t <;> by_cases h3 : f ≤ t
    all_goals
      try (rw [h1] at hd; have hd := hd rfl)
      try (rw [h2] at hd'; have hd' := hd' rfl)
      go_enter Tryz.func129, Tryz.ntmps129
      go_wp2_with fail
      refine (implAreReigns_any _ _ xs _ hl (hx.below ((Below.refl _ w).alloc (Nat.le_refl _) _)) hs).mono ?_
      rintro e w1 ⟨rfl, hB1⟩
      have e1 := (hB1.cell (p := ⟨w.heap.size, 1, none⟩) (by simp)).trans (World.cell?_alloc_at _ _ _ _ rfl)
      have e2 := (hB1.cell (p := ⟨w.heap.size, 2, none⟩) (by simp)).trans (World.cell?_alloc_at _ _ _ _ rfl)
      go_wp2_with (first | (go_at_call 175; refine (isDay_any _ _).mono ?_; rintro e w' ⟨rfl, rfl⟩))
      all_goals go_ret
      all_goals exact ⟨ret_bool (by simp only [isChanceryB, h0, h1, h2]; first | (simp; done) | (simp; omega) | (rw [Bool.eq_iff_iff]; simp; omega)), stepB ((Below.refl _ w).alloc (Nat.le_refl _) _) hB1 (by simp)⟩
end
end Go.Proofs.YteajkofgcmfaoaaGreatDoor
