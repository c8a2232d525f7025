/- Walks: IsClause. Printed by gen_clause.py. -/
import Derived.Test.YteajkofgcmfaoaaGreatDoorTCl
import Derived.BigRegion
namespace Go.Proofs.YteajkofgcmfaoaaGreatDoor
open Go.ChangeShapes Go.WideShapes Go.ChangeAt Go.RowKit

def lenM (m : Int) : Int := if m = 2 then 29 else if m = 4 ∨ m = 6 ∨ m = 9 ∨ m = 11 then 30 else 31
def dateB (m d : Int) : Bool := inB m 1 12 && inB d 1 (lenM m)
def relB (r wd : Int) : Bool := inB r 0 4 && inB wd 0 6 && (decide (3 ≤ r) || wd == 0)
theorem l01Leap4_any (w : World) : Calls Tryz.prog 211 #[.int .i64 4, .bool false] w fun e w' => e = .returned (.bool true) ∧ w = w' := by
  go_enter Tryz.func211, Tryz.ntmps211
  go_wp2
  go_ret
  exact ⟨rfl, rfl⟩
theorem l01Length4_any (m : Int) (w : World) : Calls Tryz.prog 203 #[.int .i64 4, .int .i64 m, .bool false] w fun e w' => e = .returned (.int .i64 (lenM m)) ∧ w = w' := by
  have hl : Hid (lenM m = if m = 2 then 29 else if m = 4 ∨ m = 6 ∨ m = 9 ∨ m = 11 then 30 else 31) := rfl
  generalize lenM m = V at hl ⊢
  go_enter Tryz.func203, Tryz.ntmps203
  go_wp2_with (go_at_call 211; refine (l01Leap4_any _).mono ?_; rintro e w' ⟨rfl, rfl⟩)
  all_goals go_ret
  all_goals exact ⟨ret_int (by rw [hl.out]; clear hl; simp_all), rfl⟩
set_option maxHeartbeats 1000000 in
theorem l01Valid4_any (m d : Int) (w : World) : Calls Tryz.prog 153 #[.agg #[.int .i64 4, .int .i64 m, .int .i64 d], .bool false] w fun e w' => e = .returned (.bool (dateB m d)) ∧ Below w.heap.size w w' := by
  have hv : Hid (dateB m d = (inB m 1 12 && inB d 1 (lenM m))) := rfl
  have hy : inB 4 1 2000 = true := by decide
  have HY := Lib.hid (fun W => hy ▸ l01In_any 4 1 2000 W)
  generalize hW : w.alloc (.cells #[.int .i64 4, .int .i64 m, .int .i64 d] 104) = W
  have hB : Below w.heap.size w W := by rw [← hW]; go_grown
  have hs : w.heap.size < W.heap.size := by rw [← hW]; simp
  have E0 := Later.cell (w := W) (by rw [← hW]; exact World.cell?_alloc_at _ _ _ _ rfl : W.cell? ⟨w.heap.size, 0, none⟩ = some (.int .i64 4)) hs
  have E1 := Later.cell (w := W) (by rw [← hW]; exact World.cell?_alloc_at _ _ _ _ rfl : W.cell? ⟨w.heap.size, 1, none⟩ = some (.int .i64 m)) hs
  have E2 := Later.cell (w := W) (by rw [← hW]; exact World.cell?_alloc_at _ _ _ _ rfl : W.cell? ⟨w.heap.size, 2, none⟩ = some (.int .i64 d)) hs
  cases h1 : inB m 1 12
  · have hR : Hid (dateB m d = false) := by unfold Hid; rw [hv.out, h1]; rfl
    go_enter Tryz.func153, Tryz.ntmps153
    go_wp2_with fail
    try rw [hW]
    refine wp_region_later W (by kernel_rfl) (by kernel_rfl) ?_
    repeat (go_big_quiet_step ((first | (go_at_call 55; first | (with_reducible exact Later.same (HY.out _)) | exact Later.same (l01In_any _ _ _ _)))))
    refine wpQuiet_nil ?_
    intro z
    have hz := z.prop
    generalize z.val = w2 at hz
    clear E0 E1 E2
    go_wp2
    go_ret
    exact ⟨ret_bool hR.out.symm, stepB hB hz hB.size⟩
  · have HM := Lib.hid (fun W => h1 ▸ l01In_any m 1 12 W)
    have hR : Hid (dateB m d = inB d 1 (lenM m)) := by unfold Hid; rw [hv.out, h1]; rfl
    go_enter Tryz.func153, Tryz.ntmps153
    go_wp2_with fail
    try rw [hW]
    refine wp_region_later W (by kernel_rfl) (by kernel_rfl) ?_
    repeat (go_big_quiet_step ((first | (go_at_call 203; exact Later.same (l01Length4_any _ _)) | (go_at_call 55; first | (with_reducible exact Later.same (HY.out _)) | exact Later.same (l01In_any _ _ _ _)))))
    refine wpQuiet_nil ?_
    intro z
    have hz := z.prop
    generalize z.val = w2 at hz
    clear E0 E1 E2
    go_wp2
    go_ret
    exact ⟨ret_bool hR.out.symm, stepB hB hz hB.size⟩
theorem specIsOldDate4_any (m d : Int) (w : World) : Calls Tryz.prog 99 #[.agg #[.int .i64 4, .int .i64 m, .int .i64 d]] w fun e w' => e = .returned (.bool (dateB m d)) ∧ Below w.heap.size w w' := by
  have hB0 : Below w.heap.size w (w.alloc (.cells #[.int .i64 4, .int .i64 m, .int .i64 d] 104)) := (Below.refl _ w).alloc (Nat.le_refl _) _
  go_enter Tryz.func99, Tryz.ntmps99
  go_wp2_with fail
  refine (l01Valid4_any _ _ _).mono ?_
  rintro e w1 ⟨rfl, hB1⟩
  go_wp2
  go_ret
  exact ⟨rfl, stepB hB0 hB1 hB0.size⟩

theorem isLeap4_any (w : World) : Calls Tryz.prog 238 #[.int .i64 4, .bool false] w fun e w' => e = .returned (.bool true) ∧ w = w' := by
  go_enter Tryz.func238, Tryz.ntmps238
  go_wp2
  go_ret
  exact ⟨rfl, rfl⟩
theorem lengthOfMonth4_any (m : Int) (w : World) : Calls Tryz.prog 206 #[.int .i64 4, .int .i64 m, .bool false] w fun e w' => e = .returned (.int .i64 (lenM m)) ∧ w = w' := by
  have hl : Hid (lenM m = if m = 2 then 29 else if m = 4 ∨ m = 6 ∨ m = 9 ∨ m = 11 then 30 else 31) := rfl
  generalize lenM m = V at hl ⊢
  go_enter Tryz.func206, Tryz.ntmps206
  go_wp2_with (go_at_call 238; refine (isLeap4_any _).mono ?_; rintro e w' ⟨rfl, rfl⟩)
  all_goals go_ret
  all_goals exact ⟨ret_int (by rw [hl.out]; clear hl; simp_all), rfl⟩
set_option maxHeartbeats 1000000 in
theorem isDate4_any (m d : Int) (w : World) : Calls Tryz.prog 160 #[.agg #[.int .i64 4, .int .i64 m, .int .i64 d], .bool false] w fun e w' => e = .returned (.bool (dateB m d)) ∧ Below w.heap.size w w' := by
  have hv : Hid (dateB m d = (inB m 1 12 && inB d 1 (lenM m))) := rfl
  have hy : inB 4 1 2000 = true := by decide
  have HY := Lib.hid (fun W => hy ▸ within_any 4 1 2000 W)
  generalize hW : w.alloc (.cells #[.int .i64 4, .int .i64 m, .int .i64 d] 104) = W
  have hB : Below w.heap.size w W := by rw [← hW]; go_grown
  have hs : w.heap.size < W.heap.size := by rw [← hW]; simp
  have E0 := Later.cell (w := W) (by rw [← hW]; exact World.cell?_alloc_at _ _ _ _ rfl : W.cell? ⟨w.heap.size, 0, none⟩ = some (.int .i64 4)) hs
  have E1 := Later.cell (w := W) (by rw [← hW]; exact World.cell?_alloc_at _ _ _ _ rfl : W.cell? ⟨w.heap.size, 1, none⟩ = some (.int .i64 m)) hs
  have E2 := Later.cell (w := W) (by rw [← hW]; exact World.cell?_alloc_at _ _ _ _ rfl : W.cell? ⟨w.heap.size, 2, none⟩ = some (.int .i64 d)) hs
  cases h1 : inB m 1 12
  · have hR : Hid (dateB m d = false) := by unfold Hid; rw [hv.out, h1]; rfl
    go_enter Tryz.func160, Tryz.ntmps160
    go_wp2_with fail
    try rw [hW]
    refine wp_region_later W (by kernel_rfl) (by kernel_rfl) ?_
    repeat (go_big_quiet_step ((first | (go_at_call 53; first | (with_reducible exact Later.same (HY.out _)) | exact Later.same (within_any _ _ _ _)))))
    refine wpQuiet_nil ?_
    intro z
    have hz := z.prop
    generalize z.val = w2 at hz
    clear E0 E1 E2
    go_wp2
    go_ret
    exact ⟨ret_bool hR.out.symm, stepB hB hz hB.size⟩
  · have HM := Lib.hid (fun W => h1 ▸ within_any m 1 12 W)
    have hR : Hid (dateB m d = inB d 1 (lenM m)) := by unfold Hid; rw [hv.out, h1]; rfl
    go_enter Tryz.func160, Tryz.ntmps160
    go_wp2_with fail
    try rw [hW]
    refine wp_region_later W (by kernel_rfl) (by kernel_rfl) ?_
    repeat (go_big_quiet_step ((first | (go_at_call 206; exact Later.same (lengthOfMonth4_any _ _)) | (go_at_call 53; first | (with_reducible exact Later.same (HY.out _)) | exact Later.same (within_any _ _ _ _)))))
    refine wpQuiet_nil ?_
    intro z
    have hz := z.prop
    generalize z.val = w2 at hz
    clear E0 E1 E2
    go_wp2
    go_ret
    exact ⟨ret_bool hR.out.symm, stepB hB hz hB.size⟩
theorem implIsOldDate4_any (m d : Int) (w : World) : Calls Tryz.prog 117 #[.agg #[.int .i64 4, .int .i64 m, .int .i64 d]] w fun e w' => e = .returned (.bool (dateB m d)) ∧ Below w.heap.size w w' := by
  have hB0 : Below w.heap.size w (w.alloc (.cells #[.int .i64 4, .int .i64 m, .int .i64 d] 104)) := (Below.refl _ w).alloc (Nat.le_refl _) _
  go_enter Tryz.func117, Tryz.ntmps117
  go_wp2_with fail
  refine (isDate4_any _ _ _).mono ?_
  rintro e w1 ⟨rfl, hB1⟩
  go_wp2
  go_ret
  exact ⟨rfl, stepB hB0 hB1 hB0.size⟩

theorem l05Feast_any (x : Int) (w : World) : Calls Tryz.prog 100 #[.int .i64 x] w fun e w' => e = .returned (.bool (inB x 0 19)) ∧ w = w' := by
  go_enter Tryz.func100, Tryz.ntmps100
  go_wp2_with (go_at_call 55; refine (l01In_any _ _ _ _).mono ?_; rintro e w' ⟨rfl, rfl⟩)
  all_goals go_ret
  all_goals exact ⟨ret_bool (by simp [*]), rfl⟩
theorem l06Year_any (x : Int) (w : World) : Calls Tryz.prog 103 #[.int .i64 x] w fun e w' => e = .returned (.bool (inB x 2 1999)) ∧ w = w' := by
  go_enter Tryz.func103, Tryz.ntmps103
  go_wp2_with (go_at_call 55; refine (l01In_any _ _ _ _).mono ?_; rintro e w' ⟨rfl, rfl⟩)
  all_goals go_ret
  all_goals exact ⟨ret_bool (by simp [*]), rfl⟩
theorem l06Style_any (x : Int) (w : World) : Calls Tryz.prog 104 #[.int .i64 x] w fun e w' => e = .returned (.bool (inB x 0 6)) ∧ w = w' := by
  go_enter Tryz.func104, Tryz.ntmps104
  go_wp2_with (go_at_call 55; refine (l01In_any _ _ _ _).mono ?_; rintro e w' ⟨rfl, rfl⟩)
  all_goals go_ret
  all_goals exact ⟨ret_bool (by simp [*]), rfl⟩
theorem l08Kind_any (x : Int) (w : World) : Calls Tryz.prog 105 #[.int .i64 x] w fun e w' => e = .returned (.bool (inB x 0 2)) ∧ w = w' := by
  go_enter Tryz.func105, Tryz.ntmps105
  go_wp2_with (go_at_call 55; refine (l01In_any _ _ _ _).mono ?_; rintro e w' ⟨rfl, rfl⟩)
  all_goals go_ret
  all_goals exact ⟨ret_bool (by simp [*]), rfl⟩
theorem isFeast_any (x : Int) (w : World) : Calls Tryz.prog 118 #[.int .i64 x] w fun e w' => e = .returned (.bool (inB x 0 19)) ∧ w = w' := by
  go_enter Tryz.func118, Tryz.ntmps118
  go_wp2_with (go_at_call 53; refine (within_any _ _ _ _).mono ?_; rintro e w' ⟨rfl, rfl⟩)
  all_goals go_ret
  all_goals exact ⟨ret_bool (by simp [*]), rfl⟩
theorem isStyleYear_any (x : Int) (w : World) : Calls Tryz.prog 62 #[.int .i64 x] w fun e w' => e = .returned (.bool (inB x 2 1999)) ∧ w = w' := by
  go_enter Tryz.func62, Tryz.ntmps62
  go_wp2_with (go_at_call 53; refine (within_any _ _ _ _).mono ?_; rintro e w' ⟨rfl, rfl⟩)
  all_goals go_ret
  all_goals exact ⟨ret_bool (by simp [*]), rfl⟩
theorem isStyle_any (x : Int) (w : World) : Calls Tryz.prog 63 #[.int .i64 x] w fun e w' => e = .returned (.bool (inB x 0 6)) ∧ w = w' := by
  go_enter Tryz.func63, Tryz.ntmps63
  go_wp2_with (go_at_call 53; refine (within_any _ _ _ _).mono ?_; rintro e w' ⟨rfl, rfl⟩)
  all_goals go_ret
  all_goals exact ⟨ret_bool (by simp [*]), rfl⟩
theorem isKind_any (x : Int) (w : World) : Calls Tryz.prog 64 #[.int .i64 x] w fun e w' => e = .returned (.bool (inB x 0 2)) ∧ w = w' := by
  go_enter Tryz.func64, Tryz.ntmps64
  go_wp2_with (go_at_call 53; refine (within_any _ _ _ _).mono ?_; rintro e w' ⟨rfl, rfl⟩)
  all_goals go_ret
  all_goals exact ⟨ret_bool (by simp [*]), rfl⟩
theorem l05Relation_any (r wd : Int) (w : World) : Calls Tryz.prog 101 #[.int .i64 r, .int .i64 wd] w fun e w' => e = .returned (.bool (relB r wd)) ∧ w = w' := by
  have hv : Hid (relB r wd = (inB r 0 4 && inB wd 0 6 && (decide (3 ≤ r) || wd == 0))) := rfl
  generalize relB r wd = V at hv ⊢
  go_enter Tryz.func101, Tryz.ntmps101
  go_wp2_with (go_at_call 55; refine (l01In_any _ _ _ _).mono ?_; rintro e w' ⟨rfl, rfl⟩)
  all_goals go_ret
  all_goals exact ⟨ret_bool (by rw [hv.out]; clear hv; simp_all), rfl⟩
theorem isRelation_any (f r wd : Int) (w : World) : Calls Tryz.prog 60 #[.int .i64 f, .int .i64 r, .int .i64 wd] w fun e w' => e = .returned (.bool (inB f 0 19 && relB r wd)) ∧ w = w' := by
  have hv : Hid (relB r wd = (inB r 0 4 && inB wd 0 6 && (decide (3 ≤ r) || wd == 0))) := rfl
  generalize relB r wd = V at hv ⊢
  go_enter Tryz.func60, Tryz.ntmps60
  go_wp2_with (first | (go_at_call 118; refine (isFeast_any _ _).mono ?_; rintro e w' ⟨rfl, rfl⟩) | (go_at_call 53; refine (within_any _ _ _ _).mono ?_; rintro e w' ⟨rfl, rfl⟩))
  all_goals go_ret
  all_goals exact ⟨ret_bool (by rw [hv.out]; clear hv; simp_all), rfl⟩
theorem isMonthDay_any (m d : Int) (w : World) : Calls Tryz.prog 59 #[.int .i64 m, .int .i64 d] w fun e w' => e = .returned (.bool (dateB m d)) ∧ Below w.heap.size w w' := by
  go_enter Tryz.func59, Tryz.ntmps59
  go_wp2_with fail
  refine (implIsOldDate4_any _ _ _).mono ?_
  rintro e w1 ⟨rfl, hB1⟩
  go_wp2
  go_ret
  exact ⟨rfl, hB1⟩
end Go.Proofs.YteajkofgcmfaoaaGreatDoor
