/- Walks: IsClause. Printed by gen_clause.py. -/
import Derived.Test.YtipdcgfdejmjfaaGreatDoorTCl
import Derived.BigRegion
namespace Go.Proofs.YtipdcgfdejmjfaaGreatDoor
open Go.ChangeShapes Go.WideShapes Go.ChangeAt Go.RowKit

def lenM (m : Int) : Int := if m = 2 then 29 else if m = 4 ∨ m = 6 ∨ m = 9 ∨ m = 11 then 30 else 31
def dateB (m d : Int) : Bool := inB m 1 12 && inB d 1 (lenM m)
def relB (r wd : Int) : Bool := inB r 0 4 && inB wd 0 6 && (decide (3 ≤ r) || wd == 0)
theorem l01Leap4_any (w : World) : Calls Tryz.prog 190 #[.int .i64 4, .bool false] w fun e w' => e = .returned (.bool true) ∧ w = w' := by
  go_enter Tryz.func190, Tryz.ntmps190
  go_wp2
  go_ret
  exact ⟨rfl, rfl⟩
theorem l01Length4_any (m : Int) (w : World) : Calls Tryz.prog 167 #[.int .i64 4, .int .i64 m, .bool false] w fun e w' => e = .returned (.int .i64 (lenM m)) ∧ w = w' := by
  have hl : Hid (lenM m = if m = 2 then 29 else if m = 4 ∨ m = 6 ∨ m = 9 ∨ m = 11 then 30 else 31) := rfl
  generalize lenM m = V at hl ⊢
  go_enter Tryz.func167, Tryz.ntmps167
  go_wp2_with (go_at_call 190; refine (l01Leap4_any _).mono ?_; rintro e w' ⟨rfl, rfl⟩)
  all_goals go_ret
  all_goals exact ⟨ret_int (by rw [hl.out]; clear hl; simp_all), rfl⟩
set_option maxHeartbeats 1000000 in
theorem l01Valid4_any (m d : Int) (w : World) : Calls Tryz.prog 145 #[.agg #[.int .i64 4, .int .i64 m, .int .i64 d], .bool false] w fun e w' => e = .returned (.bool (dateB m d)) ∧ Below w.heap.size w w' := by
  have hv : Hid (dateB m d = (inB m 1 12 && inB d 1 (lenM m))) := rfl
  have hy : inB 4 1 2000 = true := by decide
  have HY := Lib.hid (fun W => hy ▸ l01In_any 4 1 2000 W)
  generalize hW : w.alloc (.cells #[.int .i64 4, .int .i64 m, .int .i64 d] 129) = W
  have hB : Below w.heap.size w W := by rw [← hW]; go_grown
  have hs : w.heap.size < W.heap.size := by rw [← hW]; simp
  have E0 := Later.cell (w := W) (by rw [← hW]; exact World.cell?_alloc_at _ _ _ _ rfl : W.cell? ⟨w.heap.size, 0, none⟩ = some (.int .i64 4)) hs
  have E1 := Later.cell (w := W) (by rw [← hW]; exact World.cell?_alloc_at _ _ _ _ rfl : W.cell? ⟨w.heap.size, 1, none⟩ = some (.int .i64 m)) hs
  have E2 := Later.cell (w := W) (by rw [← hW]; exact World.cell?_alloc_at _ _ _ _ rfl : W.cell? ⟨w.heap.size, 2, none⟩ = some (.int .i64 d)) hs
  cases h1 : inB m 1 12
  · have hR : Hid (dateB m d = false) := by unfold Hid; rw [hv.out, h1]; rfl
    go_enter Tryz.func145, Tryz.ntmps145
    go_wp2_with fail
    try rw [hW]
    refine wp_region_later W (by kernel_rfl) (by kernel_rfl) ?_
    repeat (go_big_quiet_step ((first | (go_at_call 92; first | (with_reducible exact Later.same (HY.out _)) | exact Later.same (l01In_any _ _ _ _)))))
    refine wpQuiet_nil ?_
    intro z
    have hz := z.prop
    generalize z.val = w2 at hz
    clear E0 E1 E2
    go_wp2
    go_ret
    exact ⟨ret_bool hR.out.symm, stepB hB hz hB.size⟩
  · have HM := Lib.hid (fun W => h1 ▸ l01In_any m 1 12 W)
    have hR : Hid (dateB m d = inB d 1 (lenM m)) := by unfold Hid; rw [hv.out, h1]; rfl
    go_enter Tryz.func145, Tryz.ntmps145
    go_wp2_with fail
    try rw [hW]
    refine wp_region_later W (by kernel_rfl) (by kernel_rfl) ?_
    repeat (go_big_quiet_step ((first | (go_at_call 167; exact Later.same (l01Length4_any _ _)) | (go_at_call 92; first | (with_reducible exact Later.same (HY.out _)) | exact Later.same (l01In_any _ _ _ _)))))
    refine wpQuiet_nil ?_
    intro z
    have hz := z.prop
    generalize z.val = w2 at hz
    clear E0 E1 E2
    go_wp2
    go_ret
    exact ⟨ret_bool hR.out.symm, stepB hB hz hB.size⟩
theorem specIsOldDate4_any (m d : Int) (w : World) : Calls Tryz.prog 104 #[.agg #[.int .i64 4, .int .i64 m, .int .i64 d]] w fun e w' => e = .returned (.bool (dateB m d)) ∧ Below w.heap.size w w' := by
  have hB0 : Below w.heap.size w (w.alloc (.cells #[.int .i64 4, .int .i64 m, .int .i64 d] 129)) := (Below.refl _ w).alloc (Nat.le_refl _) _
  go_enter Tryz.func104, Tryz.ntmps104
  go_wp2_with fail
  refine (l01Valid4_any _ _ _).mono ?_
  rintro e w1 ⟨rfl, hB1⟩
  go_wp2
  go_ret
  exact ⟨rfl, stepB hB0 hB1 hB0.size⟩

theorem isLeap4_any (w : World) : Calls Tryz.prog 205 #[.int .i64 4, .bool false] w fun e w' => e = .returned (.bool true) ∧ w = w' := by
  go_enter Tryz.func205, Tryz.ntmps205
  go_wp2
  go_ret
  exact ⟨rfl, rfl⟩
theorem lengthOfMonth4_any (m : Int) (w : World) : Calls Tryz.prog 191 #[.int .i64 4, .int .i64 m, .bool false] w fun e w' => e = .returned (.int .i64 (lenM m)) ∧ w = w' := by
  have hl : Hid (lenM m = if m = 2 then 29 else if m = 4 ∨ m = 6 ∨ m = 9 ∨ m = 11 then 30 else 31) := rfl
  generalize lenM m = V at hl ⊢
  go_enter Tryz.func191, Tryz.ntmps191
  go_wp2_with (go_at_call 205; refine (isLeap4_any _).mono ?_; rintro e w' ⟨rfl, rfl⟩)
  all_goals go_ret
  all_goals exact ⟨ret_int (by rw [hl.out]; clear hl; simp_all), rfl⟩
set_option maxHeartbeats 1000000 in
theorem isDate4_any (m d : Int) (w : World) : Calls Tryz.prog 168 #[.agg #[.int .i64 4, .int .i64 m, .int .i64 d], .bool false] w fun e w' => e = .returned (.bool (dateB m d)) ∧ Below w.heap.size w w' := by
  have hv : Hid (dateB m d = (inB m 1 12 && inB d 1 (lenM m))) := rfl
  have hy : inB 4 1 2000 = true := by decide
  have HY := Lib.hid (fun W => hy ▸ within_any 4 1 2000 W)
  generalize hW : w.alloc (.cells #[.int .i64 4, .int .i64 m, .int .i64 d] 129) = W
  have hB : Below w.heap.size w W := by rw [← hW]; go_grown
  have hs : w.heap.size < W.heap.size := by rw [← hW]; simp
  have E0 := Later.cell (w := W) (by rw [← hW]; exact World.cell?_alloc_at _ _ _ _ rfl : W.cell? ⟨w.heap.size, 0, none⟩ = some (.int .i64 4)) hs
  have E1 := Later.cell (w := W) (by rw [← hW]; exact World.cell?_alloc_at _ _ _ _ rfl : W.cell? ⟨w.heap.size, 1, none⟩ = some (.int .i64 m)) hs
  have E2 := Later.cell (w := W) (by rw [← hW]; exact World.cell?_alloc_at _ _ _ _ rfl : W.cell? ⟨w.heap.size, 2, none⟩ = some (.int .i64 d)) hs
  cases h1 : inB m 1 12
  · have hR : Hid (dateB m d = false) := by unfold Hid; rw [hv.out, h1]; rfl
    go_enter Tryz.func168, Tryz.ntmps168
    go_wp2_with fail
    try rw [hW]
    refine wp_region_later W (by kernel_rfl) (by kernel_rfl) ?_
    repeat (go_big_quiet_step ((first | (go_at_call 50; first | (with_reducible exact Later.same (HY.out _)) | exact Later.same (within_any _ _ _ _)))))
    refine wpQuiet_nil ?_
    intro z
    have hz := z.prop
    generalize z.val = w2 at hz
    clear E0 E1 E2
    go_wp2
    go_ret
    exact ⟨ret_bool hR.out.symm, stepB hB hz hB.size⟩
  · have HM := Lib.hid (fun W => h1 ▸ within_any m 1 12 W)
    have hR : Hid (dateB m d = inB d 1 (lenM m)) := by unfold Hid; rw [hv.out, h1]; rfl
    go_enter Tryz.func168, Tryz.ntmps168
    go_wp2_with fail
    try rw [hW]
    refine wp_region_later W (by kernel_rfl) (by kernel_rfl) ?_
    repeat (go_big_quiet_step ((first | (go_at_call 191; exact Later.same (lengthOfMonth4_any _ _)) | (go_at_call 50; first | (with_reducible exact Later.same (HY.out _)) | exact Later.same (within_any _ _ _ _)))))
    refine wpQuiet_nil ?_
    intro z
    have hz := z.prop
    generalize z.val = w2 at hz
    clear E0 E1 E2
    go_wp2
    go_ret
    exact ⟨ret_bool hR.out.symm, stepB hB hz hB.size⟩
theorem implIsOldDate4_any (m d : Int) (w : World) : Calls Tryz.prog 146 #[.agg #[.int .i64 4, .int .i64 m, .int .i64 d]] w fun e w' => e = .returned (.bool (dateB m d)) ∧ Below w.heap.size w w' := by
  have hB0 : Below w.heap.size w (w.alloc (.cells #[.int .i64 4, .int .i64 m, .int .i64 d] 129)) := (Below.refl _ w).alloc (Nat.le_refl _) _
  go_enter Tryz.func146, Tryz.ntmps146
  go_wp2_with fail
  refine (isDate4_any _ _ _).mono ?_
  rintro e w1 ⟨rfl, hB1⟩
  go_wp2
  go_ret
  exact ⟨rfl, stepB hB0 hB1 hB0.size⟩

theorem l05Feast_any (x : Int) (w : World) : Calls Tryz.prog 105 #[.int .i64 x] w fun e w' => e = .returned (.bool (inB x 0 19)) ∧ w = w' := by
  go_enter Tryz.func105, Tryz.ntmps105
  go_wp2_with (go_at_call 92; refine (l01In_any _ _ _ _).mono ?_; rintro e w' ⟨rfl, rfl⟩)
  all_goals go_ret
  all_goals exact ⟨ret_bool (by simp [*]), rfl⟩
theorem l06Year_any (x : Int) (w : World) : Calls Tryz.prog 108 #[.int .i64 x] w fun e w' => e = .returned (.bool (inB x 2 1999)) ∧ w = w' := by
  go_enter Tryz.func108, Tryz.ntmps108
  go_wp2_with (go_at_call 92; refine (l01In_any _ _ _ _).mono ?_; rintro e w' ⟨rfl, rfl⟩)
  all_goals go_ret
  all_goals exact ⟨ret_bool (by simp [*]), rfl⟩
theorem l06Style_any (x : Int) (w : World) : Calls Tryz.prog 109 #[.int .i64 x] w fun e w' => e = .returned (.bool (inB x 0 6)) ∧ w = w' := by
  go_enter Tryz.func109, Tryz.ntmps109
  go_wp2_with (go_at_call 92; refine (l01In_any _ _ _ _).mono ?_; rintro e w' ⟨rfl, rfl⟩)
  all_goals go_ret
  all_goals exact ⟨ret_bool (by simp [*]), rfl⟩
theorem l08Kind_any (x : Int) (w : World) : Calls Tryz.prog 110 #[.int .i64 x] w fun e w' => e = .returned (.bool (inB x 0 2)) ∧ w = w' := by
  go_enter Tryz.func110, Tryz.ntmps110
  go_wp2_with (go_at_call 92; refine (l01In_any _ _ _ _).mono ?_; rintro e w' ⟨rfl, rfl⟩)
  all_goals go_ret
  all_goals exact ⟨ret_bool (by simp [*]), rfl⟩
theorem isFeast_any (x : Int) (w : World) : Calls Tryz.prog 147 #[.int .i64 x] w fun e w' => e = .returned (.bool (inB x 0 19)) ∧ w = w' := by
  go_enter Tryz.func147, Tryz.ntmps147
  go_wp2_with (go_at_call 50; refine (within_any _ _ _ _).mono ?_; rintro e w' ⟨rfl, rfl⟩)
  all_goals go_ret
  all_goals exact ⟨ret_bool (by simp [*]), rfl⟩
theorem isStyleYear_any (x : Int) (w : World) : Calls Tryz.prog 119 #[.int .i64 x] w fun e w' => e = .returned (.bool (inB x 2 1999)) ∧ w = w' := by
  go_enter Tryz.func119, Tryz.ntmps119
  go_wp2_with (go_at_call 50; refine (within_any _ _ _ _).mono ?_; rintro e w' ⟨rfl, rfl⟩)
  all_goals go_ret
  all_goals exact ⟨ret_bool (by simp [*]), rfl⟩
theorem isStyle_any (x : Int) (w : World) : Calls Tryz.prog 120 #[.int .i64 x] w fun e w' => e = .returned (.bool (inB x 0 6)) ∧ w = w' := by
  go_enter Tryz.func120, Tryz.ntmps120
  go_wp2_with (go_at_call 50; refine (within_any _ _ _ _).mono ?_; rintro e w' ⟨rfl, rfl⟩)
  all_goals go_ret
  all_goals exact ⟨ret_bool (by simp [*]), rfl⟩
theorem isKind_any (x : Int) (w : World) : Calls Tryz.prog 121 #[.int .i64 x] w fun e w' => e = .returned (.bool (inB x 0 2)) ∧ w = w' := by
  go_enter Tryz.func121, Tryz.ntmps121
  go_wp2_with (go_at_call 50; refine (within_any _ _ _ _).mono ?_; rintro e w' ⟨rfl, rfl⟩)
  all_goals go_ret
  all_goals exact ⟨ret_bool (by simp [*]), rfl⟩
theorem l05Relation_any (r wd : Int) (w : World) : Calls Tryz.prog 106 #[.int .i64 r, .int .i64 wd] w fun e w' => e = .returned (.bool (relB r wd)) ∧ w = w' := by
  have hv : Hid (relB r wd = (inB r 0 4 && inB wd 0 6 && (decide (3 ≤ r) || wd == 0))) := rfl
  generalize relB r wd = V at hv ⊢
  go_enter Tryz.func106, Tryz.ntmps106
  go_wp2_with (go_at_call 92; refine (l01In_any _ _ _ _).mono ?_; rintro e w' ⟨rfl, rfl⟩)
  all_goals go_ret
  all_goals exact ⟨ret_bool (by rw [hv.out]; clear hv; simp_all), rfl⟩
theorem isRelation_any (f r wd : Int) (w : World) : Calls Tryz.prog 118 #[.int .i64 f, .int .i64 r, .int .i64 wd] w fun e w' => e = .returned (.bool (inB f 0 19 && relB r wd)) ∧ w = w' := by
  have hv : Hid (relB r wd = (inB r 0 4 && inB wd 0 6 && (decide (3 ≤ r) || wd == 0))) := rfl
  generalize relB r wd = V at hv ⊢
  go_enter Tryz.func118, Tryz.ntmps118
  go_wp2_with (first | (go_at_call 147; refine (isFeast_any _ _).mono ?_; rintro e w' ⟨rfl, rfl⟩) | (go_at_call 50; refine (within_any _ _ _ _).mono ?_; rintro e w' ⟨rfl, rfl⟩))
  all_goals go_ret
  all_goals exact ⟨ret_bool (by rw [hv.out]; clear hv; simp_all), rfl⟩
theorem isMonthDay_any (m d : Int) (w : World) : Calls Tryz.prog 117 #[.int .i64 m, .int .i64 d] w fun e w' => e = .returned (.bool (dateB m d)) ∧ Below w.heap.size w w' := by
  go_enter Tryz.func117, Tryz.ntmps117
  go_wp2_with fail
  refine (implIsOldDate4_any _ _ _).mono ?_
  rintro e w1 ⟨rfl, hB1⟩
  go_wp2
  go_ret
  exact ⟨rfl, hB1⟩
end Go.Proofs.YtipdcgfdejmjfaaGreatDoor
