/- Walk: IsClause of the program. Printed by gen_clause2.py. -/
import Derived.BigRegion
import Derived.Test.YteajkofgcmfaoaaGreatDoorTt
namespace Go.Proofs.YteajkofgcmfaoaaGreatDoor
section
open Go.ChangeShapes Go.WideShapes Go.ChangeAt Go.RowKit

def lenM (m : Int) : Int := if m = 2 then 29 else if m = 4 ∨ m = 6 ∨ m = 9 ∨ m = 11 then 30 else 31
def dateB (m d : Int) : Bool := inB m 1 12 && inB d 1 (lenM m)
def relB (r wd : Int) : Bool := inB r 0 4 && inB wd 0 6 && (decide (3 ≤ r) || wd == 0)
theorem l01Leap4_any (w : World) : Calls Tryz.prog 211 #[.int .i64 4, .bool false] w fun e w' => e = .returned (.bool true) ∧ w = w' := by
  go_enter Tryz.func211, Tryz.ntmps211
  go_wp2
  go_ret
  exact ⟨rfl, rfl⟩
theorem l01Length4_any (m : Int) (w : World) : Calls Tryz.prog 203 #[.int .i64 4, .int .i64 m, .bool false] w fun e w' => e = .returned (.int .i64 (lenM m)) ∧ w = w' := by
  have hl : Hid (lenM m = if m = 2 then 29 else if m = 4 ∨ m = 6 ∨ m = 9 ∨ m = 11 then 30 else 31) := rfl
  generalize lenM m = V at hl ⊢
  go_enter Tryz.func203, Tryz.ntmps203
  go_wp2_with (go_at_call 211; refine (l01Leap4_any _).mono ?_; rintro e w' ⟨rfl, rfl⟩)
  all_goals go_ret
  all_goals exact ⟨ret_int (by rw [hl.out]; clear hl; simp_all), rfl⟩
set_option maxHeartbeats 1000000 in
theorem l01Valid4_any (m d : Int) (w : World) : Calls Tryz.prog 153 #[.agg #[.int .i64 4, .int .i64 m, .int .i64 d], .bool false] w fun e w' => e = .returned (.bool (dateB m d)) ∧ Below w.heap.size w w' := by
  have hv : Hid (dateB m d = (inB m 1 12 && inB d 1 (lenM m))) := rfl
  have hy : inB 4 1 2000 = true := by decide
  have HY := Lib.hid (fun W => hy ▸ l01In_any 4 1 2000 W)
  generalize hW : w.alloc (.cells #[.int .i64 4, .int .i64 m, .int .i64 d] 104) = W
  have hB : Below w.heap.size w W := by rw [← hW]; go_grown
  have hs : w.heap.size < W.heap.size := by rw [← hW]; simp
  have E0 := Later.cell (w := W) (by rw [← hW]; exact World.cell?_alloc_at _ _ _ _ rfl : W.cell? ⟨w.heap.size, 0, none⟩ = some (.int .i64 4)) hs
  have E1 := Later.cell (w := W) (by rw [← hW]; exact World.cell?_alloc_at _ _ _ _ rfl : W.cell? ⟨w.heap.size, 1, none⟩ = some (.int .i64 m)) hs
  have E2 := Later.cell (w := W) (by rw [← hW]; exact World.cell?_alloc_at _ _ _ _ rfl : W.cell? ⟨w.heap.size, 2, none⟩ = some (.int .i64 d)) hs
  cases h1 : inB m 1 12
  · have hR : Hid (dateB m d = false) := by unfold Hid; rw [hv.out, h1]; rfl
    go_enter Tryz.func153, Tryz.ntmps153
    go_wp2_with fail
    try rw [hW]
    refine wp_region_later W (by kernel_rfl) (by kernel_rfl) ?_
    repeat (go_big_quiet_step ((first | (go_at_call 55; first | (with_reducible exact Later.same (HY.out _)) | exact Later.same (l01In_any _ _ _ _)))))
    refine wpQuiet_nil ?_
    intro z
    have hz := z.prop
    generalize z.val = w2 at hz
    clear E0 E1 E2
    go_wp2
    go_ret
    exact ⟨ret_bool hR.out.symm, stepB hB hz hB.size⟩
  · have HM := Lib.hid (fun W => h1 ▸ l01In_any m 1 12 W)
    have hR : Hid (dateB m d = inB d 1 (lenM m)) := by unfold Hid; rw [hv.out, h1]; rfl
    go_enter Tryz.func153, Tryz.ntmps153
    go_wp2_with fail
    try rw [hW]
    refine wp_region_later W (by kernel_rfl) (by kernel_rfl) ?_
    repeat (go_big_quiet_step ((first | (go_at_call 203; exact Later.same (l01Length4_any _ _)) | (go_at_call 55; first | (with_reducible exact Later.same (HY.out _)) | exact Later.same (l01In_any _ _ _ _)))))
    refine wpQuiet_nil ?_
    intro z
    have hz := z.prop
    generalize z.val = w2 at hz
    clear E0 E1 E2
    go_wp2
    go_ret
    exact ⟨ret_bool hR.out.symm, stepB hB hz hB.size⟩
theorem specIsOldDate4_any (m d : Int) (w : World) : Calls Tryz.prog 99 #[.agg #[.int .i64 4, .int .i64 m, .int .i64 d]] w fun e w' => e = .returned (.bool (dateB m d)) ∧ Below w.heap.size w w' := by
  have hB0 : Below w.heap.size w (w.alloc (.cells #[.int .i64 4, .int .i64 m, .int .i64 d] 104)) := (Below.refl _ w).alloc (Nat.le_refl _) _
  go_enter Tryz.func99, Tryz.ntmps99
  go_wp2_with fail
  refine (l01Valid4_any _ _ _).mono ?_
  rintro e w1 ⟨rfl, hB1⟩
  go_wp2
  go_ret
  exact ⟨rfl, stepB hB0 hB1 hB0.size⟩

theorem isLeap4_any (w : World) : Calls Tryz.prog 238 #[.int .i64 4, .bool false] w fun e w' => e = .returned (.bool true) ∧ w = w' := by
  go_enter Tryz.func238, Tryz.ntmps238
  go_wp2
  go_ret
  exact ⟨rfl, rfl⟩
theorem lengthOfMonth4_any (m : Int) (w : World) : Calls Tryz.prog 206 #[.int .i64 4, .int .i64 m, .bool false] w fun e w' => e = .returned (.int .i64 (lenM m)) ∧ w = w' := by
  have hl : Hid (lenM m = if m = 2 then 29 else if m = 4 ∨ m = 6 ∨ m = 9 ∨ m = 11 then 30 else 31) := rfl
  generalize lenM m = V at hl ⊢
  go_enter Tryz.func206, Tryz.ntmps206
  go_wp2_with (go_at_call 238; refine (isLeap4_any _).mono ?_; rintro e w' ⟨rfl, rfl⟩)
  all_goals go_ret
  all_goals exact ⟨ret_int (by rw [hl.out]; clear hl; simp_all), rfl⟩
set_option maxHeartbeats 1000000 in
theorem isDate4_any (m d : Int) (w : World) : Calls Tryz.prog 160 #[.agg #[.int .i64 4, .int .i64 m, .int .i64 d], .bool false] w fun e w' => e = .returned (.bool (dateB m d)) ∧ Below w.heap.size w w' := by
  have hv : Hid (dateB m d = (inB m 1 12 && inB d 1 (lenM m))) := rfl
  have hy : inB 4 1 2000 = true := by decide
  have HY := Lib.hid (fun W => hy ▸ within_any 4 1 2000 W)
  generalize hW : w.alloc (.cells #[.int .i64 4, .int .i64 m, .int .i64 d] 104) = W
  have hB : Below w.heap.size w W := by rw [← hW]; go_grown
  have hs : w.heap.size < W.heap.size := by rw [← hW]; simp
  have E0 := Later.cell (w := W) (by rw [← hW]; exact World.cell?_alloc_at _ _ _ _ rfl : W.cell? ⟨w.heap.size, 0, none⟩ = some (.int .i64 4)) hs
  have E1 := Later.cell (w := W) (by rw [← hW]; exact World.cell?_alloc_at _ _ _ _ rfl : W.cell? ⟨w.heap.size, 1, none⟩ = some (.int .i64 m)) hs
  have E2 := Later.cell (w := W) (by rw [← hW]; exact World.cell?_alloc_at _ _ _ _ rfl : W.cell? ⟨w.heap.size, 2, none⟩ = some (.int .i64 d)) hs
  cases h1 : inB m 1 12
  · have hR : Hid (dateB m d = false) := by unfold Hid; rw [hv.out, h1]; rfl
    go_enter Tryz.func160, Tryz.ntmps160
    go_wp2_with fail
    try rw [hW]
    refine wp_region_later W (by kernel_rfl) (by kernel_rfl) ?_
    repeat (go_big_quiet_step ((first | (go_at_call 53; first | (with_reducible exact Later.same (HY.out _)) | exact Later.same (within_any _ _ _ _)))))
    refine wpQuiet_nil ?_
    intro z
    have hz := z.prop
    generalize z.val = w2 at hz
    clear E0 E1 E2
    go_wp2
    go_ret
    exact ⟨ret_bool hR.out.symm, stepB hB hz hB.size⟩
  · have HM := Lib.hid (fun W => h1 ▸ within_any m 1 12 W)
    have hR : Hid (dateB m d = inB d 1 (lenM m)) := by unfold Hid; rw [hv.out, h1]; rfl
    go_enter Tryz.func160, Tryz.ntmps160
    go_wp2_with fail
    try rw [hW]
    refine wp_region_later W (by kernel_rfl) (by kernel_rfl) ?_
    repeat (go_big_quiet_step ((first | (go_at_call 206; exact Later.same (lengthOfMonth4_any _ _)) | (go_at_call 53; first | (with_reducible exact Later.same (HY.out _)) | exact Later.same (within_any _ _ _ _)))))
    refine wpQuiet_nil ?_
    intro z
    have hz := z.prop
    generalize z.val = w2 at hz
    clear E0 E1 E2
    go_wp2
    go_ret
    exact ⟨ret_bool hR.out.symm, stepB hB hz hB.size⟩
theorem implIsOldDate4_any (m d : Int) (w : World) : Calls Tryz.prog 117 #[.agg #[.int .i64 4, .int .i64 m, .int .i64 d]] w fun e w' => e = .returned (.bool (dateB m d)) ∧ Below w.heap.size w w' := by
  have hB0 : Below w.heap.size w (w.alloc (.cells #[.int .i64 4, .int .i64 m, .int .i64 d] 104)) := (Below.refl _ w).alloc (Nat.le_refl _) _
  go_enter Tryz.func117, Tryz.ntmps117
  go_wp2_with fail
  refine (isDate4_any _ _ _).mono ?_
  rintro e w1 ⟨rfl, hB1⟩
  go_wp2
  go_ret
  exact ⟨rfl, stepB hB0 hB1 hB0.size⟩

theorem l05Feast_any (x : Int) (w : World) : Calls Tryz.prog 100 #[.int .i64 x] w fun e w' => e = .returned (.bool (inB x 0 19)) ∧ w = w' := by
  go_enter Tryz.func100, Tryz.ntmps100
  go_wp2_with (go_at_call 55; refine (l01In_any _ _ _ _).mono ?_; rintro e w' ⟨rfl, rfl⟩)
  all_goals go_ret
  all_goals exact ⟨ret_bool (by simp [*]), rfl⟩
theorem l06Year_any (x : Int) (w : World) : Calls Tryz.prog 103 #[.int .i64 x] w fun e w' => e = .returned (.bool (inB x 2 1999)) ∧ w = w' := by
  go_enter Tryz.func103, Tryz.ntmps103
  go_wp2_with (go_at_call 55; refine (l01In_any _ _ _ _).mono ?_; rintro e w' ⟨rfl, rfl⟩)
  all_goals go_ret
  all_goals exact ⟨ret_bool (by simp [*]), rfl⟩
theorem l06Style_any (x : Int) (w : World) : Calls Tryz.prog 104 #[.int .i64 x] w fun e w' => e = .returned (.bool (inB x 0 6)) ∧ w = w' := by
  go_enter Tryz.func104, Tryz.ntmps104
  go_wp2_with (go_at_call 55; refine (l01In_any _ _ _ _).mono ?_; rintro e w' ⟨rfl, rfl⟩)
  all_goals go_ret
  all_goals exact ⟨ret_bool (by simp [*]), rfl⟩
theorem l08Kind_any (x : Int) (w : World) : Calls Tryz.prog 105 #[.int .i64 x] w fun e w' => e = .returned (.bool (inB x 0 2)) ∧ w = w' := by
  go_enter Tryz.func105, Tryz.ntmps105
  go_wp2_with (go_at_call 55; refine (l01In_any _ _ _ _).mono ?_; rintro e w' ⟨rfl, rfl⟩)
  all_goals go_ret
  all_goals exact ⟨ret_bool (by simp [*]), rfl⟩
theorem isFeast_any (x : Int) (w : World) : Calls Tryz.prog 118 #[.int .i64 x] w fun e w' => e = .returned (.bool (inB x 0 19)) ∧ w = w' := by
  go_enter Tryz.func118, Tryz.ntmps118
  go_wp2_with (go_at_call 53; refine (within_any _ _ _ _).mono ?_; rintro e w' ⟨rfl, rfl⟩)
  all_goals go_ret
  all_goals exact ⟨ret_bool (by simp [*]), rfl⟩
theorem isStyleYear_any (x : Int) (w : World) : Calls Tryz.prog 62 #[.int .i64 x] w fun e w' => e = .returned (.bool (inB x 2 1999)) ∧ w = w' := by
  go_enter Tryz.func62, Tryz.ntmps62
  go_wp2_with (go_at_call 53; refine (within_any _ _ _ _).mono ?_; rintro e w' ⟨rfl, rfl⟩)
  all_goals go_ret
  all_goals exact ⟨ret_bool (by simp [*]), rfl⟩
theorem isStyle_any (x : Int) (w : World) : Calls Tryz.prog 63 #[.int .i64 x] w fun e w' => e = .returned (.bool (inB x 0 6)) ∧ w = w' := by
  go_enter Tryz.func63, Tryz.ntmps63
  go_wp2_with (go_at_call 53; refine (within_any _ _ _ _).mono ?_; rintro e w' ⟨rfl, rfl⟩)
  all_goals go_ret
  all_goals exact ⟨ret_bool (by simp [*]), rfl⟩
theorem isKind_any (x : Int) (w : World) : Calls Tryz.prog 64 #[.int .i64 x] w fun e w' => e = .returned (.bool (inB x 0 2)) ∧ w = w' := by
  go_enter Tryz.func64, Tryz.ntmps64
  go_wp2_with (go_at_call 53; refine (within_any _ _ _ _).mono ?_; rintro e w' ⟨rfl, rfl⟩)
  all_goals go_ret
  all_goals exact ⟨ret_bool (by simp [*]), rfl⟩
theorem l05Relation_any (r wd : Int) (w : World) : Calls Tryz.prog 101 #[.int .i64 r, .int .i64 wd] w fun e w' => e = .returned (.bool (relB r wd)) ∧ w = w' := by
  have hv : Hid (relB r wd = (inB r 0 4 && inB wd 0 6 && (decide (3 ≤ r) || wd == 0))) := rfl
  generalize relB r wd = V at hv ⊢
  go_enter Tryz.func101, Tryz.ntmps101
  go_wp2_with (go_at_call 55; refine (l01In_any _ _ _ _).mono ?_; rintro e w' ⟨rfl, rfl⟩)
  all_goals go_ret
  all_goals exact ⟨ret_bool (by rw [hv.out]; clear hv; simp_all), rfl⟩
theorem isRelation_any (f r wd : Int) (w : World) : Calls Tryz.prog 60 #[.int .i64 f, .int .i64 r, .int .i64 wd] w fun e w' => e = .returned (.bool (inB f 0 19 && relB r wd)) ∧ w = w' := by
  have hv : Hid (relB r wd = (inB r 0 4 && inB wd 0 6 && (decide (3 ≤ r) || wd == 0))) := rfl
  generalize relB r wd = V at hv ⊢
  go_enter Tryz.func60, Tryz.ntmps60
  go_wp2_with (first | (go_at_call 118; refine (isFeast_any _ _).mono ?_; rintro e w' ⟨rfl, rfl⟩) | (go_at_call 53; refine (within_any _ _ _ _).mono ?_; rintro e w' ⟨rfl, rfl⟩))
  all_goals go_ret
  all_goals exact ⟨ret_bool (by rw [hv.out]; clear hv; simp_all), rfl⟩
theorem isMonthDay_any (m d : Int) (w : World) : Calls Tryz.prog 59 #[.int .i64 m, .int .i64 d] w fun e w' => e = .returned (.bool (dateB m d)) ∧ Below w.heap.size w w' := by
  go_enter Tryz.func59, Tryz.ntmps59
  go_wp2_with fail
  refine (implIsOldDate4_any _ _ _).mono ?_
  rintro e w1 ⟨rfl, hB1⟩
  go_wp2
  go_ret
  exact ⟨rfl, hB1⟩
end

section
open Go.ChangeShapes Go.WideShapes Go.ChangeAt Go.RowKit

def okCl0 (m : Cl) : Bool := decide (m.feast = 0) && decide (m.relation = 0) && decide (m.weekday = 0) && decide (m.style = 0) && decide (m.king.toList = []) && dateB m.month m.number
def okCl1 (m : Cl) : Bool := decide (m.number = 0) && decide (m.month = 0) && decide (m.style = 0) && decide (m.king.toList = []) && (inB m.feast 0 19 && relB m.relation m.weekday)
def okCl2 (m : Cl) : Bool := decide (m.month = 0) && decide (m.feast = 0) && decide (m.relation = 0) && decide (m.weekday = 0) && decide (m.style = 0) && (inB m.number 1 99 && nameB m.king.data.toList 12)
def okCl3 (m : Cl) : Bool := decide (m.month = 0) && decide (m.feast = 0) && decide (m.relation = 0) && decide (m.weekday = 0) && decide (m.king.toList = []) && (inB m.number 2 1999 && inB m.style 0 6)
def okCl4 (m : Cl) : Bool := decide (m.month = 0) && decide (m.feast = 0) && decide (m.relation = 0) && decide (m.weekday = 0) && decide (m.king.toList = []) && (inB m.number 1 15 && inB m.style 0 2)
def okCl5 (m : Cl) : Bool := decide (m.number = 0) && decide (m.month = 0) && decide (m.feast = 0) && decide (m.relation = 0) && decide (m.style = 0) && decide (m.king.toList = []) && inB m.weekday 0 6
def okCl (m : Cl) : Bool := if m.kind = 0 then okCl0 m else if m.kind = 1 then okCl1 m else if m.kind = 2 then okCl2 m else if m.kind = 3 then okCl3 m else if m.kind = 4 then okCl4 m else if m.kind = 5 then okCl5 m else false
theorem grow_done {w W w' : World} (h : Below w.heap.size w W) (k : Below W.heap.size W w') : Below w.heap.size w w' := stepB h k h.size
set_option maxRecDepth 100000 in
set_option maxHeartbeats 2000000 in
theorem specClause0 (m : Cl) (w : World) (_hk : m.king.size ≤ 9223372036854775807) (h0 : m.kind = 0) :
    Calls Tryz.prog 45 #[.agg #[.int .i64 m.kind, .int .i64 m.number, .int .i64 m.month, .int .i64 m.feast, .int .i64 m.relation, .int .i64 m.weekday, .int .i64 m.style, .string m.king]] w fun e w' => e = .returned (.bool (okCl0 m)) ∧ Below w.heap.size w w' := by
  have hv : Hid (okCl0 m = (decide (m.feast = 0) && decide (m.relation = 0) && decide (m.weekday = 0) && decide (m.style = 0) && decide (m.king.toList = []) && dateB m.month m.number)) := rfl
  generalize okCl0 m = V at hv ⊢
  rw [h0]
  go_enter Tryz.func45, Tryz.ntmps45
  go_wp2_with (first | (go_at_call 99; refine (specIsOldDate4_any _ _ _).mono ?_; rintro e w' ⟨rfl, hBs⟩))
  all_goals go_ret
  all_goals refine ⟨ret_bool (by rw [hv.out]; clear hv; simp_all), ?_⟩
  all_goals first | (go_grown; done) | exact grow_done (by go_grown) hBs
set_option maxRecDepth 100000 in
set_option maxHeartbeats 2000000 in
theorem specClause1 (m : Cl) (w : World) (_hk : m.king.size ≤ 9223372036854775807) (h0 : m.kind = 1) :
    Calls Tryz.prog 45 #[.agg #[.int .i64 m.kind, .int .i64 m.number, .int .i64 m.month, .int .i64 m.feast, .int .i64 m.relation, .int .i64 m.weekday, .int .i64 m.style, .string m.king]] w fun e w' => e = .returned (.bool (okCl1 m)) ∧ Below w.heap.size w w' := by
  have hv : Hid (okCl1 m = (decide (m.number = 0) && decide (m.month = 0) && decide (m.style = 0) && decide (m.king.toList = []) && (inB m.feast 0 19 && relB m.relation m.weekday))) := rfl
  generalize okCl1 m = V at hv ⊢
  rw [h0]
  go_enter Tryz.func45, Tryz.ntmps45
  go_wp2_with (first | (go_at_call 100; refine (l05Feast_any _ _).mono ?_; rintro e w' ⟨rfl, rfl⟩) | (go_at_call 101; refine (l05Relation_any _ _ _).mono ?_; rintro e w' ⟨rfl, rfl⟩))
  all_goals go_ret
  all_goals refine ⟨ret_bool (by rw [hv.out]; clear hv; simp_all), ?_⟩
  all_goals first | (go_grown; done) | exact grow_done (by go_grown) hBs
set_option maxRecDepth 100000 in
set_option maxHeartbeats 2000000 in
theorem specClause2 (m : Cl) (w : World) (hk : m.king.size ≤ 9223372036854775807) (h0 : m.kind = 2) :
    Calls Tryz.prog 45 #[.agg #[.int .i64 m.kind, .int .i64 m.number, .int .i64 m.month, .int .i64 m.feast, .int .i64 m.relation, .int .i64 m.weekday, .int .i64 m.style, .string m.king]] w fun e w' => e = .returned (.bool (okCl2 m)) ∧ Below w.heap.size w w' := by
  have hv : Hid (okCl2 m = (decide (m.month = 0) && decide (m.feast = 0) && decide (m.relation = 0) && decide (m.weekday = 0) && decide (m.style = 0) && (inB m.number 1 99 && nameB m.king.data.toList 12))) := rfl
  generalize okCl2 m = V at hv ⊢
  rw [h0]
  go_enter Tryz.func45, Tryz.ntmps45
  go_wp2_with (first | (go_at_call 55; refine (l01In_any _ _ _ _).mono ?_; rintro e w' ⟨rfl, rfl⟩) | (go_at_call 102; refine (l01Name_any _ _ _ hk).mono ?_; rintro e w' ⟨rfl, hBs⟩))
  all_goals go_ret
  all_goals refine ⟨ret_bool (by rw [hv.out]; clear hv; simp_all), ?_⟩
  all_goals first | (go_grown; done) | exact grow_done (by go_grown) hBs
set_option maxRecDepth 100000 in
set_option maxHeartbeats 2000000 in
theorem specClause3 (m : Cl) (w : World) (_hk : m.king.size ≤ 9223372036854775807) (h0 : m.kind = 3) :
    Calls Tryz.prog 45 #[.agg #[.int .i64 m.kind, .int .i64 m.number, .int .i64 m.month, .int .i64 m.feast, .int .i64 m.relation, .int .i64 m.weekday, .int .i64 m.style, .string m.king]] w fun e w' => e = .returned (.bool (okCl3 m)) ∧ Below w.heap.size w w' := by
  have hv : Hid (okCl3 m = (decide (m.month = 0) && decide (m.feast = 0) && decide (m.relation = 0) && decide (m.weekday = 0) && decide (m.king.toList = []) && (inB m.number 2 1999 && inB m.style 0 6))) := rfl
  generalize okCl3 m = V at hv ⊢
  rw [h0]
  go_enter Tryz.func45, Tryz.ntmps45
  go_wp2_with (first | (go_at_call 103; refine (l06Year_any _ _).mono ?_; rintro e w' ⟨rfl, rfl⟩) | (go_at_call 104; refine (l06Style_any _ _).mono ?_; rintro e w' ⟨rfl, rfl⟩))
  all_goals go_ret
  all_goals refine ⟨ret_bool (by rw [hv.out]; clear hv; simp_all), ?_⟩
  all_goals first | (go_grown; done) | exact grow_done (by go_grown) hBs
set_option maxRecDepth 100000 in
set_option maxHeartbeats 2000000 in
theorem specClause4 (m : Cl) (w : World) (_hk : m.king.size ≤ 9223372036854775807) (h0 : m.kind = 4) :
    Calls Tryz.prog 45 #[.agg #[.int .i64 m.kind, .int .i64 m.number, .int .i64 m.month, .int .i64 m.feast, .int .i64 m.relation, .int .i64 m.weekday, .int .i64 m.style, .string m.king]] w fun e w' => e = .returned (.bool (okCl4 m)) ∧ Below w.heap.size w w' := by
  have hv : Hid (okCl4 m = (decide (m.month = 0) && decide (m.feast = 0) && decide (m.relation = 0) && decide (m.weekday = 0) && decide (m.king.toList = []) && (inB m.number 1 15 && inB m.style 0 2))) := rfl
  generalize okCl4 m = V at hv ⊢
  rw [h0]
  go_enter Tryz.func45, Tryz.ntmps45
  go_wp2_with (first | (go_at_call 55; refine (l01In_any _ _ _ _).mono ?_; rintro e w' ⟨rfl, rfl⟩) | (go_at_call 105; refine (l08Kind_any _ _).mono ?_; rintro e w' ⟨rfl, rfl⟩))
  all_goals go_ret
  all_goals refine ⟨ret_bool (by rw [hv.out]; clear hv; simp_all), ?_⟩
  all_goals first | (go_grown; done) | exact grow_done (by go_grown) hBs
set_option maxRecDepth 100000 in
set_option maxHeartbeats 2000000 in
theorem specClause5 (m : Cl) (w : World) (_hk : m.king.size ≤ 9223372036854775807) (h0 : m.kind = 5) :
    Calls Tryz.prog 45 #[.agg #[.int .i64 m.kind, .int .i64 m.number, .int .i64 m.month, .int .i64 m.feast, .int .i64 m.relation, .int .i64 m.weekday, .int .i64 m.style, .string m.king]] w fun e w' => e = .returned (.bool (okCl5 m)) ∧ Below w.heap.size w w' := by
  have hv : Hid (okCl5 m = (decide (m.number = 0) && decide (m.month = 0) && decide (m.feast = 0) && decide (m.relation = 0) && decide (m.style = 0) && decide (m.king.toList = []) && inB m.weekday 0 6)) := rfl
  generalize okCl5 m = V at hv ⊢
  rw [h0]
  go_enter Tryz.func45, Tryz.ntmps45
  go_wp2_with (first | (go_at_call 55; refine (l01In_any _ _ _ _).mono ?_; rintro e w' ⟨rfl, rfl⟩))
  all_goals go_ret
  all_goals refine ⟨ret_bool (by rw [hv.out]; clear hv; simp_all), ?_⟩
  all_goals first | (go_grown; done) | exact grow_done (by go_grown) hBs
set_option maxRecDepth 100000 in
set_option maxHeartbeats 2000000 in
theorem specClause_any (m : Cl) (w : World) (hk : m.king.size ≤ 9223372036854775807) :
    Calls Tryz.prog 45 #[.agg #[.int .i64 m.kind, .int .i64 m.number, .int .i64 m.month, .int .i64 m.feast, .int .i64 m.relation, .int .i64 m.weekday, .int .i64 m.style, .string m.king]] w fun e w' => e = .returned (.bool (okCl m)) ∧ Below w.heap.size w w' := by
  by_cases h0 : m.kind = 0
  · have e : okCl m = okCl0 m := by unfold okCl; rw [if_pos h0]
    rw [e]; exact specClause0 m w hk h0

  by_cases h1 : m.kind = 1
  · have e : okCl m = okCl1 m := by unfold okCl; rw [if_neg h0, if_pos h1]
    rw [e]; exact specClause1 m w hk h1
  by_cases h2 : m.kind = 2
  · have e : okCl m = okCl2 m := by unfold okCl; rw [if_neg h0, if_neg h1, if_pos h2]
    rw [e]; exact specClause2 m w hk h2
  by_cases h3 : m.kind = 3
  · have e : okCl m = okCl3 m := by unfold okCl; rw [if_neg h0, if_neg h1, if_neg h2, if_pos h3]
    rw [e]; exact specClause3 m w hk h3
  by_cases h4 : m.kind = 4
  · have e : okCl m = okCl4 m := by unfold okCl; rw [if_neg h0, if_neg h1, if_neg h2, if_neg h3, if_pos h4]
    rw [e]; exact specClause4 m w hk h4
  by_cases h5 : m.kind = 5
  · have e : okCl m = okCl5 m := by unfold okCl; rw [if_neg h0, if_neg h1, if_neg h2, if_neg h3, if_neg h4, if_pos h5]
    rw [e]; exact specClause5 m w hk h5
  have e : okCl m = false := by unfold okCl; rw [if_neg h0, if_neg h1, if_neg h2, if_neg h3, if_neg h4, if_neg h5]
  rw [e]
  have b0 : (m.kind == 0) = false := (by simpa using h0); have b1 : (m.kind == 1) = false := (by simpa using h1); have b2 : (m.kind == 2) = false := (by simpa using h2); have b3 : (m.kind == 3) = false := (by simpa using h3); have b4 : (m.kind == 4) = false := (by simpa using h4); have b5 : (m.kind == 5) = false := (by simpa using h5)
  clear e h0 h1 h2 h3 h4 h5
  go_enter Tryz.func45, Tryz.ntmps45
  go_wp2
  go_ret
  exact ⟨rfl, by go_grown⟩
end

section
open Go.ChangeShapes Go.WideShapes Go.ChangeAt Go.RowKit

set_option maxRecDepth 100000 in
set_option maxHeartbeats 4000000 in
theorem implClause0 (m : Cl) (w : World) (_hk : m.king.size ≤ 9223372036854775807) (h0 : m.kind = 0) :
    Calls Tryz.prog 25 #[.agg #[.int .i64 m.kind, .int .i64 m.number, .int .i64 m.month, .int .i64 m.feast, .int .i64 m.relation, .int .i64 m.weekday, .int .i64 m.style, .string m.king]] w fun e w' => e = .returned (.bool (okCl0 m)) ∧ Below w.heap.size w w' := by
  have hv : Hid (okCl0 m = (decide (m.feast = 0) && decide (m.relation = 0) && decide (m.weekday = 0) && decide (m.style = 0) && decide (m.king.toList = []) && dateB m.month m.number)) := rfl
  generalize okCl0 m = V at hv ⊢
  rw [h0]
  go_enter Tryz.func25, Tryz.ntmps25
  go_wp2_with fail
  go_region
  go_wp2_with (first | (go_at_call 59; refine (isMonthDay_any _ _ _).mono ?_; rintro e w' ⟨rfl, hBs⟩; have f0 := hBs.cell (p := ⟨w.heap.size, 0, none⟩) (by simp; try omega); have g0 := hBs.cell (p := ⟨w.heap.size + 1, 0, none⟩) (by simp; try omega); have f1 := hBs.cell (p := ⟨w.heap.size, 1, none⟩) (by simp; try omega); have g1 := hBs.cell (p := ⟨w.heap.size + 1, 1, none⟩) (by simp; try omega); have f2 := hBs.cell (p := ⟨w.heap.size, 2, none⟩) (by simp; try omega); have g2 := hBs.cell (p := ⟨w.heap.size + 1, 2, none⟩) (by simp; try omega); have f3 := hBs.cell (p := ⟨w.heap.size, 3, none⟩) (by simp; try omega); have g3 := hBs.cell (p := ⟨w.heap.size + 1, 3, none⟩) (by simp; try omega); have f4 := hBs.cell (p := ⟨w.heap.size, 4, none⟩) (by simp; try omega); have g4 := hBs.cell (p := ⟨w.heap.size + 1, 4, none⟩) (by simp; try omega); have f5 := hBs.cell (p := ⟨w.heap.size, 5, none⟩) (by simp; try omega); have g5 := hBs.cell (p := ⟨w.heap.size + 1, 5, none⟩) (by simp; try omega); have f6 := hBs.cell (p := ⟨w.heap.size, 6, none⟩) (by simp; try omega); have g6 := hBs.cell (p := ⟨w.heap.size + 1, 6, none⟩) (by simp; try omega); have f7 := hBs.cell (p := ⟨w.heap.size, 7, none⟩) (by simp; try omega); have g7 := hBs.cell (p := ⟨w.heap.size + 1, 7, none⟩) (by simp; try omega)))
  all_goals go_ret
  all_goals refine ⟨ret_bool (by rw [hv.out]; clear hv; simp_all), ?_⟩
  all_goals first | (go_grown; done) | exact grow_done (by go_grown) hBs
set_option maxRecDepth 100000 in
set_option maxHeartbeats 4000000 in
theorem implClause1 (m : Cl) (w : World) (_hk : m.king.size ≤ 9223372036854775807) (h0 : m.kind = 1) :
    Calls Tryz.prog 25 #[.agg #[.int .i64 m.kind, .int .i64 m.number, .int .i64 m.month, .int .i64 m.feast, .int .i64 m.relation, .int .i64 m.weekday, .int .i64 m.style, .string m.king]] w fun e w' => e = .returned (.bool (okCl1 m)) ∧ Below w.heap.size w w' := by
  have hv : Hid (okCl1 m = (decide (m.number = 0) && decide (m.month = 0) && decide (m.style = 0) && decide (m.king.toList = []) && (inB m.feast 0 19 && relB m.relation m.weekday))) := rfl
  generalize okCl1 m = V at hv ⊢
  rw [h0]
  go_enter Tryz.func25, Tryz.ntmps25
  go_wp2_with fail
  go_region
  go_wp2_with (first | (go_at_call 60; refine (isRelation_any _ _ _ _).mono ?_; rintro e w' ⟨rfl, rfl⟩))
  all_goals go_ret
  all_goals refine ⟨ret_bool (by rw [hv.out]; clear hv; simp_all), ?_⟩
  all_goals first | (go_grown; done) | exact grow_done (by go_grown) hBs
set_option maxRecDepth 100000 in
set_option maxHeartbeats 4000000 in
theorem implClause2 (m : Cl) (w : World) (hk : m.king.size ≤ 9223372036854775807) (h0 : m.kind = 2) :
    Calls Tryz.prog 25 #[.agg #[.int .i64 m.kind, .int .i64 m.number, .int .i64 m.month, .int .i64 m.feast, .int .i64 m.relation, .int .i64 m.weekday, .int .i64 m.style, .string m.king]] w fun e w' => e = .returned (.bool (okCl2 m)) ∧ Below w.heap.size w w' := by
  have hv : Hid (okCl2 m = (decide (m.month = 0) && decide (m.feast = 0) && decide (m.relation = 0) && decide (m.weekday = 0) && decide (m.style = 0) && (inB m.number 1 99 && nameB m.king.data.toList 12))) := rfl
  generalize okCl2 m = V at hv ⊢
  rw [h0]
  go_enter Tryz.func25, Tryz.ntmps25
  go_wp2_with fail
  go_region
  go_wp2_with (first | (go_at_call 53; refine (within_any _ _ _ _).mono ?_; rintro e w' ⟨rfl, rfl⟩) | (go_at_call 61; refine (isSmall_any _ _ _ hk).mono ?_; rintro e w' ⟨rfl, hBs⟩; have f0 := hBs.cell (p := ⟨w.heap.size, 0, none⟩) (by simp; try omega); have g0 := hBs.cell (p := ⟨w.heap.size + 1, 0, none⟩) (by simp; try omega); have f1 := hBs.cell (p := ⟨w.heap.size, 1, none⟩) (by simp; try omega); have g1 := hBs.cell (p := ⟨w.heap.size + 1, 1, none⟩) (by simp; try omega); have f2 := hBs.cell (p := ⟨w.heap.size, 2, none⟩) (by simp; try omega); have g2 := hBs.cell (p := ⟨w.heap.size + 1, 2, none⟩) (by simp; try omega); have f3 := hBs.cell (p := ⟨w.heap.size, 3, none⟩) (by simp; try omega); have g3 := hBs.cell (p := ⟨w.heap.size + 1, 3, none⟩) (by simp; try omega); have f4 := hBs.cell (p := ⟨w.heap.size, 4, none⟩) (by simp; try omega); have g4 := hBs.cell (p := ⟨w.heap.size + 1, 4, none⟩) (by simp; try omega); have f5 := hBs.cell (p := ⟨w.heap.size, 5, none⟩) (by simp; try omega); have g5 := hBs.cell (p := ⟨w.heap.size + 1, 5, none⟩) (by simp; try omega); have f6 := hBs.cell (p := ⟨w.heap.size, 6, none⟩) (by simp; try omega); have g6 := hBs.cell (p := ⟨w.heap.size + 1, 6, none⟩) (by simp; try omega); have f7 := hBs.cell (p := ⟨w.heap.size, 7, none⟩) (by simp; try omega); have g7 := hBs.cell (p := ⟨w.heap.size + 1, 7, none⟩) (by simp; try omega)))
  all_goals go_ret
  all_goals refine ⟨ret_bool (by rw [hv.out]; clear hv; simp_all), ?_⟩
  all_goals first | (go_grown; done) | exact grow_done (by go_grown) hBs
set_option maxRecDepth 100000 in
set_option maxHeartbeats 4000000 in
theorem implClause3 (m : Cl) (w : World) (_hk : m.king.size ≤ 9223372036854775807) (h0 : m.kind = 3) :
    Calls Tryz.prog 25 #[.agg #[.int .i64 m.kind, .int .i64 m.number, .int .i64 m.month, .int .i64 m.feast, .int .i64 m.relation, .int .i64 m.weekday, .int .i64 m.style, .string m.king]] w fun e w' => e = .returned (.bool (okCl3 m)) ∧ Below w.heap.size w w' := by
  have hv : Hid (okCl3 m = (decide (m.month = 0) && decide (m.feast = 0) && decide (m.relation = 0) && decide (m.weekday = 0) && decide (m.king.toList = []) && (inB m.number 2 1999 && inB m.style 0 6))) := rfl
  generalize okCl3 m = V at hv ⊢
  rw [h0]
  go_enter Tryz.func25, Tryz.ntmps25
  go_wp2_with fail
  go_region
  go_wp2_with (first | (go_at_call 62; refine (isStyleYear_any _ _).mono ?_; rintro e w' ⟨rfl, rfl⟩) | (go_at_call 63; refine (isStyle_any _ _).mono ?_; rintro e w' ⟨rfl, rfl⟩))
  all_goals go_ret
  all_goals refine ⟨ret_bool (by rw [hv.out]; clear hv; simp_all), ?_⟩
  all_goals first | (go_grown; done) | exact grow_done (by go_grown) hBs
set_option maxRecDepth 100000 in
set_option maxHeartbeats 4000000 in
theorem implClause4 (m : Cl) (w : World) (_hk : m.king.size ≤ 9223372036854775807) (h0 : m.kind = 4) :
    Calls Tryz.prog 25 #[.agg #[.int .i64 m.kind, .int .i64 m.number, .int .i64 m.month, .int .i64 m.feast, .int .i64 m.relation, .int .i64 m.weekday, .int .i64 m.style, .string m.king]] w fun e w' => e = .returned (.bool (okCl4 m)) ∧ Below w.heap.size w w' := by
  have hv : Hid (okCl4 m = (decide (m.month = 0) && decide (m.feast = 0) && decide (m.relation = 0) && decide (m.weekday = 0) && decide (m.king.toList = []) && (inB m.number 1 15 && inB m.style 0 2))) := rfl
  generalize okCl4 m = V at hv ⊢
  rw [h0]
  go_enter Tryz.func25, Tryz.ntmps25
  go_wp2_with fail
  go_region
  go_wp2_with (first | (go_at_call 53; refine (within_any _ _ _ _).mono ?_; rintro e w' ⟨rfl, rfl⟩) | (go_at_call 64; refine (isKind_any _ _).mono ?_; rintro e w' ⟨rfl, rfl⟩))
  all_goals go_ret
  all_goals refine ⟨ret_bool (by rw [hv.out]; clear hv; simp_all), ?_⟩
  all_goals first | (go_grown; done) | exact grow_done (by go_grown) hBs
set_option maxRecDepth 100000 in
set_option maxHeartbeats 4000000 in
theorem implClause5 (m : Cl) (w : World) (_hk : m.king.size ≤ 9223372036854775807) (h0 : m.kind = 5) :
    Calls Tryz.prog 25 #[.agg #[.int .i64 m.kind, .int .i64 m.number, .int .i64 m.month, .int .i64 m.feast, .int .i64 m.relation, .int .i64 m.weekday, .int .i64 m.style, .string m.king]] w fun e w' => e = .returned (.bool (okCl5 m)) ∧ Below w.heap.size w w' := by
  have hv : Hid (okCl5 m = (decide (m.number = 0) && decide (m.month = 0) && decide (m.feast = 0) && decide (m.relation = 0) && decide (m.style = 0) && decide (m.king.toList = []) && inB m.weekday 0 6)) := rfl
  generalize okCl5 m = V at hv ⊢
  rw [h0]
  go_enter Tryz.func25, Tryz.ntmps25
  go_wp2_with (first | (go_at_call 53; refine (within_any _ _ _ _).mono ?_; rintro e w' ⟨rfl, rfl⟩))
  all_goals go_ret
  all_goals refine ⟨ret_bool (by rw [hv.out]; clear hv; simp_all), ?_⟩
  all_goals first | (go_grown; done) | exact grow_done (by go_grown) hBs
set_option maxRecDepth 100000 in
set_option maxHeartbeats 2000000 in
theorem implClause_any (m : Cl) (w : World) (hk : m.king.size ≤ 9223372036854775807) :
    Calls Tryz.prog 25 #[.agg #[.int .i64 m.kind, .int .i64 m.number, .int .i64 m.month, .int .i64 m.feast, .int .i64 m.relation, .int .i64 m.weekday, .int .i64 m.style, .string m.king]] w fun e w' => e = .returned (.bool (okCl m)) ∧ Below w.heap.size w w' := by
  by_cases h0 : m.kind = 0
  · have e : okCl m = okCl0 m := by unfold okCl; rw [if_pos h0]
    rw [e]; exact implClause0 m w hk h0

  by_cases h1 : m.kind = 1
  · have e : okCl m = okCl1 m := by unfold okCl; rw [if_neg h0, if_pos h1]
    rw [e]; exact implClause1 m w hk h1
  by_cases h2 : m.kind = 2
  · have e : okCl m = okCl2 m := by unfold okCl; rw [if_neg h0, if_neg h1, if_pos h2]
    rw [e]; exact implClause2 m w hk h2
  by_cases h3 : m.kind = 3
  · have e : okCl m = okCl3 m := by unfold okCl; rw [if_neg h0, if_neg h1, if_neg h2, if_pos h3]
    rw [e]; exact implClause3 m w hk h3
  by_cases h4 : m.kind = 4
  · have e : okCl m = okCl4 m := by unfold okCl; rw [if_neg h0, if_neg h1, if_neg h2, if_neg h3, if_pos h4]
    rw [e]; exact implClause4 m w hk h4
  by_cases h5 : m.kind = 5
  · have e : okCl m = okCl5 m := by unfold okCl; rw [if_neg h0, if_neg h1, if_neg h2, if_neg h3, if_neg h4, if_pos h5]
    rw [e]; exact implClause5 m w hk h5
  have e : okCl m = false := by unfold okCl; rw [if_neg h0, if_neg h1, if_neg h2, if_neg h3, if_neg h4, if_neg h5]
  rw [e]
  have b0 : (m.kind == 0) = false := (by simpa using h0); have b1 : (m.kind == 1) = false := (by simpa using h1); have b2 : (m.kind == 2) = false := (by simpa using h2); have b3 : (m.kind == 3) = false := (by simpa using h3); have b4 : (m.kind == 4) = false := (by simpa using h4); have b5 : (m.kind == 5) = false := (by simpa using h5)
  clear e h0 h1 h2 h3 h4 h5
  go_enter Tryz.func25, Tryz.ntmps25
  go_wp2
  go_ret
  exact ⟨rfl, by go_grown⟩
end
end Go.Proofs.YteajkofgcmfaoaaGreatDoor
