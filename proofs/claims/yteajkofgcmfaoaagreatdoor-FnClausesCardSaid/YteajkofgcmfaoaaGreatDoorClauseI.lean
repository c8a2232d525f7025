/- Walk: IsClause of the program. Printed by gen_clause2.py. -/
import Derived.Test.YteajkofgcmfaoaaGreatDoorClauseS
namespace Go.Proofs.YteajkofgcmfaoaaGreatDoor
open Go.ChangeShapes Go.WideShapes Go.ChangeAt Go.RowKit

set_option maxRecDepth 100000 in
set_option maxHeartbeats 4000000 in
theorem implClause0 (m : Cl) (w : World) (_hk : m.king.size ≤ 9223372036854775807) (h0 : m.kind = 0) :
    Calls Tryz.prog 25 #[.agg #[.int .i64 m.kind, .int .i64 m.number, .int .i64 m.month, .int .i64 m.feast, .int .i64 m.relation, .int .i64 m.weekday, .int .i64 m.style, .string m.king]] w fun e w' => e = .returned (.bool (okCl0 m)) ∧ Below w.heap.size w w' := by
  have hv : Hid (okCl0 m = (decide (m.feast = 0) && decide (m.relation = 0) && decide (m.weekday = 0) && decide (m.style = 0) && decide (m.king.toList = []) && dateB m.month m.number)) := rfl
  generalize okCl0 m = V at hv ⊢
  rw [h0]
  go_enter Tryz.func25, Tryz.ntmps25
  go_wp2_with fail
  go_region
  go_wp2_with (first | (go_at_call 59; refine (isMonthDay_any _ _ _).mono ?_; rintro e w' ⟨rfl, hBs⟩; have f0 := hBs.cell (p := ⟨w.heap.size, 0, none⟩) (by simp; try omega); have g0 := hBs.cell (p := ⟨w.heap.size + 1, 0, none⟩) (by simp; try omega); have f1 := hBs.cell (p := ⟨w.heap.size, 1, none⟩) (by simp; try omega); have g1 := hBs.cell (p := ⟨w.heap.size + 1, 1, none⟩) (by simp; try omega); have f2 := hBs.cell (p := ⟨w.heap.size, 2, none⟩) (by simp; try omega); have g2 := hBs.cell (p := ⟨w.heap.size + 1, 2, none⟩) (by simp; try omega); have f3 := hBs.cell (p := ⟨w.heap.size, 3, none⟩) (by simp; try omega); have g3 := hBs.cell (p := ⟨w.heap.size + 1, 3, none⟩) (by simp; try omega); have f4 := hBs.cell (p := ⟨w.heap.size, 4, none⟩) (by simp; try omega); have g4 := hBs.cell (p := ⟨w.heap.size + 1, 4, none⟩) (by simp; try omega); have f5 := hBs.cell (p := ⟨w.heap.size, 5, none⟩) (by simp; try omega); have g5 := hBs.cell (p := ⟨w.heap.size + 1, 5, none⟩) (by simp; try omega); have f6 := hBs.cell (p := ⟨w.heap.size, 6, none⟩) (by simp; try omega); have g6 := hBs.cell (p := ⟨w.heap.size + 1, 6, none⟩) (by simp; try omega); have f7 := hBs.cell (p := ⟨w.heap.size, 7, none⟩) (by simp; try omega); have g7 := hBs.cell (p := ⟨w.heap.size + 1, 7, none⟩) (by simp; try omega)))
  all_goals go_ret
  all_goals refine ⟨ret_bool (by rw [hv.out]; clear hv; simp_all), ?_⟩
  all_goals first | (go_grown; done) | exact grow_done (by go_grown) hBs
set_option maxRecDepth 100000 in
set_option maxHeartbeats 4000000 in
theorem implClause1 (m : Cl) (w : World) (_hk : m.king.size ≤ 9223372036854775807) (h0 : m.kind = 1) :
    Calls Tryz.prog 25 #[.agg #[.int .i64 m.kind, .int .i64 m.number, .int .i64 m.month, .int .i64 m.feast, .int .i64 m.relation, .int .i64 m.weekday, .int .i64 m.style, .string m.king]] w fun e w' => e = .returned (.bool (okCl1 m)) ∧ Below w.heap.size w w' := by
  have hv : Hid (okCl1 m = (decide (m.number = 0) && decide (m.month = 0) && decide (m.style = 0) && decide (m.king.toList = []) && (inB m.feast 0 19 && relB m.relation m.weekday))) := rfl
  generalize okCl1 m = V at hv ⊢
  rw [h0]
  go_enter Tryz.func25, Tryz.ntmps25
  go_wp2_with fail
  go_region
  go_wp2_with (first | (go_at_call 60; refine (isRelation_any _ _ _ _).mono ?_; rintro e w' ⟨rfl, rfl⟩))
  all_goals go_ret
  all_goals refine ⟨ret_bool (by rw [hv.out]; clear hv; simp_all), ?_⟩
  all_goals first | (go_grown; done) | exact grow_done (by go_grown) hBs
set_option maxRecDepth 100000 in
set_option maxHeartbeats 4000000 in
theorem implClause2 (m : Cl) (w : World) (hk : m.king.size ≤ 9223372036854775807) (h0 : m.kind = 2) :
    Calls Tryz.prog 25 #[.agg #[.int .i64 m.kind, .int .i64 m.number, .int .i64 m.month, .int .i64 m.feast, .int .i64 m.relation, .int .i64 m.weekday, .int .i64 m.style, .string m.king]] w fun e w' => e = .returned (.bool (okCl2 m)) ∧ Below w.heap.size w w' := by
  have hv : Hid (okCl2 m = (decide (m.month = 0) && decide (m.feast = 0) && decide (m.relation = 0) && decide (m.weekday = 0) && decide (m.style = 0) && (inB m.number 1 99 && nameB m.king.data.toList 12))) := rfl
  generalize okCl2 m = V at hv ⊢
  rw [h0]
  go_enter Tryz.func25, Tryz.ntmps25
  go_wp2_with fail
  go_region
  go_wp2_with (first | (go_at_call 53; refine (within_any _ _ _ _).mono ?_; rintro e w' ⟨rfl, rfl⟩) | (go_at_call 61; refine (isSmall_any _ _ _ hk).mono ?_; rintro e w' ⟨rfl, hBs⟩; have f0 := hBs.cell (p := ⟨w.heap.size, 0, none⟩) (by simp; try omega); have g0 := hBs.cell (p := ⟨w.heap.size + 1, 0, none⟩) (by simp; try omega); have f1 := hBs.cell (p := ⟨w.heap.size, 1, none⟩) (by simp; try omega); have g1 := hBs.cell (p := ⟨w.heap.size + 1, 1, none⟩) (by simp; try omega); have f2 := hBs.cell (p := ⟨w.heap.size, 2, none⟩) (by simp; try omega); have g2 := hBs.cell (p := ⟨w.heap.size + 1, 2, none⟩) (by simp; try omega); have f3 := hBs.cell (p := ⟨w.heap.size, 3, none⟩) (by simp; try omega); have g3 := hBs.cell (p := ⟨w.heap.size + 1, 3, none⟩) (by simp; try omega); have f4 := hBs.cell (p := ⟨w.heap.size, 4, none⟩) (by simp; try omega); have g4 := hBs.cell (p := ⟨w.heap.size + 1, 4, none⟩) (by simp; try omega); have f5 := hBs.cell (p := ⟨w.heap.size, 5, none⟩) (by simp; try omega); have g5 := hBs.cell (p := ⟨w.heap.size + 1, 5, none⟩) (by simp; try omega); have f6 := hBs.cell (p := ⟨w.heap.size, 6, none⟩) (by simp; try omega); have g6 := hBs.cell (p := ⟨w.heap.size + 1, 6, none⟩) (by simp; try omega); have f7 := hBs.cell (p := ⟨w.heap.size, 7, none⟩) (by simp; try omega); have g7 := hBs.cell (p := ⟨w.heap.size + 1, 7, none⟩) (by simp; try omega)))
  all_goals go_ret
  all_goals refine ⟨ret_bool (by rw [hv.out]; clear hv; simp_all), ?_⟩
  all_goals first | (go_grown; done) | exact grow_done (by go_grown) hBs
set_option maxRecDepth 100000 in
set_option maxHeartbeats 4000000 in
theorem implClause3 (m : Cl) (w : World) (_hk : m.king.size ≤ 9223372036854775807) (h0 : m.kind = 3) :
    Calls Tryz.prog 25 #[.agg #[.int .i64 m.kind, .int .i64 m.number, .int .i64 m.month, .int .i64 m.feast, .int .i64 m.relation, .int .i64 m.weekday, .int .i64 m.style, .string m.king]] w fun e w' => e = .returned (.bool (okCl3 m)) ∧ Below w.heap.size w w' := by
  have hv : Hid (okCl3 m = (decide (m.month = 0) && decide (m.feast = 0) && decide (m.relation = 0) && decide (m.weekday = 0) && decide (m.king.toList = []) && (inB m.number 2 1999 && inB m.style 0 6))) := rfl
  generalize okCl3 m = V at hv ⊢
  rw [h0]
  go_enter Tryz.func25, Tryz.ntmps25
  go_wp2_with fail
  go_region
  go_wp2_with (first | (go_at_call 62; refine (isStyleYear_any _ _).mono ?_; rintro e w' ⟨rfl, rfl⟩) | (go_at_call 63; refine (isStyle_any _ _).mono ?_; rintro e w' ⟨rfl, rfl⟩))
  all_goals go_ret
  all_goals refine ⟨ret_bool (by rw [hv.out]; clear hv; simp_all), ?_⟩
  all_goals first | (go_grown; done) | exact grow_done (by go_grown) hBs
set_option maxRecDepth 100000 in
set_option maxHeartbeats 4000000 in
theorem implClause4 (m : Cl) (w : World) (_hk : m.king.size ≤ 9223372036854775807) (h0 : m.kind = 4) :
    Calls Tryz.prog 25 #[.agg #[.int .i64 m.kind, .int .i64 m.number, .int .i64 m.month, .int .i64 m.feast, .int .i64 m.relation, .int .i64 m.weekday, .int .i64 m.style, .string m.king]] w fun e w' => e = .returned (.bool (okCl4 m)) ∧ Below w.heap.size w w' := by
  have hv : Hid (okCl4 m = (decide (m.month = 0) && decide (m.feast = 0) && decide (m.relation = 0) && decide (m.weekday = 0) && decide (m.king.toList = []) && (inB m.number 1 15 && inB m.style 0 2))) := rfl
  generalize okCl4 m = V at hv ⊢
  rw [h0]
  go_enter Tryz.func25, Tryz.ntmps25
  go_wp2_with fail
  go_region
  go_wp2_with (first | (go_at_call 53; refine (within_any _ _ _ _).mono ?_; rintro e w' ⟨rfl, rfl⟩) | (go_at_call 64; refine (isKind_any _ _).mono ?_; rintro e w' ⟨rfl, rfl⟩))
  all_goals go_ret
  all_goals refine ⟨ret_bool (by rw [hv.out]; clear hv; simp_all), ?_⟩
  all_goals first | (go_grown; done) | exact grow_done (by go_grown) hBs
set_option maxRecDepth 100000 in
set_option maxHeartbeats 4000000 in
theorem implClause5 (m : Cl) (w : World) (_hk : m.king.size ≤ 9223372036854775807) (h0 : m.kind = 5) :
    Calls Tryz.prog 25 #[.agg #[.int .i64 m.kind, .int .i64 m.number, .int .i64 m.month, .int .i64 m.feast, .int .i64 m.relation, .int .i64 m.weekday, .int .i64 m.style, .string m.king]] w fun e w' => e = .returned (.bool (okCl5 m)) ∧ Below w.heap.size w w' := by
  have hv : Hid (okCl5 m = (decide (m.number = 0) && decide (m.month = 0) && decide (m.feast = 0) && decide (m.relation = 0) && decide (m.style = 0) && decide (m.king.toList = []) && inB m.weekday 0 6)) := rfl
  generalize okCl5 m = V at hv ⊢
  rw [h0]
  go_enter Tryz.func25, Tryz.ntmps25
  go_wp2_with (first | (go_at_call 53; refine (within_any _ _ _ _).mono ?_; rintro e w' ⟨rfl, rfl⟩))
  all_goals go_ret
  all_goals refine ⟨ret_bool (by rw [hv.out]; clear hv; simp_all), ?_⟩
  all_goals first | (go_grown; done) | exact grow_done (by go_grown) hBs
set_option maxRecDepth 100000 in
set_option maxHeartbeats 2000000 in
theorem implClause_any (m : Cl) (w : World) (hk : m.king.size ≤ 9223372036854775807) :
    Calls Tryz.prog 25 #[.agg #[.int .i64 m.kind, .int .i64 m.number, .int .i64 m.month, .int .i64 m.feast, .int .i64 m.relation, .int .i64 m.weekday, .int .i64 m.style, .string m.king]] w fun e w' => e = .returned (.bool (okCl m)) ∧ Below w.heap.size w w' := by
  by_cases h0 : m.kind = 0
  · have e : okCl m = okCl0 m := by unfold okCl; rw [if_pos h0]
    rw [e]; exact implClause0 m w hk h0

  by_cases h1 : m.kind = 1
  · have e : okCl m = okCl1 m := by unfold okCl; rw [if_neg h0, if_pos h1]
    rw [e]; exact implClause1 m w hk h1
  by_cases h2 : m.kind = 2
  · have e : okCl m = okCl2 m := by unfold okCl; rw [if_neg h0, if_neg h1, if_pos h2]
    rw [e]; exact implClause2 m w hk h2
  by_cases h3 : m.kind = 3
  · have e : okCl m = okCl3 m := by unfold okCl; rw [if_neg h0, if_neg h1, if_neg h2, if_pos h3]
    rw [e]; exact implClause3 m w hk h3
  by_cases h4 : m.kind = 4
  · have e : okCl m = okCl4 m := by unfold okCl; rw [if_neg h0, if_neg h1, if_neg h2, if_neg h3, if_pos h4]
    rw [e]; exact implClause4 m w hk h4
  by_cases h5 : m.kind = 5
  · have e : okCl m = okCl5 m := by unfold okCl; rw [if_neg h0, if_neg h1, if_neg h2, if_neg h3, if_neg h4, if_pos h5]
    rw [e]; exact implClause5 m w hk h5
  have e : okCl m = false := by unfold okCl; rw [if_neg h0, if_neg h1, if_neg h2, if_neg h3, if_neg h4, if_neg h5]
  rw [e]
  have b0 : (m.kind == 0) = false := (by simpa using h0); have b1 : (m.kind == 1) = false := (by simpa using h1); have b2 : (m.kind == 2) = false := (by simpa using h2); have b3 : (m.kind == 3) = false := (by simpa using h3); have b4 : (m.kind == 4) = false := (by simpa using h4); have b5 : (m.kind == 5) = false := (by simpa using h5)
  clear e h0 h1 h2 h3 h4 h5
  go_enter Tryz.func25, Tryz.ntmps25
  go_wp2
  go_ret
  exact ⟨rfl, by go_grown⟩
end Go.Proofs.YteajkofgcmfaoaaGreatDoor
