/- Walk: IsClause of the reference. Printed by gen_clause2.py. -/
import Derived.Test.YteajkofgcmfaoaaGreatDoorClause
namespace Go.Proofs.YteajkofgcmfaoaaGreatDoor
open Go.ChangeShapes Go.WideShapes Go.ChangeAt Go.RowKit

def okCl0 (m : Cl) : Bool := decide (m.feast = 0) && decide (m.relation = 0) && decide (m.weekday = 0) && decide (m.style = 0) && decide (m.king.toList = []) && dateB m.month m.number
def okCl1 (m : Cl) : Bool := decide (m.number = 0) && decide (m.month = 0) && decide (m.style = 0) && decide (m.king.toList = []) && (inB m.feast 0 19 && relB m.relation m.weekday)
def okCl2 (m : Cl) : Bool := decide (m.month = 0) && decide (m.feast = 0) && decide (m.relation = 0) && decide (m.weekday = 0) && decide (m.style = 0) && (inB m.number 1 99 && nameB m.king.data.toList 12)
def okCl3 (m : Cl) : Bool := decide (m.month = 0) && decide (m.feast = 0) && decide (m.relation = 0) && decide (m.weekday = 0) && decide (m.king.toList = []) && (inB m.number 2 1999 && inB m.style 0 6)
def okCl4 (m : Cl) : Bool := decide (m.month = 0) && decide (m.feast = 0) && decide (m.relation = 0) && decide (m.weekday = 0) && decide (m.king.toList = []) && (inB m.number 1 15 && inB m.style 0 2)
def okCl5 (m : Cl) : Bool := decide (m.number = 0) && decide (m.month = 0) && decide (m.feast = 0) && decide (m.relation = 0) && decide (m.style = 0) && decide (m.king.toList = []) && inB m.weekday 0 6
def okCl (m : Cl) : Bool := if m.kind = 0 then okCl0 m else if m.kind = 1 then okCl1 m else if m.kind = 2 then okCl2 m else if m.kind = 3 then okCl3 m else if m.kind = 4 then okCl4 m else if m.kind = 5 then okCl5 m else false
theorem grow_done {w W w' : World} (h : Below w.heap.size w W) (k : Below W.heap.size W w') : Below w.heap.size w w' := stepB h k h.size
set_option maxRecDepth 100000 in
set_option maxHeartbeats 2000000 in
theorem specClause0 (m : Cl) (w : World) (_hk : m.king.size ≤ 9223372036854775807) (h0 : m.kind = 0) :
    Calls Tryz.prog 45 #[.agg #[.int .i64 m.kind, .int .i64 m.number, .int .i64 m.month, .int .i64 m.feast, .int .i64 m.relation, .int .i64 m.weekday, .int .i64 m.style, .string m.king]] w fun e w' => e = .returned (.bool (okCl0 m)) ∧ Below w.heap.size w w' := by
  have hv : Hid (okCl0 m = (decide (m.feast = 0) && decide (m.relation = 0) && decide (m.weekday = 0) && decide (m.style = 0) && decide (m.king.toList = []) && dateB m.month m.number)) := rfl
  generalize okCl0 m = V at hv ⊢
  rw [h0]
  go_enter Tryz.func45, Tryz.ntmps45
  go_wp2_with (first | (go_at_call 99; refine (specIsOldDate4_any _ _ _).mono ?_; rintro e w' ⟨rfl, hBs⟩))
  all_goals go_ret
  all_goals refine ⟨ret_bool (by rw [hv.out]; clear hv; simp_all), ?_⟩
  all_goals first | (go_grown; done) | exact grow_done (by go_grown) hBs
set_option maxRecDepth 100000 in
set_option maxHeartbeats 2000000 in
theorem specClause1 (m : Cl) (w : World) (_hk : m.king.size ≤ 9223372036854775807) (h0 : m.kind = 1) :
    Calls Tryz.prog 45 #[.agg #[.int .i64 m.kind, .int .i64 m.number, .int .i64 m.month, .int .i64 m.feast, .int .i64 m.relation, .int .i64 m.weekday, .int .i64 m.style, .string m.king]] w fun e w' => e = .returned (.bool (okCl1 m)) ∧ Below w.heap.size w w' := by
  have hv : Hid (okCl1 m = (decide (m.number = 0) && decide (m.month = 0) && decide (m.style = 0) && decide (m.king.toList = []) && (inB m.feast 0 19 && relB m.relation m.weekday))) := rfl
  generalize okCl1 m = V at hv ⊢
  rw [h0]
  go_enter Tryz.func45, Tryz.ntmps45
  go_wp2_with (first | (go_at_call 100; refine (l05Feast_any _ _).mono ?_; rintro e w' ⟨rfl, rfl⟩) | (go_at_call 101; refine (l05Relation_any _ _ _).mono ?_; rintro e w' ⟨rfl, rfl⟩))
  all_goals go_ret
  all_goals refine ⟨ret_bool (by rw [hv.out]; clear hv; simp_all), ?_⟩
  all_goals first | (go_grown; done) | exact grow_done (by go_grown) hBs
set_option maxRecDepth 100000 in
set_option maxHeartbeats 2000000 in
theorem specClause2 (m : Cl) (w : World) (hk : m.king.size ≤ 9223372036854775807) (h0 : m.kind = 2) :
    Calls Tryz.prog 45 #[.agg #[.int .i64 m.kind, .int .i64 m.number, .int .i64 m.month, .int .i64 m.feast, .int .i64 m.relation, .int .i64 m.weekday, .int .i64 m.style, .string m.king]] w fun e w' => e = .returned (.bool (okCl2 m)) ∧ Below w.heap.size w w' := by
  have hv : Hid (okCl2 m = (decide (m.month = 0) && decide (m.feast = 0) && decide (m.relation = 0) && decide (m.weekday = 0) && decide (m.style = 0) && (inB m.number 1 99 && nameB m.king.data.toList 12))) := rfl
  generalize okCl2 m = V at hv ⊢
  rw [h0]
  go_enter Tryz.func45, Tryz.ntmps45
  go_wp2_with (first | (go_at_call 55; refine (l01In_any _ _ _ _).mono ?_; rintro e w' ⟨rfl, rfl⟩) | (go_at_call 102; refine (l01Name_any _ _ _ hk).mono ?_; rintro e w' ⟨rfl, hBs⟩))
  all_goals go_ret
  all_goals refine ⟨ret_bool (by rw [hv.out]; clear hv; simp_all), ?_⟩
  all_goals first | (go_grown; done) | exact grow_done (by go_grown) hBs
set_option maxRecDepth 100000 in
set_option maxHeartbeats 2000000 in
theorem specClause3 (m : Cl) (w : World) (_hk : m.king.size ≤ 9223372036854775807) (h0 : m.kind = 3) :
    Calls Tryz.prog 45 #[.agg #[.int .i64 m.kind, .int .i64 m.number, .int .i64 m.month, .int .i64 m.feast, .int .i64 m.relation, .int .i64 m.weekday, .int .i64 m.style, .string m.king]] w fun e w' => e = .returned (.bool (okCl3 m)) ∧ Below w.heap.size w w' := by
  have hv : Hid (okCl3 m = (decide (m.month = 0) && decide (m.feast = 0) && decide (m.relation = 0) && decide (m.weekday = 0) && decide (m.king.toList = []) && (inB m.number 2 1999 && inB m.style 0 6))) := rfl
  generalize okCl3 m = V at hv ⊢
  rw [h0]
  go_enter Tryz.func45, Tryz.ntmps45
  go_wp2_with (first | (go_at_call 103; refine (l06Year_any _ _).mono ?_; rintro e w' ⟨rfl, rfl⟩) | (go_at_call 104; refine (l06Style_any _ _).mono ?_; rintro e w' ⟨rfl, rfl⟩))
  all_goals go_ret
  all_goals refine ⟨ret_bool (by rw [hv.out]; clear hv; simp_all), ?_⟩
  all_goals first | (go_grown; done) | exact grow_done (by go_grown) hBs
set_option maxRecDepth 100000 in
set_option maxHeartbeats 2000000 in
theorem specClause4 (m : Cl) (w : World) (_hk : m.king.size ≤ 9223372036854775807) (h0 : m.kind = 4) :
    Calls Tryz.prog 45 #[.agg #[.int .i64 m.kind, .int .i64 m.number, .int .i64 m.month, .int .i64 m.feast, .int .i64 m.relation, .int .i64 m.weekday, .int .i64 m.style, .string m.king]] w fun e w' => e = .returned (.bool (okCl4 m)) ∧ Below w.heap.size w w' := by
  have hv : Hid (okCl4 m = (decide (m.month = 0) && decide (m.feast = 0) && decide (m.relation = 0) && decide (m.weekday = 0) && decide (m.king.toList = []) && (inB m.number 1 15 && inB m.style 0 2))) := rfl
  generalize okCl4 m = V at hv ⊢
  rw [h0]
  go_enter Tryz.func45, Tryz.ntmps45
  go_wp2_with (first | (go_at_call 55; refine (l01In_any _ _ _ _).mono ?_; rintro e w' ⟨rfl, rfl⟩) | (go_at_call 105; refine (l08Kind_any _ _).mono ?_; rintro e w' ⟨rfl, rfl⟩))
  all_goals go_ret
  all_goals refine ⟨ret_bool (by rw [hv.out]; clear hv; simp_all), ?_⟩
  all_goals first | (go_grown; done) | exact grow_done (by go_grown) hBs
set_option maxRecDepth 100000 in
set_option maxHeartbeats 2000000 in
theorem specClause5 (m : Cl) (w : World) (_hk : m.king.size ≤ 9223372036854775807) (h0 : m.kind = 5) :
    Calls Tryz.prog 45 #[.agg #[.int .i64 m.kind, .int .i64 m.number, .int .i64 m.month, .int .i64 m.feast, .int .i64 m.relation, .int .i64 m.weekday, .int .i64 m.style, .string m.king]] w fun e w' => e = .returned (.bool (okCl5 m)) ∧ Below w.heap.size w w' := by
  have hv : Hid (okCl5 m = (decide (m.number = 0) && decide (m.month = 0) && decide (m.feast = 0) && decide (m.relation = 0) && decide (m.style = 0) && decide (m.king.toList = []) && inB m.weekday 0 6)) := rfl
  generalize okCl5 m = V at hv ⊢
  rw [h0]
  go_enter Tryz.func45, Tryz.ntmps45
  go_wp2_with (first | (go_at_call 55; refine (l01In_any _ _ _ _).mono ?_; rintro e w' ⟨rfl, rfl⟩))
  all_goals go_ret
  all_goals refine ⟨ret_bool (by rw [hv.out]; clear hv; simp_all), ?_⟩
  all_goals first | (go_grown; done) | exact grow_done (by go_grown) hBs
set_option maxRecDepth 100000 in
set_option maxHeartbeats 2000000 in
theorem specClause_any (m : Cl) (w : World) (hk : m.king.size ≤ 9223372036854775807) :
    Calls Tryz.prog 45 #[.agg #[.int .i64 m.kind, .int .i64 m.number, .int .i64 m.month, .int .i64 m.feast, .int .i64 m.relation, .int .i64 m.weekday, .int .i64 m.style, .string m.king]] w fun e w' => e = .returned (.bool (okCl m)) ∧ Below w.heap.size w w' := by
  by_cases h0 : m.kind = 0
  · have e : okCl m = okCl0 m := by unfold okCl; rw [if_pos h0]
    rw [e]; exact specClause0 m w hk h0

  by_cases h1 : m.kind = 1
  · have e : okCl m = okCl1 m := by unfold okCl; rw [if_neg h0, if_pos h1]
    rw [e]; exact specClause1 m w hk h1
  by_cases h2 : m.kind = 2
  · have e : okCl m = okCl2 m := by unfold okCl; rw [if_neg h0, if_neg h1, if_pos h2]
    rw [e]; exact specClause2 m w hk h2
  by_cases h3 : m.kind = 3
  · have e : okCl m = okCl3 m := by unfold okCl; rw [if_neg h0, if_neg h1, if_neg h2, if_pos h3]
    rw [e]; exact specClause3 m w hk h3
  by_cases h4 : m.kind = 4
  · have e : okCl m = okCl4 m := by unfold okCl; rw [if_neg h0, if_neg h1, if_neg h2, if_neg h3, if_pos h4]
    rw [e]; exact specClause4 m w hk h4
  by_cases h5 : m.kind = 5
  · have e : okCl m = okCl5 m := by unfold okCl; rw [if_neg h0, if_neg h1, if_neg h2, if_neg h3, if_neg h4, if_pos h5]
    rw [e]; exact specClause5 m w hk h5
  have e : okCl m = false := by unfold okCl; rw [if_neg h0, if_neg h1, if_neg h2, if_neg h3, if_neg h4, if_neg h5]
  rw [e]
  have b0 : (m.kind == 0) = false := (by simpa using h0); have b1 : (m.kind == 1) = false := (by simpa using h1); have b2 : (m.kind == 2) = false := (by simpa using h2); have b3 : (m.kind == 3) = false := (by simpa using h3); have b4 : (m.kind == 4) = false := (by simpa using h4); have b5 : (m.kind == 5) = false := (by simpa using h5)
  clear e h0 h1 h2 h3 h4 h5
  go_enter Tryz.func45, Tryz.ntmps45
  go_wp2
  go_ret
  exact ⟨rfl, by go_grown⟩
end Go.Proofs.YteajkofgcmfaoaaGreatDoor
