/- Walks: a stay: its place and its days. -/
import Derived.Test.YtihmacmieofbgaaGreatDoorTSt
import Derived.Test.YtihmacmieofbgaaGreatDoorTrDays
namespace Go.Proofs.YtihmacmieofbgaaGreatDoor
open Go.ChangeShapes Go.WideShapes Go.ChangeAt Go.RowKit

def okSt (n : Nat) (m : St) : Bool := placeB n m.place && spanB m.fr m.to
set_option maxHeartbeats 1000000 in
theorem isStay_any (a0 a1 : Option Addr) (cap0 cap1 n0 n1 : Nat) (m : St) (w : World) (hl : n0 ≤ 1048576) :
    Calls Tryz.prog 94 #[.agg #[.slice a0 n0 cap0, .slice a1 n1 cap1], .agg #[.int .i64 m.place, .int .i64 m.fr, .int .i64 m.to]] w fun e w' => e = .returned (.bool (okSt n0 m)) ∧ Below w.heap.size w w' := by
  have hok : Hid (okSt n0 m = (placeB n0 m.place && spanB m.fr m.to)) := rfl
  go_enter Tryz.func94, Tryz.ntmps94
  go_upto_region 1 with (fail)
  generalize hW : (w.alloc (.cells #[.slice a0 n0 cap0, .slice a1 n1 cap1] 33)).alloc (.cells #[.int .i64 m.place, .int .i64 m.fr, .int .i64 m.to] 65) = W
  have hB : Below w.heap.size w W := by rw [← hW]; go_grown
  have hs : W.heap.size = w.heap.size + 2 := by rw [← hW]; simp
  have l0 : W.cell? ⟨w.heap.size, 0, none⟩ = some (.slice a0 n0 cap0) := by rw [← hW, World.cell?_alloc_past _ _ _ (by simp)]; exact World.cell?_alloc_at _ _ _ _ rfl
  have l1 : W.cell? ⟨w.heap.size, 1, none⟩ = some (.slice a1 n1 cap1) := by rw [← hW, World.cell?_alloc_past _ _ _ (by simp)]; exact World.cell?_alloc_at _ _ _ _ rfl
  have d0 : W.cell? ⟨w.heap.size + 1, 0, none⟩ = some (.int .i64 m.place) := by rw [← hW]; exact World.cell?_alloc_at _ _ _ _ (by simp)
  have d1 : W.cell? ⟨w.heap.size + 1, 1, none⟩ = some (.int .i64 m.fr) := by rw [← hW]; exact World.cell?_alloc_at _ _ _ _ (by simp)
  have d2 : W.cell? ⟨w.heap.size + 1, 2, none⟩ = some (.int .i64 m.to) := by rw [← hW]; exact World.cell?_alloc_at _ _ _ _ (by simp)
  clear hW
  go_wp2_with fail
  refine (isPlace_any _ _ _ _ _ _ _ _ hl).mono ?_
  rintro e w1 ⟨rfl, hB1⟩
  have d1 := (hB1.cell (p := ⟨w.heap.size + 1, 1, none⟩) (by simp; omega)).trans d1
  have d2 := (hB1.cell (p := ⟨w.heap.size + 1, 2, none⟩) (by simp; omega)).trans d2
  have hB := stepB hB hB1 hB.size
  clear l0 l1 d0 hB1 hs
  go_wp2_with (go_at_call 54; refine (isDay_any _ _).mono ?_; rintro e w' ⟨rfl, rfl⟩)
  all_goals go_ret
  all_goals exact ⟨ret_bool (by rw [hok.out]; unfold spanB; simp [*]), hB⟩

set_option maxHeartbeats 1000000 in
theorem l15Stay_any (a0 a1 : Option Addr) (cap0 cap1 n0 n1 : Nat) (m : St) (w : World) (hl : n0 ≤ 1048576) :
    Calls Tryz.prog 76 #[.agg #[.slice a0 n0 cap0, .slice a1 n1 cap1], .agg #[.int .i64 m.place, .int .i64 m.fr, .int .i64 m.to]] w fun e w' => e = .returned (.bool (okSt n0 m)) ∧ Below w.heap.size w w' := by
  have hok : Hid (okSt n0 m = (placeB n0 m.place && spanB m.fr m.to)) := rfl
  go_enter Tryz.func76, Tryz.ntmps76
  go_upto_region 1 with (fail)
  generalize hW : (w.alloc (.cells #[.slice a0 n0 cap0, .slice a1 n1 cap1] 33)).alloc (.cells #[.int .i64 m.place, .int .i64 m.fr, .int .i64 m.to] 65) = W
  have hB : Below w.heap.size w W := by rw [← hW]; go_grown
  have hs : W.heap.size = w.heap.size + 2 := by rw [← hW]; simp
  have l0 : W.cell? ⟨w.heap.size, 0, none⟩ = some (.slice a0 n0 cap0) := by rw [← hW, World.cell?_alloc_past _ _ _ (by simp)]; exact World.cell?_alloc_at _ _ _ _ rfl
  have l1 : W.cell? ⟨w.heap.size, 1, none⟩ = some (.slice a1 n1 cap1) := by rw [← hW, World.cell?_alloc_past _ _ _ (by simp)]; exact World.cell?_alloc_at _ _ _ _ rfl
  have d0 : W.cell? ⟨w.heap.size + 1, 0, none⟩ = some (.int .i64 m.place) := by rw [← hW]; exact World.cell?_alloc_at _ _ _ _ (by simp)
  have d1 : W.cell? ⟨w.heap.size + 1, 1, none⟩ = some (.int .i64 m.fr) := by rw [← hW]; exact World.cell?_alloc_at _ _ _ _ (by simp)
  have d2 : W.cell? ⟨w.heap.size + 1, 2, none⟩ = some (.int .i64 m.to) := by rw [← hW]; exact World.cell?_alloc_at _ _ _ _ (by simp)
  clear hW
  go_wp2_with fail
  refine (l14Place_any _ _ _ _ _ _ _ _ hl).mono ?_
  rintro e w1 ⟨rfl, hB1⟩
  have d1 := (hB1.cell (p := ⟨w.heap.size + 1, 1, none⟩) (by simp; omega)).trans d1
  have d2 := (hB1.cell (p := ⟨w.heap.size + 1, 2, none⟩) (by simp; omega)).trans d2
  have hB := stepB hB hB1 hB.size
  clear l0 l1 d0 hB1 hs
  go_wp2_with (go_at_call 89; refine (l13Span_any _ _ _).mono ?_; rintro e w' ⟨rfl, hBs⟩)
  all_goals go_ret
  · exact ⟨ret_bool (by rw [hok.out]; simp [*]), stepB hB hBs hB.size⟩
  · exact ⟨ret_bool (by rw [hok.out]; simp [*]), hB⟩
end Go.Proofs.YtihmacmieofbgaaGreatDoor
