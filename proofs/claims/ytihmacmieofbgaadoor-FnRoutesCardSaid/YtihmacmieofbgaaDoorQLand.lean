/- Walk: markLand. -/
import Derived.Test.YtihmacmieofbgaaDoorMWy
import Derived.Test.YtihmacmieofbgaaDoorMS
import Derived.Test.YtihmacmieofbgaaDoorRowI
import Derived.Test.YtihmacmieofbgaaDoorCLand
namespace Go.Proofs.YtihmacmieofbgaaDoor
open Go.ChangeShapes Go.WideShapes Go.ChangeAt Go.RowKit

theorem own_keepOther {B : Nat} {E : TypeId} {k n g c x : Nat} {xs : List Value} {w w' : World} (h : w.ownsRow B E k (.slice (some ⟨g, 0, none⟩) n c) n xs) (hg : w.grownBy w' (some x)) (hne : g ≠ x) : w'.ownsRow B E k (.slice (some ⟨g, 0, none⟩) n c) n xs :=
  h.kept hg (.inr (by simp [Value.ownBlock]; exact hne))
set_option maxHeartbeats 1000000 in
theorem markLand_any (B0 B1 g0 g1 cap0 cap1 n0 n1 : Nat) (cells0 cells1 : List Value) (q : Int) (w : World) (h0 : w.ownsRow B0 9 1 (.slice (some ⟨g0, 0, none⟩) n0 cap0) n0 cells0) (h1 : w.ownsRow B1 42 3 (.slice (some ⟨g1, 0, none⟩) n1 cap1) n1 cells1) (hn0 : n0 ≤ 2097152) (hn1 : n1 ≤ 2097152) (hq0 : 0 ≤ q) (hq1 : q ≤ 1048576) :
    Calls Tryd.prog 34 #[.agg #[.slice (some ⟨g0, 0, none⟩) n0 cap0, .slice (some ⟨g1, 0, none⟩) n1 cap1], .int .i64 q] w fun e w' =>
      e = .returned (.int .i64 (q + (n0 : Nat) + (n1 : Nat) * 3)) ∧ ∃ wm, w.grownBy wm (some g0) ∧ wm.grownBy w' (some g1) := by
  have hne : g0 ≠ g1 := own_apart h0 h1 (by decide)
  have hl0 := own_lt h0
  have hl1 := own_lt h1
  have hB : Below w.heap.size w (w.alloc (.cells #[.slice (some ⟨g0, 0, none⟩) n0 cap0, .slice (some ⟨g1, 0, none⟩) n1 cap1] 27)) := (Below.refl _ w).alloc (Nat.le_refl _) _
  have hs : (w.alloc (.cells #[.slice (some ⟨g0, 0, none⟩) n0 cap0, .slice (some ⟨g1, 0, none⟩) n1 cap1] 27)).heap.size = w.heap.size + 1 := by simp
  have h0' := own_below h0 hB
  have h1' := own_below h1 hB
  have c1 : (w.alloc (.cells #[.slice (some ⟨g0, 0, none⟩) n0 cap0, .slice (some ⟨g1, 0, none⟩) n1 cap1] 27)).cell? ⟨w.heap.size, 1, none⟩ = some (.slice (some ⟨g1, 0, none⟩) n1 cap1) := World.cell?_alloc_at _ _ _ _ rfl
  go_enter Tryd.func34, Tryd.ntmps34
  go_wp2_with fail
  refine (markStringS_any _ _ _ _ _ q _ h0' hn0 hq0 (by omega)).mono ?_
  rintro e w1 ⟨rfl, _, hG⟩
  have hG : World.grownBy _ w1 (some g0) := hG
  have h1 := own_keepOther h1' hG (fun e => hne e.symm)
  have c1' := (gcell hG (p := ⟨w.heap.size, 1, none⟩) (by rw [hs]; simp) (fun g e => by cases e; simp; omega)).trans c1
  have hG0 : w.grownBy w1 (some g0) := gT ⟨hB.os, hB.tape, hB.output, hB.size, fun j hj _ => hB.block j hj⟩ hG
  clear hG c1 hB hs h0' h1'
  go_wp2_with fail
  refine (markWayS_any _ _ _ _ _ (q + (n0 : Nat)) _ h1 hn1 (by omega) (by omega)).mono ?_
  rintro e w2 ⟨rfl, _, hG⟩
  go_wp2
  go_ret
  exact ⟨rfl, w1, hG0, hG⟩
end Go.Proofs.YtihmacmieofbgaaDoor
