/- Walk: markChancery. -/
import Derived.Test.YtjklileooiepmaaGreatDoorMRg
import Derived.Test.YtjklileooiepmaaGreatDoorRowI
import Derived.Test.YtjklileooiepmaaGreatDoorChan
namespace Go.Proofs.YtjklileooiepmaaGreatDoor
open Go.ChangeShapes Go.WideShapes Go.ChangeAt Go.RowKit

theorem own_keepOther {B : Nat} {E : TypeId} {k n g c x : Nat} {xs : List Value} {w w' : World} (h : w.ownsRow B E k (.slice (some ⟨g, 0, none⟩) n c) n xs) (hg : w.grownBy w' (some x)) (hne : g ≠ x) : w'.ownsRow B E k (.slice (some ⟨g, 0, none⟩) n c) n xs :=
  h.kept hg (.inr (by simp [Value.ownBlock]; exact hne))
theorem markChancery_any (B0 g0 cap0 n0 : Nat) (cells0 : List Value) (z1 z2 q : Int) (w : World) (h0 : w.ownsRow B0 72 3 (.slice (some ⟨g0, 0, none⟩) n0 cap0) n0 cells0) (hn0 : n0 ≤ 2097152) (hq0 : 0 ≤ q) (hq1 : q ≤ 1048576) :
    Calls Tryz.prog 13 #[.agg #[.slice (some ⟨g0, 0, none⟩) n0 cap0, .int .i64 z1, .int .i64 z2], .int .i64 q] w fun e w' =>
      e = .returned (.int .i64 (q + (n0 : Nat) * 3)) ∧ w.grownBy w' (some g0) := by
  have hB : Below w.heap.size w (w.alloc (.cells #[.slice (some ⟨g0, 0, none⟩) n0 cap0, .int .i64 z1, .int .i64 z2] 33)) := (Below.refl _ w).alloc (Nat.le_refl _) _
  have h0' := own_below h0 hB
  go_enter Tryz.func13, Tryz.ntmps13
  go_wp2_with fail
  refine (markReignS_any _ _ _ _ _ q _ h0' hn0 hq0 (by omega)).mono ?_
  rintro e w1 ⟨rfl, _, hG⟩
  have hG : World.grownBy _ w1 (some g0) := hG
  have hG0 : w.grownBy w1 (some g0) := gT ⟨hB.os, hB.tape, hB.output, hB.size, fun j hj _ => hB.block j hj⟩ hG
  clear hG hB h0'
  go_wp2
  go_ret
  exact ⟨rfl, hG0⟩
end Go.Proofs.YtjklileooiepmaaGreatDoor
