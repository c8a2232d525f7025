import Derived.Test.YtipdcgfdejmjfaaDoorMSt
import Derived.Test.YtipdcgfdejmjfaaDoorMarkText
namespace Go.Proofs.YtipdcgfdejmjfaaDoor
open Go.ChangeShapes Go.WideShapes Go.ChangeAt Go.RowKit


set_option maxRecDepth 100000 in
set_option maxHeartbeats 1000000 in
theorem heldStayS_any (a : Option Addr) (cap n : Nat) (q : Int) (w : World) (hx : Rd encSt w a (markedSt n q)) (hn : n ≤ 2097152) (h0 : 0 ≤ q) (h1 : q ≤ 16777216) :
    Calls Tryd.prog 16 #[.slice a n cap, .int .i64 q] w fun e w' => e = .returned (.int .i64 (q + (n : Nat) * 3)) ∧ Below w.heap.size w w' := by
  go_enter Tryd.func16, Tryd.ntmps16
  go_wp2
  go_loopw [1, 5] (fun z i wr => ∃ (k : Nat), k ≤ n ∧ i = .int .i64 k ∧ z = .int .i64 (q + (k : Nat) * 3) ∧ Below w.heap.size w wr) (fun _ i _ => n - (intOf i).toNat)
  case atStart => exact ⟨0, Nat.zero_le _, rfl, by simp, Below.refl _ _⟩
  case round =>
    obtain ⟨k, hk, rfl, rfl, hB⟩ := hrel
    by_cases hlt : k < n
    · obtain ⟨b, off, rfl, hb, c0, c1, c2⟩ := (hx.below hB).st (markedSt_at q hlt)
      simp only [mkSt] at c0 c1 c2
      have hk1 : (k : Int) < (n : Int) := by omega
      have hk2 : (k : Int) < ((markedSt n q).length : Int) := by rw [markedSt_len]; exact hk1
      have hq1 : q + (k : Nat) * 3 ≤ 16777216 + 2097152 * 3 := by omega
      clear hx hlt
      have HB := Lib.hid hB
      clear hB
      go_wp2
      go_roundw
      case rel => exact ⟨k + 1, by omega, by go_num, by congr 1; simp; omega, HB.out⟩
      case measure => simp [intOf]; omega
    · obtain rfl : k = n := by omega
      go_wp2
      go_ret
      exact ⟨rfl, hB⟩
end Go.Proofs.YtipdcgfdejmjfaaDoor
