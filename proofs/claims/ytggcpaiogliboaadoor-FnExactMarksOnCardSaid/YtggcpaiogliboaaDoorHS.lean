import Derived.Test.YtggcpaiogliboaaDoorKS
import Derived.Test.YtggcpaiogliboaaDoorMarkText
namespace Go.Proofs.YtggcpaiogliboaaDoor
open Go.ChangeShapes Go.WideShapes Go.ChangeAt Go.RowKit


set_option maxRecDepth 100000 in
set_option maxHeartbeats 1000000 in
theorem heldStringS_any (a : Option Addr) (cap n : Nat) (q : Int) (w : World) (hx : Rd encS w a (markedS n q)) (hn : n ≤ 2097152) (h0 : 0 ≤ q) (h1 : q ≤ 16777216) :
    Calls Tryd.prog 23 #[.slice a n cap, .int .i64 q] w fun e w' => e = .returned (.int .i64 (q + (n : Nat))) ∧ Below w.heap.size w w' := by
  go_enter Tryd.func23, Tryd.ntmps23
  go_wp2
  go_loopw [1, 5] (fun z i wr => ∃ (k : Nat), k ≤ n ∧ i = .int .i64 k ∧ z = .int .i64 (q + (k : Nat)) ∧ Below w.heap.size w wr) (fun _ i _ => n - (intOf i).toNat)
  case atStart => exact ⟨0, Nat.zero_le _, rfl, by simp, Below.refl _ _⟩
  case round =>
    obtain ⟨k, hk, rfl, rfl, hB⟩ := hrel
    by_cases hlt : k < n
    · obtain ⟨b, off, rfl, hb, c0⟩ := (hx.below hB).s (markedS_at q hlt)
      simp only [mkS] at c0
      have hk1 : (k : Int) < (n : Int) := by omega
      have hk2 : (k : Int) < ((markedS n q).length : Int) := by rw [markedS_len]; exact hk1
      have hq1 : q + (k : Nat) ≤ 16777216 + 2097152 * 1 := by omega
      clear hx hlt
      go_wp2_with fail
      have C0 := Later.cell c0 hb
      refine wp_region_later wr (by kernel_rfl) (by kernel_rfl) ?_
      repeat (go_big_quiet_step ((go_at_call 74; exact Later.call (Nat.le_refl _) (markText_any _ _ (by omega)))))
      refine wpQuiet_nil ?_
      intro z
      have hz := z.prop
      generalize z.val = w0 at hz
      clear C0
      have hB := hB.trans (hz.mono hB.size)
      have HB := Lib.hid hB
      clear hB
      go_wp2
      go_roundw
      case rel => exact ⟨k + 1, by omega, by go_num, by congr 1; simp; omega, HB.out⟩
      case measure => simp [intOf]; omega
    · obtain rfl : k = n := by omega
      go_wp2
      go_ret
      exact ⟨rfl, hB⟩
end Go.Proofs.YtggcpaiogliboaaDoor
