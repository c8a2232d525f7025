import Derived.Test.YtmjbigeeokofeaaDoorMMk
import Derived.Test.YtmjbigeeokofeaaDoorMarkText
namespace Go.Proofs.YtmjbigeeokofeaaDoor
open Go.ChangeShapes Go.WideShapes Go.ChangeAt Go.RowKit


set_option maxRecDepth 100000 in
set_option maxHeartbeats 1000000 in
theorem heldMarkS_any (a : Option Addr) (cap n : Nat) (q : Int) (w : World) (hx : Rd encMk w a (markedMk n q)) (hn : n ≤ 2097152) (h0 : 0 ≤ q) (h1 : q ≤ 16777216) :
    Calls Tryd.prog 24 #[.slice a n cap, .int .i64 q] w fun e w' => e = .returned (.int .i64 (q + (n : Nat) * 3)) ∧ Below w.heap.size w w' := by
  go_enter Tryd.func24, Tryd.ntmps24
  go_wp2
  go_loopw [1, 5] (fun z i wr => ∃ (k : Nat), k ≤ n ∧ i = .int .i64 k ∧ z = .int .i64 (q + (k : Nat) * 3) ∧ Below w.heap.size w wr) (fun _ i _ => n - (intOf i).toNat)
  case atStart => exact ⟨0, Nat.zero_le _, rfl, by simp, Below.refl _ _⟩
  case round =>
    obtain ⟨k, hk, rfl, rfl, hB⟩ := hrel
    by_cases hlt : k < n
    · obtain ⟨b, off, rfl, hb, c0, c1, c2⟩ := (hx.below hB).mk (markedMk_at q hlt)
      simp only [mkMk] at c0 c1 c2
      have hk1 : (k : Int) < (n : Int) := by omega
      have hk2 : (k : Int) < ((markedMk n q).length : Int) := by rw [markedMk_len]; exact hk1
      have hq1 : q + (k : Nat) * 3 ≤ 16777216 + 2097152 * 3 := by omega
      clear hx hlt
      go_wp2_with fail
      have C0 := Later.cell c0 hb
      refine wp_region_later wr (by kernel_rfl) (by kernel_rfl) ?_
      repeat (go_big_quiet_step ((go_at_call 60; exact Later.call (Nat.le_refl _) (markText_any _ _ (by omega)))))
      refine wpQuiet_nil ?_
      intro z
      have hz := z.prop
      generalize z.val = w0 at hz
      clear C0
      have hB := hB.trans (hz.mono hB.size)
      have c1 := ((bcell hz).1 _ _ hb).trans c1
      have c2 := ((bcell hz).1 _ _ hb).trans c2
      have hb := Nat.lt_of_lt_of_le hb hz.size
      have HB := Lib.hid hB
      clear hB
      go_wp2
      go_roundw
      case rel => exact ⟨k + 1, by omega, by go_num, by congr 1; simp; omega, HB.out⟩
      case measure => simp [intOf]; omega
    · obtain rfl : k = n := by omega
      go_wp2
      go_ret
      exact ⟨rfl, hB⟩
end Go.Proofs.YtmjbigeeokofeaaDoor
