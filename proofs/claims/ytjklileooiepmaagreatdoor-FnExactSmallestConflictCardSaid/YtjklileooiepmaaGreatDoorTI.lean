/- Walks: lists of int64: rows, sizes, copies, a comparison with itself. Printed by gen_one.py. -/
import Derived.Test.YtjklileooiepmaaGreatDoorDays
namespace Go.Proofs.YtjklileooiepmaaGreatDoor
open Go.ChangeShapes Go.WideShapes Go.ChangeAt Go.RowKit

def encI (m : Int) : List Value := [.int .i64 m]
theorem encI_len (m : Int) : (encI m).length = 1 := rfl
def goodI (m : Int) : Prop := (-9223372036854775808 ≤ m ∧ m ≤ 9223372036854775807)
theorem Rd.i {w : World} {a : Option Addr} {xs : List Int} (h : Rd encI w a xs) {i : Nat} {m : Int} (hi : xs[i]? = some m) :
    ∃ b off, a = some ⟨b, off, none⟩ ∧ b < w.heap.size ∧ w.cell? ⟨b, off + i, none⟩ = some (.int .i64 m) := by
  obtain ⟨b, off, ha, hb, hc⟩ := h i m hi
  have h0 := hc 0 _ rfl
  rw [encI_len, Nat.mul_one, Nat.add_zero] at h0
  exact ⟨b, off, ha, hb, h0⟩

set_option maxHeartbeats 400000 in
theorem eqInt64S_self (a b : Option Addr) (ca cb : Nat) (xs : List Int) (w : World) (hl : xs.length ≤ 2097152) (hx : Rd encI w a xs) (hy : Rd encI w b xs) :
    Calls Tryz.prog 10 #[.slice a xs.length ca, .slice b xs.length cb] w fun e w' =>
      e = .returned (.bool true) ∧ Below w.heap.size w w' := by
  have hne : (((xs.length : Nat) : Int) != (xs.length : Nat)) = false := by simp
  go_enter Tryz.func10, Tryz.ntmps10
  go_wp2
  go_loopw [5] (fun i wr => ∃ (k : Nat), k ≤ xs.length ∧ i = .int .i64 k ∧ Below w.heap.size w wr) (fun i _ => xs.length - (intOf i).toNat)
  case atStart => exact ⟨0, Nat.zero_le _, rfl, Below.refl _ _⟩
  case round =>
    obtain ⟨k, hk, rfl, hB⟩ := hrel
    by_cases hlt : k < xs.length
    · have hm := List.getElem?_eq_getElem hlt
      generalize xs[k] = m at hm
      obtain ⟨b, off, rfl, hb, c0⟩ := (hx.below hB).i hm
      obtain ⟨b', off', rfl, hb', d0⟩ := (hy.below hB).i hm
      have C0 := Later.cell c0 hb
      have D0 := Later.cell d0 hb'
      have hk1 : (k : Int) < (xs.length : Int) := by omega
      clear hm c0 d0
      go_wp2_with fail
      refine wp_region_later wr (by kernel_rfl) (by kernel_rfl) ?_
      repeat (go_big_quiet_step (fail))
      refine wpQuiet_nil ?_
      intro z
      have hz := z.prop
      generalize z.val = w2 at hz
      clear C0 D0
      try simp only [beq_self_eq_true, bne_self_eq_false, Bool.not_true]
      go_wp2
      go_roundw
      case rel => exact ⟨k + 1, by omega, by go_num, stepB hB hz hB.size⟩
      case measure => simp [intOf]; omega
    · go_wp2
      go_ret
      exact ⟨rfl, hB⟩
end Go.Proofs.YtjklileooiepmaaGreatDoor
