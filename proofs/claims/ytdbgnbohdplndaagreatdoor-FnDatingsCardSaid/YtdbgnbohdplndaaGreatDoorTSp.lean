/- Walks: Span: rows, sizes, copies, a comparison with itself. Printed by gen_types.py. -/
import Derived.Test.YtdbgnbohdplndaaGreatDoorDays
namespace Go.Proofs.YtdbgnbohdplndaaGreatDoor
open Go.ChangeShapes Go.WideShapes Go.ChangeAt Go.RowKit

structure Sp where
  fr : Int
  to : Int
def encSp (m : Sp) : List Value := [.int .i64 m.fr, .int .i64 m.to]
theorem encSp_len (m : Sp) : (encSp m).length = 2 := rfl
theorem Rd.sp {w : World} {a : Option Addr} {xs : List Sp} (h : Rd encSp w a xs) {i : Nat} {m : Sp} (hi : xs[i]? = some m) :
    ∃ b off, a = some ⟨b, off, none⟩ ∧ b < w.heap.size ∧ w.cell? ⟨b, off + i * 2, none⟩ = some (.int .i64 m.fr) ∧ w.cell? ⟨b, off + i * 2 + 1, none⟩ = some (.int .i64 m.to) := by
  obtain ⟨b, off, ha, hb, hc⟩ := h i m hi
  exact ⟨b, off, ha, hb, hc 0 _ rfl, hc 1 _ rfl⟩
def goodSp (m : Sp) : Prop := (-9223372036854775808 ≤ m.fr ∧ m.fr ≤ 9223372036854775807) ∧ (-9223372036854775808 ≤ m.to ∧ m.to ≤ 9223372036854775807)



















theorem eqSpan_self (m : Sp) (w : World) :
    Calls Tryz.prog 73 #[.agg #[.int .i64 m.fr, .int .i64 m.to], .agg #[.int .i64 m.fr, .int .i64 m.to]] w fun e w' =>
      e = .returned (.bool true) ∧ Below w.heap.size w w' := by
  go_enter Tryz.func73, Tryz.ntmps73
  go_wp2
  all_goals go_ret
  all_goals first
    | exact ⟨rfl, by go_grown⟩
    | (exfalso; simp_all; done)

theorem infoSp : (Tryz.prog.info? 94).map (fun i => (i.zero, i.size, i.bytes)) = some (some (.agg #[.int .i64 0, .int .i64 0]), 2, 16) := by kernel_rfl















































set_option maxHeartbeats 400000 in
theorem eqSpanS_self (a b : Option Addr) (ca cb : Nat) (xs : List Sp) (w : World) (hl : xs.length ≤ 1048576) (hx : Rd encSp w a xs) (hy : Rd encSp w b xs) :
    Calls Tryz.prog 29 #[.slice a xs.length ca, .slice b xs.length cb] w fun e w' =>
      e = .returned (.bool true) ∧ Below w.heap.size w w' := by
  have hne : (((xs.length : Nat) : Int) != (xs.length : Nat)) = false := by simp
  go_enter Tryz.func29, Tryz.ntmps29
  go_wp2
  go_loopw [5] (fun i wr => ∃ (k : Nat), k ≤ xs.length ∧ i = .int .i64 k ∧ Below w.heap.size w wr) (fun i _ => xs.length - (intOf i).toNat)
  case atStart => exact ⟨0, Nat.zero_le _, rfl, Below.refl _ _⟩
  case round =>
    obtain ⟨k, hk, rfl, hB⟩ := hrel
    by_cases hlt : k < xs.length
    · have hm := List.getElem?_eq_getElem hlt
      generalize xs[k] = m at hm
      obtain ⟨b, off, rfl, hb, c0, c1⟩ := (hx.below hB).sp hm
      obtain ⟨b', off', rfl, hb', d0, d1⟩ := (hy.below hB).sp hm
      have C0 := Later.cell c0 hb
      have D0 := Later.cell d0 hb'
      have C1 := Later.cell c1 hb
      have D1 := Later.cell d1 hb'
      clear hm c0 d0 c1 d1
      go_wp2_with fail
      refine wp_region_later wr (by kernel_rfl) (by kernel_rfl) ?_
      repeat (go_big_quiet_step ((go_at_call 73; exact Later.call (Nat.le_refl _) (eqSpan_self m _))))
      refine wpQuiet_nil ?_
      intro z
      have hz := z.prop
      generalize z.val = w2 at hz
      clear C0 D0 C1 D1
      go_wp2
      go_roundw
      case rel => exact ⟨k + 1, by omega, by go_num, stepB hB hz hB.size⟩
      case measure => simp [intOf]; omega
    · go_wp2
      go_ret
      exact ⟨rfl, hB⟩
end Go.Proofs.YtdbgnbohdplndaaGreatDoor
