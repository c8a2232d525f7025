/- Walks: Way: rows, sizes, copies, a comparison with itself. Printed by gen_types.py. -/
import Derived.Test.YtipdcgfdejmjfaaDoorDays
namespace Go.Proofs.YtipdcgfdejmjfaaDoor
open Go.ChangeShapes Go.WideShapes Go.ChangeAt Go.RowKit

structure Wy where
  a : Int
  b : Int
  days : Int
def encWy (m : Wy) : List Value := [.int .i64 m.a, .int .i64 m.b, .int .i64 m.days]
theorem encWy_len (m : Wy) : (encWy m).length = 3 := rfl
theorem Rd.wy {w : World} {a : Option Addr} {xs : List Wy} (h : Rd encWy w a xs) {i : Nat} {m : Wy} (hi : xs[i]? = some m) :
    ∃ b off, a = some ⟨b, off, none⟩ ∧ b < w.heap.size ∧ w.cell? ⟨b, off + i * 3, none⟩ = some (.int .i64 m.a) ∧ w.cell? ⟨b, off + i * 3 + 1, none⟩ = some (.int .i64 m.b) ∧ w.cell? ⟨b, off + i * 3 + 2, none⟩ = some (.int .i64 m.days) := by
  obtain ⟨b, off, ha, hb, hc⟩ := h i m hi
  exact ⟨b, off, ha, hb, hc 0 _ rfl, hc 1 _ rfl, hc 2 _ rfl⟩
def goodWy (m : Wy) : Prop := (-9223372036854775808 ≤ m.a ∧ m.a ≤ 9223372036854775807) ∧ (-9223372036854775808 ≤ m.b ∧ m.b ≤ 9223372036854775807) ∧ (-9223372036854775808 ≤ m.days ∧ m.days ≤ 9223372036854775807)

theorem szWayS_any (a : Option Addr) (cap : Nat) (xs : List Wy) (left : Int) (w : World) (h1 : 0 ≤ left) (h2 : left ≤ 1048576) (hl : xs.length ≤ maxLen) :
    Calls Tryd.prog 22 #[.slice a xs.length cap, .int .i64 left] w fun e w' =>
      e = .returned (.int .i64 (clip (left - xs.length))) ∧ Below w.heap.size w w' := by
  unfold maxLen at hl
  go_enter Tryd.func22, Tryd.ntmps22
  go_wp2
  all_goals go_ret
  · exact ⟨ret_int (clip_neg (by assumption)).symm, Below.refl _ _⟩
  · exact ⟨ret_int (clip_nn (by assumption)).symm, Below.refl _ _⟩

theorem toWay_any (m : Wy) (w : World) :
    Calls Tryd.prog 47 #[.agg #[.int .i64 m.a, .int .i64 m.b, .int .i64 m.days]] w fun e w' =>
      e = .returned (.agg #[.int .i64 m.a, .int .i64 m.b, .int .i64 m.days]) ∧ Below w.heap.size w w' := by
  go_enter Tryd.func47, Tryd.ntmps47
  go_wp2
  go_returns
  exact ⟨rfl, by go_grown⟩

theorem eqWay_self (m : Wy) (w : World) :
    Calls Tryd.prog 55 #[.agg #[.int .i64 m.a, .int .i64 m.b, .int .i64 m.days], .agg #[.int .i64 m.a, .int .i64 m.b, .int .i64 m.days]] w fun e w' =>
      e = .returned (.bool true) ∧ Below w.heap.size w w' := by
  go_enter Tryd.func55, Tryd.ntmps55
  go_wp2
  all_goals go_ret
  all_goals first
    | exact ⟨rfl, by go_grown⟩
    | (exfalso; simp_all; done)

theorem infoWy : (Tryd.prog.info? 77).map (fun i => (i.zero, i.size, i.bytes)) = some (some (.agg #[.int .i64 0, .int .i64 0, .int .i64 0]), 3, 24) := by kernel_rfl

set_option maxHeartbeats 400000 in
theorem toWayS_any (a : Option Addr) (cap : Nat) (xs : List Wy) (w : World) (hl : xs.length ≤ 1048576)
    (hx : Rd encWy w a xs) :
    Calls Tryd.prog 27 #[.slice a xs.length cap] w fun e w' =>
      ∃ g, e = .returned (.slice (some ⟨g, 0, none⟩) xs.length xs.length) ∧ w'.ownsRow w.heap.size 77 3 (.slice (some ⟨g, 0, none⟩) xs.length xs.length) xs.length (xs.flatMap encWy) ∧ Below w.heap.size w w' := by
  obtain ⟨i0, hi, hz0, hz1, hz2⟩ := info_parts infoWy
  go_enter Tryd.func27, Tryd.ntmps27
  go_wp2_with (at_make; refine wpList_make_full _ rfl _ _ 34 rfl w.heap.size 77 i0 _ 3 Tryd.underlying34 hi hz0 hz1 _ _ _ _ xs.length rfl rfl rfl rfl (by rw [hz2]; omega) (by unfold maxLen; omega) (Nat.le_refl _) ?_; intro w1 hown hgr)
  have hB1 : Below w.heap.size w w1 := (Below.refl _ w).grown hgr (Nat.le_refl _) (fun k h => by cases h)
  have hlt1 : w.heap.size < w1.heap.size := (hown.lt _ rfl).2
  go_loopw [4] (fun i wr => ∃ (k : Nat) (old : List Value), k ≤ xs.length ∧ i = .int .i64 k ∧ wr.ownsRow w.heap.size 77 3 (.slice (some ⟨w.heap.size, 0, none⟩) xs.length xs.length) xs.length ((xs.take k).flatMap encWy ++ old) ∧ w.heap.size < wr.heap.size ∧ Below w.heap.size w wr) (fun i _ => xs.length - (intOf i).toNat)
  case atStart => exact ⟨0, _, Nat.zero_le _, rfl, by simpa using hown, hlt1, hB1⟩
  case round =>
    clear hown hB1 hgr hlt1
    obtain ⟨k, old, hk, rfl, hown, hlt1, hB⟩ := hrel
    by_cases hlt : k < xs.length
    · have hm := List.getElem?_eq_getElem hlt
      generalize xs[k] = m at hm
      obtain ⟨b, off, rfl, hb, c0, c1, c2⟩ := (hx.below hB).wy hm
      have hfill := fun (w2 : World) (h : Below wr.heap.size wr w2) => own_fill encWy_len hm (own_below hown h)
      have hcell := fun (w2 : World) (h : Below wr.heap.size wr w2) => own_cell (own_below hown h)
      have HF := Lib.hid hfill
      have HC := Lib.hid hcell
      clear hfill hcell hown hm
      go_wp2_with fail
      refine (toWay_any m _).mono ?_
      rintro e w2 ⟨rfl, hB2⟩
      obtain ⟨v0, e0, f0⟩ := HC.out w2 hB2 (k * 3) (by omega)
      obtain ⟨v1, e1, f1⟩ := HC.out w2 hB2 (k * 3 + 1) (by omega)
      obtain ⟨v2, e2, f2⟩ := HC.out w2 hB2 (k * 3 + 2) (by omega)
      go_wp2
      obtain ⟨old', ho, hg⟩ := HF.out w2 hB2
      go_roundw
      case rel => exact ⟨k + 1, old', by omega, by go_num, ho, by simp; exact Nat.lt_of_lt_of_le hlt1 hB2.size, (stepB hB hB2 hB.size).grown hg (Nat.le_trans hB.size hB2.size) (fun j h => by cases h; exact Nat.le_refl _)⟩
      case measure => simp [intOf]; omega
    · have hown' : wr.ownsRow w.heap.size 77 3 (.slice (some ⟨w.heap.size, 0, none⟩) xs.length xs.length) xs.length (xs.flatMap encWy) := by
        have hk' : xs.take k = xs := List.take_of_length_le (by omega)
        rw [hk'] at hown
        have hl := hown.1
        rw [List.length_append, length_flatMap_enc encWy 3 encWy_len] at hl
        obtain rfl : old = [] := List.eq_nil_of_length_eq_zero (by omega)
        simpa using hown
      clear hown
      go_wp2
      go_ret
      exact ⟨_, rfl, hown', hB⟩

set_option maxHeartbeats 400000 in
theorem eqWayS_self (a b : Option Addr) (ca cb : Nat) (xs : List Wy) (w : World) (hl : xs.length ≤ 1048576) (hx : Rd encWy w a xs) (hy : Rd encWy w b xs) :
    Calls Tryd.prog 36 #[.slice a xs.length ca, .slice b xs.length cb] w fun e w' =>
      e = .returned (.bool true) ∧ Below w.heap.size w w' := by
  have hne : (((xs.length : Nat) : Int) != (xs.length : Nat)) = false := by simp
  go_enter Tryd.func36, Tryd.ntmps36
  go_wp2
  go_loopw [5] (fun i wr => ∃ (k : Nat), k ≤ xs.length ∧ i = .int .i64 k ∧ Below w.heap.size w wr) (fun i _ => xs.length - (intOf i).toNat)
  case atStart => exact ⟨0, Nat.zero_le _, rfl, Below.refl _ _⟩
  case round =>
    obtain ⟨k, hk, rfl, hB⟩ := hrel
    by_cases hlt : k < xs.length
    · have hm := List.getElem?_eq_getElem hlt
      generalize xs[k] = m at hm
      obtain ⟨b, off, rfl, hb, c0, c1, c2⟩ := (hx.below hB).wy hm
      obtain ⟨b', off', rfl, hb', d0, d1, d2⟩ := (hy.below hB).wy hm
      have C0 := Later.cell c0 hb
      have D0 := Later.cell d0 hb'
      have C1 := Later.cell c1 hb
      have D1 := Later.cell d1 hb'
      have C2 := Later.cell c2 hb
      have D2 := Later.cell d2 hb'
      clear hm c0 d0 c1 d1 c2 d2
      go_wp2_with fail
      refine wp_region_later wr (by kernel_rfl) (by kernel_rfl) ?_
      repeat (go_big_quiet_step ((go_at_call 55; exact Later.call (Nat.le_refl _) (eqWay_self m _))))
      refine wpQuiet_nil ?_
      intro z
      have hz := z.prop
      generalize z.val = w2 at hz
      clear C0 D0 C1 D1 C2 D2
      go_wp2
      go_roundw
      case rel => exact ⟨k + 1, by omega, by go_num, stepB hB hz hB.size⟩
      case measure => simp [intOf]; omega
    · go_wp2
      go_ret
      exact ⟨rfl, hB⟩
end Go.Proofs.YtipdcgfdejmjfaaDoor
