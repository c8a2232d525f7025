/- Walks: Stay: rows, sizes, copies, a comparison with itself. Printed by gen_types.py. -/
import Derived.Test.YtipdcgfdejmjfaaDoorDays
namespace Go.Proofs.YtipdcgfdejmjfaaDoor
open Go.ChangeShapes Go.WideShapes Go.ChangeAt Go.RowKit

structure St where
  place : Int
  fr : Int
  to : Int
def encSt (m : St) : List Value := [.int .i64 m.place, .int .i64 m.fr, .int .i64 m.to]
theorem encSt_len (m : St) : (encSt m).length = 3 := rfl
theorem Rd.st {w : World} {a : Option Addr} {xs : List St} (h : Rd encSt w a xs) {i : Nat} {m : St} (hi : xs[i]? = some m) :
    ∃ b off, a = some ⟨b, off, none⟩ ∧ b < w.heap.size ∧ w.cell? ⟨b, off + i * 3, none⟩ = some (.int .i64 m.place) ∧ w.cell? ⟨b, off + i * 3 + 1, none⟩ = some (.int .i64 m.fr) ∧ w.cell? ⟨b, off + i * 3 + 2, none⟩ = some (.int .i64 m.to) := by
  obtain ⟨b, off, ha, hb, hc⟩ := h i m hi
  exact ⟨b, off, ha, hb, hc 0 _ rfl, hc 1 _ rfl, hc 2 _ rfl⟩
def goodSt (m : St) : Prop := (-9223372036854775808 ≤ m.place ∧ m.place ≤ 9223372036854775807) ∧ (-9223372036854775808 ≤ m.fr ∧ m.fr ≤ 9223372036854775807) ∧ (-9223372036854775808 ≤ m.to ∧ m.to ≤ 9223372036854775807)

theorem szStayS_any (a : Option Addr) (cap : Nat) (xs : List St) (left : Int) (w : World) (h1 : 0 ≤ left) (h2 : left ≤ 1048576) (hl : xs.length ≤ maxLen) :
    Calls Tryd.prog 6 #[.slice a xs.length cap, .int .i64 left] w fun e w' =>
      e = .returned (.int .i64 (clip (left - xs.length))) ∧ Below w.heap.size w w' := by
  unfold maxLen at hl
  go_enter Tryd.func6, Tryd.ntmps6
  go_wp2
  all_goals go_ret
  · exact ⟨ret_int (clip_neg (by assumption)).symm, Below.refl _ _⟩
  · exact ⟨ret_int (clip_nn (by assumption)).symm, Below.refl _ _⟩

theorem toStay_any (m : St) (w : World) :
    Calls Tryd.prog 10 #[.agg #[.int .i64 m.place, .int .i64 m.fr, .int .i64 m.to]] w fun e w' =>
      e = .returned (.agg #[.int .i64 m.place, .int .i64 m.fr, .int .i64 m.to]) ∧ Below w.heap.size w w' := by
  go_enter Tryd.func10, Tryd.ntmps10
  go_wp2
  go_returns
  exact ⟨rfl, by go_grown⟩

theorem eqStay_self (m : St) (w : World) :
    Calls Tryd.prog 34 #[.agg #[.int .i64 m.place, .int .i64 m.fr, .int .i64 m.to], .agg #[.int .i64 m.place, .int .i64 m.fr, .int .i64 m.to]] w fun e w' =>
      e = .returned (.bool true) ∧ Below w.heap.size w w' := by
  go_enter Tryd.func34, Tryd.ntmps34
  go_wp2
  all_goals go_ret
  all_goals first
    | exact ⟨rfl, by go_grown⟩
    | (exfalso; simp_all; done)

theorem infoSt : (Tryd.prog.info? 39).map (fun i => (i.zero, i.size, i.bytes)) = some (some (.agg #[.int .i64 0, .int .i64 0, .int .i64 0]), 3, 24) := by kernel_rfl

set_option maxHeartbeats 400000 in
theorem toStayS_any (a : Option Addr) (cap : Nat) (xs : List St) (w : World) (hl : xs.length ≤ 1048576)
    (hx : Rd encSt w a xs) :
    Calls Tryd.prog 9 #[.slice a xs.length cap] w fun e w' =>
      ∃ g, e = .returned (.slice (some ⟨g, 0, none⟩) xs.length xs.length) ∧ w'.ownsRow w.heap.size 39 3 (.slice (some ⟨g, 0, none⟩) xs.length xs.length) xs.length (xs.flatMap encSt) ∧ Below w.heap.size w w' := by
  obtain ⟨i0, hi, hz0, hz1, hz2⟩ := info_parts infoSt
  go_enter Tryd.func9, Tryd.ntmps9
  go_wp2_with (at_make; refine wpList_make_full _ rfl _ _ 31 rfl w.heap.size 39 i0 _ 3 Tryd.underlying31 hi hz0 hz1 _ _ _ _ xs.length rfl rfl rfl rfl (by rw [hz2]; omega) (by unfold maxLen; omega) (Nat.le_refl _) ?_; intro w1 hown hgr)
  have hB1 : Below w.heap.size w w1 := (Below.refl _ w).grown hgr (Nat.le_refl _) (fun k h => by cases h)
  have hlt1 : w.heap.size < w1.heap.size := (hown.lt _ rfl).2
  go_loopw [4] (fun i wr => ∃ (k : Nat) (old : List Value), k ≤ xs.length ∧ i = .int .i64 k ∧ wr.ownsRow w.heap.size 39 3 (.slice (some ⟨w.heap.size, 0, none⟩) xs.length xs.length) xs.length ((xs.take k).flatMap encSt ++ old) ∧ w.heap.size < wr.heap.size ∧ Below w.heap.size w wr) (fun i _ => xs.length - (intOf i).toNat)
  case atStart => exact ⟨0, _, Nat.zero_le _, rfl, by simpa using hown, hlt1, hB1⟩
  case round =>
    clear hown hB1 hgr hlt1
    obtain ⟨k, old, hk, rfl, hown, hlt1, hB⟩ := hrel
    by_cases hlt : k < xs.length
    · have hm := List.getElem?_eq_getElem hlt
      generalize xs[k] = m at hm
      obtain ⟨b, off, rfl, hb, c0, c1, c2⟩ := (hx.below hB).st hm
      have hfill := fun (w2 : World) (h : Below wr.heap.size wr w2) => own_fill encSt_len hm (own_below hown h)
      have hcell := fun (w2 : World) (h : Below wr.heap.size wr w2) => own_cell (own_below hown h)
      have HF := Lib.hid hfill
      have HC := Lib.hid hcell
      clear hfill hcell hown hm
      go_wp2_with fail
      refine (toStay_any m _).mono ?_
      rintro e w2 ⟨rfl, hB2⟩
      obtain ⟨v0, e0, f0⟩ := HC.out w2 hB2 (k * 3) (by omega)
      obtain ⟨v1, e1, f1⟩ := HC.out w2 hB2 (k * 3 + 1) (by omega)
      obtain ⟨v2, e2, f2⟩ := HC.out w2 hB2 (k * 3 + 2) (by omega)
      go_wp2
      obtain ⟨old', ho, hg⟩ := HF.out w2 hB2
      go_roundw
      case rel => exact ⟨k + 1, old', by omega, by go_num, ho, by simp; exact Nat.lt_of_lt_of_le hlt1 hB2.size, (stepB hB hB2 hB.size).grown hg (Nat.le_trans hB.size hB2.size) (fun j h => by cases h; exact Nat.le_refl _)⟩
      case measure => simp [intOf]; omega
    · have hown' : wr.ownsRow w.heap.size 39 3 (.slice (some ⟨w.heap.size, 0, none⟩) xs.length xs.length) xs.length (xs.flatMap encSt) := by
        have hk' : xs.take k = xs := List.take_of_length_le (by omega)
        rw [hk'] at hown
        have hl := hown.1
        rw [List.length_append, length_flatMap_enc encSt 3 encSt_len] at hl
        obtain rfl : old = [] := List.eq_nil_of_length_eq_zero (by omega)
        simpa using hown
      clear hown
      go_wp2
      go_ret
      exact ⟨_, rfl, hown', hB⟩

set_option maxHeartbeats 400000 in
theorem eqStayS_self (a b : Option Addr) (ca cb : Nat) (xs : List St) (w : World) (hl : xs.length ≤ 1048576) (hx : Rd encSt w a xs) (hy : Rd encSt w b xs) :
    Calls Tryd.prog 12 #[.slice a xs.length ca, .slice b xs.length cb] w fun e w' =>
      e = .returned (.bool true) ∧ Below w.heap.size w w' := by
  have hne : (((xs.length : Nat) : Int) != (xs.length : Nat)) = false := by simp
  go_enter Tryd.func12, Tryd.ntmps12
  go_wp2
  go_loopw [5] (fun i wr => ∃ (k : Nat), k ≤ xs.length ∧ i = .int .i64 k ∧ Below w.heap.size w wr) (fun i _ => xs.length - (intOf i).toNat)
  case atStart => exact ⟨0, Nat.zero_le _, rfl, Below.refl _ _⟩
  case round =>
    obtain ⟨k, hk, rfl, hB⟩ := hrel
    by_cases hlt : k < xs.length
    · have hm := List.getElem?_eq_getElem hlt
      generalize xs[k] = m at hm
      obtain ⟨b, off, rfl, hb, c0, c1, c2⟩ := (hx.below hB).st hm
      obtain ⟨b', off', rfl, hb', d0, d1, d2⟩ := (hy.below hB).st hm
      have C0 := Later.cell c0 hb
      have D0 := Later.cell d0 hb'
      have C1 := Later.cell c1 hb
      have D1 := Later.cell d1 hb'
      have C2 := Later.cell c2 hb
      have D2 := Later.cell d2 hb'
      clear hm c0 d0 c1 d1 c2 d2
      go_wp2_with fail
      refine wp_region_later wr (by kernel_rfl) (by kernel_rfl) ?_
      repeat (go_big_quiet_step ((go_at_call 34; exact Later.call (Nat.le_refl _) (eqStay_self m _))))
      refine wpQuiet_nil ?_
      intro z
      have hz := z.prop
      generalize z.val = w2 at hz
      clear C0 D0 C1 D1 C2 D2
      go_wp2
      go_roundw
      case rel => exact ⟨k + 1, by omega, by go_num, stepB hB hz hB.size⟩
      case measure => simp [intOf]; omega
    · go_wp2
      go_ret
      exact ⟨rfl, hB⟩
end Go.Proofs.YtipdcgfdejmjfaaDoor
