/- Walks: Mark: rows, sizes, copies, a comparison with itself. Printed by gen_types.py. -/
import Derived.Test.YtmjbigeeokofeaaDoorDays
namespace Go.Proofs.YtmjbigeeokofeaaDoor
open Go.ChangeShapes Go.WideShapes Go.ChangeAt Go.RowKit

structure Mk where
  name : ByteArray
  fr : Int
  to : Int
def encMk (m : Mk) : List Value := [.string m.name, .int .i64 m.fr, .int .i64 m.to]
theorem encMk_len (m : Mk) : (encMk m).length = 3 := rfl
theorem Rd.mk {w : World} {a : Option Addr} {xs : List Mk} (h : Rd encMk w a xs) {i : Nat} {m : Mk} (hi : xs[i]? = some m) :
    ∃ b off, a = some ⟨b, off, none⟩ ∧ b < w.heap.size ∧ w.cell? ⟨b, off + i * 3, none⟩ = some (.string m.name) ∧ w.cell? ⟨b, off + i * 3 + 1, none⟩ = some (.int .i64 m.fr) ∧ w.cell? ⟨b, off + i * 3 + 2, none⟩ = some (.int .i64 m.to) := by
  obtain ⟨b, off, ha, hb, hc⟩ := h i m hi
  exact ⟨b, off, ha, hb, hc 0 _ rfl, hc 1 _ rfl, hc 2 _ rfl⟩
def goodMk (m : Mk) : Prop := m.name.size ≤ maxLen ∧ (-9223372036854775808 ≤ m.fr ∧ m.fr ≤ 9223372036854775807) ∧ (-9223372036854775808 ≤ m.to ∧ m.to ≤ 9223372036854775807)
def szMk (m : Mk) : Nat := m.name.size

theorem szMark_any (m : Mk) (left : Int) (w : World) (h1 : -1 ≤ left) (h2 : left ≤ 1048576) (hs : goodMk m) :
    Calls Tryd.prog 45 #[.agg #[.string m.name, .int .i64 m.fr, .int .i64 m.to], .int .i64 left] w fun e w' =>
      e = .returned (.int .i64 (clip (left - szMk m))) ∧ Below w.heap.size w w' := by
  unfold goodMk maxLen at hs
  unfold szMk
  have hs' : m.name.size ≤ 9223372036854775807 := by omega
  clear hs
  go_enter Tryd.func45, Tryd.ntmps45
  go_wp2
  all_goals go_ret
  · exact ⟨ret_int (clip_neg (by assumption)).symm, by go_grown⟩
  · exact ⟨ret_int (clip_nn (by assumption)).symm, by go_grown⟩

set_option maxHeartbeats 400000 in
theorem szMarkS_any (a : Option Addr) (cap : Nat) (xs : List Mk) (left : Int) (w : World) (h1 : 0 ≤ left) (h2 : left ≤ 1048576) (hl : xs.length ≤ maxLen)
    (hx : Rd encMk w a xs) (hs : ∀ m ∈ xs, goodMk m) :
    Calls Tryd.prog 18 #[.slice a xs.length cap, .int .i64 left] w fun e w' =>
      e = .returned (.int .i64 (szS szMk xs left)) ∧ Below w.heap.size w w' := by
  unfold maxLen at hl
  go_enter Tryd.func18, Tryd.ntmps18
  go_wp2
  · go_ret
    exact ⟨ret_int (szS_neg (by assumption)).symm, Below.refl _ _⟩
  · have hge : 0 ≤ left - (xs.length : Int) := by assumption
    go_loopw [1, 5] (fun l i wr => ∃ (k : Nat) (q : Int), k ≤ xs.length ∧ i = .int .i64 k ∧ l = .int .i64 q ∧ 0 ≤ q ∧ q ≤ 1048576 ∧ Hid (szS szMk xs left = szGo szMk (xs.drop k) q) ∧ Below w.heap.size w wr) (fun _ i _ => xs.length - (intOf i).toNat)
    case atStart => exact ⟨0, _, Nat.zero_le _, rfl, rfl, by omega, by omega, szS_nn hge, Below.refl _ _⟩
    case round =>
      obtain ⟨k, q, hk, rfl, rfl, hq, hq2, hH, hB⟩ := hrel
      by_cases hlt : k < xs.length
      · have hm := List.getElem?_eq_getElem hlt
        generalize xs[k] = m at hm
        obtain ⟨b, off, rfl, hb, c0, c1, c2⟩ := (hx.below hB).mk hm
        have hsm := hs m (List.mem_of_getElem? hm)
        have hd := Lib.hid (szGo_drop szMk xs k m q hm)
        clear hm
        by_cases hc : q - szMk m < 0
        · have hcl := clip_neg hc
          go_wp2_with (go_at_call 45; refine (szMark_any m _ _ (by omega) (by omega) hsm).mono ?_; rintro e w1 ⟨rfl, hB1⟩)
          go_ret
          exact ⟨ret_int (by rw [hH.out, hd.out, if_pos hc]), stepB hB hB1 hB.size⟩
        · have hcl := clip_nn (Int.not_lt.1 hc)
          go_wp2_with (go_at_call 45; refine (szMark_any m _ _ (by omega) (by omega) hsm).mono ?_; rintro e w1 ⟨rfl, hB1⟩)
          go_roundw
          case rel => exact ⟨k + 1, q - szMk m, by omega, by go_num, rfl, by omega, by omega, by unfold Hid; rw [hH.out, hd.out, if_neg (by omega)], stepB hB hB1 hB.size⟩
          case measure => simp [intOf]; omega
      · go_wp2
        go_ret
        exact ⟨ret_int (by rw [hH.out, List.drop_eq_nil_of_le (by omega)]; rfl), hB⟩

theorem toMark_any (m : Mk) (w : World) :
    Calls Tryd.prog 51 #[.agg #[.string m.name, .int .i64 m.fr, .int .i64 m.to]] w fun e w' =>
      e = .returned (.agg #[.string m.name, .int .i64 m.fr, .int .i64 m.to]) ∧ Below w.heap.size w w' := by
  go_enter Tryd.func51, Tryd.ntmps51
  go_wp2
  go_returns
  exact ⟨rfl, by go_grown⟩

theorem eqMark_self (m : Mk) (w : World) :
    Calls Tryd.prog 59 #[.agg #[.string m.name, .int .i64 m.fr, .int .i64 m.to], .agg #[.string m.name, .int .i64 m.fr, .int .i64 m.to]] w fun e w' =>
      e = .returned (.bool true) ∧ Below w.heap.size w w' := by
  go_enter Tryd.func59, Tryd.ntmps59
  go_wp2
  all_goals go_ret
  all_goals first
    | exact ⟨rfl, by go_grown⟩
    | (exfalso; simp_all; done)

theorem infoMk : (Tryd.prog.info? 80).map (fun i => (i.zero, i.size, i.bytes)) = some (some (.agg #[.string ⟨#[]⟩, .int .i64 0, .int .i64 0]), 3, 32) := by kernel_rfl

set_option maxHeartbeats 400000 in
theorem toMarkS_any (a : Option Addr) (cap : Nat) (xs : List Mk) (w : World) (hl : xs.length ≤ 1048576)
    (hx : Rd encMk w a xs) :
    Calls Tryd.prog 20 #[.slice a xs.length cap] w fun e w' =>
      ∃ g, e = .returned (.slice (some ⟨g, 0, none⟩) xs.length xs.length) ∧ w'.ownsRow w.heap.size 80 3 (.slice (some ⟨g, 0, none⟩) xs.length xs.length) xs.length (xs.flatMap encMk) ∧ Below w.heap.size w w' := by
  obtain ⟨i0, hi, hz0, hz1, hz2⟩ := info_parts infoMk
  go_enter Tryd.func20, Tryd.ntmps20
  go_wp2_with (at_make; refine wpList_make_full _ rfl _ _ 48 rfl w.heap.size 80 i0 _ 3 Tryd.underlying48 hi hz0 hz1 _ _ _ _ xs.length rfl rfl rfl rfl (by rw [hz2]; omega) (by unfold maxLen; omega) (Nat.le_refl _) ?_; intro w1 hown hgr)
  have hB1 : Below w.heap.size w w1 := (Below.refl _ w).grown hgr (Nat.le_refl _) (fun k h => by cases h)
  have hlt1 : w.heap.size < w1.heap.size := (hown.lt _ rfl).2
  go_loopw [4] (fun i wr => ∃ (k : Nat) (old : List Value), k ≤ xs.length ∧ i = .int .i64 k ∧ wr.ownsRow w.heap.size 80 3 (.slice (some ⟨w.heap.size, 0, none⟩) xs.length xs.length) xs.length ((xs.take k).flatMap encMk ++ old) ∧ w.heap.size < wr.heap.size ∧ Below w.heap.size w wr) (fun i _ => xs.length - (intOf i).toNat)
  case atStart => exact ⟨0, _, Nat.zero_le _, rfl, by simpa using hown, hlt1, hB1⟩
  case round =>
    clear hown hB1 hgr hlt1
    obtain ⟨k, old, hk, rfl, hown, hlt1, hB⟩ := hrel
    by_cases hlt : k < xs.length
    · have hm := List.getElem?_eq_getElem hlt
      generalize xs[k] = m at hm
      obtain ⟨b, off, rfl, hb, c0, c1, c2⟩ := (hx.below hB).mk hm
      have hfill := fun (w2 : World) (h : Below wr.heap.size wr w2) => own_fill encMk_len hm (own_below hown h)
      have hcell := fun (w2 : World) (h : Below wr.heap.size wr w2) => own_cell (own_below hown h)
      have HF := Lib.hid hfill
      have HC := Lib.hid hcell
      clear hfill hcell hown hm
      go_wp2_with fail
      refine (toMark_any m _).mono ?_
      rintro e w2 ⟨rfl, hB2⟩
      obtain ⟨v0, e0, f0⟩ := HC.out w2 hB2 (k * 3) (by omega)
      obtain ⟨v1, e1, f1⟩ := HC.out w2 hB2 (k * 3 + 1) (by omega)
      obtain ⟨v2, e2, f2⟩ := HC.out w2 hB2 (k * 3 + 2) (by omega)
      go_wp2
      obtain ⟨old', ho, hg⟩ := HF.out w2 hB2
      go_roundw
      case rel => exact ⟨k + 1, old', by omega, by go_num, ho, by simp; exact Nat.lt_of_lt_of_le hlt1 hB2.size, (stepB hB hB2 hB.size).grown hg (Nat.le_trans hB.size hB2.size) (fun j h => by cases h; exact Nat.le_refl _)⟩
      case measure => simp [intOf]; omega
    · have hown' : wr.ownsRow w.heap.size 80 3 (.slice (some ⟨w.heap.size, 0, none⟩) xs.length xs.length) xs.length (xs.flatMap encMk) := by
        have hk' : xs.take k = xs := List.take_of_length_le (by omega)
        rw [hk'] at hown
        have hl := hown.1
        rw [List.length_append, length_flatMap_enc encMk 3 encMk_len] at hl
        obtain rfl : old = [] := List.eq_nil_of_length_eq_zero (by omega)
        simpa using hown
      clear hown
      go_wp2
      go_ret
      exact ⟨_, rfl, hown', hB⟩

set_option maxHeartbeats 400000 in
theorem eqMarkS_self (a b : Option Addr) (ca cb : Nat) (xs : List Mk) (w : World) (hl : xs.length ≤ 1048576) (hx : Rd encMk w a xs) (hy : Rd encMk w b xs) :
    Calls Tryd.prog 22 #[.slice a xs.length ca, .slice b xs.length cb] w fun e w' =>
      e = .returned (.bool true) ∧ Below w.heap.size w w' := by
  have hne : (((xs.length : Nat) : Int) != (xs.length : Nat)) = false := by simp
  go_enter Tryd.func22, Tryd.ntmps22
  go_wp2
  go_loopw [5] (fun i wr => ∃ (k : Nat), k ≤ xs.length ∧ i = .int .i64 k ∧ Below w.heap.size w wr) (fun i _ => xs.length - (intOf i).toNat)
  case atStart => exact ⟨0, Nat.zero_le _, rfl, Below.refl _ _⟩
  case round =>
    obtain ⟨k, hk, rfl, hB⟩ := hrel
    by_cases hlt : k < xs.length
    · have hm := List.getElem?_eq_getElem hlt
      generalize xs[k] = m at hm
      obtain ⟨b, off, rfl, hb, c0, c1, c2⟩ := (hx.below hB).mk hm
      obtain ⟨b', off', rfl, hb', d0, d1, d2⟩ := (hy.below hB).mk hm
      have C0 := Later.cell c0 hb
      have D0 := Later.cell d0 hb'
      have C1 := Later.cell c1 hb
      have D1 := Later.cell d1 hb'
      have C2 := Later.cell c2 hb
      have D2 := Later.cell d2 hb'
      clear hm c0 d0 c1 d1 c2 d2
      go_wp2_with fail
      refine wp_region_later wr (by kernel_rfl) (by kernel_rfl) ?_
      repeat (go_big_quiet_step ((go_at_call 59; exact Later.call (Nat.le_refl _) (eqMark_self m _))))
      refine wpQuiet_nil ?_
      intro z
      have hz := z.prop
      generalize z.val = w2 at hz
      clear C0 D0 C1 D1 C2 D2
      go_wp2
      go_roundw
      case rel => exact ⟨k + 1, by omega, by go_num, stepB hB hz hB.size⟩
      case measure => simp [intOf]; omega
    · go_wp2
      go_ret
      exact ⟨rfl, hB⟩
end Go.Proofs.YtmjbigeeokofeaaDoor
