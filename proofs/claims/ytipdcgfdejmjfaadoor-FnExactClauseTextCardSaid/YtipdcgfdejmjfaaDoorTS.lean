/- Walks: lists of string: rows, sizes, copies, a comparison with itself. Printed by gen_one.py. -/
import Derived.Test.YtipdcgfdejmjfaaDoorDays
namespace Go.Proofs.YtipdcgfdejmjfaaDoor
open Go.ChangeShapes Go.WideShapes Go.ChangeAt Go.RowKit

def encS (m : ByteArray) : List Value := [.string m]
theorem encS_len (m : ByteArray) : (encS m).length = 1 := rfl
def goodS (m : ByteArray) : Prop := m.size ≤ maxLen
theorem Rd.s {w : World} {a : Option Addr} {xs : List ByteArray} (h : Rd encS w a xs) {i : Nat} {m : ByteArray} (hi : xs[i]? = some m) :
    ∃ b off, a = some ⟨b, off, none⟩ ∧ b < w.heap.size ∧ w.cell? ⟨b, off + i, none⟩ = some (.string m) := by
  obtain ⟨b, off, ha, hb, hc⟩ := h i m hi
  have h0 := hc 0 _ rfl
  rw [encS_len, Nat.mul_one, Nat.add_zero] at h0
  exact ⟨b, off, ha, hb, h0⟩

set_option maxHeartbeats 400000 in
theorem eqStringS_self (a b : Option Addr) (ca cb : Nat) (xs : List ByteArray) (w : World) (hl : xs.length ≤ 2097152) (hx : Rd encS w a xs) (hy : Rd encS w b xs) :
    Calls Tryd.prog 35 #[.slice a xs.length ca, .slice b xs.length cb] w fun e w' =>
      e = .returned (.bool true) ∧ Below w.heap.size w w' := by
  have hne : (((xs.length : Nat) : Int) != (xs.length : Nat)) = false := by simp
  go_enter Tryd.func35, Tryd.ntmps35
  go_wp2
  go_loopw [5] (fun i wr => ∃ (k : Nat), k ≤ xs.length ∧ i = .int .i64 k ∧ Below w.heap.size w wr) (fun i _ => xs.length - (intOf i).toNat)
  case atStart => exact ⟨0, Nat.zero_le _, rfl, Below.refl _ _⟩
  case round =>
    obtain ⟨k, hk, rfl, hB⟩ := hrel
    by_cases hlt : k < xs.length
    · have hm := List.getElem?_eq_getElem hlt
      generalize xs[k] = m at hm
      obtain ⟨b, off, rfl, hb, c0⟩ := (hx.below hB).s hm
      obtain ⟨b', off', rfl, hb', d0⟩ := (hy.below hB).s hm
      have C0 := Later.cell c0 hb
      have D0 := Later.cell d0 hb'
      have hk1 : (k : Int) < (xs.length : Int) := by omega
      clear hm c0 d0
      go_wp2_with fail
      refine wp_region_later wr (by kernel_rfl) (by kernel_rfl) ?_
      repeat (go_big_quiet_step (fail))
      refine wpQuiet_nil ?_
      intro z
      have hz := z.prop
      generalize z.val = w2 at hz
      clear C0 D0
      try simp only [beq_self_eq_true, bne_self_eq_false, Bool.not_true]
      go_wp2
      go_roundw
      case rel => exact ⟨k + 1, by omega, by go_num, stepB hB hz hB.size⟩
      case measure => simp [intOf]; omega
    · go_wp2
      go_ret
      exact ⟨rfl, hB⟩

theorem infoS : (Tryd.prog.info? 9).map (fun i => (i.zero, i.size, i.bytes)) = some (some (.string ⟨#[]⟩), 1, 16) := by kernel_rfl
set_option maxHeartbeats 400000 in
theorem szStringS_any (a : Option Addr) (cap : Nat) (xs : List ByteArray) (left : Int) (w : World) (h1 : 0 ≤ left) (h2 : left ≤ 1048576) (hl : xs.length ≤ maxLen)
    (hx : Rd encS w a xs) (hs : ∀ m ∈ xs, goodS m) :
    Calls Tryd.prog 21 #[.slice a xs.length cap, .int .i64 left] w fun e w' =>
      e = .returned (.int .i64 (szS ByteArray.size xs left)) ∧ Below w.heap.size w w' := by
  unfold maxLen at hl
  go_enter Tryd.func21, Tryd.ntmps21
  go_wp2
  · go_ret
    exact ⟨ret_int (szS_neg (by assumption)).symm, Below.refl _ _⟩
  · have hge : 0 ≤ left - (xs.length : Int) := by assumption
    go_loop [1, 5] (fun l i => ∃ (k : Nat) (q : Int), k ≤ xs.length ∧ i = .int .i64 k ∧ l = .int .i64 q ∧ 0 ≤ q ∧ q ≤ 1048576 ∧ Hid (szS ByteArray.size xs left = szGo ByteArray.size (xs.drop k) q)) (fun _ i => xs.length - (intOf i).toNat)
    case atStart => exact ⟨0, _, Nat.zero_le _, rfl, rfl, by omega, by omega, szS_nn hge⟩
    case round =>
      obtain ⟨k, q, hk, rfl, rfl, hq, hq2, hH⟩ := hrel
      by_cases hlt : k < xs.length
      · have hm := List.getElem?_eq_getElem hlt
        generalize xs[k] = m at hm
        obtain ⟨b, off, rfl, hb, c0⟩ := hx.s hm
        have hsm : m.size ≤ 9223372036854775807 := hs m (List.mem_of_getElem? hm)
        have hd := Lib.hid (szGo_drop ByteArray.size xs k m q hm)
        have hk1 : (k : Int) < (xs.length : Int) := by omega
        clear hm
        by_cases hc : q - (m.size : Int) < 0
        · go_wp2
          go_ret
          exact ⟨ret_int (by rw [hH.out, hd.out, if_pos hc]), Below.refl _ _⟩
        · go_wp2
          go_round
          case rel => exact ⟨k + 1, q - m.size, by omega, by go_num, rfl, by omega, by omega, by unfold Hid; rw [hH.out, hd.out, if_neg (by omega)]⟩
          case measure => simp [intOf]; omega
      · go_wp2
        go_ret
        exact ⟨ret_int (by rw [hH.out, List.drop_eq_nil_of_le (by omega)]; rfl), Below.refl _ _⟩

set_option maxHeartbeats 400000 in
theorem toStringS_any (a : Option Addr) (cap : Nat) (xs : List ByteArray) (w : World) (hl : xs.length ≤ 1048576)
    (hx : Rd encS w a xs) :
    Calls Tryd.prog 26 #[.slice a xs.length cap] w fun e w' =>
      ∃ g, e = .returned (.slice (some ⟨g, 0, none⟩) xs.length xs.length) ∧ w'.ownsRow w.heap.size 9 1 (.slice (some ⟨g, 0, none⟩) xs.length xs.length) xs.length (xs.flatMap encS) ∧ Below w.heap.size w w' := by
  obtain ⟨i0, hi, hz0, hz1, hz2⟩ := info_parts infoS
  go_enter Tryd.func26, Tryd.ntmps26
  go_wp2_with (at_make; refine wpList_make_full _ rfl _ _ 22 rfl w.heap.size 9 i0 _ 1 Tryd.underlying22 hi hz0 hz1 _ _ _ _ xs.length rfl rfl rfl rfl (by rw [hz2]; omega) (by unfold maxLen; omega) (Nat.le_refl _) ?_; intro w1 hown hgr)
  have hB1 : Below w.heap.size w w1 := (Below.refl _ w).grown hgr (Nat.le_refl _) (fun k h => by cases h)
  have hlt1 : w.heap.size < w1.heap.size := (hown.lt _ rfl).2
  go_loopw [4] (fun i wr => ∃ (k : Nat) (old : List Value), k ≤ xs.length ∧ i = .int .i64 k ∧ wr.ownsRow w.heap.size 9 1 (.slice (some ⟨w.heap.size, 0, none⟩) xs.length xs.length) xs.length ((xs.take k).flatMap encS ++ old) ∧ w.heap.size < wr.heap.size ∧ Below w.heap.size w wr) (fun i _ => xs.length - (intOf i).toNat)
  case atStart => exact ⟨0, _, Nat.zero_le _, rfl, by simpa using hown, hlt1, hB1⟩
  case round =>
    clear hown hB1 hgr hlt1
    obtain ⟨k, old, hk, rfl, hown, hlt1, hB⟩ := hrel
    by_cases hlt : k < xs.length
    · have hm := List.getElem?_eq_getElem hlt
      generalize xs[k] = m at hm
      obtain ⟨b, off, rfl, hb, c0⟩ := (hx.below hB).s hm
      obtain ⟨old', ho, hg⟩ := own_fill encS_len hm hown
      obtain ⟨v0, d0, f0⟩ := own_cell hown k (by omega)
      rw [Nat.mul_one] at ho hg
      have hk1 : (k : Int) < (xs.length : Int) := by omega
      have HO := Lib.hid ho
      have HG := Lib.hid hg
      clear hown hm ho hg
      go_wp2
      go_roundw
      case rel => exact ⟨k + 1, old', by omega, by go_num, HO.out, by simp; exact hlt1, hB.grown HG.out hB.size (fun j h => by cases h; exact Nat.le_refl _)⟩
      case measure => simp [intOf]; omega
    · have hown' : wr.ownsRow w.heap.size 9 1 (.slice (some ⟨w.heap.size, 0, none⟩) xs.length xs.length) xs.length (xs.flatMap encS) := by
        have hk' : xs.take k = xs := List.take_of_length_le (by omega)
        rw [hk'] at hown
        have hl := hown.1
        rw [List.length_append, length_flatMap_enc encS 1 encS_len] at hl
        obtain rfl : old = [] := List.eq_nil_of_length_eq_zero (by omega)
        simpa using hown
      clear hown
      go_wp2
      go_ret
      exact ⟨_, rfl, hown', hB⟩
end Go.Proofs.YtipdcgfdejmjfaaDoor
