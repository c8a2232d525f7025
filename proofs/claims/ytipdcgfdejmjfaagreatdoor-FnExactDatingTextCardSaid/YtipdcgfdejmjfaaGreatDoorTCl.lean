/- Walks: Clause: rows, sizes, copies, a comparison with itself. Printed by gen_types.py. -/
import Derived.Test.YtipdcgfdejmjfaaGreatDoorDays
namespace Go.Proofs.YtipdcgfdejmjfaaGreatDoor
open Go.ChangeShapes Go.WideShapes Go.ChangeAt Go.RowKit

structure Cl where
  kind : Int
  number : Int
  month : Int
  feast : Int
  relation : Int
  weekday : Int
  style : Int
  king : ByteArray
def encCl (m : Cl) : List Value := [.int .i64 m.kind, .int .i64 m.number, .int .i64 m.month, .int .i64 m.feast, .int .i64 m.relation, .int .i64 m.weekday, .int .i64 m.style, .string m.king]
theorem encCl_len (m : Cl) : (encCl m).length = 8 := rfl
theorem Rd.cl {w : World} {a : Option Addr} {xs : List Cl} (h : Rd encCl w a xs) {i : Nat} {m : Cl} (hi : xs[i]? = some m) :
    ∃ b off, a = some ⟨b, off, none⟩ ∧ b < w.heap.size ∧ w.cell? ⟨b, off + i * 8, none⟩ = some (.int .i64 m.kind) ∧ w.cell? ⟨b, off + i * 8 + 1, none⟩ = some (.int .i64 m.number) ∧ w.cell? ⟨b, off + i * 8 + 2, none⟩ = some (.int .i64 m.month) ∧ w.cell? ⟨b, off + i * 8 + 3, none⟩ = some (.int .i64 m.feast) ∧ w.cell? ⟨b, off + i * 8 + 4, none⟩ = some (.int .i64 m.relation) ∧ w.cell? ⟨b, off + i * 8 + 5, none⟩ = some (.int .i64 m.weekday) ∧ w.cell? ⟨b, off + i * 8 + 6, none⟩ = some (.int .i64 m.style) ∧ w.cell? ⟨b, off + i * 8 + 7, none⟩ = some (.string m.king) := by
  obtain ⟨b, off, ha, hb, hc⟩ := h i m hi
  exact ⟨b, off, ha, hb, hc 0 _ rfl, hc 1 _ rfl, hc 2 _ rfl, hc 3 _ rfl, hc 4 _ rfl, hc 5 _ rfl, hc 6 _ rfl, hc 7 _ rfl⟩
def goodCl (m : Cl) : Prop := m.king.size ≤ maxLen ∧ (-9223372036854775808 ≤ m.kind ∧ m.kind ≤ 9223372036854775807) ∧ (-9223372036854775808 ≤ m.number ∧ m.number ≤ 9223372036854775807) ∧ (-9223372036854775808 ≤ m.month ∧ m.month ≤ 9223372036854775807) ∧ (-9223372036854775808 ≤ m.feast ∧ m.feast ≤ 9223372036854775807) ∧ (-9223372036854775808 ≤ m.relation ∧ m.relation ≤ 9223372036854775807) ∧ (-9223372036854775808 ≤ m.weekday ∧ m.weekday ≤ 9223372036854775807) ∧ (-9223372036854775808 ≤ m.style ∧ m.style ≤ 9223372036854775807)
def szCl (m : Cl) : Nat := m.king.size

theorem szClause_any (m : Cl) (left : Int) (w : World) (h1 : -1 ≤ left) (h2 : left ≤ 1048576) (hs : goodCl m) :
    Calls Tryz.prog 27 #[.agg #[.int .i64 m.kind, .int .i64 m.number, .int .i64 m.month, .int .i64 m.feast, .int .i64 m.relation, .int .i64 m.weekday, .int .i64 m.style, .string m.king], .int .i64 left] w fun e w' =>
      e = .returned (.int .i64 (clip (left - szCl m))) ∧ Below w.heap.size w w' := by
  unfold goodCl maxLen at hs
  unfold szCl
  have hs' : m.king.size ≤ 9223372036854775807 := by omega
  clear hs
  go_enter Tryz.func27, Tryz.ntmps27
  go_wp2
  all_goals go_ret
  · exact ⟨ret_int (clip_neg (by assumption)).symm, by go_grown⟩
  · exact ⟨ret_int (clip_nn (by assumption)).symm, by go_grown⟩

set_option maxHeartbeats 400000 in
theorem szClauseS_any (a : Option Addr) (cap : Nat) (xs : List Cl) (left : Int) (w : World) (h1 : 0 ≤ left) (h2 : left ≤ 1048576) (hl : xs.length ≤ maxLen)
    (hx : Rd encCl w a xs) (hs : ∀ m ∈ xs, goodCl m) :
    Calls Tryz.prog 5 #[.slice a xs.length cap, .int .i64 left] w fun e w' =>
      e = .returned (.int .i64 (szS szCl xs left)) ∧ Below w.heap.size w w' := by
  unfold maxLen at hl
  go_enter Tryz.func5, Tryz.ntmps5
  go_wp2
  · go_ret
    exact ⟨ret_int (szS_neg (by assumption)).symm, Below.refl _ _⟩
  · have hge : 0 ≤ left - (xs.length : Int) := by assumption
    go_loopw [1, 5] (fun l i wr => ∃ (k : Nat) (q : Int), k ≤ xs.length ∧ i = .int .i64 k ∧ l = .int .i64 q ∧ 0 ≤ q ∧ q ≤ 1048576 ∧ Hid (szS szCl xs left = szGo szCl (xs.drop k) q) ∧ Below w.heap.size w wr) (fun _ i _ => xs.length - (intOf i).toNat)
    case atStart => exact ⟨0, _, Nat.zero_le _, rfl, rfl, by omega, by omega, szS_nn hge, Below.refl _ _⟩
    case round =>
      obtain ⟨k, q, hk, rfl, rfl, hq, hq2, hH, hB⟩ := hrel
      by_cases hlt : k < xs.length
      · have hm := List.getElem?_eq_getElem hlt
        generalize xs[k] = m at hm
        obtain ⟨b, off, rfl, hb, c0, c1, c2, c3, c4, c5, c6, c7⟩ := (hx.below hB).cl hm
        have hsm := hs m (List.mem_of_getElem? hm)
        have hd := Lib.hid (szGo_drop szCl xs k m q hm)
        clear hm
        by_cases hc : q - szCl m < 0
        · have hcl := clip_neg hc
          go_wp2_with (go_at_call 27; refine (szClause_any m _ _ (by omega) (by omega) hsm).mono ?_; rintro e w1 ⟨rfl, hB1⟩)
          go_ret
          exact ⟨ret_int (by rw [hH.out, hd.out, if_pos hc]), stepB hB hB1 hB.size⟩
        · have hcl := clip_nn (Int.not_lt.1 hc)
          go_wp2_with (go_at_call 27; refine (szClause_any m _ _ (by omega) (by omega) hsm).mono ?_; rintro e w1 ⟨rfl, hB1⟩)
          go_roundw
          case rel => exact ⟨k + 1, q - szCl m, by omega, by go_num, rfl, by omega, by omega, by unfold Hid; rw [hH.out, hd.out, if_neg (by omega)], stepB hB hB1 hB.size⟩
          case measure => simp [intOf]; omega
      · go_wp2
        go_ret
        exact ⟨ret_int (by rw [hH.out, List.drop_eq_nil_of_le (by omega)]; rfl), hB⟩

theorem toClause_any (m : Cl) (w : World) :
    Calls Tryz.prog 31 #[.agg #[.int .i64 m.kind, .int .i64 m.number, .int .i64 m.month, .int .i64 m.feast, .int .i64 m.relation, .int .i64 m.weekday, .int .i64 m.style, .string m.king]] w fun e w' =>
      e = .returned (.agg #[.int .i64 m.kind, .int .i64 m.number, .int .i64 m.month, .int .i64 m.feast, .int .i64 m.relation, .int .i64 m.weekday, .int .i64 m.style, .string m.king]) ∧ Below w.heap.size w w' := by
  go_enter Tryz.func31, Tryz.ntmps31
  go_wp2
  go_returns
  exact ⟨rfl, by go_grown⟩

theorem eqClause_self (m : Cl) (w : World) :
    Calls Tryz.prog 34 #[.agg #[.int .i64 m.kind, .int .i64 m.number, .int .i64 m.month, .int .i64 m.feast, .int .i64 m.relation, .int .i64 m.weekday, .int .i64 m.style, .string m.king], .agg #[.int .i64 m.kind, .int .i64 m.number, .int .i64 m.month, .int .i64 m.feast, .int .i64 m.relation, .int .i64 m.weekday, .int .i64 m.style, .string m.king]] w fun e w' =>
      e = .returned (.bool true) ∧ Below w.heap.size w w' := by
  go_enter Tryz.func34, Tryz.ntmps34
  go_wp2
  all_goals go_ret
  all_goals first
    | exact ⟨rfl, by go_grown⟩
    | (exfalso; simp_all; done)

theorem infoCl : (Tryz.prog.info? 66).map (fun i => (i.zero, i.size, i.bytes)) = some (some (.agg #[.int .i64 0, .int .i64 0, .int .i64 0, .int .i64 0, .int .i64 0, .int .i64 0, .int .i64 0, .string ⟨#[]⟩]), 8, 72) := by kernel_rfl

set_option maxHeartbeats 400000 in
theorem toClauseS_any (a : Option Addr) (cap : Nat) (xs : List Cl) (w : World) (hl : xs.length ≤ 1048576)
    (hx : Rd encCl w a xs) :
    Calls Tryz.prog 7 #[.slice a xs.length cap] w fun e w' =>
      ∃ g, e = .returned (.slice (some ⟨g, 0, none⟩) xs.length xs.length) ∧ w'.ownsRow w.heap.size 66 8 (.slice (some ⟨g, 0, none⟩) xs.length xs.length) xs.length (xs.flatMap encCl) ∧ Below w.heap.size w w' := by
  obtain ⟨i0, hi, hz0, hz1, hz2⟩ := info_parts infoCl
  go_enter Tryz.func7, Tryz.ntmps7
  go_wp2_with (at_make; refine wpList_make_full _ rfl _ _ 26 rfl w.heap.size 66 i0 _ 8 Tryz.underlying26 hi hz0 hz1 _ _ _ _ xs.length rfl rfl rfl rfl (by rw [hz2]; omega) (by unfold maxLen; omega) (Nat.le_refl _) ?_; intro w1 hown hgr)
  have hB1 : Below w.heap.size w w1 := (Below.refl _ w).grown hgr (Nat.le_refl _) (fun k h => by cases h)
  have hlt1 : w.heap.size < w1.heap.size := (hown.lt _ rfl).2
  go_loopw [4] (fun i wr => ∃ (k : Nat) (old : List Value), k ≤ xs.length ∧ i = .int .i64 k ∧ wr.ownsRow w.heap.size 66 8 (.slice (some ⟨w.heap.size, 0, none⟩) xs.length xs.length) xs.length ((xs.take k).flatMap encCl ++ old) ∧ w.heap.size < wr.heap.size ∧ Below w.heap.size w wr) (fun i _ => xs.length - (intOf i).toNat)
  case atStart => exact ⟨0, _, Nat.zero_le _, rfl, by simpa using hown, hlt1, hB1⟩
  case round =>
    clear hown hB1 hgr hlt1
    obtain ⟨k, old, hk, rfl, hown, hlt1, hB⟩ := hrel
    by_cases hlt : k < xs.length
    · have hm := List.getElem?_eq_getElem hlt
      generalize xs[k] = m at hm
      obtain ⟨b, off, rfl, hb, c0, c1, c2, c3, c4, c5, c6, c7⟩ := (hx.below hB).cl hm
      have hfill := fun (w2 : World) (h : Below wr.heap.size wr w2) => own_fill encCl_len hm (own_below hown h)
      have hcell := fun (w2 : World) (h : Below wr.heap.size wr w2) => own_cell (own_below hown h)
      have HF := Lib.hid hfill
      have HC := Lib.hid hcell
      clear hfill hcell hown hm
      go_wp2_with fail
      refine (toClause_any m _).mono ?_
      rintro e w2 ⟨rfl, hB2⟩
      obtain ⟨v0, e0, f0⟩ := HC.out w2 hB2 (k * 8) (by omega)
      obtain ⟨v1, e1, f1⟩ := HC.out w2 hB2 (k * 8 + 1) (by omega)
      obtain ⟨v2, e2, f2⟩ := HC.out w2 hB2 (k * 8 + 2) (by omega)
      obtain ⟨v3, e3, f3⟩ := HC.out w2 hB2 (k * 8 + 3) (by omega)
      obtain ⟨v4, e4, f4⟩ := HC.out w2 hB2 (k * 8 + 4) (by omega)
      obtain ⟨v5, e5, f5⟩ := HC.out w2 hB2 (k * 8 + 5) (by omega)
      obtain ⟨v6, e6, f6⟩ := HC.out w2 hB2 (k * 8 + 6) (by omega)
      obtain ⟨v7, e7, f7⟩ := HC.out w2 hB2 (k * 8 + 7) (by omega)
      go_wp2
      obtain ⟨old', ho, hg⟩ := HF.out w2 hB2
      go_roundw
      case rel => exact ⟨k + 1, old', by omega, by go_num, ho, by simp; exact Nat.lt_of_lt_of_le hlt1 hB2.size, (stepB hB hB2 hB.size).grown hg (Nat.le_trans hB.size hB2.size) (fun j h => by cases h; exact Nat.le_refl _)⟩
      case measure => simp [intOf]; omega
    · have hown' : wr.ownsRow w.heap.size 66 8 (.slice (some ⟨w.heap.size, 0, none⟩) xs.length xs.length) xs.length (xs.flatMap encCl) := by
        have hk' : xs.take k = xs := List.take_of_length_le (by omega)
        rw [hk'] at hown
        have hl := hown.1
        rw [List.length_append, length_flatMap_enc encCl 8 encCl_len] at hl
        obtain rfl : old = [] := List.eq_nil_of_length_eq_zero (by omega)
        simpa using hown
      clear hown
      go_wp2
      go_ret
      exact ⟨_, rfl, hown', hB⟩

set_option maxHeartbeats 400000 in
theorem eqClauseS_self (a b : Option Addr) (ca cb : Nat) (xs : List Cl) (w : World) (hl : xs.length ≤ 1048576) (hx : Rd encCl w a xs) (hy : Rd encCl w b xs) :
    Calls Tryz.prog 9 #[.slice a xs.length ca, .slice b xs.length cb] w fun e w' =>
      e = .returned (.bool true) ∧ Below w.heap.size w w' := by
  have hne : (((xs.length : Nat) : Int) != (xs.length : Nat)) = false := by simp
  go_enter Tryz.func9, Tryz.ntmps9
  go_wp2
  go_loopw [5] (fun i wr => ∃ (k : Nat), k ≤ xs.length ∧ i = .int .i64 k ∧ Below w.heap.size w wr) (fun i _ => xs.length - (intOf i).toNat)
  case atStart => exact ⟨0, Nat.zero_le _, rfl, Below.refl _ _⟩
  case round =>
    obtain ⟨k, hk, rfl, hB⟩ := hrel
    by_cases hlt : k < xs.length
    · have hm := List.getElem?_eq_getElem hlt
      generalize xs[k] = m at hm
      obtain ⟨b, off, rfl, hb, c0, c1, c2, c3, c4, c5, c6, c7⟩ := (hx.below hB).cl hm
      obtain ⟨b', off', rfl, hb', d0, d1, d2, d3, d4, d5, d6, d7⟩ := (hy.below hB).cl hm
      have C0 := Later.cell c0 hb
      have D0 := Later.cell d0 hb'
      have C1 := Later.cell c1 hb
      have D1 := Later.cell d1 hb'
      have C2 := Later.cell c2 hb
      have D2 := Later.cell d2 hb'
      have C3 := Later.cell c3 hb
      have D3 := Later.cell d3 hb'
      have C4 := Later.cell c4 hb
      have D4 := Later.cell d4 hb'
      have C5 := Later.cell c5 hb
      have D5 := Later.cell d5 hb'
      have C6 := Later.cell c6 hb
      have D6 := Later.cell d6 hb'
      have C7 := Later.cell c7 hb
      have D7 := Later.cell d7 hb'
      clear hm c0 d0 c1 d1 c2 d2 c3 d3 c4 d4 c5 d5 c6 d6 c7 d7
      go_wp2_with fail
      refine wp_region_later wr (by kernel_rfl) (by kernel_rfl) ?_
      repeat (go_big_quiet_step ((go_at_call 34; exact Later.call (Nat.le_refl _) (eqClause_self m _))))
      refine wpQuiet_nil ?_
      intro z
      have hz := z.prop
      generalize z.val = w2 at hz
      clear C0 D0 C1 D1 C2 D2 C3 D3 C4 D4 C5 D5 C6 D6 C7 D7
      go_wp2
      go_roundw
      case rel => exact ⟨k + 1, by omega, by go_num, stepB hB hz hB.size⟩
      case measure => simp [intOf]; omega
    · go_wp2
      go_ret
      exact ⟨rfl, hB⟩
end Go.Proofs.YtipdcgfdejmjfaaGreatDoor
