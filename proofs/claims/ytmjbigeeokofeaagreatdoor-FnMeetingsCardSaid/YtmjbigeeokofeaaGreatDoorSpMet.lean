/- Walks: days in both of two sets, days in none. Printed by gen_met.py. -/
import Derived.Test.YtmjbigeeokofeaaGreatDoorSpPlain
import Derived.Test.YtmjbigeeokofeaaGreatDoorFix
import Derived.Test.YtmjbigeeokofeaaGreatDoorIxl
import Derived.WalkSmall
import Derived.BigRegion
import Derived.Deep.CutRange
namespace Go.Proofs.YtmjbigeeokofeaaGreatDoor
open Go.ChangeShapes Go.WideShapes Go.ChangeAt Go.RowKit

theorem drop_at {α : Type} {xs : List α} {i : Nat} {m : α} (h : xs[i]? = some m) : xs.drop i = m :: xs.drop (i + 1) := by
  obtain ⟨hk, rfl⟩ := List.getElem?_eq_some_iff.1 h
  exact List.drop_eq_getElem_cons hk
theorem met_at {xs ys : List Sp} {i k : Nat} {a b : Sp} (ha : xs[i]? = some a) (hb : ys[k]? = some b) : met (xs.drop i) (ys.drop k) = (if max a.fr b.fr ≤ min a.to b.to then [⟨max a.fr b.fr, min a.to b.to⟩] else []) ++ (if a.to < b.to then met (xs.drop (i + 1)) (ys.drop k) else met (xs.drop i) (ys.drop (k + 1))) := by
  rw [drop_at ha, drop_at hb, met_cons, ← drop_at ha, ← drop_at hb]

set_option maxRecDepth 100000 in
set_option maxHeartbeats 2000000 in
theorem l02Meet_any (a b : Option Addr) (cap cap' n n' : Nat) (xs ys : List Sp) (w : World) (hn : xs.length = n) (hn' : ys.length = n') (hl : n ≤ 1048576) (hl' : n' ≤ 1048576) (hx : Rd encSp w a xs) (hy : Rd encSp w b ys) :
    Calls Tryz.prog 81 #[.slice a n cap, .slice b n' cap'] w fun e w' => ∃ g c, e = .returned (.slice (some ⟨g, 0, none⟩) (met xs ys).length c) ∧ w'.ownsRow w.heap.size 64 2 (.slice (some ⟨g, 0, none⟩) (met xs ys).length c) (met xs ys).length ((met xs ys).flatMap encSp) ∧ Below w.heap.size w w' := by
  subst hn hn'
  obtain ⟨i0, hi, hz0, hz1, hz2⟩ := info_parts infoSp
  have hB0 : Below w.heap.size w (w.alloc (.cells #[] 64)) := (Below.refl _ w).alloc (Nat.le_refl _) _
  have hown0 := World.ownsRow_made w #[] 0 (Nat.le_refl _) (by decide) rfl (e := 64) (size := 2)
  go_enter Tryz.func81, Tryz.ntmps81
  go_wp2
  go_loopw [5, 6, 7] (fun o i k wr => ∃ (p q g c : Nat) (out : List Sp), p ≤ xs.length ∧ q ≤ ys.length ∧ i = .int .i64 p ∧ k = .int .i64 q ∧ o = .slice (some ⟨g, 0, none⟩) out.length c ∧ wr.ownsRow w.heap.size 64 2 (.slice (some ⟨g, 0, none⟩) out.length c) out.length (out.flatMap encSp) ∧ Below w.heap.size w wr ∧ Hid (met xs ys = out ++ met (xs.drop p) (ys.drop q)) ∧ out.length ≤ p + q) (fun _ i k _ => xs.length + ys.length - ((intOf i).toNat + (intOf k).toNat))
  case atStart => exact ⟨0, 0, _, _, [], Nat.zero_le _, Nat.zero_le _, rfl, rfl, rfl, hown0, hB0, rfl, Nat.le_refl _⟩
  case round =>
    clear hown0 hB0
    obtain ⟨p, q, g, c, out, hp, hq, rfl, rfl, rfl, hown, hB, hM, hlo⟩ := hrel
    by_cases hlt : p < xs.length ∧ q < ys.length
    · have hm := List.getElem?_eq_getElem hlt.1
      have hr := List.getElem?_eq_getElem hlt.2
      generalize xs[p] = m at hm
      generalize ys[q] = r at hr
      obtain ⟨b1, off1, e1, hb1w, _⟩ := hx.sp hm
      obtain ⟨b2, off2, e2, hb2w, _⟩ := hy.sp hr
      obtain ⟨_, _, e3, hb1, c0, c1⟩ := (hx.below hB).sp hm
      obtain ⟨_, _, e4, hb2, d0, d1⟩ := (hy.below hB).sp hr
      subst e1 e2
      simp only [Option.some.injEq, Addr.mk.injEq, and_true] at e3 e4
      obtain ⟨rfl, rfl⟩ := e3
      obtain ⟨rfl, rfl⟩ := e4
      have hst0 := met_at hm hr
      have hk1 : (p : Int) < (xs.length : Int) := by omega
      have hk2 : (q : Int) < (ys.length : Int) := by omega
      have hs := hB.size
      clear hm hr
      go_upto_region 4 with (fail)
      go_cut [8] from 20 to 42 (fun s8 wx => s8 = .pointer (some ⟨wr.heap.size, 0, none⟩) ∧ Below wr.heap.size wr wx ∧ wx.cell? ⟨wr.heap.size, 0, none⟩ = some (.int .i64 (max m.fr r.fr)) ∧ wx.cell? ⟨wr.heap.size, 1, none⟩ = some (.int .i64 (min m.to r.to)))
      case first =>
        go_region
        go_wp2_with fail
        go_meet
        exact ⟨rfl, ((Below.refl _ wr).alloc (Nat.le_refl _) _).drew, (show (wr.alloc _).cell? _ = _ from World.cell?_alloc_at _ _ _ _ rfl), (show (wr.alloc _).cell? _ = _ from World.cell?_alloc_at _ _ _ _ rfl)⟩
      case rest =>
        obtain ⟨rfl, hBW, s0, s1⟩ := hcut
        generalize wc = w2 at hBW s0 s1 ⊢
        have hown := own_below hown hBW
        have hB := stepB hB hBW hB.size
        have c0 := (hBW.cell (p := ⟨b1, off1 + p * 2, none⟩) hb1).trans c0
        have c1 := (hBW.cell (p := ⟨b1, off1 + p * 2 + 1, none⟩) hb1).trans c1
        have d0 := (hBW.cell (p := ⟨b2, off2 + q * 2, none⟩) hb2).trans d0
        have d1 := (hBW.cell (p := ⟨b2, off2 + q * 2 + 1, none⟩) hb2).trans d1
        have hb1' := Nat.lt_of_lt_of_le hb1 hBW.size
        have hb2' := Nat.lt_of_lt_of_le hb2 hBW.size
        have hs := hB.size
        clear hBW
        by_cases h1 : max m.fr r.fr ≤ min m.to r.to
        · rw [if_pos h1] at hst0
          by_cases h2 : m.to < r.to
          · rw [if_pos h2] at hst0
            have hst := Lib.hid (hM.out.trans (by rw [hst0, ← List.append_assoc]))
            clear hst0 hM
            go_wp2_with (at_builtin; refine wpList_append_own _ rfl _ _ 38 rfl w.heap.size 64 i0 (.agg #[.int .i64 0, .int .i64 0]) 2 16 Tryz.underlying38 hi hz0 hz1 hz2 rfl (by decide) _ _ _ rfl (hown.alloc _) ⟨w2.heap.size, 0, none⟩ 1 1 [.int .i64 (max m.fr r.fr), .int .i64 (min m.to r.to)] rfl rfl (cell_two_new _ _ _ _) ?c2 ?c3 ?c4 ?c5 ?_)
            case c2 => first | (intro u hu; simp at hu; rcases hu with rfl | rfl <;> rfl) | exact ⟨rfl, rfl⟩
            case c3 => unfold maxLen; omega
            case c4 => omega
            case c5 => first | omega | (simp; omega)
            intro v' w4 hown' hgr _
            have hB4 := (hB.alloc hB.size (.cells #[.int .i64 (max m.fr r.fr), .int .i64 (min m.to r.to)] 64)).grown hgr (Nat.le_trans hB.size (by simp)) (fun x hx => (hown.lt x hx).1)
            obtain ⟨g', c', rfl⟩ := formJ hown' (by omega)
            have c1 := (gcell hgr (p := ⟨b1, off1 + p * 2 + 1, none⟩) (by simp; omega) (fun x hx => Nat.ne_of_lt (Nat.lt_of_lt_of_le hb1w (hown.lt x hx).1))).trans (((Below.refl _ w2).alloc (Nat.le_refl _) (.cells #[.int .i64 (max m.fr r.fr), .int .i64 (min m.to r.to)] 64)).cell (p := ⟨b1, off1 + p * 2 + 1, none⟩) hb1' |>.trans c1)
            have d1 := (gcell hgr (p := ⟨b2, off2 + q * 2 + 1, none⟩) (by simp; omega) (fun x hx => Nat.ne_of_lt (Nat.lt_of_lt_of_le hb2w (hown.lt x hx).1))).trans (((Below.refl _ w2).alloc (Nat.le_refl _) (.cells #[.int .i64 (max m.fr r.fr), .int .i64 (min m.to r.to)] 64)).cell (p := ⟨b2, off2 + q * 2 + 1, none⟩) hb2' |>.trans d1)
            clear hgr hown hB c0 d0 s0 s1
            go_wp2_with fail
            go_still (by kernel_rfl)
            have hz4 : Below w4.heap.size w4 w4.drew := (Below.refl _ w4).drew
            have hown4 := own_below hown' hz4
            have hB5 := stepB hB4 hz4 hB4.size
            clear hown' hB4 hz4
            go_wp2
            go_roundw
            case rel => exact ⟨p + 1, q, g', c', out ++ [⟨max m.fr r.fr, min m.to r.to⟩], by omega, by omega, by go_num, by go_num, by rw [List.length_append]; rfl, by rw [List.length_append, List.flatMap_append]; exact hown4, hB5, hst, by simp; omega⟩
            case measure => simp [intOf]; omega
          · rw [if_neg h2] at hst0
            have hst := Lib.hid (hM.out.trans (by rw [hst0, ← List.append_assoc]))
            clear hst0 hM
            go_wp2_with (at_builtin; refine wpList_append_own _ rfl _ _ 38 rfl w.heap.size 64 i0 (.agg #[.int .i64 0, .int .i64 0]) 2 16 Tryz.underlying38 hi hz0 hz1 hz2 rfl (by decide) _ _ _ rfl (hown.alloc _) ⟨w2.heap.size, 0, none⟩ 1 1 [.int .i64 (max m.fr r.fr), .int .i64 (min m.to r.to)] rfl rfl (cell_two_new _ _ _ _) ?c2 ?c3 ?c4 ?c5 ?_)
            case c2 => first | (intro u hu; simp at hu; rcases hu with rfl | rfl <;> rfl) | exact ⟨rfl, rfl⟩
            case c3 => unfold maxLen; omega
            case c4 => omega
            case c5 => first | omega | (simp; omega)
            intro v' w4 hown' hgr _
            have hB4 := (hB.alloc hB.size (.cells #[.int .i64 (max m.fr r.fr), .int .i64 (min m.to r.to)] 64)).grown hgr (Nat.le_trans hB.size (by simp)) (fun x hx => (hown.lt x hx).1)
            obtain ⟨g', c', rfl⟩ := formJ hown' (by omega)
            have c1 := (gcell hgr (p := ⟨b1, off1 + p * 2 + 1, none⟩) (by simp; omega) (fun x hx => Nat.ne_of_lt (Nat.lt_of_lt_of_le hb1w (hown.lt x hx).1))).trans (((Below.refl _ w2).alloc (Nat.le_refl _) (.cells #[.int .i64 (max m.fr r.fr), .int .i64 (min m.to r.to)] 64)).cell (p := ⟨b1, off1 + p * 2 + 1, none⟩) hb1' |>.trans c1)
            have d1 := (gcell hgr (p := ⟨b2, off2 + q * 2 + 1, none⟩) (by simp; omega) (fun x hx => Nat.ne_of_lt (Nat.lt_of_lt_of_le hb2w (hown.lt x hx).1))).trans (((Below.refl _ w2).alloc (Nat.le_refl _) (.cells #[.int .i64 (max m.fr r.fr), .int .i64 (min m.to r.to)] 64)).cell (p := ⟨b2, off2 + q * 2 + 1, none⟩) hb2' |>.trans d1)
            clear hgr hown hB c0 d0 s0 s1
            go_wp2_with fail
            go_still (by kernel_rfl)
            have hz4 : Below w4.heap.size w4 w4.drew := (Below.refl _ w4).drew
            have hown4 := own_below hown' hz4
            have hB5 := stepB hB4 hz4 hB4.size
            clear hown' hB4 hz4
            go_wp2
            go_roundw
            case rel => exact ⟨p, q + 1, g', c', out ++ [⟨max m.fr r.fr, min m.to r.to⟩], by omega, by omega, by go_num, by go_num, by rw [List.length_append]; rfl, by rw [List.length_append, List.flatMap_append]; exact hown4, hB5, hst, by simp; omega⟩
            case measure => simp [intOf]; omega
        · rw [if_neg h1] at hst0
          by_cases h2 : m.to < r.to
          · rw [if_pos h2] at hst0
            have hst := Lib.hid (hM.out.trans (by rw [hst0, List.nil_append]))
            clear hst0 hM
            go_wp2_with fail
            go_still (by kernel_rfl)
            have hz4 : Below w2.heap.size w2 w2.drew := (Below.refl _ w2).drew
            have hown4 := own_below hown hz4
            have hB5 := stepB hB hz4 hB.size
            clear hown hB hz4
            go_wp2
            go_roundw
            case rel => exact ⟨p + 1, q, g, c, out, by omega, hq, by go_num, rfl, rfl, hown4, hB5, hst, by omega⟩
            case measure => simp [intOf]; omega
          · rw [if_neg h2] at hst0
            have hst := Lib.hid (hM.out.trans (by rw [hst0, List.nil_append]))
            clear hst0 hM
            go_wp2_with fail
            go_still (by kernel_rfl)
            have hz4 : Below w2.heap.size w2 w2.drew := (Below.refl _ w2).drew
            have hown4 := own_below hown hz4
            have hB5 := stepB hB hz4 hB.size
            clear hown hB hz4
            go_wp2
            go_roundw
            case rel => exact ⟨p, q + 1, g, c, out, hp, by omega, rfl, by go_num, rfl, hown4, hB5, hst, by omega⟩
            case measure => simp [intOf]; omega
    · have hend : Hid (met xs ys = out) := by
        unfold Hid
        rw [hM.out, met_end, List.append_nil]
        by_cases h1 : p < xs.length
        · exact .inr (List.drop_eq_nil_of_le (by omega))
        · exact .inl (List.drop_eq_nil_of_le (by omega))
      clear hM
      by_cases h1 : p < xs.length
      · have hk1 : (p : Int) < (xs.length : Int) := by omega
        have hk2 : ¬ (q : Int) < (ys.length : Int) := by omega
        go_wp2
        go_ret
        rw [hend.out]
        exact ⟨_, _, rfl, hown, hB⟩
      · have hk1 : ¬ (p : Int) < (xs.length : Int) := by omega
        go_wp2
        go_ret
        rw [hend.out]
        exact ⟨_, _, rfl, hown, hB⟩

set_option maxRecDepth 100000 in
set_option maxHeartbeats 2000000 in
theorem met_any (a b : Option Addr) (cap cap' n n' : Nat) (xs ys : List Sp) (w : World) (hn : xs.length = n) (hn' : ys.length = n') (hl : n ≤ 1048576) (hl' : n' ≤ 1048576) (hx : Rd encSp w a xs) (hy : Rd encSp w b ys) :
    Calls Tryz.prog 83 #[.slice a n cap, .slice b n' cap'] w fun e w' => ∃ g c, e = .returned (.slice (some ⟨g, 0, none⟩) (met xs ys).length c) ∧ w'.ownsRow w.heap.size 64 2 (.slice (some ⟨g, 0, none⟩) (met xs ys).length c) (met xs ys).length ((met xs ys).flatMap encSp) ∧ Below w.heap.size w w' := by
  subst hn hn'
  obtain ⟨i0, hi, hz0, hz1, hz2⟩ := info_parts infoSp
  have hB0 : Below w.heap.size w (w.alloc (.cells #[] 64)) := (Below.refl _ w).alloc (Nat.le_refl _) _
  have hown0 := World.ownsRow_made w #[] 0 (Nat.le_refl _) (by decide) rfl (e := 64) (size := 2)
  go_enter Tryz.func83, Tryz.ntmps83
  go_wp2
  go_loopw [5, 6, 7] (fun o i k wr => ∃ (p q g c : Nat) (out : List Sp), p ≤ xs.length ∧ q ≤ ys.length ∧ i = .int .i64 p ∧ k = .int .i64 q ∧ o = .slice (some ⟨g, 0, none⟩) out.length c ∧ wr.ownsRow w.heap.size 64 2 (.slice (some ⟨g, 0, none⟩) out.length c) out.length (out.flatMap encSp) ∧ Below w.heap.size w wr ∧ Hid (met xs ys = out ++ met (xs.drop p) (ys.drop q)) ∧ out.length ≤ p + q) (fun _ i k _ => xs.length + ys.length - ((intOf i).toNat + (intOf k).toNat))
  case atStart => exact ⟨0, 0, _, _, [], Nat.zero_le _, Nat.zero_le _, rfl, rfl, rfl, hown0, hB0, rfl, Nat.le_refl _⟩
  case round =>
    clear hown0 hB0
    obtain ⟨p, q, g, c, out, hp, hq, rfl, rfl, rfl, hown, hB, hM, hlo⟩ := hrel
    by_cases hlt : p < xs.length ∧ q < ys.length
    · have hm := List.getElem?_eq_getElem hlt.1
      have hr := List.getElem?_eq_getElem hlt.2
      generalize xs[p] = m at hm
      generalize ys[q] = r at hr
      obtain ⟨b1, off1, e1, hb1w, _⟩ := hx.sp hm
      obtain ⟨b2, off2, e2, hb2w, _⟩ := hy.sp hr
      obtain ⟨_, _, e3, hb1, c0, c1⟩ := (hx.below hB).sp hm
      obtain ⟨_, _, e4, hb2, d0, d1⟩ := (hy.below hB).sp hr
      subst e1 e2
      simp only [Option.some.injEq, Addr.mk.injEq, and_true] at e3 e4
      obtain ⟨rfl, rfl⟩ := e3
      obtain ⟨rfl, rfl⟩ := e4
      have hst0 := met_at hm hr
      have hk1 : (p : Int) < (xs.length : Int) := by omega
      have hk2 : (q : Int) < (ys.length : Int) := by omega
      have hs := hB.size
      clear hm hr
      go_upto_region 4 with (fail)
      go_cut [8] from 20 to 42 (fun s8 wx => s8 = .pointer (some ⟨wr.heap.size, 0, none⟩) ∧ Below wr.heap.size wr wx ∧ wx.cell? ⟨wr.heap.size, 0, none⟩ = some (.int .i64 (max m.fr r.fr)) ∧ wx.cell? ⟨wr.heap.size, 1, none⟩ = some (.int .i64 (min m.to r.to)))
      case first =>
        go_region
        go_wp2_with fail
        go_meet
        exact ⟨rfl, ((Below.refl _ wr).alloc (Nat.le_refl _) _).drew, (show (wr.alloc _).cell? _ = _ from World.cell?_alloc_at _ _ _ _ rfl), (show (wr.alloc _).cell? _ = _ from World.cell?_alloc_at _ _ _ _ rfl)⟩
      case rest =>
        obtain ⟨rfl, hBW, s0, s1⟩ := hcut
        generalize wc = w2 at hBW s0 s1 ⊢
        have hown := own_below hown hBW
        have hB := stepB hB hBW hB.size
        have c0 := (hBW.cell (p := ⟨b1, off1 + p * 2, none⟩) hb1).trans c0
        have c1 := (hBW.cell (p := ⟨b1, off1 + p * 2 + 1, none⟩) hb1).trans c1
        have d0 := (hBW.cell (p := ⟨b2, off2 + q * 2, none⟩) hb2).trans d0
        have d1 := (hBW.cell (p := ⟨b2, off2 + q * 2 + 1, none⟩) hb2).trans d1
        have hb1' := Nat.lt_of_lt_of_le hb1 hBW.size
        have hb2' := Nat.lt_of_lt_of_le hb2 hBW.size
        have hs := hB.size
        clear hBW
        by_cases h1 : max m.fr r.fr ≤ min m.to r.to
        · rw [if_pos h1] at hst0
          by_cases h2 : m.to < r.to
          · rw [if_pos h2] at hst0
            have hst := Lib.hid (hM.out.trans (by rw [hst0, ← List.append_assoc]))
            clear hst0 hM
            go_wp2_with (at_builtin; refine wpList_append_own _ rfl _ _ 38 rfl w.heap.size 64 i0 (.agg #[.int .i64 0, .int .i64 0]) 2 16 Tryz.underlying38 hi hz0 hz1 hz2 rfl (by decide) _ _ _ rfl (hown.alloc _) ⟨w2.heap.size, 0, none⟩ 1 1 [.int .i64 (max m.fr r.fr), .int .i64 (min m.to r.to)] rfl rfl (cell_two_new _ _ _ _) ?c2 ?c3 ?c4 ?c5 ?_)
            case c2 => first | (intro u hu; simp at hu; rcases hu with rfl | rfl <;> rfl) | exact ⟨rfl, rfl⟩
            case c3 => unfold maxLen; omega
            case c4 => omega
            case c5 => first | omega | (simp; omega)
            intro v' w4 hown' hgr _
            have hB4 := (hB.alloc hB.size (.cells #[.int .i64 (max m.fr r.fr), .int .i64 (min m.to r.to)] 64)).grown hgr (Nat.le_trans hB.size (by simp)) (fun x hx => (hown.lt x hx).1)
            obtain ⟨g', c', rfl⟩ := formJ hown' (by omega)
            have c1 := (gcell hgr (p := ⟨b1, off1 + p * 2 + 1, none⟩) (by simp; omega) (fun x hx => Nat.ne_of_lt (Nat.lt_of_lt_of_le hb1w (hown.lt x hx).1))).trans (((Below.refl _ w2).alloc (Nat.le_refl _) (.cells #[.int .i64 (max m.fr r.fr), .int .i64 (min m.to r.to)] 64)).cell (p := ⟨b1, off1 + p * 2 + 1, none⟩) hb1' |>.trans c1)
            have d1 := (gcell hgr (p := ⟨b2, off2 + q * 2 + 1, none⟩) (by simp; omega) (fun x hx => Nat.ne_of_lt (Nat.lt_of_lt_of_le hb2w (hown.lt x hx).1))).trans (((Below.refl _ w2).alloc (Nat.le_refl _) (.cells #[.int .i64 (max m.fr r.fr), .int .i64 (min m.to r.to)] 64)).cell (p := ⟨b2, off2 + q * 2 + 1, none⟩) hb2' |>.trans d1)
            clear hgr hown hB c0 d0 s0 s1
            go_wp2_with fail
            go_still (by kernel_rfl)
            have hz4 : Below w4.heap.size w4 w4.drew := (Below.refl _ w4).drew
            have hown4 := own_below hown' hz4
            have hB5 := stepB hB4 hz4 hB4.size
            clear hown' hB4 hz4
            go_wp2
            go_roundw
            case rel => exact ⟨p + 1, q, g', c', out ++ [⟨max m.fr r.fr, min m.to r.to⟩], by omega, by omega, by go_num, by go_num, by rw [List.length_append]; rfl, by rw [List.length_append, List.flatMap_append]; exact hown4, hB5, hst, by simp; omega⟩
            case measure => simp [intOf]; omega
          · rw [if_neg h2] at hst0
            have hst := Lib.hid (hM.out.trans (by rw [hst0, ← List.append_assoc]))
            clear hst0 hM
            go_wp2_with (at_builtin; refine wpList_append_own _ rfl _ _ 38 rfl w.heap.size 64 i0 (.agg #[.int .i64 0, .int .i64 0]) 2 16 Tryz.underlying38 hi hz0 hz1 hz2 rfl (by decide) _ _ _ rfl (hown.alloc _) ⟨w2.heap.size, 0, none⟩ 1 1 [.int .i64 (max m.fr r.fr), .int .i64 (min m.to r.to)] rfl rfl (cell_two_new _ _ _ _) ?c2 ?c3 ?c4 ?c5 ?_)
            case c2 => first | (intro u hu; simp at hu; rcases hu with rfl | rfl <;> rfl) | exact ⟨rfl, rfl⟩
            case c3 => unfold maxLen; omega
            case c4 => omega
            case c5 => first | omega | (simp; omega)
            intro v' w4 hown' hgr _
            have hB4 := (hB.alloc hB.size (.cells #[.int .i64 (max m.fr r.fr), .int .i64 (min m.to r.to)] 64)).grown hgr (Nat.le_trans hB.size (by simp)) (fun x hx => (hown.lt x hx).1)
            obtain ⟨g', c', rfl⟩ := formJ hown' (by omega)
            have c1 := (gcell hgr (p := ⟨b1, off1 + p * 2 + 1, none⟩) (by simp; omega) (fun x hx => Nat.ne_of_lt (Nat.lt_of_lt_of_le hb1w (hown.lt x hx).1))).trans (((Below.refl _ w2).alloc (Nat.le_refl _) (.cells #[.int .i64 (max m.fr r.fr), .int .i64 (min m.to r.to)] 64)).cell (p := ⟨b1, off1 + p * 2 + 1, none⟩) hb1' |>.trans c1)
            have d1 := (gcell hgr (p := ⟨b2, off2 + q * 2 + 1, none⟩) (by simp; omega) (fun x hx => Nat.ne_of_lt (Nat.lt_of_lt_of_le hb2w (hown.lt x hx).1))).trans (((Below.refl _ w2).alloc (Nat.le_refl _) (.cells #[.int .i64 (max m.fr r.fr), .int .i64 (min m.to r.to)] 64)).cell (p := ⟨b2, off2 + q * 2 + 1, none⟩) hb2' |>.trans d1)
            clear hgr hown hB c0 d0 s0 s1
            go_wp2_with fail
            go_still (by kernel_rfl)
            have hz4 : Below w4.heap.size w4 w4.drew := (Below.refl _ w4).drew
            have hown4 := own_below hown' hz4
            have hB5 := stepB hB4 hz4 hB4.size
            clear hown' hB4 hz4
            go_wp2
            go_roundw
            case rel => exact ⟨p, q + 1, g', c', out ++ [⟨max m.fr r.fr, min m.to r.to⟩], by omega, by omega, by go_num, by go_num, by rw [List.length_append]; rfl, by rw [List.length_append, List.flatMap_append]; exact hown4, hB5, hst, by simp; omega⟩
            case measure => simp [intOf]; omega
        · rw [if_neg h1] at hst0
          by_cases h2 : m.to < r.to
          · rw [if_pos h2] at hst0
            have hst := Lib.hid (hM.out.trans (by rw [hst0, List.nil_append]))
            clear hst0 hM
            go_wp2_with fail
            go_still (by kernel_rfl)
            have hz4 : Below w2.heap.size w2 w2.drew := (Below.refl _ w2).drew
            have hown4 := own_below hown hz4
            have hB5 := stepB hB hz4 hB.size
            clear hown hB hz4
            go_wp2
            go_roundw
            case rel => exact ⟨p + 1, q, g, c, out, by omega, hq, by go_num, rfl, rfl, hown4, hB5, hst, by omega⟩
            case measure => simp [intOf]; omega
          · rw [if_neg h2] at hst0
            have hst := Lib.hid (hM.out.trans (by rw [hst0, List.nil_append]))
            clear hst0 hM
            go_wp2_with fail
            go_still (by kernel_rfl)
            have hz4 : Below w2.heap.size w2 w2.drew := (Below.refl _ w2).drew
            have hown4 := own_below hown hz4
            have hB5 := stepB hB hz4 hB.size
            clear hown hB hz4
            go_wp2
            go_roundw
            case rel => exact ⟨p, q + 1, g, c, out, hp, by omega, rfl, by go_num, rfl, hown4, hB5, hst, by omega⟩
            case measure => simp [intOf]; omega
    · have hend : Hid (met xs ys = out) := by
        unfold Hid
        rw [hM.out, met_end, List.append_nil]
        by_cases h1 : p < xs.length
        · exact .inr (List.drop_eq_nil_of_le (by omega))
        · exact .inl (List.drop_eq_nil_of_le (by omega))
      clear hM
      by_cases h1 : p < xs.length
      · have hk1 : (p : Int) < (xs.length : Int) := by omega
        have hk2 : ¬ (q : Int) < (ys.length : Int) := by omega
        go_wp2
        go_ret
        rw [hend.out]
        exact ⟨_, _, rfl, hown, hB⟩
      · have hk1 : ¬ (p : Int) < (xs.length : Int) := by omega
        go_wp2
        go_ret
        rw [hend.out]
        exact ⟨_, _, rfl, hown, hB⟩
end Go.Proofs.YtmjbigeeokofeaaGreatDoor
