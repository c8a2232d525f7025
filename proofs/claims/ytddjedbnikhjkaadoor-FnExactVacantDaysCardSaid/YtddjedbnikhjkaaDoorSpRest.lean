/- Walks: days in none of a set. Printed by gen_rest.py. -/
import Derived.Test.YtddjedbnikhjkaaDoorSpMet
namespace Go.Proofs.YtddjedbnikhjkaaDoor
open Go.ChangeShapes Go.WideShapes Go.ChangeAt Go.RowKit

theorem oth_at {xs : List Sp} {i : Nat} {z : Int} {m : Sp} (h : xs[i]? = some m) : othGo z (xs.drop i) = (if z < m.fr then [⟨z, m.fr - 1⟩] else []) ++ othGo (m.to + 1) (xs.drop (i + 1)) := by
  rw [drop_at h]; rfl
theorem oth_end (z : Int) : othGo z [] = if z ≤ 730499 then [⟨z, 730499⟩] else [] := rfl

set_option maxRecDepth 100000 in
set_option maxHeartbeats 2000000 in
theorem l02Rest_any (a : Option Addr) (cap n : Nat) (xs : List Sp) (w : World) (hn : xs.length = n) (hl : n ≤ 1048575) (hx : Rd encSp w a xs) (ho : ∀ x ∈ xs, OkSp 0 730499 x) :
    Calls Tryd.prog 74 #[.slice a n cap] w fun e w' => ∃ b c, e = .returned (.slice b (othGo 0 xs).length c) ∧ w'.ownsRow w.heap.size 99 2 (.slice b (othGo 0 xs).length c) (othGo 0 xs).length ((othGo 0 xs).flatMap encSp) ∧ Below w.heap.size w w' := by
  subst hn
  obtain ⟨i0, hi, hz0, hz1, hz2⟩ := info_parts infoSp
  have hB0 : Below w.heap.size w (w.alloc (.cells #[] 99)) := (Below.refl _ w).alloc (Nat.le_refl _) _
  have hown0 := World.ownsRow_made w #[] 0 (Nat.le_refl _) (by decide) rfl (e := 99) (size := 2)
  have hR := Lib.hid (rfl : othGo 0 xs = othGo 0 xs)
  generalize hG : othGo 0 xs = R at hR ⊢
  have hG' : Hid (R = [] ++ othGo 0 (xs.drop 0)) := by unfold Hid; rw [← hG]; rfl
  clear hG hR
  go_enter Tryd.func74, Tryd.ntmps74
  go_wp2
  go_loopw [3, 4, 5] (fun o z i wr => ∃ (k g c : Nat) (zz : Int) (out : List Sp), k ≤ xs.length ∧ i = .int .i64 k ∧ z = .int .i64 zz ∧ (0 ≤ zz ∧ zz ≤ 730500) ∧ o = .slice (some ⟨g, 0, none⟩) out.length c ∧ wr.ownsRow w.heap.size 99 2 (.slice (some ⟨g, 0, none⟩) out.length c) out.length (out.flatMap encSp) ∧ Below w.heap.size w wr ∧ Hid (R = out ++ othGo zz (xs.drop k)) ∧ out.length ≤ k) (fun _ _ i _ => xs.length - (intOf i).toNat)
  case atStart => exact ⟨0, _, _, 0, [], Nat.zero_le _, rfl, rfl, by omega, rfl, hown0, hB0, hG', Nat.le_refl _⟩
  case round =>
    clear hown0 hB0 hG'
    obtain ⟨k, g, c, zz, out, hk, rfl, rfl, hzz, rfl, hown, hB, hM, hlo⟩ := hrel
    by_cases hlt : k < xs.length
    · have hm := List.getElem?_eq_getElem hlt
      generalize xs[k] = m at hm
      have hok := ho m (List.mem_of_getElem? hm)
      obtain ⟨b, off, rfl, hb, c0, c1⟩ := (hx.below hB).sp hm
      have hst := oth_at (z := zz) hm
      have hk1 : (k : Int) < (xs.length : Int) := by omega
      have hs := hB.size
      unfold OkSp at hok
      have hw1 : IntKind.i64.wrap (m.fr - 1) = m.fr - 1 := by rw [IntKind.wrap_i64]; omega
      have hw2 : IntKind.i64.wrap (m.to + 1) = m.to + 1 := by rw [IntKind.wrap_i64]; omega
      clear hm
      have hgx : ∀ x, Value.ownBlock (.slice (some ⟨g, 0, none⟩) out.length c) = some x → b ≠ x := by
        intro x hx'
        obtain ⟨_, _, e, hbw, _⟩ := hx.sp (List.getElem?_eq_getElem hlt)
        simp only [Option.some.injEq, Addr.mk.injEq] at e
        have h2 := (hown.lt x hx').1
        omega
      by_cases h1 : zz < m.fr
      · rw [if_pos h1] at hst
        have hM := Lib.hid (hM.out.trans (by rw [hst, ← List.append_assoc]))
        clear hst
        go_wp2_with (at_builtin; refine wpList_append_own _ rfl _ _ 53 rfl w.heap.size 99 i0 (.agg #[.int .i64 0, .int .i64 0]) 2 16 Tryd.underlying53 hi hz0 hz1 hz2 rfl (by decide) _ _ _ rfl (hown.alloc _) ⟨wr.heap.size, 0, none⟩ 1 1 [.int .i64 zz, .int .i64 (m.fr - 1)] rfl rfl (cell_two_new _ _ _ _) ?c2 ?c3 ?c4 ?c5 ?_)
        case c2 => intro u hu; simp at hu; rcases hu with rfl | rfl <;> rfl
        case c3 => unfold maxLen; omega
        case c4 => omega
        case c5 => have := hB.size; simp; omega
        intro v' w4 hown' hgr _
        have hB' := (hB.alloc hB.size (.cells #[.int .i64 zz, .int .i64 (m.fr - 1)] 99)).grown hgr (Nat.le_trans hB.size (by simp)) (fun x hx => (hown.lt x hx).1)
        obtain ⟨g', c', rfl⟩ := formJ hown' (by omega)
        have c1 := (gcell hgr (p := ⟨b, off + k * 2 + 1, none⟩) (by simp; omega) hgx).trans (((Below.refl _ wr).alloc (Nat.le_refl _) (.cells #[.int .i64 zz, .int .i64 (m.fr - 1)] 99)).cell (p := ⟨b, off + k * 2 + 1, none⟩) hb |>.trans c1)
        clear hgr hown hB c0
        go_wp2
        go_roundw
        case rel => exact ⟨k + 1, g', c', m.to + 1, out ++ [⟨zz, m.fr - 1⟩], by omega, by go_num, rfl, by omega, by rw [List.length_append]; rfl, by rw [List.length_append, List.flatMap_append]; exact hown', hB', hM, by simp; omega⟩
        case measure => simp [intOf]; omega
      · rw [if_neg h1, List.nil_append] at hst
        have hM := Lib.hid (hM.out.trans (by rw [hst]))
        clear hst
        go_wp2
        go_roundw
        case rel => exact ⟨k + 1, g, c, m.to + 1, out, by omega, by go_num, rfl, by omega, rfl, hown, hB, hM, by omega⟩
        case measure => simp [intOf]; omega
    · obtain rfl : k = xs.length := by omega
      have hM := Lib.hid (hM.out.trans (by rw [List.drop_eq_nil_of_le (Nat.le_refl _), oth_end]))
      by_cases h1 : zz ≤ 730499
      · have hM := Lib.hid (hM.out.trans (by rw [if_pos h1]))
        have hs := hB.size
        go_wp2_with (at_builtin; refine wpList_append_own _ rfl _ _ 53 rfl w.heap.size 99 i0 (.agg #[.int .i64 0, .int .i64 0]) 2 16 Tryd.underlying53 hi hz0 hz1 hz2 rfl (by decide) _ _ _ rfl (hown.alloc _) ⟨wr.heap.size, 0, none⟩ 1 1 [.int .i64 zz, .int .i64 730499] rfl rfl (cell_two_new _ _ _ _) ?c2 ?c3 ?c4 ?c5 ?_)
        case c2 => intro u hu; simp at hu; rcases hu with rfl | rfl <;> rfl
        case c3 => unfold maxLen; omega
        case c4 => omega
        case c5 => have := hB.size; simp; omega
        intro v' w4 hown' hgr _
        have hB' := (hB.alloc hB.size (.cells #[.int .i64 zz, .int .i64 730499] 99)).grown hgr (Nat.le_trans hB.size (by simp)) (fun x hx => (hown.lt x hx).1)
        obtain ⟨g', c', rfl⟩ := formJ hown' (by omega)
        clear hgr hown hB
        go_wp2
        go_ret
        rw [hM.out]
        exact ⟨_, _, by rw [List.length_append]; rfl, by rw [List.length_append, List.flatMap_append]; exact hown', hB'⟩
      · have hM := Lib.hid (hM.out.trans (by rw [if_neg h1, List.append_nil]))
        go_wp2
        go_ret
        rw [hM.out]
        exact ⟨_, _, rfl, hown, hB⟩

set_option maxRecDepth 100000 in
set_option maxHeartbeats 2000000 in
theorem others_any (a : Option Addr) (cap n : Nat) (xs : List Sp) (w : World) (hn : xs.length = n) (hl : n ≤ 1048575) (hx : Rd encSp w a xs) (ho : ∀ x ∈ xs, OkSp 0 730499 x) :
    Calls Tryd.prog 106 #[.slice a n cap] w fun e w' => ∃ b c, e = .returned (.slice b (othGo 0 xs).length c) ∧ w'.ownsRow w.heap.size 99 2 (.slice b (othGo 0 xs).length c) (othGo 0 xs).length ((othGo 0 xs).flatMap encSp) ∧ Below w.heap.size w w' := by
  subst hn
  obtain ⟨i0, hi, hz0, hz1, hz2⟩ := info_parts infoSp
  have hB0 : Below w.heap.size w (w.alloc (.cells #[] 99)) := (Below.refl _ w).alloc (Nat.le_refl _) _
  have hown0 := World.ownsRow_made w #[] 0 (Nat.le_refl _) (by decide) rfl (e := 99) (size := 2)
  have hR := Lib.hid (rfl : othGo 0 xs = othGo 0 xs)
  generalize hG : othGo 0 xs = R at hR ⊢
  have hG' : Hid (R = [] ++ othGo 0 (xs.drop 0)) := by unfold Hid; rw [← hG]; rfl
  clear hG hR
  go_enter Tryd.func106, Tryd.ntmps106
  go_wp2
  go_loopw [3, 4, 10] (fun o z i wr => ∃ (k g c : Nat) (zz : Int) (out : List Sp), k ≤ xs.length ∧ i = .int .i64 k ∧ z = .int .i64 zz ∧ (0 ≤ zz ∧ zz ≤ 730500) ∧ o = .slice (some ⟨g, 0, none⟩) out.length c ∧ wr.ownsRow w.heap.size 99 2 (.slice (some ⟨g, 0, none⟩) out.length c) out.length (out.flatMap encSp) ∧ Below w.heap.size w wr ∧ Hid (R = out ++ othGo zz (xs.drop k)) ∧ out.length ≤ k) (fun _ _ i _ => xs.length - (intOf i).toNat)
  case atStart => exact ⟨0, _, _, 0, [], Nat.zero_le _, rfl, rfl, by omega, rfl, hown0, hB0, hG', Nat.le_refl _⟩
  case round =>
    clear hown0 hB0 hG'
    obtain ⟨k, g, c, zz, out, hk, rfl, rfl, hzz, rfl, hown, hB, hM, hlo⟩ := hrel
    by_cases hlt : k < xs.length
    · have hm := List.getElem?_eq_getElem hlt
      generalize xs[k] = m at hm
      have hok := ho m (List.mem_of_getElem? hm)
      obtain ⟨b, off, rfl, hb, c0, c1⟩ := (hx.below hB).sp hm
      have hst := oth_at (z := zz) hm
      have hk1 : (k : Int) < (xs.length : Int) := by omega
      have hs := hB.size
      unfold OkSp at hok
      have hw1 : IntKind.i64.wrap (m.fr - 1) = m.fr - 1 := by rw [IntKind.wrap_i64]; omega
      have hw2 : IntKind.i64.wrap (m.to + 1) = m.to + 1 := by rw [IntKind.wrap_i64]; omega
      clear hm
      go_upto_region 6 with (fail)
      generalize hW : wr.alloc (.cells #[.int .i64 m.fr, .int .i64 m.to] 99) = W
      have hBW : Below wr.heap.size wr W := by rw [← hW]; go_grown
      have D0 : W.cell? ⟨wr.heap.size, 0, none⟩ = some (.int .i64 m.fr) := by rw [← hW]; exact World.cell?_alloc_at _ _ _ _ rfl
      have D1 : W.cell? ⟨wr.heap.size, 1, none⟩ = some (.int .i64 m.to) := by rw [← hW]; exact World.cell?_alloc_at _ _ _ _ rfl
      have hd : wr.heap.size < W.heap.size := by rw [← hW]; simp
      have hgo := own_lt hown
      have hown := own_below hown hBW
      have hB := stepB hB hBW hB.size
      have hs := hB.size
      have hgx : ∀ x, Value.ownBlock (.slice (some ⟨g, 0, none⟩) out.length c) = some x → wr.heap.size ≠ x := by
        intro x hx'
        have h1 : g = x := by simpa [Value.ownBlock] using hx'
        omega
      clear hW c0 c1 hb hBW
      by_cases h1 : zz < m.fr
      · rw [if_pos h1] at hst
        have hM := Lib.hid (hM.out.trans (by rw [hst, ← List.append_assoc]))
        clear hst
        go_wp2_with (at_builtin; refine wpList_append_own _ rfl _ _ 53 rfl w.heap.size 99 i0 (.agg #[.int .i64 0, .int .i64 0]) 2 16 Tryd.underlying53 hi hz0 hz1 hz2 rfl (by decide) _ _ _ rfl (hown.alloc _) ⟨W.heap.size, 0, none⟩ 1 1 [.int .i64 zz, .int .i64 (m.fr - 1)] rfl rfl (cell_two_new _ _ _ _) ?c2 ?c3 ?c4 ?c5 ?_)
        case c2 => intro u hu; simp at hu; rcases hu with rfl | rfl <;> rfl
        case c3 => unfold maxLen; omega
        case c4 => omega
        case c5 => have := hB.size; simp; omega
        intro v' w4 hown' hgr _
        have hB' := (hB.alloc hB.size (.cells #[.int .i64 zz, .int .i64 (m.fr - 1)] 99)).grown hgr (Nat.le_trans hB.size (by simp)) (fun x hx => (hown.lt x hx).1)
        obtain ⟨g', c', rfl⟩ := formJ hown' (by omega)
        have D1 := (gcell hgr (p := ⟨wr.heap.size, 1, none⟩) (by simp; omega) hgx).trans (((Below.refl _ W).alloc (Nat.le_refl _) (.cells #[.int .i64 zz, .int .i64 (m.fr - 1)] 99)).cell (p := ⟨wr.heap.size, 1, none⟩) hd |>.trans D1)
        clear hgr hown hB D0
        go_wp2
        go_roundw
        case rel => exact ⟨k + 1, g', c', m.to + 1, out ++ [⟨zz, m.fr - 1⟩], by omega, by go_num, rfl, by omega, by rw [List.length_append]; rfl, by rw [List.length_append, List.flatMap_append]; exact hown', hB', hM, by simp; omega⟩
        case measure => simp [intOf]; omega
      · rw [if_neg h1, List.nil_append] at hst
        have hM := Lib.hid (hM.out.trans (by rw [hst]))
        clear hst
        go_wp2
        go_roundw
        case rel => exact ⟨k + 1, g, c, m.to + 1, out, by omega, by go_num, rfl, by omega, rfl, hown, hB, hM, by omega⟩
        case measure => simp [intOf]; omega
    · obtain rfl : k = xs.length := by omega
      have hM := Lib.hid (hM.out.trans (by rw [List.drop_eq_nil_of_le (Nat.le_refl _), oth_end]))
      by_cases h1 : zz ≤ 730499
      · have hM := Lib.hid (hM.out.trans (by rw [if_pos h1]))
        have hs := hB.size
        go_wp2_with (at_builtin; refine wpList_append_own _ rfl _ _ 53 rfl w.heap.size 99 i0 (.agg #[.int .i64 0, .int .i64 0]) 2 16 Tryd.underlying53 hi hz0 hz1 hz2 rfl (by decide) _ _ _ rfl (hown.alloc _) ⟨wr.heap.size, 0, none⟩ 1 1 [.int .i64 zz, .int .i64 730499] rfl rfl (cell_two_new _ _ _ _) ?c2 ?c3 ?c4 ?c5 ?_)
        case c2 => intro u hu; simp at hu; rcases hu with rfl | rfl <;> rfl
        case c3 => unfold maxLen; omega
        case c4 => omega
        case c5 => have := hB.size; simp; omega
        intro v' w4 hown' hgr _
        have hB' := (hB.alloc hB.size (.cells #[.int .i64 zz, .int .i64 730499] 99)).grown hgr (Nat.le_trans hB.size (by simp)) (fun x hx => (hown.lt x hx).1)
        obtain ⟨g', c', rfl⟩ := formJ hown' (by omega)
        clear hgr hown hB
        go_wp2
        go_ret
        rw [hM.out]
        exact ⟨_, _, by rw [List.length_append]; rfl, by rw [List.length_append, List.flatMap_append]; exact hown', hB'⟩
      · have hM := Lib.hid (hM.out.trans (by rw [if_neg h1, List.append_nil]))
        go_wp2
        go_ret
        rw [hM.out]
        exact ⟨_, _, rfl, hown, hB⟩

set_option maxHeartbeats 1000000 in
theorem without_any (a b : Option Addr) (cap cap' n n' : Nat) (xs ys : List Sp) (w : World) (hn : xs.length = n) (hn' : ys.length = n') (hl : n ≤ 1048576) (hl' : n' ≤ 1048575) (hx : Rd encSp w a xs) (hy : Rd encSp w b ys) (ho : ∀ x ∈ ys, OkSp 0 730499 x) :
    Calls Tryd.prog 75 #[.slice a n cap, .slice b n' cap'] w fun e w' => ∃ g c, e = .returned (.slice (some ⟨g, 0, none⟩) (met xs (othGo 0 ys)).length c) ∧ w'.ownsRow w.heap.size 99 2 (.slice (some ⟨g, 0, none⟩) (met xs (othGo 0 ys)).length c) (met xs (othGo 0 ys)).length ((met xs (othGo 0 ys)).flatMap encSp) ∧ Below w.heap.size w w' := by
  subst hn hn'
  have HO := Lib.hid (fun W h => others_any b cap' ys.length ys W rfl hl' h ho)
  have hol := othGo_len ys 0
  generalize othGo 0 ys = zs at HO hol ⊢
  have HM := Lib.hid (fun W (b' : Option Addr) c' h h' => met_any a b' cap c' xs.length zs.length xs zs W rfl rfl hl (by omega) h h')
  go_enter Tryd.func75, Tryd.ntmps75
  go_wp2_with fail
  refine (HO.out _ hy).mono ?_
  rintro e w1 ⟨b1, c1, rfl, ho1, hB1⟩
  go_wp2_with fail
  refine (HM.out _ _ _ (hx.below hB1) (Rd.of_own encSp_len (by decide) ho1)).mono ?_
  rintro e w2 ⟨g, c, rfl, ho2, hB2⟩
  go_wp2
  go_ret
  exact ⟨_, _, rfl, own_base ho2 hB1.size, stepB hB1 hB2 hB1.size⟩
end Go.Proofs.YtddjedbnikhjkaaDoor
