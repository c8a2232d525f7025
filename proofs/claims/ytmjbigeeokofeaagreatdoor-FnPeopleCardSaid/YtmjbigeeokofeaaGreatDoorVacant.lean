/- Walks: VacantDays. Printed by gen_pp2.py. -/
import Derived.Test.YtmjbigeeokofeaaGreatDoorSpMet
import Derived.Test.YtmjbigeeokofeaaGreatDoorOffice
namespace Go.Proofs.YtmjbigeeokofeaaGreatDoor
section
open Go.ChangeShapes Go.WideShapes Go.ChangeAt Go.RowKit

theorem oth_at {xs : List Sp} {i : Nat} {z : Int} {m : Sp} (h : xs[i]? = some m) : othGo z (xs.drop i) = (if z < m.fr then [⟨z, m.fr - 1⟩] else []) ++ othGo (m.to + 1) (xs.drop (i + 1)) := by
  rw [drop_at h]; rfl
theorem oth_end (z : Int) : othGo z [] = if z ≤ 730499 then [⟨z, 730499⟩] else [] := rfl

set_option maxRecDepth 100000 in
set_option maxHeartbeats 2000000 in
theorem l02Rest_any (a : Option Addr) (cap n : Nat) (xs : List Sp) (w : World) (hn : xs.length = n) (hl : n ≤ 1048575) (hx : Rd encSp w a xs) (ho : ∀ x ∈ xs, OkSp 0 730499 x) :
    Calls Tryz.prog 82 #[.slice a n cap] w fun e w' => ∃ b c, e = .returned (.slice b (othGo 0 xs).length c) ∧ w'.ownsRow w.heap.size 64 2 (.slice b (othGo 0 xs).length c) (othGo 0 xs).length ((othGo 0 xs).flatMap encSp) ∧ Below w.heap.size w w' := by
  subst hn
  obtain ⟨i0, hi, hz0, hz1, hz2⟩ := info_parts infoSp
  have hB0 : Below w.heap.size w (w.alloc (.cells #[] 64)) := (Below.refl _ w).alloc (Nat.le_refl _) _
  have hown0 := World.ownsRow_made w #[] 0 (Nat.le_refl _) (by decide) rfl (e := 64) (size := 2)
  have hR := Lib.hid (rfl : othGo 0 xs = othGo 0 xs)
  generalize hG : othGo 0 xs = R at hR ⊢
  have hG' : Hid (R = [] ++ othGo 0 (xs.drop 0)) := by unfold Hid; rw [← hG]; rfl
  clear hG hR
  go_enter Tryz.func82, Tryz.ntmps82
  go_wp2
  go_loopw [3, 4, 5] (fun o z i wr => ∃ (k g c : Nat) (zz : Int) (out : List Sp), k ≤ xs.length ∧ i = .int .i64 k ∧ z = .int .i64 zz ∧ (0 ≤ zz ∧ zz ≤ 730500) ∧ o = .slice (some ⟨g, 0, none⟩) out.length c ∧ wr.ownsRow w.heap.size 64 2 (.slice (some ⟨g, 0, none⟩) out.length c) out.length (out.flatMap encSp) ∧ Below w.heap.size w wr ∧ Hid (R = out ++ othGo zz (xs.drop k)) ∧ out.length ≤ k) (fun _ _ i _ => xs.length - (intOf i).toNat)
  case atStart => exact ⟨0, _, _, 0, [], Nat.zero_le _, rfl, rfl, by omega, rfl, hown0, hB0, hG', Nat.le_refl _⟩
  case round =>
    clear hown0 hB0 hG'
    obtain ⟨k, g, c, zz, out, hk, rfl, rfl, hzz, rfl, hown, hB, hM, hlo⟩ := hrel
    by_cases hlt : k < xs.length
    · have hm := List.getElem?_eq_getElem hlt
      generalize xs[k] = m at hm
      have hok := ho m (List.mem_of_getElem? hm)
      obtain ⟨b, off, rfl, hb, c0, c1⟩ := (hx.below hB).sp hm
      have hst := oth_at (z := zz) hm
      have hk1 : (k : Int) < (xs.length : Int) := by omega
      have hs := hB.size
      unfold OkSp at hok
      have hw1 : IntKind.i64.wrap (m.fr - 1) = m.fr - 1 := by rw [IntKind.wrap_i64]; omega
      have hw2 : IntKind.i64.wrap (m.to + 1) = m.to + 1 := by rw [IntKind.wrap_i64]; omega
      clear hm
      have hgx : ∀ x, Value.ownBlock (.slice (some ⟨g, 0, none⟩) out.length c) = some x → b ≠ x := by
        intro x hx'
        obtain ⟨_, _, e, hbw, _⟩ := hx.sp (List.getElem?_eq_getElem hlt)
        simp only [Option.some.injEq, Addr.mk.injEq] at e
        have h2 := (hown.lt x hx').1
        omega
      by_cases h1 : zz < m.fr
      · rw [if_pos h1] at hst
        have hM := Lib.hid (hM.out.trans (by rw [hst, ← List.append_assoc]))
        clear hst
        go_wp2_with (at_builtin; refine wpList_append_own _ rfl _ _ 38 rfl w.heap.size 64 i0 (.agg #[.int .i64 0, .int .i64 0]) 2 16 Tryz.underlying38 hi hz0 hz1 hz2 rfl (by decide) _ _ _ rfl (hown.alloc _) ⟨wr.heap.size, 0, none⟩ 1 1 [.int .i64 zz, .int .i64 (m.fr - 1)] rfl rfl (cell_two_new _ _ _ _) ?c2 ?c3 ?c4 ?c5 ?_)
        case c2 => intro u hu; simp at hu; rcases hu with rfl | rfl <;> rfl
        case c3 => unfold maxLen; omega
        case c4 => omega
        case c5 => have := hB.size; simp; omega
        intro v' w4 hown' hgr _
        have hB' := (hB.alloc hB.size (.cells #[.int .i64 zz, .int .i64 (m.fr - 1)] 64)).grown hgr (Nat.le_trans hB.size (by simp)) (fun x hx => (hown.lt x hx).1)
        obtain ⟨g', c', rfl⟩ := formJ hown' (by omega)
        have c1 := (gcell hgr (p := ⟨b, off + k * 2 + 1, none⟩) (by simp; omega) hgx).trans (((Below.refl _ wr).alloc (Nat.le_refl _) (.cells #[.int .i64 zz, .int .i64 (m.fr - 1)] 64)).cell (p := ⟨b, off + k * 2 + 1, none⟩) hb |>.trans c1)
        clear hgr hown hB c0
        go_wp2
        go_roundw
        case rel => exact ⟨k + 1, g', c', m.to + 1, out ++ [⟨zz, m.fr - 1⟩], by omega, by go_num, rfl, by omega, by rw [List.length_append]; rfl, by rw [List.length_append, List.flatMap_append]; exact hown', hB', hM, by simp; omega⟩
        case measure => simp [intOf]; omega
      · rw [if_neg h1, List.nil_append] at hst
        have hM := Lib.hid (hM.out.trans (by rw [hst]))
        clear hst
        go_wp2
        go_roundw
        case rel => exact ⟨k + 1, g, c, m.to + 1, out, by omega, by go_num, rfl, by omega, rfl, hown, hB, hM, by omega⟩
        case measure => simp [intOf]; omega
    · obtain rfl : k = xs.length := by omega
      have hM := Lib.hid (hM.out.trans (by rw [List.drop_eq_nil_of_le (Nat.le_refl _), oth_end]))
      by_cases h1 : zz ≤ 730499
      · have hM := Lib.hid (hM.out.trans (by rw [if_pos h1]))
        have hs := hB.size
        go_wp2_with (at_builtin; refine wpList_append_own _ rfl _ _ 38 rfl w.heap.size 64 i0 (.agg #[.int .i64 0, .int .i64 0]) 2 16 Tryz.underlying38 hi hz0 hz1 hz2 rfl (by decide) _ _ _ rfl (hown.alloc _) ⟨wr.heap.size, 0, none⟩ 1 1 [.int .i64 zz, .int .i64 730499] rfl rfl (cell_two_new _ _ _ _) ?c2 ?c3 ?c4 ?c5 ?_)
        case c2 => intro u hu; simp at hu; rcases hu with rfl | rfl <;> rfl
        case c3 => unfold maxLen; omega
        case c4 => omega
        case c5 => have := hB.size; simp; omega
        intro v' w4 hown' hgr _
        have hB' := (hB.alloc hB.size (.cells #[.int .i64 zz, .int .i64 730499] 64)).grown hgr (Nat.le_trans hB.size (by simp)) (fun x hx => (hown.lt x hx).1)
        obtain ⟨g', c', rfl⟩ := formJ hown' (by omega)
        clear hgr hown hB
        go_wp2
        go_ret
        rw [hM.out]
        exact ⟨_, _, by rw [List.length_append]; rfl, by rw [List.length_append, List.flatMap_append]; exact hown', hB'⟩
      · have hM := Lib.hid (hM.out.trans (by rw [if_neg h1, List.append_nil]))
        go_wp2
        go_ret
        rw [hM.out]
        exact ⟨_, _, rfl, hown, hB⟩

set_option maxRecDepth 100000 in
set_option maxHeartbeats 2000000 in
theorem others_any (a : Option Addr) (cap n : Nat) (xs : List Sp) (w : World) (hn : xs.length = n) (hl : n ≤ 1048575) (hx : Rd encSp w a xs) (ho : ∀ x ∈ xs, OkSp 0 730499 x) :
    Calls Tryz.prog 125 #[.slice a n cap] w fun e w' => ∃ b c, e = .returned (.slice b (othGo 0 xs).length c) ∧ w'.ownsRow w.heap.size 64 2 (.slice b (othGo 0 xs).length c) (othGo 0 xs).length ((othGo 0 xs).flatMap encSp) ∧ Below w.heap.size w w' := by
  subst hn
  obtain ⟨i0, hi, hz0, hz1, hz2⟩ := info_parts infoSp
  have hB0 : Below w.heap.size w (w.alloc (.cells #[] 64)) := (Below.refl _ w).alloc (Nat.le_refl _) _
  have hown0 := World.ownsRow_made w #[] 0 (Nat.le_refl _) (by decide) rfl (e := 64) (size := 2)
  have hR := Lib.hid (rfl : othGo 0 xs = othGo 0 xs)
  generalize hG : othGo 0 xs = R at hR ⊢
  have hG' : Hid (R = [] ++ othGo 0 (xs.drop 0)) := by unfold Hid; rw [← hG]; rfl
  clear hG hR
  go_enter Tryz.func125, Tryz.ntmps125
  go_wp2
  go_loopw [3, 4, 10] (fun o z i wr => ∃ (k g c : Nat) (zz : Int) (out : List Sp), k ≤ xs.length ∧ i = .int .i64 k ∧ z = .int .i64 zz ∧ (0 ≤ zz ∧ zz ≤ 730500) ∧ o = .slice (some ⟨g, 0, none⟩) out.length c ∧ wr.ownsRow w.heap.size 64 2 (.slice (some ⟨g, 0, none⟩) out.length c) out.length (out.flatMap encSp) ∧ Below w.heap.size w wr ∧ Hid (R = out ++ othGo zz (xs.drop k)) ∧ out.length ≤ k) (fun _ _ i _ => xs.length - (intOf i).toNat)
  case atStart => exact ⟨0, _, _, 0, [], Nat.zero_le _, rfl, rfl, by omega, rfl, hown0, hB0, hG', Nat.le_refl _⟩
  case round =>
    clear hown0 hB0 hG'
    obtain ⟨k, g, c, zz, out, hk, rfl, rfl, hzz, rfl, hown, hB, hM, hlo⟩ := hrel
    by_cases hlt : k < xs.length
    · have hm := List.getElem?_eq_getElem hlt
      generalize xs[k] = m at hm
      have hok := ho m (List.mem_of_getElem? hm)
      obtain ⟨b, off, rfl, hb, c0, c1⟩ := (hx.below hB).sp hm
      have hst := oth_at (z := zz) hm
      have hk1 : (k : Int) < (xs.length : Int) := by omega
      have hs := hB.size
      unfold OkSp at hok
      have hw1 : IntKind.i64.wrap (m.fr - 1) = m.fr - 1 := by rw [IntKind.wrap_i64]; omega
      have hw2 : IntKind.i64.wrap (m.to + 1) = m.to + 1 := by rw [IntKind.wrap_i64]; omega
      clear hm
      go_upto_region 6 with (fail)
      generalize hW : wr.alloc (.cells #[.int .i64 m.fr, .int .i64 m.to] 64) = W
      have hBW : Below wr.heap.size wr W := by rw [← hW]; go_grown
      have D0 : W.cell? ⟨wr.heap.size, 0, none⟩ = some (.int .i64 m.fr) := by rw [← hW]; exact World.cell?_alloc_at _ _ _ _ rfl
      have D1 : W.cell? ⟨wr.heap.size, 1, none⟩ = some (.int .i64 m.to) := by rw [← hW]; exact World.cell?_alloc_at _ _ _ _ rfl
      have hd : wr.heap.size < W.heap.size := by rw [← hW]; simp
      have hgo := own_lt hown
      have hown := own_below hown hBW
      have hB := stepB hB hBW hB.size
      have hs := hB.size
      have hgx : ∀ x, Value.ownBlock (.slice (some ⟨g, 0, none⟩) out.length c) = some x → wr.heap.size ≠ x := by
        intro x hx'
        have h1 : g = x := by simpa [Value.ownBlock] using hx'
        omega
      clear hW c0 c1 hb hBW
      by_cases h1 : zz < m.fr
      · rw [if_pos h1] at hst
        have hM := Lib.hid (hM.out.trans (by rw [hst, ← List.append_assoc]))
        clear hst
        go_wp2_with (at_builtin; refine wpList_append_own _ rfl _ _ 38 rfl w.heap.size 64 i0 (.agg #[.int .i64 0, .int .i64 0]) 2 16 Tryz.underlying38 hi hz0 hz1 hz2 rfl (by decide) _ _ _ rfl (hown.alloc _) ⟨W.heap.size, 0, none⟩ 1 1 [.int .i64 zz, .int .i64 (m.fr - 1)] rfl rfl (cell_two_new _ _ _ _) ?c2 ?c3 ?c4 ?c5 ?_)
        case c2 => intro u hu; simp at hu; rcases hu with rfl | rfl <;> rfl
        case c3 => unfold maxLen; omega
        case c4 => omega
        case c5 => have := hB.size; simp; omega
        intro v' w4 hown' hgr _
        have hB' := (hB.alloc hB.size (.cells #[.int .i64 zz, .int .i64 (m.fr - 1)] 64)).grown hgr (Nat.le_trans hB.size (by simp)) (fun x hx => (hown.lt x hx).1)
        obtain ⟨g', c', rfl⟩ := formJ hown' (by omega)
        have D1 := (gcell hgr (p := ⟨wr.heap.size, 1, none⟩) (by simp; omega) hgx).trans (((Below.refl _ W).alloc (Nat.le_refl _) (.cells #[.int .i64 zz, .int .i64 (m.fr - 1)] 64)).cell (p := ⟨wr.heap.size, 1, none⟩) hd |>.trans D1)
        clear hgr hown hB D0
        go_wp2
        go_roundw
        case rel => exact ⟨k + 1, g', c', m.to + 1, out ++ [⟨zz, m.fr - 1⟩], by omega, by go_num, rfl, by omega, by rw [List.length_append]; rfl, by rw [List.length_append, List.flatMap_append]; exact hown', hB', hM, by simp; omega⟩
        case measure => simp [intOf]; omega
      · rw [if_neg h1, List.nil_append] at hst
        have hM := Lib.hid (hM.out.trans (by rw [hst]))
        clear hst
        go_wp2
        go_roundw
        case rel => exact ⟨k + 1, g, c, m.to + 1, out, by omega, by go_num, rfl, by omega, rfl, hown, hB, hM, by omega⟩
        case measure => simp [intOf]; omega
    · obtain rfl : k = xs.length := by omega
      have hM := Lib.hid (hM.out.trans (by rw [List.drop_eq_nil_of_le (Nat.le_refl _), oth_end]))
      by_cases h1 : zz ≤ 730499
      · have hM := Lib.hid (hM.out.trans (by rw [if_pos h1]))
        have hs := hB.size
        go_wp2_with (at_builtin; refine wpList_append_own _ rfl _ _ 38 rfl w.heap.size 64 i0 (.agg #[.int .i64 0, .int .i64 0]) 2 16 Tryz.underlying38 hi hz0 hz1 hz2 rfl (by decide) _ _ _ rfl (hown.alloc _) ⟨wr.heap.size, 0, none⟩ 1 1 [.int .i64 zz, .int .i64 730499] rfl rfl (cell_two_new _ _ _ _) ?c2 ?c3 ?c4 ?c5 ?_)
        case c2 => intro u hu; simp at hu; rcases hu with rfl | rfl <;> rfl
        case c3 => unfold maxLen; omega
        case c4 => omega
        case c5 => have := hB.size; simp; omega
        intro v' w4 hown' hgr _
        have hB' := (hB.alloc hB.size (.cells #[.int .i64 zz, .int .i64 730499] 64)).grown hgr (Nat.le_trans hB.size (by simp)) (fun x hx => (hown.lt x hx).1)
        obtain ⟨g', c', rfl⟩ := formJ hown' (by omega)
        clear hgr hown hB
        go_wp2
        go_ret
        rw [hM.out]
        exact ⟨_, _, by rw [List.length_append]; rfl, by rw [List.length_append, List.flatMap_append]; exact hown', hB'⟩
      · have hM := Lib.hid (hM.out.trans (by rw [if_neg h1, List.append_nil]))
        go_wp2
        go_ret
        rw [hM.out]
        exact ⟨_, _, rfl, hown, hB⟩

set_option maxHeartbeats 1000000 in
theorem without_any (a b : Option Addr) (cap cap' n n' : Nat) (xs ys : List Sp) (w : World) (hn : xs.length = n) (hn' : ys.length = n') (hl : n ≤ 1048576) (hl' : n' ≤ 1048575) (hx : Rd encSp w a xs) (hy : Rd encSp w b ys) (ho : ∀ x ∈ ys, OkSp 0 730499 x) :
    Calls Tryz.prog 77 #[.slice a n cap, .slice b n' cap'] w fun e w' => ∃ g c, e = .returned (.slice (some ⟨g, 0, none⟩) (met xs (othGo 0 ys)).length c) ∧ w'.ownsRow w.heap.size 64 2 (.slice (some ⟨g, 0, none⟩) (met xs (othGo 0 ys)).length c) (met xs (othGo 0 ys)).length ((met xs (othGo 0 ys)).flatMap encSp) ∧ Below w.heap.size w w' := by
  subst hn hn'
  have HO := Lib.hid (fun W h => others_any b cap' ys.length ys W rfl hl' h ho)
  have hol := othGo_len ys 0
  generalize othGo 0 ys = zs at HO hol ⊢
  have HM := Lib.hid (fun W (b' : Option Addr) c' h h' => met_any a b' cap c' xs.length zs.length xs zs W rfl rfl hl (by omega) h h')
  go_enter Tryz.func77, Tryz.ntmps77
  go_wp2_with fail
  refine (HO.out _ hy).mono ?_
  rintro e w1 ⟨b1, c1, rfl, ho1, hB1⟩
  go_wp2_with fail
  refine (HM.out _ _ _ (hx.below hB1) (Rd.of_own encSp_len (by decide) ho1)).mono ?_
  rintro e w2 ⟨g, c, rfl, ho2, hB2⟩
  go_wp2
  go_ret
  exact ⟨_, _, rfl, own_base ho2 hB1.size, stepB hB1 hB2 hB1.size⟩
end

section
open Go.ChangeShapes Go.WideShapes Go.ChangeAt Go.RowKit

def vac (hs : List Sp) : List Sp := match hs.head?, hs.getLast? with
  | some a, some b => met [⟨a.fr, b.to⟩] (othGo 0 hs)
  | _, _ => []
theorem vac_at {hs : List Sp} {a b : Sp} (h0 : hs[0]? = some a) (h1 : hs[hs.length - 1]? = some b) : vac hs = met [⟨a.fr, b.to⟩] (othGo 0 hs) := by
  unfold vac
  rw [List.head?_eq_getElem?, List.getLast?_eq_getElem?, h0, h1]
theorem vac_len (hs : List Sp) : (vac hs).length ≤ hs.length + 2 := by
  unfold vac
  split
  · rename_i a b _ _
    have h1 := met_len [⟨a.fr, b.to⟩] (othGo 0 hs)
    have h2 := othGo_len hs 0
    simp only [List.length_cons, List.length_nil] at h1
    omega
  · simp
def vacantR (ps : List Ps) (ts : List Tm) (o : ByteArray) : List Sp × Int :=
  if isPeopleB ps ts then (vac (uni (tsp (isO o) ts)), 0) else ([], 1)
theorem vacantR_len (ps : List Ps) (ts : List Tm) (o : ByteArray) : (vacantR ps ts o).1.length ≤ 1048576 := by
  have h1 := uni_len (tsp (isO o) ts)
  have h2 := tsp_len (isO o) ts
  have h3 := vac_len (uni (tsp (isO o) ts))
  unfold vacantR
  split
  · rename_i h
    have := (people_bd h).2
    show (vac (uni (tsp (isO o) ts))).length ≤ 1048576
    omega
  · simp
theorem rd_new (w : World) (f t : Int) (T : TypeId) : Rd encSp (w.alloc (.cells #[.int .i64 f, .int .i64 t] T)) (some ⟨w.heap.size, 0, none⟩) [⟨f, t⟩] := by
  intro i x hi
  refine ⟨w.heap.size, 0, rfl, by simp, fun j v hv => ?_⟩
  rw [World.cell?_alloc_at _ _ _ _ rfl]
  match i, hi with
  | 0, hi => cases hi; match j, hv with | 0, hv => cases hv; rfl | 1, hv => cases hv; rfl

set_option maxRecDepth 100000 in
set_option maxHeartbeats 4000000 in
theorem specVacant_any (a0 a1 : Option Addr) (cap0 cap1 : Nat) (xs0 : List Ps) (xs1 : List Tm) (o : ByteArray) (w : World) (hl0 : xs0.length ≤ 1048576) (hx0 : Rd encPs w a0 xs0) (hs0 : ∀ m ∈ xs0, szPs m ≤ 1048576) (hl1 : xs1.length ≤ 1048576) (hx1 : Rd encTm w a1 xs1) (hs1 : ∀ m ∈ xs1, szTm m ≤ 1048576) :
    Calls Tryz.prog 21 #[.agg #[.slice a0 xs0.length cap0, .slice a1 xs1.length cap1], .string o] w fun e w' => ∃ b c, e = .returned (.tuple #[.slice b (vacantR xs0 xs1 o).1.length c, .int .i64 (vacantR xs0 xs1 o).2]) ∧
      w'.ownsRow w.heap.size 64 2 (.slice b (vacantR xs0 xs1 o).1.length c) (vacantR xs0 xs1 o).1.length ((vacantR xs0 xs1 o).1.flatMap encSp) ∧ Below w.heap.size w w' := by
  have hA0 : At w [.slice a0 xs0.length cap0, .slice a1 xs1.length cap1] (w.alloc (.cells #[.slice a0 xs0.length cap0, .slice a1 xs1.length cap1] 48)) := At.start _ _ _
  have HM := Lib.hid (fun W (hAt : At w [.slice a0 xs0.length cap0, .slice a1 xs1.length cap1] W) => specIsPeople_any a0 a1 cap0 cap1 xs0 xs1 W hl0 (hx0.below hAt.below) hs0 hl1 (hx1.below hAt.below) hs1)
  cases hA : isPeopleB xs0 xs1
  · have HM := Lib.hid (fun W h => hA ▸ HM.out W h)
    have hR : Hid (vacantR xs0 xs1 o = ([], 1)) := by unfold Hid vacantR; rw [hA]; rfl
    clear hA
    go_enter Tryz.func21, Tryz.ntmps21
    go_wp2_with fail
    refine (HM.out _ hA0).mono ?_
    rintro e w1 ⟨rfl, hB1⟩
    go_wp2
    go_ret2
    rw [hR.out]
    exact ⟨none, 0, rfl, World.ownsRow_nil _ _ _ _, (hA0.step hB1).below⟩
  · have HM := Lib.hid (fun W h => hA ▸ HM.out W h)
    have hbd := people_bd hA
    have hok := tsp_ok hA (isO o)
    have HT := Lib.hid (fun W (hAt : At w [.slice a0 xs0.length cap0, .slice a1 xs1.length cap1] W) => l13Spans_any a0 a1 cap0 cap1 xs0 xs1 o W (by omega) (hx1.below hAt.below))
    have hlt := tsp_len (isO o) xs1
    have HU := Lib.hid (fun g cap W (h : Rd encSp W (some ⟨g, 0, none⟩) (tsp (isO o) xs1)) => l02Make_any (some ⟨g, 0, none⟩) cap _ (tsp (isO o) xs1) W rfl (by omega) h hok)
    have hR : Hid (vacantR xs0 xs1 o = (vac (uni (tsp (isO o) xs1)), 0)) := by unfold Hid vacantR; rw [if_pos hA]
    have hul := uni_len (tsp (isO o) xs1)
    have huo := (uni_facts hok).2.1
    generalize tsp (isO o) xs1 = ts at HT HU hR hul huo hlt hok
    have hul : (uni ts).length ≤ 60 := by omega
    clear hA hbd hok hlt
    generalize uni ts = hs at HU hR hul huo
    have HW := Lib.hid (fun b cap' W h2 => l02Rest_any b cap' hs.length hs W rfl (by omega) h2 huo)
    have hol := othGo_len hs 0
    have HMT := Lib.hid (fun a b cap cap' (f t : Int) W h1 h2 => l02Meet_any a b cap cap' 1 (othGo 0 hs).length [⟨f, t⟩] (othGo 0 hs) W rfl rfl (by omega) (by omega) h1 h2)
    go_enter Tryz.func21, Tryz.ntmps21
    go_wp2_with fail
    refine (HM.out _ hA0).mono ?_
    rintro e w1 ⟨rfl, hB1⟩
    have hA1 := hA0.step hB1
    have b0 := hA1.cell 0 _ rfl
    have b1 := hA1.cell 1 _ rfl
    clear hA0 hB1 HM
    go_wp2_with fail
    refine (HT.out _ hA1).mono ?_
    rintro e w2 ⟨g2, c2, rfl, ho2, hB2⟩
    have hA2 := hA1.step hB2
    have hrd := Rd.of_own encSp_len (by decide) ho2
    clear HT hA1 b0 b1 hB2 ho2
    go_wp2_with fail
    refine (HU.out _ _ _ hrd).mono ?_
    rintro e w3 ⟨g3, c3, rfl, ho3, hB3⟩
    have hA3 := hA2.step hB3
    have ho3 := own_base ho3 hA2.below.size
    clear HU hA2 hB3 hrd
    by_cases h0 : hs.length = 0
    · obtain rfl : hs = [] := List.eq_nil_of_length_eq_zero h0
      clear HW
      go_wp2
      go_ret2
      rw [hR.out]
      exact ⟨some ⟨w3.heap.size, 0, none⟩, 0, rfl, own_base (World.ownsRow_made w3 #[] 0 (Nat.le_refl _) (by decide) rfl) hA3.below.size, stepB hA3.below ((Below.refl _ _).alloc (Nat.le_refl _) _) hA3.below.size⟩
    · have hf := List.getElem?_eq_getElem (show 0 < hs.length by omega)
      have hlst := List.getElem?_eq_getElem (show hs.length - 1 < hs.length by omega)
      generalize hs[0] = a at hf
      generalize hs[hs.length - 1] = b at hlst
      have hv := vac_at hf hlst
      have hR := Lib.hid (hR.out.trans (by rw [hv]))
      have q0 := own_at encSp_len ho3 hf (j := 0) rfl
      have q1 := own_at encSp_len ho3 hlst (j := 1) rfl
      have hrd := Rd.of_own encSp_len (by decide) ho3
      have hg3 := own_lt ho3
      simp only [Nat.zero_mul, Nat.zero_add] at q0
      have hw0 : IntKind.i64.wrap ((hs.length : Int) - 1) = ((hs.length - 1 : Nat) : Int) := by rw [IntKind.wrap_i64]; omega
      have hk1 : ((hs.length - 1 : Nat) : Int) < (hs.length : Int) := by omega
      have hk2 : (0 : Int) < (hs.length : Int) := by omega
      have hk3 : (hs.length == 0) = false := by simpa using h0
      clear hf hlst hv
      go_wp2_with fail
      go_region_held_law (fun w' => w'.cell? ⟨g3, 0, none⟩ = some (.int .i64 a.fr) ∧ w'.cell? ⟨g3, (hs.length - 1) * 2 + 1, none⟩ = some (.int .i64 b.to)) (first | exact ⟨q0, q1⟩ | exact ⟨((((Below.refl _ w3).drew).alloc (Nat.le_refl _) _).cell (p := ⟨g3, 0, none⟩) hg3.2).trans q0, ((((Below.refl _ w3).drew).alloc (Nat.le_refl _) _).cell (p := ⟨g3, (hs.length - 1) * 2 + 1, none⟩) hg3.2).trans q1⟩) (fail)
      have hBn : Below w3.heap.size w3 (w3.drew.alloc (.cells #[.int .i64 a.fr, .int .i64 b.to] 64)) := ((Below.refl _ _).drew).alloc (Nat.le_refl _) _
      have hn := rd_new w3.drew a.fr b.to 64
      have hrd := hrd.below hBn
      have hA5 := hA3.step hBn
      clear hA3 hBn q0 q1 hg3 ho3
      go_wp2_with fail
      refine (HW.out _ _ _ hrd).mono ?_
      rintro e w5 ⟨b5, c5, rfl, ho5, hB5⟩
      have hn := hn.below hB5
      have hA6 := hA5.step hB5
      have hrd5 := Rd.of_own encSp_len (by decide) ho5
      clear HW hA5 hB5 ho5 hrd
      go_wp2_with fail
      refine (HMT.out _ _ _ _ _ _ _ hn hrd5).mono ?_
      rintro e w6 ⟨g6, c6, rfl, ho6, hB6⟩
      go_wp2
      go_ret2
      rw [hR.out]
      exact ⟨_, _, rfl, own_base ho6 hA6.below.size, (hA6.step hB6).below⟩

set_option maxRecDepth 100000 in
set_option maxHeartbeats 4000000 in
theorem implVacant_any (a0 a1 : Option Addr) (cap0 cap1 : Nat) (xs0 : List Ps) (xs1 : List Tm) (o : ByteArray) (w : World) (hl0 : xs0.length ≤ 1048576) (hx0 : Rd encPs w a0 xs0) (hs0 : ∀ m ∈ xs0, szPs m ≤ 1048576) (hl1 : xs1.length ≤ 1048576) (hx1 : Rd encTm w a1 xs1) (hs1 : ∀ m ∈ xs1, szTm m ≤ 1048576) :
    Calls Tryz.prog 20 #[.agg #[.slice a0 xs0.length cap0, .slice a1 xs1.length cap1], .string o] w fun e w' => ∃ b c, e = .returned (.tuple #[.slice b (vacantR xs0 xs1 o).1.length c, .int .i64 (vacantR xs0 xs1 o).2]) ∧
      w'.ownsRow w.heap.size 64 2 (.slice b (vacantR xs0 xs1 o).1.length c) (vacantR xs0 xs1 o).1.length ((vacantR xs0 xs1 o).1.flatMap encSp) ∧ Below w.heap.size w w' := by
  have hA0 : At w [.slice a0 xs0.length cap0, .slice a1 xs1.length cap1] (w.alloc (.cells #[.slice a0 xs0.length cap0, .slice a1 xs1.length cap1] 48)) := At.start _ _ _
  have HM := Lib.hid (fun W (hAt : At w [.slice a0 xs0.length cap0, .slice a1 xs1.length cap1] W) => implIsPeople_any a0 a1 cap0 cap1 xs0 xs1 W hl0 (hx0.below hAt.below) hs0 hl1 (hx1.below hAt.below) hs1)
  cases hA : isPeopleB xs0 xs1
  · have HM := Lib.hid (fun W h => hA ▸ HM.out W h)
    have hR : Hid (vacantR xs0 xs1 o = ([], 1)) := by unfold Hid vacantR; rw [hA]; rfl
    clear hA
    go_enter Tryz.func20, Tryz.ntmps20
    go_wp2_with fail
    refine (HM.out _ hA0).mono ?_
    rintro e w1 ⟨rfl, hB1⟩
    go_wp2
    go_ret2
    rw [hR.out]
    exact ⟨none, 0, rfl, World.ownsRow_nil _ _ _ _, (hA0.step hB1).below⟩
  · have HM := Lib.hid (fun W h => hA ▸ HM.out W h)
    have hbd := people_bd hA
    have hok := tsp_ok hA (isT o ⟨#[]⟩)
    have HT := Lib.hid (fun W (hAt : At w [.slice a0 xs0.length cap0, .slice a1 xs1.length cap1] W) => termsOf_any a0 a1 cap0 cap1 xs0 xs1 o ⟨#[]⟩ W (by omega) (hx1.below hAt.below))
    have hlt := tsp_len (isT o ⟨#[]⟩) xs1
    have HU := Lib.hid (fun g cap W (h : Rd encSp W (some ⟨g, 0, none⟩) (tsp (isT o ⟨#[]⟩) xs1)) => united_any g 0 cap _ (tsp (isT o ⟨#[]⟩) xs1) W rfl (by omega) h hok)
    have hR : Hid (vacantR xs0 xs1 o = (vac (uni (tsp (isT o ⟨#[]⟩) xs1)), 0)) := by unfold Hid vacantR; rw [if_pos hA, isT_none (ByteArray.toList_eq _)]
    have hul := uni_len (tsp (isT o ⟨#[]⟩) xs1)
    have huo := (uni_facts hok).2.1
    generalize tsp (isT o ⟨#[]⟩) xs1 = ts at HT HU hR hul huo hlt hok
    have hul : (uni ts).length ≤ 60 := by omega
    clear hA hbd hok hlt
    generalize uni ts = hs at HU hR hul huo
    have HW := Lib.hid (fun a b cap cap' (f t : Int) W h1 h2 => without_any a b cap cap' 1 hs.length [⟨f, t⟩] hs W rfl rfl (by omega) (by omega) h1 h2 huo)
    go_enter Tryz.func20, Tryz.ntmps20
    go_wp2_with fail
    refine (HM.out _ hA0).mono ?_
    rintro e w1 ⟨rfl, hB1⟩
    have hA1 := hA0.step hB1
    have b0 := hA1.cell 0 _ rfl
    have b1 := hA1.cell 1 _ rfl
    clear hA0 hB1 HM
    go_wp2_with fail
    refine (HT.out _ hA1).mono ?_
    rintro e w2 ⟨g2, c2, rfl, ho2, hB2⟩
    have hA2 := hA1.step hB2
    have hrd := Rd.of_own encSp_len (by decide) ho2
    clear HT hA1 b0 b1 hB2 ho2
    go_wp2_with fail
    refine (HU.out _ _ _ hrd).mono ?_
    rintro e w3 ⟨g3, c3, rfl, ho3, hB3⟩
    have hA3 := hA2.step hB3
    have ho3 := own_base ho3 hA2.below.size
    clear HU hA2 hB3 hrd
    by_cases h0 : hs.length = 0
    · obtain rfl : hs = [] := List.eq_nil_of_length_eq_zero h0
      clear HW
      go_wp2
      go_ret2
      rw [hR.out]
      exact ⟨none, 0, rfl, World.ownsRow_nil _ _ _ _, hA3.below⟩
    · have hf := List.getElem?_eq_getElem (show 0 < hs.length by omega)
      have hlst := List.getElem?_eq_getElem (show hs.length - 1 < hs.length by omega)
      generalize hs[0] = a at hf
      generalize hs[hs.length - 1] = b at hlst
      have hv := vac_at hf hlst
      have hR := Lib.hid (hR.out.trans (by rw [hv]))
      have q0 := own_at encSp_len ho3 hf (j := 0) rfl
      have q1 := own_at encSp_len ho3 hlst (j := 1) rfl
      have hrd := Rd.of_own encSp_len (by decide) ho3
      have hg3 := own_lt ho3
      simp only [Nat.zero_mul, Nat.zero_add] at q0
      have hw0 : IntKind.i64.wrap ((hs.length : Int) - 1) = ((hs.length - 1 : Nat) : Int) := by rw [IntKind.wrap_i64]; omega
      have hk1 : ((hs.length - 1 : Nat) : Int) < (hs.length : Int) := by omega
      have hk2 : (0 : Int) < (hs.length : Int) := by omega
      have hk3 : (hs.length == 0) = false := by simpa using h0
      clear hf hlst hv
      go_wp2_with fail
      go_region_held_law (fun w' => w'.cell? ⟨g3, 0, none⟩ = some (.int .i64 a.fr) ∧ w'.cell? ⟨g3, (hs.length - 1) * 2 + 1, none⟩ = some (.int .i64 b.to)) (first | exact ⟨q0, q1⟩ | exact ⟨((((Below.refl _ w3).drew).alloc (Nat.le_refl _) _).cell (p := ⟨g3, 0, none⟩) hg3.2).trans q0, ((((Below.refl _ w3).drew).alloc (Nat.le_refl _) _).cell (p := ⟨g3, (hs.length - 1) * 2 + 1, none⟩) hg3.2).trans q1⟩ | exact ⟨(hB6.cell (p := ⟨g3, 0, none⟩) (Nat.lt_of_lt_of_le hg3.2 (by simp))).trans (((((Below.refl _ w3).drew).alloc (Nat.le_refl _) _).cell (p := ⟨g3, 0, none⟩) hg3.2).trans q0), (hB6.cell (p := ⟨g3, (hs.length - 1) * 2 + 1, none⟩) (Nat.lt_of_lt_of_le hg3.2 (by simp))).trans (((((Below.refl _ w3).drew).alloc (Nat.le_refl _) _).cell (p := ⟨g3, (hs.length - 1) * 2 + 1, none⟩) hg3.2).trans q1)⟩) ((go_at_call 77; refine (HW.out _ _ _ _ _ _ _ (rd_new w3.drew a.fr b.to _) (hrd.below (((Below.refl _ w3).drew).alloc (Nat.le_refl _) _))).mono ?_; rintro e w6 ⟨g6, c6, rfl, ho6, hB6⟩))
      have hB7 : Below w3.heap.size w3 w6 := stepB (((Below.refl _ w3).drew).alloc (Nat.le_refl _) _) hB6 (by simp)
      go_wp2
      go_ret2
      rw [hR.out]
      exact ⟨_, _, rfl, own_base ho6 (Nat.le_trans hA3.below.size (by simp)), (hA3.step hB7).below⟩
end
end Go.Proofs.YtmjbigeeokofeaaGreatDoor
