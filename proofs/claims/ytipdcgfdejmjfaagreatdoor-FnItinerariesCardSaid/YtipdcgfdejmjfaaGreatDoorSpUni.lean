/- Walks: slices.Clone at spans; a set out of spans. Printed by gen_make.py. -/
import Derived.Test.YtipdcgfdejmjfaaGreatDoorSpMet
import Derived.Test.YtipdcgfdejmjfaaGreatDoorRSp
import Derived.Test.YtipdcgfdejmjfaaGreatDoorCLand
import Derived.Deep.AppendLies
import Derived.BigQuiet
import Derived.Deep.CutBlock
import Derived.Test.YtipdcgfdejmjfaaGreatDoorRowI
import Derived.Shelf.GgSortFunc.InsertionK
import Derived.Sort.LotA
import Derived.Test.YtipdcgfdejmjfaaGreatDoorSpPlain
import Derived.Test.YtipdcgfdejmjfaaGreatDoorCmp
import Derived.Test.YtipdcgfdejmjfaaGreatDoorShelf2
namespace Go.Proofs.YtipdcgfdejmjfaaGreatDoor
section
open Go.ChangeShapes Go.WideShapes Go.ChangeAt Go.RowKit

theorem pos_end {s : Sp} {ys : List Sp} {p : Nat} (h : p ≤ pos s ys) (hl : ¬ p < ys.length) : p = pos s ys := by
  have := pos_len s ys
  omega
theorem shift_step {ys : List Sp} {q : Nat} {y : Sp} (z : Sp) (h : ys[q]? = some y) : (ys.take (q + 1) ++ z :: ys.drop (q + 1)) = ys.take q ++ y :: z :: ys.drop (q + 1) ∧ y :: ys.drop (q + 1) = ys.drop q := by
  obtain ⟨hq, rfl⟩ := List.getElem?_eq_some_iff.1 h
  refine ⟨?_, (List.drop_eq_getElem_cons hq).symm⟩
  rw [List.take_succ_eq_append_getElem hq, List.append_assoc]
  rfl

set_option maxRecDepth 100000 in
set_option maxHeartbeats 4000000 in
theorem l02Make_any (a : Option Addr) (cap n : Nat) (xs : List Sp) (w : World) (hn : xs.length = n) (hl : n ≤ 1048574) (hx : Rd encSp w a xs) (ho : ∀ x ∈ xs, OkSp 0 730499 x) :
    Calls Tryz.prog 95 #[.slice a n cap] w fun e w' => ∃ g c, e = .returned (.slice (some ⟨g, 0, none⟩) (uni xs).length c) ∧ w'.ownsRow w.heap.size 112 2 (.slice (some ⟨g, 0, none⟩) (uni xs).length c) (uni xs).length ((uni xs).flatMap encSp) ∧ Below w.heap.size w w' := by
  subst hn
  obtain ⟨i0, hi, hz0, hz1, hz2⟩ := info_parts infoSp
  have hBs : Below w.heap.size w (w.alloc (.cells #[] 112)) := (Below.refl _ w).alloc (Nat.le_refl _) _
  have howns := World.ownsRow_made w #[] 0 (Nat.le_refl _) (by decide) rfl (e := 112) (size := 2)
  go_enter Tryz.func95, Tryz.ntmps95
  go_wp2
  go_loopw [3, 4] (fun s i wr => ∃ (k g c : Nat) (ys : List Sp), k ≤ xs.length ∧ i = .int .i64 k ∧ s = .slice (some ⟨g, 0, none⟩) ys.length c ∧ wr.ownsRow w.heap.size 112 2 (.slice (some ⟨g, 0, none⟩) ys.length c) ys.length (ys.flatMap encSp) ∧ Below w.heap.size w wr ∧ Hid (isort xs = (xs.drop k).foldl insS ys) ∧ ys.length = k) (fun _ i _ => xs.length - (intOf i).toNat)
  case atStart => exact ⟨0, _, _, [], Nat.zero_le _, rfl, rfl, howns, hBs, rfl, rfl⟩
  case round =>
    clear howns hBs
    obtain ⟨k, g, c, ys, hk, rfl, rfl, hown, hB, hM, hyl⟩ := hrel
    subst hyl
    by_cases hlt : ys.length < xs.length
    · have hm := List.getElem?_eq_getElem hlt
      generalize xs[ys.length] = m at hm
      have hst := Lib.hid (hM.out.trans (by rw [drop_at hm, List.foldl_cons]))
      obtain ⟨b, off, rfl, _⟩ := (hx.below hB).sp hm
      have hk1 : (ys.length : Int) < (xs.length : Int) := by omega
      clear hM
      go_wp2
      go_loopw [5] (fun p wr => ∃ (q : Nat), p = .int .i64 q ∧ q ≤ pos m ys ∧ wr.ownsRow w.heap.size 112 2 (.slice (some ⟨g, 0, none⟩) ys.length c) ys.length (ys.flatMap encSp) ∧ Below w.heap.size w wr) (fun p _ => ys.length - (intOf p).toNat)
      case atStart => exact ⟨0, rfl, Nat.zero_le _, hown, hB⟩
      case round =>
        clear hown hB
        obtain ⟨q, rfl, hq, hown, hB⟩ := hrel
        have hgo := own_lt hown
        obtain ⟨_, _, e', hb, c0, _⟩ := (hx.below hB).sp hm
        simp only [Option.some.injEq, Addr.mk.injEq, and_true] at e'
        obtain ⟨rfl, rfl⟩ := e'
        have hpl := pos_len m ys
        by_cases hq1 : q < ys.length
        · have hy := List.getElem?_eq_getElem hq1
          generalize ys[q] = y at hy
          have d0 := own_at encSp_len hown hy (j := 0) rfl
          rw [Nat.add_zero] at d0
          have D0 := Later.cell d0 hgo.2
          have C0 := Later.cell c0 hb
          have hq2 : (q : Int) < (ys.length : Int) := by omega
          by_cases h1 : y.fr ≤ m.fr
          · have hgo' := pos_go hq hy h1
            clear hy
            go_wp2_with fail
            go_quiet (fail)
            have hz : Below wr.heap.size wr (wr.drewN nq) := drewB (Below.refl _ _) nq
            generalize wr.drewN nq = w2 at hz ⊢
            have hown := own_below hown hz
            have hB := stepB hB hz hB.size
            clear D0 C0 d0 c0 hb
            go_wp2
            go_roundw
            case rel => exact ⟨q + 1, by go_num, hgo', hown, hB⟩
            case measure => simp [intOf]; omega
          · have hend := Lib.hid (pos_stop hq hy h1)
            have h1' : decide (y.fr ≤ m.fr) = false := decide_eq_false h1
            clear hy
            go_wp2_with fail
            go_quiet (fail)
            have hz : Below wr.heap.size wr (wr.drewN nq) := drewB (Below.refl _ _) nq
            generalize wr.drewN nq = w2 at hz ⊢
            have hown := own_below hown hz
            have hB := stepB hB hz hB.size
            clear D0 C0 d0 c0 hb
            have hend := hend.out
            subst hend
            have hyl' : ys.length ≤ 1048574 := by omega
            go_wp2_with (at_builtin; refine wpList_append_lies _ rfl _ _ 57 rfl w.heap.size 112 i0 (.agg #[.int .i64 0, .int .i64 0]) 2 16 Tryz.underlying57 hi hz0 hz1 hz2 rfl (by decide) _ _ _ rfl (hown.alloc _) ⟨w2.heap.size, 0, none⟩ 1 1 [.int .i64 0, .int .i64 0] rfl rfl (cell_two_new _ _ _ _) ?c2 (by decide) ?c3 ?c4 ?c5 _ rfl ?_)
            case c2 => first | exact ⟨rfl, rfl⟩ | rfl | (intro u hu; simp at hu; rcases hu with rfl | rfl <;> rfl) | (intro u hu; simp at hu; subst hu; rfl)
            case c3 => unfold maxLen; omega
            case c4 => omega
            case c5 => have := hB.size; first | omega | (simp; omega)
            intro g' c' w4 hown' hgr hat _
            have hB4 := (hB.alloc hB.size _).grown hgr (by have := hB.size; simp; omega) (fun x hx => ((hown.lt x hx).1))
            clear hgr hown hB hat hgo hz
            go_wp2
            go_loopw [6] (fun q wr => ∃ (r : Nat) (z : Sp), pos m ys ≤ r ∧ r ≤ ys.length ∧ q = .int .i64 r ∧ wr.ownsRow w.heap.size 112 2 (.slice (some ⟨g', 0, none⟩) (ys.length + 1) c') (ys.length + 1) ((ys.take r ++ z :: ys.drop r).flatMap encSp) ∧ Below w.heap.size w wr) (fun q _ => (intOf q).toNat)
            case atStart => exact ⟨ys.length, ⟨0, 0⟩, pos_len _ _, Nat.le_refl _, by go_num, by simpa [encSp] using hown', hB4⟩
            case round =>
              clear hown' hB4
              obtain ⟨r, z, hr1, hr2, rfl, hown, hB⟩ := hrel
              have hgo := own_lt hown
              by_cases hlt2 : pos m ys < r
              · obtain ⟨q, rfl⟩ : ∃ q, r = q + 1 := ⟨r - 1, by omega⟩
                have hy := List.getElem?_eq_getElem (show q < ys.length by omega)
                generalize ys[q] = y at hy
                obtain ⟨e1, e2⟩ := shift_step z hy
                have hql : (ys.take q).length = q := by simp; omega
                rw [e1] at hown
                have hyy : (ys.take q ++ y :: z :: ys.drop (q + 1))[q]? = some y := by rw [List.getElem?_append_right (by omega), hql]; simp
                have d0 := own_at encSp_len hown hyy (j := 0) rfl
                have d1 := own_at encSp_len hown hyy (j := 1) rfl
                rw [Nat.add_zero] at d0
                have hput := own_putRow encSp_len (pre := ys.take q ++ [y]) (x := z) (post := ys.drop (q + 1)) (i := q + 1) (by simpa using hown) (by simp; omega) y
                rw [List.append_assoc, List.singleton_append, e2] at hput
                have f0 := hown.frozenAt ((q + 1) * 2)
                have f1 := hown.frozenAt ((q + 1) * 2 + 1)
                have hr3 : ((pos m ys : Nat) : Int) < ((q + 1 : Nat) : Int) := by omega
                have hr4 : ((q + 1 : Nat) : Int) < ((ys.length + 1 : Nat) : Int) := by omega
                have hr5 : (q : Int) < ((ys.length + 1 : Nat) : Int) := by omega
                have hw5 : IntKind.i64.wrap (((q + 1 : Nat) : Int) - 1) = (q : Int) := by rw [IntKind.wrap_i64]; omega
                obtain ⟨v1, hv1⟩ : ∃ v, wr.cell? ⟨g', (q + 1) * 2, none⟩ = some v := (own_cell hown _ (by omega)).imp fun _ h => h.1
                obtain ⟨v2, hv2⟩ : ∃ v, wr.cell? ⟨g', (q + 1) * 2 + 1, none⟩ = some v := (own_cell hown _ (by omega)).imp fun _ h => h.1
                have HPUT := Lib.hid hput
                clear hput hyy e1 e2 hy
                go_wp2
                go_roundw
                case rel => exact ⟨q, y, by omega, by omega, by go_num, HPUT.out.1, hB.grown HPUT.out.2 hB.size (fun j h => by cases h; exact hgo.1)⟩
                case measure => simp [intOf]
              · obtain rfl : r = pos m ys := by omega
                obtain ⟨_, _, e', hb, c0, c1⟩ := (hx.below hB).sp hm
                simp only [Option.some.injEq, Addr.mk.injEq, and_true] at e'
                obtain ⟨rfl, rfl⟩ := e'
                have hpl : (ys.take (pos m ys)).length = pos m ys := by rw [List.length_take]; exact Nat.min_eq_left (pos_len _ _)
                have hput := own_putRow encSp_len (pre := ys.take (pos m ys)) (x := z) (post := ys.drop (pos m ys)) (i := pos m ys) hown hpl.symm m
                have HPUT := Lib.hid hput
                have f0 := hown.frozenAt (pos m ys * 2)
                have f1 := hown.frozenAt (pos m ys * 2 + 1)
                have hpl2 := pos_len m ys
                obtain ⟨v1, hv1⟩ : ∃ v, wr.cell? ⟨g', pos m ys * 2, none⟩ = some v := (own_cell hown _ (by omega)).imp fun _ h => h.1
                obtain ⟨v2, hv2⟩ : ∃ v, wr.cell? ⟨g', pos m ys * 2 + 1, none⟩ = some v := (own_cell hown _ (by omega)).imp fun _ h => h.1
                have hr4 : ((pos m ys : Nat) : Int) < ((ys.length + 1 : Nat) : Int) := by omega
                have hr6 : ¬ ((pos m ys : Nat) : Int) < ((pos m ys : Nat) : Int) := by omega
                have hil := insS_len ys m
                clear hput hpl
                go_wp2
                go_roundw
                case rel => exact ⟨ys.length + 1, g', c', insS ys m, by omega, by go_num, by rw [hil], by rw [hil]; exact HPUT.out.1, hB.grown HPUT.out.2 hB.size (fun j h => by cases h; exact hgo.1), hst, hil⟩
                case measure => simp [intOf]; omega
        · have hend := Lib.hid (pos_end hq hq1)
          have hq2 : ¬ (q : Int) < (ys.length : Int) := by omega
          have hq3 : decide (q < ys.length) = false := decide_eq_false hq1
          go_wp2_with fail
          go_quiet (fail)
          have hz : Below wr.heap.size wr (wr.drewN nq) := drewB (Below.refl _ _) nq
          generalize wr.drewN nq = w2 at hz ⊢
          have hown := own_below hown hz
          have hB := stepB hB hz hB.size
          clear c0 hb
          have hend := hend.out
          subst hend
          have hyl' : ys.length ≤ 1048574 := by omega
          go_wp2_with (at_builtin; refine wpList_append_lies _ rfl _ _ 57 rfl w.heap.size 112 i0 (.agg #[.int .i64 0, .int .i64 0]) 2 16 Tryz.underlying57 hi hz0 hz1 hz2 rfl (by decide) _ _ _ rfl (hown.alloc _) ⟨w2.heap.size, 0, none⟩ 1 1 [.int .i64 0, .int .i64 0] rfl rfl (cell_two_new _ _ _ _) ?c2 (by decide) ?c3 ?c4 ?c5 _ rfl ?_)
          case c2 => first | exact ⟨rfl, rfl⟩ | rfl | (intro u hu; simp at hu; rcases hu with rfl | rfl <;> rfl) | (intro u hu; simp at hu; subst hu; rfl)
          case c3 => unfold maxLen; omega
          case c4 => omega
          case c5 => have := hB.size; first | omega | (simp; omega)
          intro g' c' w4 hown' hgr hat _
          have hB4 := (hB.alloc hB.size _).grown hgr (by have := hB.size; simp; omega) (fun x hx => ((hown.lt x hx).1))
          clear hgr hown hB hat hgo hz
          go_wp2
          go_loopw [6] (fun q wr => ∃ (r : Nat) (z : Sp), pos m ys ≤ r ∧ r ≤ ys.length ∧ q = .int .i64 r ∧ wr.ownsRow w.heap.size 112 2 (.slice (some ⟨g', 0, none⟩) (ys.length + 1) c') (ys.length + 1) ((ys.take r ++ z :: ys.drop r).flatMap encSp) ∧ Below w.heap.size w wr) (fun q _ => (intOf q).toNat)
          case atStart => exact ⟨ys.length, ⟨0, 0⟩, pos_len _ _, Nat.le_refl _, by go_num, by simpa [encSp] using hown', hB4⟩
          case round =>
            clear hown' hB4
            obtain ⟨r, z, hr1, hr2, rfl, hown, hB⟩ := hrel
            have hgo := own_lt hown
            by_cases hlt2 : pos m ys < r
            · exfalso; omega
            · obtain rfl : r = pos m ys := by omega
              obtain ⟨_, _, e', hb, c0, c1⟩ := (hx.below hB).sp hm
              simp only [Option.some.injEq, Addr.mk.injEq, and_true] at e'
              obtain ⟨rfl, rfl⟩ := e'
              have hpl : (ys.take (pos m ys)).length = pos m ys := by rw [List.length_take]; exact Nat.min_eq_left (pos_len _ _)
              have hput := own_putRow encSp_len (pre := ys.take (pos m ys)) (x := z) (post := ys.drop (pos m ys)) (i := pos m ys) hown hpl.symm m
              have HPUT := Lib.hid hput
              have f0 := hown.frozenAt (pos m ys * 2)
              have f1 := hown.frozenAt (pos m ys * 2 + 1)
              have hpl2 := pos_len m ys
              obtain ⟨v1, hv1⟩ : ∃ v, wr.cell? ⟨g', pos m ys * 2, none⟩ = some v := (own_cell hown _ (by omega)).imp fun _ h => h.1
              obtain ⟨v2, hv2⟩ : ∃ v, wr.cell? ⟨g', pos m ys * 2 + 1, none⟩ = some v := (own_cell hown _ (by omega)).imp fun _ h => h.1
              have hr4 : ((pos m ys : Nat) : Int) < ((ys.length + 1 : Nat) : Int) := by omega
              have hr6 : ¬ ((pos m ys : Nat) : Int) < ((pos m ys : Nat) : Int) := by omega
              have hil := insS_len ys m
              clear hput hpl
              go_wp2
              go_roundw
              case rel => exact ⟨ys.length + 1, g', c', insS ys m, by omega, by go_num, by rw [hil], by rw [hil]; exact HPUT.out.1, hB.grown HPUT.out.2 hB.size (fun j h => by cases h; exact hgo.1), hst, hil⟩
              case measure => simp [intOf]; omega
    · have hM' : isort xs = ys := hM.out.trans (by rw [List.drop_eq_nil_of_le (by omega), List.foldl_nil])
      have FIN : Hid (uni xs = mergeL ys) := by unfold Hid uni; rw [hM']
      have hys : ∀ x ∈ ys, OkSp 0 730499 x := fun x h => ho x ((isort_perm xs).mem_iff.1 (hM' ▸ h))
      have hyl : ys.length = xs.length := by omega
      rw [← hyl] at hl
      have hBo := (Below.refl _ wr).alloc (Nat.le_refl _) (.cells #[] 112)
      have hso := own_below hown hBo
      have hB0 := stepB hB hBo hB.size
      have hown0 := World.ownsRow_made wr #[] 0 hB.size (by decide) rfl (e := 112) (size := 2)
      have hne0 : wr.heap.size ≠ g := Nat.ne_of_gt (own_lt hown).2
      have hk2 : ¬ (ys.length : Int) < (xs.length : Int) := by omega
      clear hM hyl hM' hBo hown hB ho
      generalize g = gs at *
      generalize c = cs at *
      go_wp2
      go_loopw [7, 8] (fun o i wr => ∃ (k g c : Nat) (out : List Sp), k ≤ ys.length ∧ i = .int .i64 k ∧ o = .slice (some ⟨g, 0, none⟩) out.length c ∧ g ≠ gs ∧ wr.ownsRow w.heap.size 112 2 (.slice (some ⟨g, 0, none⟩) out.length c) out.length (out.flatMap encSp) ∧ wr.ownsRow w.heap.size 112 2 (.slice (some ⟨gs, 0, none⟩) ys.length cs) ys.length (ys.flatMap encSp) ∧ Below w.heap.size w wr ∧ Hid (mergeL ys = (ys.drop k).foldl mergeStep out) ∧ out.length ≤ k ∧ ∀ x ∈ out, OkSp 0 730499 x) (fun _ i _ => ys.length - (intOf i).toNat)
      case atStart => exact ⟨0, _, _, [], Nat.zero_le _, rfl, rfl, hne0, hown0, hso, hB0, rfl, Nat.le_refl _, by simp⟩
      case round =>
        clear hown0 hso hB0 hne0
        obtain ⟨k, g, c, out, hk, rfl, rfl, hne, hown, hso, hB, hM, hlo, hoo⟩ := hrel
        by_cases hlt : k < ys.length
        · have hm := List.getElem?_eq_getElem hlt
          generalize ys[k] = m at hm
          have hok := hys m (List.mem_of_getElem? hm)
          have hst := Lib.hid (hM.out.trans (by rw [drop_at hm, List.foldl_cons]))
          have hml := Lib.hid (mergeStep_len out m)
          have c0 := own_at encSp_len hso hm (j := 0) rfl
          have c1 := own_at encSp_len hso hm (j := 1) rfl
          rw [Nat.add_zero] at c0
          have hoo' := Lib.hid (mergeStep_ok hoo hok)
          have hk1 : (k : Int) < (ys.length : Int) := by omega
          have hgs := own_lt hso
          have hgo := own_lt hown
          clear hm hM
          unfold OkSp at hok
          go_upto_block 7 with fail
          go_cut [7, 9] from 70 to 110 (fun s7 _ wx => ∃ (g' c' : Nat), s7 = .slice (some ⟨g', 0, none⟩) (mergeStep out m).length c' ∧ g' ≠ gs ∧ wx.ownsRow w.heap.size 112 2 (.slice (some ⟨g', 0, none⟩) (mergeStep out m).length c') (mergeStep out m).length ((mergeStep out m).flatMap encSp) ∧ wx.ownsRow w.heap.size 112 2 (.slice (some ⟨gs, 0, none⟩) ys.length cs) ys.length (ys.flatMap encSp) ∧ Below w.heap.size w wx)
          case first =>
            clear hoo' hst
            have C0 := Later.cell c0 hgs.2
            rcases List.eq_nil_or_concat out with rfl | ⟨pre, l, rfl⟩
            · go_wp2_with fail
              go_quiet (fail)
              have hz : Below wr.heap.size wr (wr.drewN nq) := drewB (Below.refl _ _) nq
              generalize wr.drewN nq = w2 at hz ⊢
              have hown := own_below hown hz
              have hso := own_below hso hz
              have hB := stepB hB hz hB.size
              have c0 := (hz.cell (p := ⟨gs, k * 2, none⟩) hgs.2).trans c0
              have c1 := (hz.cell (p := ⟨gs, k * 2 + 1, none⟩) hgs.2).trans c1
              have hgs := own_lt hso
              have hgo := own_lt hown
              clear hz C0
              go_wp2_with (at_builtin; refine wpList_append_lies _ rfl _ _ 57 rfl w.heap.size 112 i0 (.agg #[.int .i64 0, .int .i64 0]) 2 16 Tryz.underlying57 hi hz0 hz1 hz2 rfl (by decide) _ _ _ rfl (hown.alloc _) ⟨w2.heap.size, 0, none⟩ 1 1 [.int .i64 m.fr, .int .i64 m.to] rfl rfl (cell_two_new _ _ _ _) ?c2 (by decide) ?c3 ?c4 ?c5 _ rfl ?_)
              case c2 => first | exact ⟨rfl, rfl⟩ | rfl | (intro u hu; simp at hu; rcases hu with rfl | rfl <;> rfl) | (intro u hu; simp at hu; subst hu; rfl)
              case c3 => unfold maxLen; omega
              case c4 => omega
              case c5 => have := hB.size; first | omega | (simp; omega)
              intro g' c' w4 hown' hgr hat _
              have hB' := (hB.alloc hB.size _).grown hgr (by have := hB.size; simp; omega) (fun x hx => ((hown.lt x hx).1))
              have hso' := own_keepOther (hso.alloc _) hgr (fun e => hne e.symm)
              have hne' : g' ≠ gs := by
                rcases hat with h | h
                · have : g = g' := by simpa [Value.ownBlock] using h
                  omega
                · omega
              clear hgr hown hB hso hat
              go_wp2_with fail
              go_meet
              rw [mergeStep_nil]
              exact ⟨g', c', by simp, hne', by simpa [encSp] using hown', hso', hB'⟩
            · rw [List.concat_eq_append] at *
              have hlen : (pre ++ [l]).length = pre.length + 1 := by simp
              rw [hlen] at hown hlo
              rw [hlen]
              have hpl : (pre ++ [l])[pre.length]? = some l := by simp
              have hlk := hoo l (by simp)
              have e1 := own_at encSp_len hown hpl (j := 1) rfl
              have E1 := Later.cell e1 hgo.2
              have hw0 : IntKind.i64.wrap (((pre.length + 1 : Nat) : Int) - 1) = (pre.length : Int) := by rw [IntKind.wrap_i64]; omega
              have hw1 : IntKind.i64.wrap (l.to + 1) = l.to + 1 := by rw [IntKind.wrap_i64]; unfold OkSp at hlk; omega
              have hk2 : (pre.length : Int) < ((pre.length + 1 : Nat) : Int) := by omega
              clear hpl
              by_cases h1 : m.fr ≤ l.to + 1
              · go_wp2_with fail
                go_quiet (fail)
                have hz : Below wr.heap.size wr (wr.drewN nq) := drewB (Below.refl _ _) nq
                generalize wr.drewN nq = w2 at hz ⊢
                have hown := own_below hown hz
                have hso := own_below hso hz
                have hB := stepB hB hz hB.size
                have e1 := (hz.cell (p := ⟨g, pre.length * 2 + 1, none⟩) hgo.2).trans e1
                have c0 := (hz.cell (p := ⟨gs, k * 2, none⟩) hgs.2).trans c0
                have c1 := (hz.cell (p := ⟨gs, k * 2 + 1, none⟩) hgs.2).trans c1
                have hgs := own_lt hso
                have hgo := own_lt hown
                have f1 := hown.frozenAt (pre.length * 2 + 1)
                have hput := fun v => own_putTo (pre := pre) (x := l) (post := []) hown rfl v
                have HPUT := Lib.hid hput
                clear hput hz C0 E1
                go_upto_region 20 with (fail)
                go_region
                go_wp2_with fail
                go_meet
                rw [mergeStep_in h1]
                refine ⟨g, c, by simp, hne, ?_, own_below (own_keepOther hso (HPUT.out _).2 hne.symm) (Below.refl _ _).drew, ?_⟩
                · simpa using own_below (HPUT.out (max l.to m.to)).1 (Below.refl _ _).drew
                · exact (hB.grown (HPUT.out _).2 hB.size (fun j h => by cases h; exact hgo.1)).drew
              · have h1' : decide (m.fr ≤ l.to + 1) = false := decide_eq_false h1
                go_wp2_with fail
                go_quiet (fail)
                have hz : Below wr.heap.size wr (wr.drewN nq) := drewB (Below.refl _ _) nq
                generalize wr.drewN nq = w2 at hz ⊢
                have hown := own_below hown hz
                have hso := own_below hso hz
                have hB := stepB hB hz hB.size
                have c0 := (hz.cell (p := ⟨gs, k * 2, none⟩) hgs.2).trans c0
                have c1 := (hz.cell (p := ⟨gs, k * 2 + 1, none⟩) hgs.2).trans c1
                have hgs := own_lt hso
                have hgo := own_lt hown
                clear hz C0 E1 e1
                go_wp2_with (at_builtin; refine wpList_append_lies _ rfl _ _ 57 rfl w.heap.size 112 i0 (.agg #[.int .i64 0, .int .i64 0]) 2 16 Tryz.underlying57 hi hz0 hz1 hz2 rfl (by decide) _ _ _ rfl (hown.alloc _) ⟨w2.heap.size, 0, none⟩ 1 1 [.int .i64 m.fr, .int .i64 m.to] rfl rfl (cell_two_new _ _ _ _) ?c2 (by decide) ?c3 ?c4 ?c5 _ rfl ?_)
                case c2 => first | exact ⟨rfl, rfl⟩ | rfl | (intro u hu; simp at hu; rcases hu with rfl | rfl <;> rfl) | (intro u hu; simp at hu; subst hu; rfl)
                case c3 => unfold maxLen; omega
                case c4 => omega
                case c5 => have := hB.size; first | omega | (simp; omega)
                intro g' c' w4 hown' hgr hat _
                have hB' := (hB.alloc hB.size _).grown hgr (by have := hB.size; simp; omega) (fun x hx => ((hown.lt x hx).1))
                have hso' := own_keepOther (hso.alloc _) hgr (fun e => hne e.symm)
                have hne' : g' ≠ gs := by
                  rcases hat with h | h
                  · have : g = g' := by simpa [Value.ownBlock] using h
                    omega
                  · omega
                clear hgr hown hB hso hat
                go_wp2_with fail
                go_meet
                rw [mergeStep_out (s := m) (l := l) (pre := pre) (by omega)]
                exact ⟨g', c', by simp, hne', by simpa [encSp] using hown', hso', hB'⟩
          case rest =>
            obtain ⟨g', c', rfl, hne', hown', hso', hB'⟩ := hcut
            have hml := hml.out
            generalize mergeStep out m = out' at hown' hst hoo' hml
            clear hown hso hB hne c0 c1 hgs hgo
            go_wp2
            go_roundw
            case rel => exact ⟨k + 1, g', c', out', by omega, by go_num, rfl, hne', hown', hso', hB', hst, by omega, hoo'.out⟩
            case measure => simp [intOf]; omega
        · obtain rfl : k = ys.length := by omega
          have hM := Lib.hid (hM.out.trans (by rw [List.drop_eq_nil_of_le (Nat.le_refl _), List.foldl_nil]))
          go_wp2
          go_ret
          rw [FIN.out, hM.out]
          exact ⟨_, _, rfl, hown, hB⟩
end

section
open Go.ChangeShapes Go.WideShapes Go.ChangeAt Go.RowKit Go.Sort

theorem flatK_list {α : Type} [Inhabited α] {enc : α → List Value} {k : Nat} (hk : ∀ x, (enc x).length = k) (hk0 : 0 < k) (xs : List α) : (flatK enc k xs.toArray).toList = xs.flatMap enc := by
  apply List.ext_getElem?
  intro j
  have hl := length_flatMap_enc enc k hk xs
  have hs : (flatK enc k xs.toArray).toList.length = xs.length * k := by simp
  by_cases hj : j < xs.length * k
  · have h1 : j / k < xs.length := (Nat.div_lt_iff_lt_mul hk0).2 hj
    have h2 : j % k < k := Nat.mod_lt _ hk0
    have hx := List.getElem?_eq_getElem h1
    have hv := List.getElem?_eq_getElem (show j % k < (enc xs[j / k]).length by rw [hk]; exact h2)
    have h3 := flatMap_at enc k hk xs (j / k) _ (j % k) _ hx hv
    rw [show j / k * k + j % k = j by rw [Nat.mul_comm]; exact Nat.div_add_mod j k] at h3
    rw [h3, Array.getElem?_toList]
    have h4 := get_flatK enc k xs.toArray j (by simpa using hj)
    rw [getElem!_pos _ _ (by simpa using hj)] at h4
    rw [Array.getElem?_eq_getElem (by simpa using hj), h4]
    congr 1
    have e1 : (xs.toArray)[j / k]! = xs[j / k] := by rw [getElem!_pos _ _ (by simpa using h1)]; simp
    rw [e1, getElem!_pos _ _ (by rw [hk]; exact h2)]
  · rw [List.getElem?_eq_none (by omega), List.getElem?_eq_none (by omega)]
theorem holds_of_own {α : Type} [Inhabited α] {enc : α → List Value} {k : Nat} (hk : ∀ x, (enc x).length = k) (hk0 : 0 < k) {w : World} {base : Nat} {E : TypeId} {g n cap : Nat} {xs : List α}
    (h : w.ownsRow base E k (.slice (some ⟨g, 0, none⟩) n cap) n (xs.flatMap enc)) : HoldsK enc k w g 0 xs.toArray := by
  intro j hj
  have hl := h.1
  rw [length_flatMap_enc enc k hk] at hl
  have hj' : j < xs.length * k := by simpa using hj
  have h1 := h.cellAt j (by rw [← hl]; exact hj')
  rw [Nat.zero_add, h1]
  refine ⟨?_, h.frozenAt j⟩
  have h2 : (xs.flatMap enc)[j]? = (flatK enc k xs.toArray)[j]? := by rw [← flatK_list hk hk0, Array.getElem?_toList]
  have h3 : (flatK enc k xs.toArray)[j]! = (flatK enc k xs.toArray)[j] := getElem!_pos (flatK enc k xs.toArray) j hj
  rw [h2, Array.getElem?_eq_getElem hj, h3]
  rfl
theorem own_sorted {α : Type} [Inhabited α] {enc : α → List Value} {k : Nat} (hk : ∀ x, (enc x).length = k) (hk0 : 0 < k) {w : World} {base : Nat} {E : TypeId} {g n cap q : Nat} {xs ys : List α} {os : Array Obj}
    (h : w.ownsRow base E k (.slice (some ⟨g, 0, none⟩) n cap) n (xs.flatMap enc)) (hy : ys.length = n) :
    (sortWorldK enc k w g 0 q ys.toArray os).ownsRow base E k (.slice (some ⟨g, 0, none⟩) n cap) n (ys.flatMap enc) ∧ w.grownBy (sortWorldK enc k w g 0 q ys.toArray os) (some g) := by
  rcases h.2 with ⟨e0, _⟩ | ⟨g', cap', cur, e0, hb, hg, hn, hm, hs, ht⟩
  · cases e0
  · injection e0 with e1 _ e3
    injection e1 with e1
    injection e1 with e1
    subst e1; subst e3
    have hlt : g < w.heap.size := by
      rcases Nat.lt_or_ge g w.heap.size with h' | h'
      · exact h'
      · rw [Array.getElem?_eq_none h'] at hg; cases hg
    have hfl := flatK_list hk hk0 ys
    have hsz : (flatK enc k ys.toArray).size = n * k := by simp [hy]
    have hnc : n * k ≤ cap * k := Nat.mul_le_mul_right k hn
    refine ⟨⟨by rw [length_flatMap_enc enc k hk, hy], .inr ⟨g, cap, Sort.putCells id 0 (flatK enc k ys.toArray) cur, rfl, hb, ?_, hn, hm, by simpa [Sort.putCells] using hs, ?_⟩⟩, ?_⟩
    · simp only [sortWorldK, Sort.grow, putRowK, Sort.putRow, Sort.mapBlock, Sort.ahead]
      rw [Array.getElem?_append_left (by simpa using hlt)]
      simp [Array.getElem?_modify, hg, Sort.onCells]
    · rw [← hfl]
      apply List.ext_getElem?
      intro j
      rw [List.getElem?_take, Array.getElem?_toList, Array.getElem?_toList]
      by_cases hj : j < n * k
      · have hjc : j < cur.size := by omega
        simp only [if_pos hj, Sort.putCells, Array.getElem?_mapIdx, Array.getElem?_eq_getElem hjc, Option.map_some]
        rw [if_pos (by simp [hy]; omega), Array.getElem?_eq_getElem (by omega)]
        simp [getElem!_pos, hsz, hj]
      · rw [if_neg hj, Array.getElem?_eq_none (by omega)]
    · refine ⟨rfl, rfl, rfl, ?_, fun j hj hne => ?_⟩
      · simp [sortWorldK, Sort.grow, putRowK, Sort.putRow, Sort.mapBlock, Sort.ahead]
      · simp only [sortWorldK, Sort.grow, putRowK, Sort.putRow, Sort.mapBlock, Sort.ahead]
        rw [Array.getElem?_append_left (by simpa using hj)]
        rw [Array.getElem?_modify, if_neg (fun e => hne (by rw [e]))]
theorem perm_of_permIn {α : Type} [Inhabited α] {d d' : Array α} (h : Sort.PermIn 0 d.size d d') : d'.toList.Perm d.toList := by
  obtain ⟨h1, _, h3⟩ := h
  have e1 : d.extract 0 d.size = d := by simp
  have e2 : d'.extract 0 d.size = d' := by rw [← h1]; simp
  rw [e1, e2] at h3
  exact h3
theorem pairwise_of_sortedIn {α : Type} [Inhabited α] {lt : α → α → Bool} {d : Array α} (h : Sort.SortedIn lt 0 d.size d) : d.toList.Pairwise fun a b => lt b a = false := by
  rw [List.pairwise_iff_getElem]
  intro i j hi hj hij
  have := h i j (Nat.zero_le _) hij (by simpa using hj)
  rw [getElem!_pos _ _ (by simpa using hj), getElem!_pos _ _ (by simpa using hi)] at this
  simpa using this

def cfSp (x y : Sp) : Int := cmpI x.fr y.fr
instance : Inhabited Sp := ⟨⟨0, 0⟩⟩
theorem cfSp_lt (x y : Sp) : ltOf cfSp x y = decide (x.fr < y.fr) := by
  unfold ltOf cfSp cmpI
  by_cases h1 : x.fr < y.fr
  · simp [h1]
  · by_cases h2 : y.fr < x.fr <;> simp [h1, h2]
theorem cfSp_swo : SWO (ltOf cfSp) where
  irrefl x := by rw [cfSp_lt]; simp
  trans x y z h1 h2 := by rw [cfSp_lt] at *; simp at *; omega
  ntrans x y z h1 h2 := by rw [cfSp_lt] at *; simp at *; omega
set_option maxHeartbeats 1000000 in
theorem united1_any (x y : Sp) (W : World) : Calls Tryz.prog 136 #[.agg #[.int .i64 x.fr, .int .i64 x.to], .agg #[.int .i64 y.fr, .int .i64 y.to]] W fun e w' => e = .returned (.int .i64 (cfSp x y)) ∧ ∃ q os', w' = grow (W.drewN q) os' := by
  have HC := Lib.hid (fun W' => cmpI_any x.fr y.fr W')
  go_enter Tryz.func136, Tryz.ntmps136
  go_wp2_with fail
  refine (HC.out _).mono ?_
  rintro e w1 ⟨rfl, rfl⟩
  go_wp2
  go_ret
  exact ⟨rfl, 0, _, by rw [alloc_eq_grow, alloc_eq_grow, grow_grow]; rfl⟩
theorem united1_lays (blk off size : Nat) (w : World) : CmpLays Tryz.prog 136 #[] encSp 2 cfSp blk off size w :=
  fun _ _ _ _ x y => united1_any x y _
theorem sortSp_any (base g n cap : Nat) (xs : List Sp) (w : World) (hn : xs.length = n) (hl : n ≤ 1048576) (h : w.ownsRow base 112 2 (.slice (some ⟨g, 0, none⟩) n cap) n (xs.flatMap encSp)) :
    Calls Tryz.prog 135 #[.slice (some ⟨g, 0, none⟩) n cap, .func (.func 136) #[] #[]] w fun e w' => e = .returned (.tuple #[]) ∧
      ∃ ys : List Sp, ys.Perm xs ∧ ys.Pairwise (fun a c => a.fr ≤ c.fr) ∧ w'.ownsRow base 112 2 (.slice (some ⟨g, 0, none⟩) n cap) n (ys.flatMap encSp) ∧ w.grownBy w' (some g) := by
  subst hn
  have eg : ∀ args w, (callFunc 136 args).run Tryz.prog w = .ok (.enter 136 args) w := enters_of Tryz.func136 (by kernel_rfl) rfl
  have hcon := AnyQ.slices_SortFunc Tryz.sortSp 2 Tryz.isAgg112 Tryz.sizeOf112 encSp encSp_len (fun x v hv => by simp [encSp] at hv; rcases hv with rfl | rfl <;> rfl) cfSp cfSp_swo 136 #[] g 0 cap xs.toArray w eg (united1_lays g 0 _ w) (holds_of_own encSp_len (by decide) h) (own_lt h).2 (by simp; omega)
  rw [List.size_toArray] at hcon
  change Calls Tryz.prog 135 _ _ _ at hcon
  refine hcon.mono ?_
  rintro e w' ⟨rfl, d', q, os, hp, hs, rfl⟩
  have hpp := perm_of_permIn (d := xs.toArray) (by rw [List.size_toArray]; exact hp)
  have hsz : d'.size = xs.length := by simpa using hp.1
  have hps := pairwise_of_sortedIn (d := d') (by rw [hsz]; exact hs)
  have hown := own_sorted encSp_len (by decide) (q := q) (ys := d'.toList) (os := os) h (by simpa using hsz)
  refine ⟨rfl, d'.toList, hpp, ?_, ?_, ?_⟩
  · refine hps.imp (fun {a b} hab => ?_)
    rw [cfSp_lt] at hab
    simpa using hab
  · simpa using hown.1
  · simpa using hown.2
end

section
open Go.ChangeShapes Go.WideShapes Go.ChangeAt Go.RowKit

set_option maxHeartbeats 1000000 in
theorem cloneSp_any (b off cap n : Nat) (xs : List Sp) (w : World) (hn : xs.length = n) (hl : n ≤ 1048576) (hx : Rd encSp w (some ⟨b, off, none⟩) xs) :
    Calls Tryz.prog 134 #[.slice (some ⟨b, off, none⟩) n cap] w fun e w' => ∃ g c, e = .returned (.slice (some ⟨g, 0, none⟩) n c) ∧ w'.ownsRow w.heap.size 112 2 (.slice (some ⟨g, 0, none⟩) n c) n (xs.flatMap encSp) ∧ Below w.heap.size w w' := by
  subst hn
  obtain ⟨i0, hi, hz0, hz1, hz2⟩ := info_parts infoSp
  have q22 : ∀ (w : World) (a : Option Addr) (n c n' c' : Nat), (binOp .eql 57 (.slice a n c) (.slice none n' c')).run Tryz.prog w = .ok (.bool a.isNone) w := fun w a n c n' c' => Lib.run_eql_slice_nil w _ _ a n c n' c' Tryz.underlying57
  have hlen := length_flatMap_enc encSp 2 encSp_len xs
  have A := Lib.hid hx
  clear hx
  go_enter Tryz.func134, Tryz.ntmps134
  go_wp2_with (at_builtin; refine wpList_append_own _ rfl _ _ 57 rfl w.heap.size 112 i0 (.agg #[.int .i64 0, .int .i64 0]) 2 16 Tryz.underlying57 hi hz0 hz1 hz2 rfl (by decide) _ _ _ rfl (World.ownsRow_made w #[] 0 (Nat.le_refl _) (Nat.zero_le _) rfl) ⟨b, off, none⟩ xs.length cap (xs.flatMap encSp) rfl ?qc1 ?qc2 ?qc3 ?qc4 ?qc5 ?qc6 ?_)
  case qc1 => exact hlen
  case qc2 =>
    intro j u hj
    rw [Addr.add_lit]
    exact Lib.cell?_alloc_some _ (rd_cells encSp_len (by decide) A.out j u hj)
  case qc3 =>
    intro u hu
    obtain ⟨m, _, hm⟩ := List.mem_flatMap.1 hu
    simp [encSp] at hm
    rcases hm with rfl | rfl <;> rfl
  case qc4 => unfold maxLen; omega
  case qc5 => omega
  case qc6 => simp
  intro v' w1 hown hgrow hnil
  go_wp2
  go_ret
  have hB := ((Below.refl _ w).alloc (Nat.le_refl _) _).grown hgrow (by simp) (by intro k hk; simp [Value.ownBlock] at hk; omega)
  obtain ⟨h1, ⟨h2, _⟩ | ⟨g, c, cur, e, h4⟩⟩ := hown
  · exact absurd h2 hnil
  · subst e
    exact ⟨g, c, by simp, ⟨by simpa using h1, .inr ⟨g, c, cur, by simp, by simpa using h4⟩⟩, hB⟩

set_option maxRecDepth 100000 in
set_option maxHeartbeats 4000000 in
theorem united_any (b off cap n : Nat) (xs : List Sp) (w : World) (hn : xs.length = n) (hl : n ≤ 1048574) (hx : Rd encSp w (some ⟨b, off, none⟩) xs) (ho : ∀ x ∈ xs, OkSp 0 730499 x) :
    Calls Tryz.prog 90 #[.slice (some ⟨b, off, none⟩) n cap] w fun e w' => ∃ g c, e = .returned (.slice (some ⟨g, 0, none⟩) (uni xs).length c) ∧ w'.ownsRow w.heap.size 112 2 (.slice (some ⟨g, 0, none⟩) (uni xs).length c) (uni xs).length ((uni xs).flatMap encSp) ∧ Below w.heap.size w w' := by
  subst hn
  obtain ⟨i0, hi, hz0, hz1, hz2⟩ := info_parts infoSp
  have HC := Lib.hid (fun W h => cloneSp_any b off cap xs.length xs W rfl (by omega) h)
  have HS := Lib.hid (fun base g cap W h => sortSp_any base g xs.length cap xs W rfl (by omega) h)
  go_enter Tryz.func90, Tryz.ntmps90
  go_wp2_with fail
  refine (HC.out _ hx).mono ?_
  rintro e w1 ⟨gs, cs, rfl, hrow, hB1⟩
  go_wp2_with fail
  refine (HS.out _ _ _ _ hrow).mono ?_
  rintro e w2 ⟨rfl, ys, hperm, hup, hrow2, hg2⟩
  have hlen : ys.length = xs.length := hperm.length_eq
  rw [← hlen] at hrow2 hl ⊢
  have hB2 : Below w.heap.size w w2 := hB1.grown hg2 hB1.size (fun j h => by cases h; exact (own_lt hrow).1)
  have FIN : Hid (uni xs = mergeL ys) := (uni_of_sorted ho hperm hup).symm
  have hys : ∀ x ∈ ys, OkSp 0 730499 x := fun x h => ho x (hperm.mem_iff.1 h)
  have hBo := (Below.refl _ w2).alloc (Nat.le_refl _) (.cells #[] 112)
  have hso := own_below hrow2 hBo
  have hB0 := stepB hB2 hBo hB2.size
  have hown0 := World.ownsRow_made w2 #[] 0 hB2.size (by decide) rfl (e := 112) (size := 2)
  have hne0 : w2.heap.size ≠ gs := Nat.ne_of_gt (own_lt hrow2).2
  clear hlen hrow hrow2 hB1 hB2 hg2 hBo ho hperm hup HC HS hx
  go_wp2
  go_loopw [4, 15] (fun o i wr => ∃ (k g c : Nat) (out : List Sp), k ≤ ys.length ∧ i = .int .i64 k ∧ o = .slice (some ⟨g, 0, none⟩) out.length c ∧ g ≠ gs ∧ wr.ownsRow w.heap.size 112 2 (.slice (some ⟨g, 0, none⟩) out.length c) out.length (out.flatMap encSp) ∧ wr.ownsRow w.heap.size 112 2 (.slice (some ⟨gs, 0, none⟩) ys.length cs) ys.length (ys.flatMap encSp) ∧ Below w.heap.size w wr ∧ Hid (mergeL ys = (ys.drop k).foldl mergeStep out) ∧ out.length ≤ k ∧ ∀ x ∈ out, OkSp 0 730499 x) (fun _ i _ => ys.length - (intOf i).toNat)
  case atStart => exact ⟨0, _, _, [], Nat.zero_le _, rfl, rfl, hne0, hown0, hso, hB0, rfl, Nat.le_refl _, by simp⟩
  case round =>
    clear hown0 hso hB0 hne0
    obtain ⟨k, g, c, out, hk, rfl, rfl, hne, hown, hso, hB, hM, hlo, hoo⟩ := hrel
    by_cases hlt : k < ys.length
    · have hm := List.getElem?_eq_getElem hlt
      generalize ys[k] = m at hm
      have hok := hys m (List.mem_of_getElem? hm)
      have hst := Lib.hid (hM.out.trans (by rw [drop_at hm, List.foldl_cons]))
      have hml := Lib.hid (mergeStep_len out m)
      have c0 := own_at encSp_len hso hm (j := 0) rfl
      have c1 := own_at encSp_len hso hm (j := 1) rfl
      rw [Nat.add_zero] at c0
      have hoo' := Lib.hid (mergeStep_ok hoo hok)
      have hk1 : (k : Int) < (ys.length : Int) := by omega
      have hgs := own_lt hso
      have hgo := own_lt hown
      clear hm hM
      unfold OkSp at hok
      go_upto_block 1 with fail
      go_cut [4, 6, 7] from 17 to 50 (fun s7 _ _ wx => ∃ (g' c' : Nat), s7 = .slice (some ⟨g', 0, none⟩) (mergeStep out m).length c' ∧ g' ≠ gs ∧ wx.ownsRow w.heap.size 112 2 (.slice (some ⟨g', 0, none⟩) (mergeStep out m).length c') (mergeStep out m).length ((mergeStep out m).flatMap encSp) ∧ wx.ownsRow w.heap.size 112 2 (.slice (some ⟨gs, 0, none⟩) ys.length cs) ys.length (ys.flatMap encSp) ∧ Below w.heap.size w wx)
      case first =>
        clear hoo' hst
        go_upto_region 7 with (fail)
        generalize hW : wr.alloc (.cells #[.int .i64 m.fr, .int .i64 m.to] 112) = W
        have hBW : Below wr.heap.size wr W := by rw [← hW]; go_grown
        have D0 : W.cell? ⟨wr.heap.size, 0, none⟩ = some (.int .i64 m.fr) := by rw [← hW]; exact World.cell?_alloc_at _ _ _ _ rfl
        have D1 : W.cell? ⟨wr.heap.size, 1, none⟩ = some (.int .i64 m.to) := by rw [← hW]; exact World.cell?_alloc_at _ _ _ _ rfl
        have hd : wr.heap.size < W.heap.size := by rw [← hW]; simp
        have hgb : g ≠ wr.heap.size := Nat.ne_of_lt hgo.2
        have hown := own_below hown hBW
        have hso := own_below hso hBW
        have hB := stepB hB hBW hB.size
        have hgs := own_lt hso
        have hgo := own_lt hown
        clear hW c0 c1 hBW
        have c0 := D0
        have c1 := D1
        clear D0 D1
        have C0 := Later.cell c0 hd
        rcases List.eq_nil_or_concat out with rfl | ⟨pre, l, rfl⟩
        · go_wp2_with fail
          go_quiet (fail)
          have hz : Below W.heap.size W (W.drewN nq) := drewB (Below.refl _ _) nq
          generalize W.drewN nq = w2 at hz ⊢
          have hown := own_below hown hz
          have hso := own_below hso hz
          have hB := stepB hB hz hB.size
          have c0 := (hz.cell (p := ⟨wr.heap.size, 0, none⟩) hd).trans c0
          have c1 := (hz.cell (p := ⟨wr.heap.size, 1, none⟩) hd).trans c1
          have hgs := own_lt hso
          have hgo := own_lt hown
          have hd := Nat.lt_of_lt_of_le hd hz.size
          clear hz C0
          go_wp2_with (at_builtin; refine wpList_append_lies _ rfl _ _ 57 rfl w.heap.size 112 i0 (.agg #[.int .i64 0, .int .i64 0]) 2 16 Tryz.underlying57 hi hz0 hz1 hz2 rfl (by decide) _ _ _ rfl (hown.alloc _) ⟨w2.heap.size, 0, none⟩ 1 1 [.int .i64 m.fr, .int .i64 m.to] rfl rfl (cell_two_new _ _ _ _) ?c2 (by decide) ?c3 ?c4 ?c5 _ rfl ?_)
          case c2 => first | exact ⟨rfl, rfl⟩ | rfl | (intro u hu; simp at hu; rcases hu with rfl | rfl <;> rfl) | (intro u hu; simp at hu; subst hu; rfl)
          case c3 => unfold maxLen; omega
          case c4 => omega
          case c5 => have := hB.size; first | omega | (simp; omega)
          intro g' c' w4 hown' hgr hat _
          have hB' := (hB.alloc hB.size _).grown hgr (by have := hB.size; simp; omega) (fun x hx => ((hown.lt x hx).1))
          have hso' := own_keepOther (hso.alloc _) hgr (fun e => hne e.symm)
          have hne' : g' ≠ gs := by
            rcases hat with h | h
            · have : g = g' := by simpa [Value.ownBlock] using h
              omega
            · omega
          clear hgr hown hB hso hat
          go_wp2_with fail
          go_meet
          rw [mergeStep_nil]
          exact ⟨g', c', by simp, hne', by simpa [encSp] using hown', hso', hB'⟩
        · rw [List.concat_eq_append] at *
          have hlen : (pre ++ [l]).length = pre.length + 1 := by simp
          rw [hlen] at hown hlo
          rw [hlen]
          have hpl : (pre ++ [l])[pre.length]? = some l := by simp
          have hlk := hoo l (by simp)
          have e1 := own_at encSp_len hown hpl (j := 1) rfl
          have E1 := Later.cell e1 hgo.2
          have hw0 : IntKind.i64.wrap (((pre.length + 1 : Nat) : Int) - 1) = (pre.length : Int) := by rw [IntKind.wrap_i64]; omega
          have hw1 : IntKind.i64.wrap (l.to + 1) = l.to + 1 := by rw [IntKind.wrap_i64]; unfold OkSp at hlk; omega
          have hk2 : (pre.length : Int) < ((pre.length + 1 : Nat) : Int) := by omega
          clear hpl
          by_cases h1 : m.fr ≤ l.to + 1
          · go_wp2_with fail
            go_quiet (fail)
            have hz : Below W.heap.size W (W.drewN nq) := drewB (Below.refl _ _) nq
            generalize W.drewN nq = w2 at hz ⊢
            have hown := own_below hown hz
            have hso := own_below hso hz
            have hB := stepB hB hz hB.size
            have e1 := (hz.cell (p := ⟨g, pre.length * 2 + 1, none⟩) hgo.2).trans e1
            have c0 := (hz.cell (p := ⟨wr.heap.size, 0, none⟩) hd).trans c0
            have c1 := (hz.cell (p := ⟨wr.heap.size, 1, none⟩) hd).trans c1
            have hgs := own_lt hso
            have hgo := own_lt hown
            have hd := Nat.lt_of_lt_of_le hd hz.size
            have f1 := hown.frozenAt (pre.length * 2 + 1)
            have hput := fun v => own_putTo (pre := pre) (x := l) (post := []) hown rfl v
            have HPUT := Lib.hid hput
            clear hput hz C0 E1
            go_upto_region 9 with (fail)
            go_region
            go_wp2_with fail
            go_meet
            rw [mergeStep_in h1]
            refine ⟨g, c, by simp, hne, ?_, own_below (own_keepOther hso (HPUT.out _).2 hne.symm) (Below.refl _ _).drew, ?_⟩
            · simpa using own_below (HPUT.out (max l.to m.to)).1 (Below.refl _ _).drew
            · exact (hB.grown (HPUT.out _).2 hB.size (fun j h => by cases h; exact hgo.1)).drew
          · have h1' : decide (m.fr ≤ l.to + 1) = false := decide_eq_false h1
            go_wp2_with fail
            go_quiet (fail)
            have hz : Below W.heap.size W (W.drewN nq) := drewB (Below.refl _ _) nq
            generalize W.drewN nq = w2 at hz ⊢
            have hown := own_below hown hz
            have hso := own_below hso hz
            have hB := stepB hB hz hB.size
            have c0 := (hz.cell (p := ⟨wr.heap.size, 0, none⟩) hd).trans c0
            have c1 := (hz.cell (p := ⟨wr.heap.size, 1, none⟩) hd).trans c1
            have hgs := own_lt hso
            have hgo := own_lt hown
            have hd := Nat.lt_of_lt_of_le hd hz.size
            clear hz C0 E1 e1
            go_wp2_with (at_builtin; refine wpList_append_lies _ rfl _ _ 57 rfl w.heap.size 112 i0 (.agg #[.int .i64 0, .int .i64 0]) 2 16 Tryz.underlying57 hi hz0 hz1 hz2 rfl (by decide) _ _ _ rfl (hown.alloc _) ⟨w2.heap.size, 0, none⟩ 1 1 [.int .i64 m.fr, .int .i64 m.to] rfl rfl (cell_two_new _ _ _ _) ?c2 (by decide) ?c3 ?c4 ?c5 _ rfl ?_)
            case c2 => first | exact ⟨rfl, rfl⟩ | rfl | (intro u hu; simp at hu; rcases hu with rfl | rfl <;> rfl) | (intro u hu; simp at hu; subst hu; rfl)
            case c3 => unfold maxLen; omega
            case c4 => omega
            case c5 => have := hB.size; first | omega | (simp; omega)
            intro g' c' w4 hown' hgr hat _
            have hB' := (hB.alloc hB.size _).grown hgr (by have := hB.size; simp; omega) (fun x hx => ((hown.lt x hx).1))
            have hso' := own_keepOther (hso.alloc _) hgr (fun e => hne e.symm)
            have hne' : g' ≠ gs := by
              rcases hat with h | h
              · have : g = g' := by simpa [Value.ownBlock] using h
                omega
              · omega
            clear hgr hown hB hso hat
            go_wp2_with fail
            go_meet
            rw [mergeStep_out (s := m) (l := l) (pre := pre) (by omega)]
            exact ⟨g', c', by simp, hne', by simpa [encSp] using hown', hso', hB'⟩
      case rest =>
        obtain ⟨g', c', rfl, hne', hown', hso', hB'⟩ := hcut
        have hml := hml.out
        generalize mergeStep out m = out' at hown' hst hoo' hml
        clear hown hso hB hne c0 c1 hgs hgo
        go_wp2
        go_roundw
        case rel => exact ⟨k + 1, g', c', out', by omega, by go_num, rfl, hne', hown', hso', hB', hst, by omega, hoo'.out⟩
        case measure => simp [intOf]; omega
    · obtain rfl : k = ys.length := by omega
      have hM := Lib.hid (hM.out.trans (by rw [List.drop_eq_nil_of_le (Nat.le_refl _), List.foldl_nil]))
      go_wp2
      go_ret
      rw [FIN.out, hM.out]
      exact ⟨_, _, rfl, hown, hB⟩
end
end Go.Proofs.YtipdcgfdejmjfaaGreatDoor
