/- Walk: a set out of spans, by the reference. Printed by gen_make.py. -/
import Derived.Test.YtihmacmieofbgaaGreatDoorSpMet
import Derived.Test.YtihmacmieofbgaaGreatDoorSpRow
import Derived.Test.YtihmacmieofbgaaGreatDoorQLand
import Derived.Deep.AppendLies
import Derived.BigQuiet
import Derived.Deep.CutBlock
namespace Go.Proofs.YtihmacmieofbgaaGreatDoor
open Go.ChangeShapes Go.WideShapes Go.ChangeAt Go.RowKit

theorem pos_end {s : Sp} {ys : List Sp} {p : Nat} (h : p ≤ pos s ys) (hl : ¬ p < ys.length) : p = pos s ys := by
  have := pos_len s ys
  omega
theorem shift_step {ys : List Sp} {q : Nat} {y : Sp} (z : Sp) (h : ys[q]? = some y) : (ys.take (q + 1) ++ z :: ys.drop (q + 1)) = ys.take q ++ y :: z :: ys.drop (q + 1) ∧ y :: ys.drop (q + 1) = ys.drop q := by
  obtain ⟨hq, rfl⟩ := List.getElem?_eq_some_iff.1 h
  refine ⟨?_, (List.drop_eq_getElem_cons hq).symm⟩
  rw [List.take_succ_eq_append_getElem hq, List.append_assoc]
  rfl

set_option maxRecDepth 100000 in
set_option maxHeartbeats 4000000 in
theorem l02Make_any (a : Option Addr) (cap n : Nat) (xs : List Sp) (w : World) (hn : xs.length = n) (hl : n ≤ 1048574) (hx : Rd encSp w a xs) (ho : ∀ x ∈ xs, OkSp 0 730499 x) :
    Calls Tryz.prog 61 #[.slice a n cap] w fun e w' => ∃ g c, e = .returned (.slice (some ⟨g, 0, none⟩) (uni xs).length c) ∧ w'.ownsRow w.heap.size 77 2 (.slice (some ⟨g, 0, none⟩) (uni xs).length c) (uni xs).length ((uni xs).flatMap encSp) ∧ Below w.heap.size w w' := by
  subst hn
  obtain ⟨i0, hi, hz0, hz1, hz2⟩ := info_parts infoSp
  have hBs : Below w.heap.size w (w.alloc (.cells #[] 77)) := (Below.refl _ w).alloc (Nat.le_refl _) _
  have howns := World.ownsRow_made w #[] 0 (Nat.le_refl _) (by decide) rfl (e := 77) (size := 2)
  go_enter Tryz.func61, Tryz.ntmps61
  go_wp2
  go_loopw [3, 4] (fun s i wr => ∃ (k g c : Nat) (ys : List Sp), k ≤ xs.length ∧ i = .int .i64 k ∧ s = .slice (some ⟨g, 0, none⟩) ys.length c ∧ wr.ownsRow w.heap.size 77 2 (.slice (some ⟨g, 0, none⟩) ys.length c) ys.length (ys.flatMap encSp) ∧ Below w.heap.size w wr ∧ Hid (isort xs = (xs.drop k).foldl insS ys) ∧ ys.length = k) (fun _ i _ => xs.length - (intOf i).toNat)
  case atStart => exact ⟨0, _, _, [], Nat.zero_le _, rfl, rfl, howns, hBs, rfl, rfl⟩
  case round =>
    clear howns hBs
    obtain ⟨k, g, c, ys, hk, rfl, rfl, hown, hB, hM, hyl⟩ := hrel
    subst hyl
    by_cases hlt : ys.length < xs.length
    · have hm := List.getElem?_eq_getElem hlt
      generalize xs[ys.length] = m at hm
      have hst := Lib.hid (hM.out.trans (by rw [drop_at hm, List.foldl_cons]))
      obtain ⟨b, off, rfl, _⟩ := (hx.below hB).sp hm
      have hk1 : (ys.length : Int) < (xs.length : Int) := by omega
      clear hM
      go_wp2
      go_loopw [5] (fun p wr => ∃ (q : Nat), p = .int .i64 q ∧ q ≤ pos m ys ∧ wr.ownsRow w.heap.size 77 2 (.slice (some ⟨g, 0, none⟩) ys.length c) ys.length (ys.flatMap encSp) ∧ Below w.heap.size w wr) (fun p _ => ys.length - (intOf p).toNat)
      case atStart => exact ⟨0, rfl, Nat.zero_le _, hown, hB⟩
      case round =>
        clear hown hB
        obtain ⟨q, rfl, hq, hown, hB⟩ := hrel
        have hgo := own_lt hown
        obtain ⟨_, _, e', hb, c0, _⟩ := (hx.below hB).sp hm
        simp only [Option.some.injEq, Addr.mk.injEq, and_true] at e'
        obtain ⟨rfl, rfl⟩ := e'
        have hpl := pos_len m ys
        by_cases hq1 : q < ys.length
        · have hy := List.getElem?_eq_getElem hq1
          generalize ys[q] = y at hy
          have d0 := own_at encSp_len hown hy (j := 0) rfl
          rw [Nat.add_zero] at d0
          have D0 := Later.cell d0 hgo.2
          have C0 := Later.cell c0 hb
          have hq2 : (q : Int) < (ys.length : Int) := by omega
          by_cases h1 : y.fr ≤ m.fr
          · have hgo' := pos_go hq hy h1
            clear hy
            go_wp2_with fail
            go_quiet (fail)
            have hz : Below wr.heap.size wr (wr.drewN nq) := drewB (Below.refl _ _) nq
            generalize wr.drewN nq = w2 at hz ⊢
            have hown := own_below hown hz
            have hB := stepB hB hz hB.size
            clear D0 C0 d0 c0 hb
            go_wp2
            go_roundw
            case rel => exact ⟨q + 1, by go_num, hgo', hown, hB⟩
            case measure => simp [intOf]; omega
          · have hend := Lib.hid (pos_stop hq hy h1)
            have h1' : decide (y.fr ≤ m.fr) = false := decide_eq_false h1
            clear hy
            go_wp2_with fail
            go_quiet (fail)
            have hz : Below wr.heap.size wr (wr.drewN nq) := drewB (Below.refl _ _) nq
            generalize wr.drewN nq = w2 at hz ⊢
            have hown := own_below hown hz
            have hB := stepB hB hz hB.size
            clear D0 C0 d0 c0 hb
            have hend := hend.out
            subst hend
            have hyl' : ys.length ≤ 1048574 := by omega
            go_wp2_with (at_builtin; refine wpList_append_lies _ rfl _ _ 40 rfl w.heap.size 77 i0 (.agg #[.int .i64 0, .int .i64 0]) 2 16 Tryz.underlying40 hi hz0 hz1 hz2 rfl (by decide) _ _ _ rfl (hown.alloc _) ⟨w2.heap.size, 0, none⟩ 1 1 [.int .i64 0, .int .i64 0] rfl rfl (cell_two_new _ _ _ _) ?c2 (by decide) ?c3 ?c4 ?c5 _ rfl ?_)
            case c2 => first | exact ⟨rfl, rfl⟩ | rfl | (intro u hu; simp at hu; rcases hu with rfl | rfl <;> rfl) | (intro u hu; simp at hu; subst hu; rfl)
            case c3 => unfold maxLen; omega
            case c4 => omega
            case c5 => have := hB.size; first | omega | (simp; omega)
            intro g' c' w4 hown' hgr hat _
            have hB4 := (hB.alloc hB.size _).grown hgr (by have := hB.size; simp; omega) (fun x hx => ((hown.lt x hx).1))
            clear hgr hown hB hat hgo hz
            go_wp2
            go_loopw [6] (fun q wr => ∃ (r : Nat) (z : Sp), pos m ys ≤ r ∧ r ≤ ys.length ∧ q = .int .i64 r ∧ wr.ownsRow w.heap.size 77 2 (.slice (some ⟨g', 0, none⟩) (ys.length + 1) c') (ys.length + 1) ((ys.take r ++ z :: ys.drop r).flatMap encSp) ∧ Below w.heap.size w wr) (fun q _ => (intOf q).toNat)
            case atStart => exact ⟨ys.length, ⟨0, 0⟩, pos_len _ _, Nat.le_refl _, by go_num, by simpa [encSp] using hown', hB4⟩
            case round =>
              clear hown' hB4
              obtain ⟨r, z, hr1, hr2, rfl, hown, hB⟩ := hrel
              have hgo := own_lt hown
              by_cases hlt2 : pos m ys < r
              · obtain ⟨q, rfl⟩ : ∃ q, r = q + 1 := ⟨r - 1, by omega⟩
                have hy := List.getElem?_eq_getElem (show q < ys.length by omega)
                generalize ys[q] = y at hy
                obtain ⟨e1, e2⟩ := shift_step z hy
                have hql : (ys.take q).length = q := by simp; omega
                rw [e1] at hown
                have hyy : (ys.take q ++ y :: z :: ys.drop (q + 1))[q]? = some y := by rw [List.getElem?_append_right (by omega), hql]; simp
                have d0 := own_at encSp_len hown hyy (j := 0) rfl
                have d1 := own_at encSp_len hown hyy (j := 1) rfl
                rw [Nat.add_zero] at d0
                have hput := own_putRow encSp_len (pre := ys.take q ++ [y]) (x := z) (post := ys.drop (q + 1)) (i := q + 1) (by simpa using hown) (by simp; omega) y
                rw [List.append_assoc, List.singleton_append, e2] at hput
                have f0 := hown.frozenAt ((q + 1) * 2)
                have f1 := hown.frozenAt ((q + 1) * 2 + 1)
                have hr3 : ((pos m ys : Nat) : Int) < ((q + 1 : Nat) : Int) := by omega
                have hr4 : ((q + 1 : Nat) : Int) < ((ys.length + 1 : Nat) : Int) := by omega
                have hr5 : (q : Int) < ((ys.length + 1 : Nat) : Int) := by omega
                have hw5 : IntKind.i64.wrap (((q + 1 : Nat) : Int) - 1) = (q : Int) := by rw [IntKind.wrap_i64]; omega
                obtain ⟨v1, hv1⟩ : ∃ v, wr.cell? ⟨g', (q + 1) * 2, none⟩ = some v := (own_cell hown _ (by omega)).imp fun _ h => h.1
                obtain ⟨v2, hv2⟩ : ∃ v, wr.cell? ⟨g', (q + 1) * 2 + 1, none⟩ = some v := (own_cell hown _ (by omega)).imp fun _ h => h.1
                have HPUT := Lib.hid hput
                clear hput hyy e1 e2 hy
                go_wp2
                go_roundw
                case rel => exact ⟨q, y, by omega, by omega, by go_num, HPUT.out.1, hB.grown HPUT.out.2 hB.size (fun j h => by cases h; exact hgo.1)⟩
                case measure => simp [intOf]
              · obtain rfl : r = pos m ys := by omega
                obtain ⟨_, _, e', hb, c0, c1⟩ := (hx.below hB).sp hm
                simp only [Option.some.injEq, Addr.mk.injEq, and_true] at e'
                obtain ⟨rfl, rfl⟩ := e'
                have hpl : (ys.take (pos m ys)).length = pos m ys := by rw [List.length_take]; exact Nat.min_eq_left (pos_len _ _)
                have hput := own_putRow encSp_len (pre := ys.take (pos m ys)) (x := z) (post := ys.drop (pos m ys)) (i := pos m ys) hown hpl.symm m
                have HPUT := Lib.hid hput
                have f0 := hown.frozenAt (pos m ys * 2)
                have f1 := hown.frozenAt (pos m ys * 2 + 1)
                have hpl2 := pos_len m ys
                obtain ⟨v1, hv1⟩ : ∃ v, wr.cell? ⟨g', pos m ys * 2, none⟩ = some v := (own_cell hown _ (by omega)).imp fun _ h => h.1
                obtain ⟨v2, hv2⟩ : ∃ v, wr.cell? ⟨g', pos m ys * 2 + 1, none⟩ = some v := (own_cell hown _ (by omega)).imp fun _ h => h.1
                have hr4 : ((pos m ys : Nat) : Int) < ((ys.length + 1 : Nat) : Int) := by omega
                have hr6 : ¬ ((pos m ys : Nat) : Int) < ((pos m ys : Nat) : Int) := by omega
                have hil := insS_len ys m
                clear hput hpl
                go_wp2
                go_roundw
                case rel => exact ⟨ys.length + 1, g', c', insS ys m, by omega, by go_num, by rw [hil], by rw [hil]; exact HPUT.out.1, hB.grown HPUT.out.2 hB.size (fun j h => by cases h; exact hgo.1), hst, hil⟩
                case measure => simp [intOf]; omega
        · have hend := Lib.hid (pos_end hq hq1)
          have hq2 : ¬ (q : Int) < (ys.length : Int) := by omega
          have hq3 : decide (q < ys.length) = false := decide_eq_false hq1
          go_wp2_with fail
          go_quiet (fail)
          have hz : Below wr.heap.size wr (wr.drewN nq) := drewB (Below.refl _ _) nq
          generalize wr.drewN nq = w2 at hz ⊢
          have hown := own_below hown hz
          have hB := stepB hB hz hB.size
          clear c0 hb
          have hend := hend.out
          subst hend
          have hyl' : ys.length ≤ 1048574 := by omega
          go_wp2_with (at_builtin; refine wpList_append_lies _ rfl _ _ 40 rfl w.heap.size 77 i0 (.agg #[.int .i64 0, .int .i64 0]) 2 16 Tryz.underlying40 hi hz0 hz1 hz2 rfl (by decide) _ _ _ rfl (hown.alloc _) ⟨w2.heap.size, 0, none⟩ 1 1 [.int .i64 0, .int .i64 0] rfl rfl (cell_two_new _ _ _ _) ?c2 (by decide) ?c3 ?c4 ?c5 _ rfl ?_)
          case c2 => first | exact ⟨rfl, rfl⟩ | rfl | (intro u hu; simp at hu; rcases hu with rfl | rfl <;> rfl) | (intro u hu; simp at hu; subst hu; rfl)
          case c3 => unfold maxLen; omega
          case c4 => omega
          case c5 => have := hB.size; first | omega | (simp; omega)
          intro g' c' w4 hown' hgr hat _
          have hB4 := (hB.alloc hB.size _).grown hgr (by have := hB.size; simp; omega) (fun x hx => ((hown.lt x hx).1))
          clear hgr hown hB hat hgo hz
          go_wp2
          go_loopw [6] (fun q wr => ∃ (r : Nat) (z : Sp), pos m ys ≤ r ∧ r ≤ ys.length ∧ q = .int .i64 r ∧ wr.ownsRow w.heap.size 77 2 (.slice (some ⟨g', 0, none⟩) (ys.length + 1) c') (ys.length + 1) ((ys.take r ++ z :: ys.drop r).flatMap encSp) ∧ Below w.heap.size w wr) (fun q _ => (intOf q).toNat)
          case atStart => exact ⟨ys.length, ⟨0, 0⟩, pos_len _ _, Nat.le_refl _, by go_num, by simpa [encSp] using hown', hB4⟩
          case round =>
            clear hown' hB4
            obtain ⟨r, z, hr1, hr2, rfl, hown, hB⟩ := hrel
            have hgo := own_lt hown
            by_cases hlt2 : pos m ys < r
            · exfalso; omega
            · obtain rfl : r = pos m ys := by omega
              obtain ⟨_, _, e', hb, c0, c1⟩ := (hx.below hB).sp hm
              simp only [Option.some.injEq, Addr.mk.injEq, and_true] at e'
              obtain ⟨rfl, rfl⟩ := e'
              have hpl : (ys.take (pos m ys)).length = pos m ys := by rw [List.length_take]; exact Nat.min_eq_left (pos_len _ _)
              have hput := own_putRow encSp_len (pre := ys.take (pos m ys)) (x := z) (post := ys.drop (pos m ys)) (i := pos m ys) hown hpl.symm m
              have HPUT := Lib.hid hput
              have f0 := hown.frozenAt (pos m ys * 2)
              have f1 := hown.frozenAt (pos m ys * 2 + 1)
              have hpl2 := pos_len m ys
              obtain ⟨v1, hv1⟩ : ∃ v, wr.cell? ⟨g', pos m ys * 2, none⟩ = some v := (own_cell hown _ (by omega)).imp fun _ h => h.1
              obtain ⟨v2, hv2⟩ : ∃ v, wr.cell? ⟨g', pos m ys * 2 + 1, none⟩ = some v := (own_cell hown _ (by omega)).imp fun _ h => h.1
              have hr4 : ((pos m ys : Nat) : Int) < ((ys.length + 1 : Nat) : Int) := by omega
              have hr6 : ¬ ((pos m ys : Nat) : Int) < ((pos m ys : Nat) : Int) := by omega
              have hil := insS_len ys m
              clear hput hpl
              go_wp2
              go_roundw
              case rel => exact ⟨ys.length + 1, g', c', insS ys m, by omega, by go_num, by rw [hil], by rw [hil]; exact HPUT.out.1, hB.grown HPUT.out.2 hB.size (fun j h => by cases h; exact hgo.1), hst, hil⟩
              case measure => simp [intOf]; omega
    · have hM' : isort xs = ys := hM.out.trans (by rw [List.drop_eq_nil_of_le (by omega), List.foldl_nil])
      have FIN : Hid (uni xs = mergeL ys) := by unfold Hid uni; rw [hM']
      have hys : ∀ x ∈ ys, OkSp 0 730499 x := fun x h => ho x ((isort_perm xs).mem_iff.1 (hM' ▸ h))
      have hyl : ys.length = xs.length := by omega
      rw [← hyl] at hl
      have hBo := (Below.refl _ wr).alloc (Nat.le_refl _) (.cells #[] 77)
      have hso := own_below hown hBo
      have hB0 := stepB hB hBo hB.size
      have hown0 := World.ownsRow_made wr #[] 0 hB.size (by decide) rfl (e := 77) (size := 2)
      have hne0 : wr.heap.size ≠ g := Nat.ne_of_gt (own_lt hown).2
      have hk2 : ¬ (ys.length : Int) < (xs.length : Int) := by omega
      clear hM hyl hM' hBo hown hB ho
      generalize g = gs at *
      generalize c = cs at *
      go_wp2
      go_loopw [7, 8] (fun o i wr => ∃ (k g c : Nat) (out : List Sp), k ≤ ys.length ∧ i = .int .i64 k ∧ o = .slice (some ⟨g, 0, none⟩) out.length c ∧ g ≠ gs ∧ wr.ownsRow w.heap.size 77 2 (.slice (some ⟨g, 0, none⟩) out.length c) out.length (out.flatMap encSp) ∧ wr.ownsRow w.heap.size 77 2 (.slice (some ⟨gs, 0, none⟩) ys.length cs) ys.length (ys.flatMap encSp) ∧ Below w.heap.size w wr ∧ Hid (mergeL ys = (ys.drop k).foldl mergeStep out) ∧ out.length ≤ k ∧ ∀ x ∈ out, OkSp 0 730499 x) (fun _ i _ => ys.length - (intOf i).toNat)
      case atStart => exact ⟨0, _, _, [], Nat.zero_le _, rfl, rfl, hne0, hown0, hso, hB0, rfl, Nat.le_refl _, by simp⟩
      case round =>
        clear hown0 hso hB0 hne0
        obtain ⟨k, g, c, out, hk, rfl, rfl, hne, hown, hso, hB, hM, hlo, hoo⟩ := hrel
        by_cases hlt : k < ys.length
        · have hm := List.getElem?_eq_getElem hlt
          generalize ys[k] = m at hm
          have hok := hys m (List.mem_of_getElem? hm)
          have hst := Lib.hid (hM.out.trans (by rw [drop_at hm, List.foldl_cons]))
          have hml := Lib.hid (mergeStep_len out m)
          have c0 := own_at encSp_len hso hm (j := 0) rfl
          have c1 := own_at encSp_len hso hm (j := 1) rfl
          rw [Nat.add_zero] at c0
          have hoo' := Lib.hid (mergeStep_ok hoo hok)
          have hk1 : (k : Int) < (ys.length : Int) := by omega
          have hgs := own_lt hso
          have hgo := own_lt hown
          clear hm hM
          unfold OkSp at hok
          go_upto_block 7 with fail
          go_cut [7, 9] from 70 to 110 (fun s7 _ wx => ∃ (g' c' : Nat), s7 = .slice (some ⟨g', 0, none⟩) (mergeStep out m).length c' ∧ g' ≠ gs ∧ wx.ownsRow w.heap.size 77 2 (.slice (some ⟨g', 0, none⟩) (mergeStep out m).length c') (mergeStep out m).length ((mergeStep out m).flatMap encSp) ∧ wx.ownsRow w.heap.size 77 2 (.slice (some ⟨gs, 0, none⟩) ys.length cs) ys.length (ys.flatMap encSp) ∧ Below w.heap.size w wx)
          case first =>
            clear hoo' hst
            have C0 := Later.cell c0 hgs.2
            rcases List.eq_nil_or_concat out with rfl | ⟨pre, l, rfl⟩
            · go_wp2_with fail
              go_quiet (fail)
              have hz : Below wr.heap.size wr (wr.drewN nq) := drewB (Below.refl _ _) nq
              generalize wr.drewN nq = w2 at hz ⊢
              have hown := own_below hown hz
              have hso := own_below hso hz
              have hB := stepB hB hz hB.size
              have c0 := (hz.cell (p := ⟨gs, k * 2, none⟩) hgs.2).trans c0
              have c1 := (hz.cell (p := ⟨gs, k * 2 + 1, none⟩) hgs.2).trans c1
              have hgs := own_lt hso
              have hgo := own_lt hown
              clear hz C0
              go_wp2_with (at_builtin; refine wpList_append_lies _ rfl _ _ 40 rfl w.heap.size 77 i0 (.agg #[.int .i64 0, .int .i64 0]) 2 16 Tryz.underlying40 hi hz0 hz1 hz2 rfl (by decide) _ _ _ rfl (hown.alloc _) ⟨w2.heap.size, 0, none⟩ 1 1 [.int .i64 m.fr, .int .i64 m.to] rfl rfl (cell_two_new _ _ _ _) ?c2 (by decide) ?c3 ?c4 ?c5 _ rfl ?_)
              case c2 => first | exact ⟨rfl, rfl⟩ | rfl | (intro u hu; simp at hu; rcases hu with rfl | rfl <;> rfl) | (intro u hu; simp at hu; subst hu; rfl)
              case c3 => unfold maxLen; omega
              case c4 => omega
              case c5 => have := hB.size; first | omega | (simp; omega)
              intro g' c' w4 hown' hgr hat _
              have hB' := (hB.alloc hB.size _).grown hgr (by have := hB.size; simp; omega) (fun x hx => ((hown.lt x hx).1))
              have hso' := own_keepOther (hso.alloc _) hgr (fun e => hne e.symm)
              have hne' : g' ≠ gs := by
                rcases hat with h | h
                · have : g = g' := by simpa [Value.ownBlock] using h
                  omega
                · omega
              clear hgr hown hB hso hat
              go_wp2_with fail
              go_meet
              rw [mergeStep_nil]
              exact ⟨g', c', by simp, hne', by simpa [encSp] using hown', hso', hB'⟩
            · rw [List.concat_eq_append] at *
              have hlen : (pre ++ [l]).length = pre.length + 1 := by simp
              rw [hlen] at hown hlo
              rw [hlen]
              have hpl : (pre ++ [l])[pre.length]? = some l := by simp
              have hlk := hoo l (by simp)
              have e1 := own_at encSp_len hown hpl (j := 1) rfl
              have E1 := Later.cell e1 hgo.2
              have hw0 : IntKind.i64.wrap (((pre.length + 1 : Nat) : Int) - 1) = (pre.length : Int) := by rw [IntKind.wrap_i64]; omega
              have hw1 : IntKind.i64.wrap (l.to + 1) = l.to + 1 := by rw [IntKind.wrap_i64]; unfold OkSp at hlk; omega
              have hk2 : (pre.length : Int) < ((pre.length + 1 : Nat) : Int) := by omega
              clear hpl
              by_cases h1 : m.fr ≤ l.to + 1
              · go_wp2_with fail
                go_quiet (fail)
                have hz : Below wr.heap.size wr (wr.drewN nq) := drewB (Below.refl _ _) nq
                generalize wr.drewN nq = w2 at hz ⊢
                have hown := own_below hown hz
                have hso := own_below hso hz
                have hB := stepB hB hz hB.size
                have e1 := (hz.cell (p := ⟨g, pre.length * 2 + 1, none⟩) hgo.2).trans e1
                have c0 := (hz.cell (p := ⟨gs, k * 2, none⟩) hgs.2).trans c0
                have c1 := (hz.cell (p := ⟨gs, k * 2 + 1, none⟩) hgs.2).trans c1
                have hgs := own_lt hso
                have hgo := own_lt hown
                have f1 := hown.frozenAt (pre.length * 2 + 1)
                have hput := fun v => own_putTo (pre := pre) (x := l) (post := []) hown rfl v
                have HPUT := Lib.hid hput
                clear hput hz C0 E1
                go_upto_region 20 with (fail)
                go_region
                go_wp2_with fail
                go_meet
                rw [mergeStep_in h1]
                refine ⟨g, c, by simp, hne, ?_, own_below (own_keepOther hso (HPUT.out _).2 hne.symm) (Below.refl _ _).drew, ?_⟩
                · simpa using own_below (HPUT.out (max l.to m.to)).1 (Below.refl _ _).drew
                · exact (hB.grown (HPUT.out _).2 hB.size (fun j h => by cases h; exact hgo.1)).drew
              · have h1' : decide (m.fr ≤ l.to + 1) = false := decide_eq_false h1
                go_wp2_with fail
                go_quiet (fail)
                have hz : Below wr.heap.size wr (wr.drewN nq) := drewB (Below.refl _ _) nq
                generalize wr.drewN nq = w2 at hz ⊢
                have hown := own_below hown hz
                have hso := own_below hso hz
                have hB := stepB hB hz hB.size
                have c0 := (hz.cell (p := ⟨gs, k * 2, none⟩) hgs.2).trans c0
                have c1 := (hz.cell (p := ⟨gs, k * 2 + 1, none⟩) hgs.2).trans c1
                have hgs := own_lt hso
                have hgo := own_lt hown
                clear hz C0 E1 e1
                go_wp2_with (at_builtin; refine wpList_append_lies _ rfl _ _ 40 rfl w.heap.size 77 i0 (.agg #[.int .i64 0, .int .i64 0]) 2 16 Tryz.underlying40 hi hz0 hz1 hz2 rfl (by decide) _ _ _ rfl (hown.alloc _) ⟨w2.heap.size, 0, none⟩ 1 1 [.int .i64 m.fr, .int .i64 m.to] rfl rfl (cell_two_new _ _ _ _) ?c2 (by decide) ?c3 ?c4 ?c5 _ rfl ?_)
                case c2 => first | exact ⟨rfl, rfl⟩ | rfl | (intro u hu; simp at hu; rcases hu with rfl | rfl <;> rfl) | (intro u hu; simp at hu; subst hu; rfl)
                case c3 => unfold maxLen; omega
                case c4 => omega
                case c5 => have := hB.size; first | omega | (simp; omega)
                intro g' c' w4 hown' hgr hat _
                have hB' := (hB.alloc hB.size _).grown hgr (by have := hB.size; simp; omega) (fun x hx => ((hown.lt x hx).1))
                have hso' := own_keepOther (hso.alloc _) hgr (fun e => hne e.symm)
                have hne' : g' ≠ gs := by
                  rcases hat with h | h
                  · have : g = g' := by simpa [Value.ownBlock] using h
                    omega
                  · omega
                clear hgr hown hB hso hat
                go_wp2_with fail
                go_meet
                rw [mergeStep_out (s := m) (l := l) (pre := pre) (by omega)]
                exact ⟨g', c', by simp, hne', by simpa [encSp] using hown', hso', hB'⟩
          case rest =>
            obtain ⟨g', c', rfl, hne', hown', hso', hB'⟩ := hcut
            have hml := hml.out
            generalize mergeStep out m = out' at hown' hst hoo' hml
            clear hown hso hB hne c0 c1 hgs hgo
            go_wp2
            go_roundw
            case rel => exact ⟨k + 1, g', c', out', by omega, by go_num, rfl, hne', hown', hso', hB', hst, by omega, hoo'.out⟩
            case measure => simp [intOf]; omega
        · obtain rfl : k = ys.length := by omega
          have hM := Lib.hid (hM.out.trans (by rw [List.drop_eq_nil_of_le (Nat.le_refl _), List.foldl_nil]))
          go_wp2
          go_ret
          rw [FIN.out, hM.out]
          exact ⟨_, _, rfl, hown, hB⟩
end Go.Proofs.YtihmacmieofbgaaGreatDoor
