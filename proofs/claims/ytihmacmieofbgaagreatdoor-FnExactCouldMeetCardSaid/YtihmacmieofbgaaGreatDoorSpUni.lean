/- Walks: slices.Clone at spans; a set out of spans. Printed by gen_make.py. -/
import Derived.Test.YtihmacmieofbgaaGreatDoorSpMake
import Derived.Test.YtihmacmieofbgaaGreatDoorSortSp
namespace Go.Proofs.YtihmacmieofbgaaGreatDoor
open Go.ChangeShapes Go.WideShapes Go.ChangeAt Go.RowKit

set_option maxHeartbeats 1000000 in
theorem cloneSp_any (b off cap n : Nat) (xs : List Sp) (w : World) (hn : xs.length = n) (hl : n ≤ 1048576) (hx : Rd encSp w (some ⟨b, off, none⟩) xs) :
    Calls Tryz.prog 82 #[.slice (some ⟨b, off, none⟩) n cap] w fun e w' => ∃ g c, e = .returned (.slice (some ⟨g, 0, none⟩) n c) ∧ w'.ownsRow w.heap.size 77 2 (.slice (some ⟨g, 0, none⟩) n c) n (xs.flatMap encSp) ∧ Below w.heap.size w w' := by
  subst hn
  obtain ⟨i0, hi, hz0, hz1, hz2⟩ := info_parts infoSp
  have q22 : ∀ (w : World) (a : Option Addr) (n c n' c' : Nat), (binOp .eql 40 (.slice a n c) (.slice none n' c')).run Tryz.prog w = .ok (.bool a.isNone) w := fun w a n c n' c' => Lib.run_eql_slice_nil w _ _ a n c n' c' Tryz.underlying40
  have hlen := length_flatMap_enc encSp 2 encSp_len xs
  have A := Lib.hid hx
  clear hx
  go_enter Tryz.func82, Tryz.ntmps82
  go_wp2_with (at_builtin; refine wpList_append_own _ rfl _ _ 40 rfl w.heap.size 77 i0 (.agg #[.int .i64 0, .int .i64 0]) 2 16 Tryz.underlying40 hi hz0 hz1 hz2 rfl (by decide) _ _ _ rfl (World.ownsRow_made w #[] 0 (Nat.le_refl _) (Nat.zero_le _) rfl) ⟨b, off, none⟩ xs.length cap (xs.flatMap encSp) rfl ?qc1 ?qc2 ?qc3 ?qc4 ?qc5 ?qc6 ?_)
  case qc1 => exact hlen
  case qc2 =>
    intro j u hj
    rw [Addr.add_lit]
    exact Lib.cell?_alloc_some _ (rd_cells encSp_len (by decide) A.out j u hj)
  case qc3 =>
    intro u hu
    obtain ⟨m, _, hm⟩ := List.mem_flatMap.1 hu
    simp [encSp] at hm
    rcases hm with rfl | rfl <;> rfl
  case qc4 => unfold maxLen; omega
  case qc5 => omega
  case qc6 => simp
  intro v' w1 hown hgrow hnil
  go_wp2
  go_ret
  have hB := ((Below.refl _ w).alloc (Nat.le_refl _) _).grown hgrow (by simp) (by intro k hk; simp [Value.ownBlock] at hk; omega)
  obtain ⟨h1, ⟨h2, _⟩ | ⟨g, c, cur, e, h4⟩⟩ := hown
  · exact absurd h2 hnil
  · subst e
    exact ⟨g, c, by simp, ⟨by simpa using h1, .inr ⟨g, c, cur, by simp, by simpa using h4⟩⟩, hB⟩

set_option maxRecDepth 100000 in
set_option maxHeartbeats 4000000 in
theorem united_any (b off cap n : Nat) (xs : List Sp) (w : World) (hn : xs.length = n) (hl : n ≤ 1048574) (hx : Rd encSp w (some ⟨b, off, none⟩) xs) (ho : ∀ x ∈ xs, OkSp 0 730499 x) :
    Calls Tryz.prog 71 #[.slice (some ⟨b, off, none⟩) n cap] w fun e w' => ∃ g c, e = .returned (.slice (some ⟨g, 0, none⟩) (uni xs).length c) ∧ w'.ownsRow w.heap.size 77 2 (.slice (some ⟨g, 0, none⟩) (uni xs).length c) (uni xs).length ((uni xs).flatMap encSp) ∧ Below w.heap.size w w' := by
  subst hn
  obtain ⟨i0, hi, hz0, hz1, hz2⟩ := info_parts infoSp
  have HC := Lib.hid (fun W h => cloneSp_any b off cap xs.length xs W rfl (by omega) h)
  have HS := Lib.hid (fun base g cap W h => sortSp_any base g xs.length cap xs W rfl (by omega) h)
  go_enter Tryz.func71, Tryz.ntmps71
  go_wp2_with fail
  refine (HC.out _ hx).mono ?_
  rintro e w1 ⟨gs, cs, rfl, hrow, hB1⟩
  go_wp2_with fail
  refine (HS.out _ _ _ _ hrow).mono ?_
  rintro e w2 ⟨rfl, ys, hperm, hup, hrow2, hg2⟩
  have hlen : ys.length = xs.length := hperm.length_eq
  rw [← hlen] at hrow2 hl ⊢
  have hB2 : Below w.heap.size w w2 := hB1.grown hg2 hB1.size (fun j h => by cases h; exact (own_lt hrow).1)
  have FIN : Hid (uni xs = mergeL ys) := (uni_of_sorted ho hperm hup).symm
  have hys : ∀ x ∈ ys, OkSp 0 730499 x := fun x h => ho x (hperm.mem_iff.1 h)
  have hBo := (Below.refl _ w2).alloc (Nat.le_refl _) (.cells #[] 77)
  have hso := own_below hrow2 hBo
  have hB0 := stepB hB2 hBo hB2.size
  have hown0 := World.ownsRow_made w2 #[] 0 hB2.size (by decide) rfl (e := 77) (size := 2)
  have hne0 : w2.heap.size ≠ gs := Nat.ne_of_gt (own_lt hrow2).2
  clear hlen hrow hrow2 hB1 hB2 hg2 hBo ho hperm hup HC HS hx
  go_wp2
  go_loopw [4, 15] (fun o i wr => ∃ (k g c : Nat) (out : List Sp), k ≤ ys.length ∧ i = .int .i64 k ∧ o = .slice (some ⟨g, 0, none⟩) out.length c ∧ g ≠ gs ∧ wr.ownsRow w.heap.size 77 2 (.slice (some ⟨g, 0, none⟩) out.length c) out.length (out.flatMap encSp) ∧ wr.ownsRow w.heap.size 77 2 (.slice (some ⟨gs, 0, none⟩) ys.length cs) ys.length (ys.flatMap encSp) ∧ Below w.heap.size w wr ∧ Hid (mergeL ys = (ys.drop k).foldl mergeStep out) ∧ out.length ≤ k ∧ ∀ x ∈ out, OkSp 0 730499 x) (fun _ i _ => ys.length - (intOf i).toNat)
  case atStart => exact ⟨0, _, _, [], Nat.zero_le _, rfl, rfl, hne0, hown0, hso, hB0, rfl, Nat.le_refl _, by simp⟩
  case round =>
    clear hown0 hso hB0 hne0
    obtain ⟨k, g, c, out, hk, rfl, rfl, hne, hown, hso, hB, hM, hlo, hoo⟩ := hrel
    by_cases hlt : k < ys.length
    · have hm := List.getElem?_eq_getElem hlt
      generalize ys[k] = m at hm
      have hok := hys m (List.mem_of_getElem? hm)
      have hst := Lib.hid (hM.out.trans (by rw [drop_at hm, List.foldl_cons]))
      have hml := Lib.hid (mergeStep_len out m)
      have c0 := own_at encSp_len hso hm (j := 0) rfl
      have c1 := own_at encSp_len hso hm (j := 1) rfl
      rw [Nat.add_zero] at c0
      have hoo' := Lib.hid (mergeStep_ok hoo hok)
      have hk1 : (k : Int) < (ys.length : Int) := by omega
      have hgs := own_lt hso
      have hgo := own_lt hown
      clear hm hM
      unfold OkSp at hok
      go_upto_block 1 with fail
      go_cut [4, 6, 7] from 17 to 50 (fun s7 _ _ wx => ∃ (g' c' : Nat), s7 = .slice (some ⟨g', 0, none⟩) (mergeStep out m).length c' ∧ g' ≠ gs ∧ wx.ownsRow w.heap.size 77 2 (.slice (some ⟨g', 0, none⟩) (mergeStep out m).length c') (mergeStep out m).length ((mergeStep out m).flatMap encSp) ∧ wx.ownsRow w.heap.size 77 2 (.slice (some ⟨gs, 0, none⟩) ys.length cs) ys.length (ys.flatMap encSp) ∧ Below w.heap.size w wx)
      case first =>
        clear hoo' hst
        go_upto_region 7 with (fail)
        generalize hW : wr.alloc (.cells #[.int .i64 m.fr, .int .i64 m.to] 77) = W
        have hBW : Below wr.heap.size wr W := by rw [← hW]; go_grown
        have D0 : W.cell? ⟨wr.heap.size, 0, none⟩ = some (.int .i64 m.fr) := by rw [← hW]; exact World.cell?_alloc_at _ _ _ _ rfl
        have D1 : W.cell? ⟨wr.heap.size, 1, none⟩ = some (.int .i64 m.to) := by rw [← hW]; exact World.cell?_alloc_at _ _ _ _ rfl
        have hd : wr.heap.size < W.heap.size := by rw [← hW]; simp
        have hgb : g ≠ wr.heap.size := Nat.ne_of_lt hgo.2
        have hown := own_below hown hBW
        have hso := own_below hso hBW
        have hB := stepB hB hBW hB.size
        have hgs := own_lt hso
        have hgo := own_lt hown
        clear hW c0 c1 hBW
        have c0 := D0
        have c1 := D1
        clear D0 D1
        have C0 := Later.cell c0 hd
        rcases List.eq_nil_or_concat out with rfl | ⟨pre, l, rfl⟩
        · go_wp2_with fail
          go_quiet (fail)
          have hz : Below W.heap.size W (W.drewN nq) := drewB (Below.refl _ _) nq
          generalize W.drewN nq = w2 at hz ⊢
          have hown := own_below hown hz
          have hso := own_below hso hz
          have hB := stepB hB hz hB.size
          have c0 := (hz.cell (p := ⟨wr.heap.size, 0, none⟩) hd).trans c0
          have c1 := (hz.cell (p := ⟨wr.heap.size, 1, none⟩) hd).trans c1
          have hgs := own_lt hso
          have hgo := own_lt hown
          have hd := Nat.lt_of_lt_of_le hd hz.size
          clear hz C0
          go_wp2_with (at_builtin; refine wpList_append_lies _ rfl _ _ 40 rfl w.heap.size 77 i0 (.agg #[.int .i64 0, .int .i64 0]) 2 16 Tryz.underlying40 hi hz0 hz1 hz2 rfl (by decide) _ _ _ rfl (hown.alloc _) ⟨w2.heap.size, 0, none⟩ 1 1 [.int .i64 m.fr, .int .i64 m.to] rfl rfl (cell_two_new _ _ _ _) ?c2 (by decide) ?c3 ?c4 ?c5 _ rfl ?_)
          case c2 => first | exact ⟨rfl, rfl⟩ | rfl | (intro u hu; simp at hu; rcases hu with rfl | rfl <;> rfl) | (intro u hu; simp at hu; subst hu; rfl)
          case c3 => unfold maxLen; omega
          case c4 => omega
          case c5 => have := hB.size; first | omega | (simp; omega)
          intro g' c' w4 hown' hgr hat _
          have hB' := (hB.alloc hB.size _).grown hgr (by have := hB.size; simp; omega) (fun x hx => ((hown.lt x hx).1))
          have hso' := own_keepOther (hso.alloc _) hgr (fun e => hne e.symm)
          have hne' : g' ≠ gs := by
            rcases hat with h | h
            · have : g = g' := by simpa [Value.ownBlock] using h
              omega
            · omega
          clear hgr hown hB hso hat
          go_wp2_with fail
          go_meet
          rw [mergeStep_nil]
          exact ⟨g', c', by simp, hne', by simpa [encSp] using hown', hso', hB'⟩
        · rw [List.concat_eq_append] at *
          have hlen : (pre ++ [l]).length = pre.length + 1 := by simp
          rw [hlen] at hown hlo
          rw [hlen]
          have hpl : (pre ++ [l])[pre.length]? = some l := by simp
          have hlk := hoo l (by simp)
          have e1 := own_at encSp_len hown hpl (j := 1) rfl
          have E1 := Later.cell e1 hgo.2
          have hw0 : IntKind.i64.wrap (((pre.length + 1 : Nat) : Int) - 1) = (pre.length : Int) := by rw [IntKind.wrap_i64]; omega
          have hw1 : IntKind.i64.wrap (l.to + 1) = l.to + 1 := by rw [IntKind.wrap_i64]; unfold OkSp at hlk; omega
          have hk2 : (pre.length : Int) < ((pre.length + 1 : Nat) : Int) := by omega
          clear hpl
          by_cases h1 : m.fr ≤ l.to + 1
          · go_wp2_with fail
            go_quiet (fail)
            have hz : Below W.heap.size W (W.drewN nq) := drewB (Below.refl _ _) nq
            generalize W.drewN nq = w2 at hz ⊢
            have hown := own_below hown hz
            have hso := own_below hso hz
            have hB := stepB hB hz hB.size
            have e1 := (hz.cell (p := ⟨g, pre.length * 2 + 1, none⟩) hgo.2).trans e1
            have c0 := (hz.cell (p := ⟨wr.heap.size, 0, none⟩) hd).trans c0
            have c1 := (hz.cell (p := ⟨wr.heap.size, 1, none⟩) hd).trans c1
            have hgs := own_lt hso
            have hgo := own_lt hown
            have hd := Nat.lt_of_lt_of_le hd hz.size
            have f1 := hown.frozenAt (pre.length * 2 + 1)
            have hput := fun v => own_putTo (pre := pre) (x := l) (post := []) hown rfl v
            have HPUT := Lib.hid hput
            clear hput hz C0 E1
            go_upto_region 9 with (fail)
            go_region
            go_wp2_with fail
            go_meet
            rw [mergeStep_in h1]
            refine ⟨g, c, by simp, hne, ?_, own_below (own_keepOther hso (HPUT.out _).2 hne.symm) (Below.refl _ _).drew, ?_⟩
            · simpa using own_below (HPUT.out (max l.to m.to)).1 (Below.refl _ _).drew
            · exact (hB.grown (HPUT.out _).2 hB.size (fun j h => by cases h; exact hgo.1)).drew
          · have h1' : decide (m.fr ≤ l.to + 1) = false := decide_eq_false h1
            go_wp2_with fail
            go_quiet (fail)
            have hz : Below W.heap.size W (W.drewN nq) := drewB (Below.refl _ _) nq
            generalize W.drewN nq = w2 at hz ⊢
            have hown := own_below hown hz
            have hso := own_below hso hz
            have hB := stepB hB hz hB.size
            have c0 := (hz.cell (p := ⟨wr.heap.size, 0, none⟩) hd).trans c0
            have c1 := (hz.cell (p := ⟨wr.heap.size, 1, none⟩) hd).trans c1
            have hgs := own_lt hso
            have hgo := own_lt hown
            have hd := Nat.lt_of_lt_of_le hd hz.size
            clear hz C0 E1 e1
            go_wp2_with (at_builtin; refine wpList_append_lies _ rfl _ _ 40 rfl w.heap.size 77 i0 (.agg #[.int .i64 0, .int .i64 0]) 2 16 Tryz.underlying40 hi hz0 hz1 hz2 rfl (by decide) _ _ _ rfl (hown.alloc _) ⟨w2.heap.size, 0, none⟩ 1 1 [.int .i64 m.fr, .int .i64 m.to] rfl rfl (cell_two_new _ _ _ _) ?c2 (by decide) ?c3 ?c4 ?c5 _ rfl ?_)
            case c2 => first | exact ⟨rfl, rfl⟩ | rfl | (intro u hu; simp at hu; rcases hu with rfl | rfl <;> rfl) | (intro u hu; simp at hu; subst hu; rfl)
            case c3 => unfold maxLen; omega
            case c4 => omega
            case c5 => have := hB.size; first | omega | (simp; omega)
            intro g' c' w4 hown' hgr hat _
            have hB' := (hB.alloc hB.size _).grown hgr (by have := hB.size; simp; omega) (fun x hx => ((hown.lt x hx).1))
            have hso' := own_keepOther (hso.alloc _) hgr (fun e => hne e.symm)
            have hne' : g' ≠ gs := by
              rcases hat with h | h
              · have : g = g' := by simpa [Value.ownBlock] using h
                omega
              · omega
            clear hgr hown hB hso hat
            go_wp2_with fail
            go_meet
            rw [mergeStep_out (s := m) (l := l) (pre := pre) (by omega)]
            exact ⟨g', c', by simp, hne', by simpa [encSp] using hown', hso', hB'⟩
      case rest =>
        obtain ⟨g', c', rfl, hne', hown', hso', hB'⟩ := hcut
        have hml := hml.out
        generalize mergeStep out m = out' at hown' hst hoo' hml
        clear hown hso hB hne c0 c1 hgs hgo
        go_wp2
        go_roundw
        case rel => exact ⟨k + 1, g', c', out', by omega, by go_num, rfl, hne', hown', hso', hB', hst, by omega, hoo'.out⟩
        case measure => simp [intOf]; omega
    · obtain rfl : k = ys.length := by omega
      have hM := Lib.hid (hM.out.trans (by rw [List.drop_eq_nil_of_le (Nat.le_refl _), List.foldl_nil]))
      go_wp2
      go_ret
      rw [FIN.out, hM.out]
      exact ⟨_, _, rfl, hown, hB⟩
end Go.Proofs.YtihmacmieofbgaaGreatDoor
