/- Walks: RecordUse of the program. Printed by gen_reci.py. -/
import Derived.Test.YtmjbigeeokofeaaDoorRecB
import Derived.Test.YtmjbigeeokofeaaDoorRecC
import Derived.Test.YtmjbigeeokofeaaDoorMarkImpl
import Derived.StillTailTactics
namespace Go.Proofs.YtmjbigeeokofeaaDoor
open Go.ChangeShapes Go.WideShapes Go.ChangeAt Go.RowKit Go.IntWalk

set_option maxRecDepth 100000 in
set_option maxHeartbeats 4000000 in
theorem implRecord_any (ga cap : Nat) (xs : List Mk) (nm : ByteArray) (n aw : Int) (w : World) (hl : xs.length ≤ 1048576) (hx : Rd encMk w (some ⟨ga, 0, none⟩) xs) (hs : ∀ m ∈ xs, m.name.size ≤ 1048576) (hnm : nm.size ≤ 1048576) :
    Calls Tryd.prog 21 #[.slice (some ⟨ga, 0, none⟩) xs.length cap, .string nm, .int .i64 n, .int .i64 aw] w fun e w' => ∃ b c, e = .returned (.tuple #[.slice b (recR xs nm n aw).1.length c, .int .i64 (recR xs nm n aw).2]) ∧
      w'.ownsRow w.heap.size 80 3 (.slice b (recR xs nm n aw).1.length c) (recR xs nm n aw).1.length ((recR xs nm n aw).1.flatMap encMk) ∧ Below w.heap.size w w' := by
  obtain ⟨i0, hi, hz0, hz1, hz2⟩ := info_parts infoMk
  have hB := Below.refl w.heap.size w
  cases hA : areMarksB xs
  · have hR : Hid (recR xs nm n aw = ([], 1)) := recR_bad hA
    have HM := Lib.hid (fun W (h : Rd encMk W (some ⟨ga, 0, none⟩) xs) => hA ▸ implAreMarks_any (some ⟨ga, 0, none⟩) cap xs W hl h hs)
    clear hA
    go_enter Tryd.func21, Tryd.ntmps21
    go_wp2_with fail
    refine (HM.out _ hx).mono ?_
    rintro e w1 ⟨rfl, hB1⟩
    go_wp2
    go_ret2
    rw [hR.out]
    exact ⟨none, 0, rfl, World.ownsRow_nil _ _ _ _, hB1⟩
  have HM := Lib.hid (fun W (h : Rd encMk W (some ⟨ga, 0, none⟩) xs) => hA ▸ implAreMarks_any (some ⟨ga, 0, none⟩) cap xs W hl h hs)
  have HA := Lib.hid hA
  have h40 := (up_of hA).2.2
  clear hA
  cases hD : dayB n
  · have hR : Hid (recR xs nm n aw = ([], 2)) := recR_rng HA.out (by unfold okRec; rw [hD]; simp)
    have HD := Lib.hid (fun W => hD ▸ isDay_any n W)
    clear hD
    go_enter Tryd.func21, Tryd.ntmps21
    go_wp2_with fail
    refine (HM.out _ hx).mono ?_
    rintro e w1 ⟨rfl, hB1⟩
    replace hB := stepB hB hB1 hB.size
    go_wp2_with fail
    refine (HD.out _).mono ?_
    rintro e w2 ⟨rfl, rfl⟩
    go_wp2
    go_ret2
    rw [hR.out]
    exact ⟨none, 0, rfl, World.ownsRow_nil _ _ _ _, hB⟩
  have HD := Lib.hid (fun W => hD ▸ isDay_any n W)
  cases hN : nameB nm.data.toList 12
  · have hR : Hid (recR xs nm n aw = ([], 2)) := recR_rng HA.out (by unfold okRec; rw [hN]; simp)
    have HN := Lib.hid (fun W => hN ▸ isSmall_any nm 12 W (by omega))
    clear hN hD
    go_enter Tryd.func21, Tryd.ntmps21
    go_wp2_with fail
    refine (HM.out _ hx).mono ?_
    rintro e w1 ⟨rfl, hB1⟩
    replace hB := stepB hB hB1 hB.size
    go_wp2_with fail
    refine (HD.out _).mono ?_
    rintro e w2 ⟨rfl, rfl⟩
    go_wp2_with fail
    refine (HN.out _).mono ?_
    rintro e w2 ⟨rfl, hB1⟩
    replace hB := stepB hB hB1 hB.size
    go_wp2
    go_ret2
    rw [hR.out]
    exact ⟨none, 0, rfl, World.ownsRow_nil _ _ _ _, hB⟩
  have HN := Lib.hid (fun W => hN ▸ isSmall_any nm 12 W (by omega))
  have HIN := Lib.hid (fun lo hi W => within_any n lo hi W)
  cases hI : inB aw 0 10000
  · have hR : Hid (recR xs nm n aw = ([], 2)) := recR_rng HA.out (by unfold okRec; rw [hI]; simp)
    have HI := Lib.hid (fun W => hI ▸ within_any aw 0 10000 W)
    clear hN hD hI
    go_enter Tryd.func21, Tryd.ntmps21
    go_wp2_with fail
    refine (HM.out _ hx).mono ?_
    rintro e w1 ⟨rfl, hB1⟩
    replace hB := stepB hB hB1 hB.size
    go_wp2_with fail
    refine (HD.out _).mono ?_
    rintro e w2 ⟨rfl, rfl⟩
    go_wp2_with fail
    refine (HN.out _).mono ?_
    rintro e w2 ⟨rfl, hB1⟩
    replace hB := stepB hB hB1 hB.size
    go_wp2_with fail
    refine (HI.out _).mono ?_
    rintro e w4 ⟨rfl, rfl⟩
    go_wp2
    go_ret2
    rw [hR.out]
    exact ⟨none, 0, rfl, World.ownsRow_nil _ _ _ _, hB⟩
  have hok : Hid (okRec nm n aw = true) := by unfold Hid okRec; rw [hD, hN, hI]; rfl
  have haw := okRec_bd hok.out
  have HI := Lib.hid (fun W => hI ▸ within_any aw 0 10000 W)
  clear hN hD hI
  go_enter Tryd.func21, Tryd.ntmps21
  go_wp2_with fail
  refine (HM.out _ hx).mono ?_
  rintro e w1 ⟨rfl, hB1⟩
  replace hB := stepB hB hB1 hB.size
  go_wp2_with fail
  refine (HD.out _).mono ?_
  rintro e w2 ⟨rfl, rfl⟩
  go_wp2_with fail
  refine (HN.out _).mono ?_
  rintro e w2 ⟨rfl, hB1⟩
  replace hB := stepB hB hB1 hB.size
  go_wp2_with fail
  refine (HI.out _).mono ?_
  rintro e w4 ⟨rfl, rfl⟩
  clear HM HN HD HI hB1
  go_wp2_with fail
  refine (cloneMk_any ga cap xs.length xs _ rfl hl (hx.below hB)).mono ?_
  rintro e W3 ⟨og, oc, rfl, ow, hB1⟩
  replace ow := own_base ow hB.size
  replace hB := stepB hB hB1 hB.size
  clear hB1
  have hok3 : Hid (∀ m ∈ xs, okMk m = true) := (up_of HA.out).2.1
  go_wp2
  go_loopw [35] (fun i wr => ∃ (k : Nat), k ≤ xs.length ∧ i = .int .i64 k ∧ Hid (∀ x ∈ xs.take k, hitM nm n aw x = false) ∧ wr.ownsRow w.heap.size 80 3 (.slice (some ⟨og, 0, none⟩) xs.length oc) xs.length (xs.flatMap encMk) ∧ Below w.heap.size w wr) (fun i _ => xs.length - (intOf i).toNat)
  case atStart => exact ⟨0, Nat.zero_le _, rfl, fun x hx => by simp at hx, ow, hB⟩
  case round =>
    clear ow hB
    obtain ⟨k, hk, rfl, hno, ow, hB⟩ := hrel
    by_cases hlt : k < xs.length
    · have hk1 : (k : Int) < (xs.length : Int) := by omega
      have hgo := (own_lt ow).2
      have hm := List.getElem?_eq_getElem hlt
      generalize xs[k] = m at hm
      have d0 := own_at encMk_len ow hm (j := 0) rfl
      have d1 := own_at encMk_len ow hm (j := 1) rfl
      have d2 := own_at encMk_len ow hm (j := 2) rfl
      rw [Nat.add_zero] at d0
      have hkm := hok3.out m (List.mem_of_getElem? hm)
      unfold okMk at hkm
      simp only [Bool.and_eq_true] at hkm
      have hsp := spanB_bd hkm.2
      clear hkm
      have v1 := i64_in (m.fr - aw) (by omega)
      have v2 := i64_in (m.to + aw) (by omega)
      have hstep := Lib.hid (fun h => take_hit hm hno.out h)
      have hfin := Lib.hid (fun h => recR_hit HA.out hok.out hm hno.out h)
      go_upto_region 10 with (fail)
      have D0 := Later.cell d0 hgo
      have D1 := Later.cell d1 hgo
      have D2 := Later.cell d2 hgo
      cases h1 : (m.name.toList == nm.toList)
      · have hnx := Lib.hid (hstep.out (hitM_not h1))
        refine wp_region_later wr (by kernel_rfl) (by kernel_rfl) ?_
        repeat (go_big_quiet_step (fail))
        refine wpQuiet_nil ?_
        intro z
        have hz := z.prop
        generalize z.val = w5 at hz
        clear D0 D1 D2
        replace ow := own_below ow hz
        replace hB := stepB hB hz hB.size
        go_wp2
        go_roundw
        case rel => exact ⟨k + 1, by omega, by go_num, hnx, ow, hB⟩
        case measure => simp [intOf]; omega
      · cases h2 : inB n (m.fr - aw) (m.to + aw)
        · have hnx := Lib.hid (hstep.out (hitM_in h1 h2))
          have HI2 := Lib.hid (fun W => h2 ▸ HIN.out (m.fr - aw) (m.to + aw) W)
          refine wp_region_later wr (by kernel_rfl) (by kernel_rfl) ?_
          repeat (go_big_quiet_step ((go_at_call 55; exact Later.same (HI2.out _))))
          refine wpQuiet_nil ?_
          intro z
          have hz := z.prop
          generalize z.val = w5 at hz
          clear D0 D1 D2
          replace ow := own_below ow hz
          replace hB := stepB hB hz hB.size
          go_wp2
          go_roundw
          case rel => exact ⟨k + 1, by omega, by go_num, hnx, ow, hB⟩
          case measure => simp [intOf]; omega
        · have hR := Lib.hid (hfin.out (hitM_in h1 h2))
          have HI2 := Lib.hid (fun W => h2 ▸ HIN.out (m.fr - aw) (m.to + aw) W)
          refine wp_region_later wr (by kernel_rfl) (by kernel_rfl) ?_
          repeat (go_big_quiet_step ((go_at_call 55; exact Later.same (HI2.out _))))
          refine wpQuiet_nil ?_
          intro z
          have hz := z.prop
          generalize z.val = w5 at hz
          have e1 := ((bcell hz).1 _ _ hgo).trans d1
          have e2 := ((bcell hz).1 _ _ hgo).trans d2
          clear D0 D1 D2 d0 d1 d2
          replace ow := own_below ow hz
          replace hB := stepB hB hz hB.size
          clear hz
          clear e1 e2
          go_upto_region 11 with (fail)
          refine MAny.region (S := fun w' => w'.cell? ⟨og, k * 3 + 2, none⟩ = some (.int .i64 m.to)) (last := 19) (by kernel_rfl) ?_
          have hz : Below w5.heap.size w5 w5.drew := (Below.refl _ w5).drew
          replace ow := own_below ow hz
          replace hB := stepB hB hz hB.size
          clear hz
          generalize w5.drew = w6 at ow hB ⊢
          have c1 := own_at encMk_len ow hm (j := 1) rfl
          have hHeld := own_at encMk_len ow hm (j := 2) rfl
          have f1 := ow.frozenAt (k * 3 + 1)
          have f2 := ow.frozenAt (k * 3 + 2)
          have hW := own_wide ow hm (min m.fr n) (max m.to n)
          have HW := Lib.hid hW
          clear hW
          have g2 : (w6.setCell ⟨og, k * 3 + 1, none⟩ (.int .i64 (min m.fr n))).cell? ⟨og, k * 3 + 2, none⟩ = some (.int .i64 m.to) := (World.cell?_setCell_other _ _ _ _ (by intro e; injection e; omega)).trans hHeld
          have k2 : (w6.setCell ⟨og, k * 3 + 1, none⟩ (.int .i64 (min m.fr n))).frozen? ⟨og, k * 3 + 2, none⟩ = false := (World.frozen?_setCell _ _ _ _).trans f2
          refine MAny.take (i := 0) (v := ?_) rfl (by kernel_rfl) (by kernel_rfl) (by kernel_rfl) (fun _ _ _ h => h) (by kernel_rfl) (Or.inl ⟨by rfl, ?_⟩) (by assumption) ?_
          rotate_left
          · (intro w' hSw; (try dsimp only at hSw); go_simp; try (with_reducible rfl))
          try simp only [Act.put, List.setIfInBounds_toArray]
          refine MAny.take (i := 1) (v := ?_) rfl (by kernel_rfl) (by kernel_rfl) (by kernel_rfl) (fun _ _ _ h => h) (by kernel_rfl) (Or.inl ⟨by rfl, ?_⟩) (by assumption) ?_
          rotate_left
          · (intro w' hSw; (try dsimp only at hSw); go_simp; try (with_reducible rfl))
          try simp only [Act.put]
          refine MAny.take (i := 2) (v := ?_) rfl (by kernel_rfl) (by kernel_rfl) (by kernel_rfl) (fun _ _ _ h => h) (by kernel_rfl) (Or.inl ⟨by rfl, ?_⟩) (by assumption) ?_
          rotate_left
          · (intro w' hSw; (try dsimp only at hSw); go_simp; try (with_reducible rfl))
          try simp only [Act.put]
          refine MAny.take (i := 3) (v := ?_) rfl (by kernel_rfl) (by kernel_rfl) (by kernel_rfl) (fun _ _ _ h => h) (by kernel_rfl) (Or.inl ⟨by rfl, ?_⟩) (by assumption) ?_
          rotate_left
          · (intro w' hSw; (try dsimp only at hSw); go_simp; try (with_reducible rfl))
          try simp only [Act.put]
          refine MAny.take (i := 4) (v := ?_) rfl (by kernel_rfl) (by kernel_rfl) (by kernel_rfl) (fun _ _ _ h => h) (by kernel_rfl) (Or.inl ⟨by rfl, ?_⟩) (by assumption) ?_
          rotate_left
          · (intro w' hSw; (try dsimp only at hSw); go_simp; try (with_reducible rfl))
          try simp only [Act.put]
          refine MAny.take (i := 6) (v := ?_) rfl (by kernel_rfl) (by kernel_rfl) (by kernel_rfl) (fun _ _ _ h => h) (by kernel_rfl) (Or.inl ⟨by rfl, ?_⟩) (by assumption) ?_
          rotate_left
          · (intro w' hSw; (try dsimp only at hSw); go_simp; try (with_reducible rfl))
          try simp only [Act.put]
          refine MAny.take (i := 8) (v := ?_) rfl (by kernel_rfl) (by kernel_rfl) (by kernel_rfl) (fun _ _ _ h => h) (by kernel_rfl) (Or.inl ⟨by rfl, ?_⟩) (by assumption) ?_
          rotate_left
          · (intro w' hSw; (try dsimp only at hSw); go_simp; try (with_reducible rfl))
          try simp only [Act.put]
          refine MAny.take (i := 9) (v := ?_) rfl (by kernel_rfl) (by kernel_rfl) (by kernel_rfl) (fun _ _ _ h => h) (by kernel_rfl) (Or.inl ⟨by rfl, ?_⟩) (by assumption) ?_
          rotate_left
          · (intro w' hSw; (try dsimp only at hSw); go_simp; try (with_reducible rfl))
          try simp only [Act.put]
          refine MAny.take (i := 10) (v := ?_) rfl (by kernel_rfl) (by kernel_rfl) (by kernel_rfl) (fun _ _ _ h => h) (by kernel_rfl) (Or.inl ⟨by rfl, ?_⟩) (by assumption) ?_
          rotate_left
          · (intro w' hSw; (try dsimp only at hSw); go_simp; try (with_reducible rfl))
          try simp only [Act.put]
          refine MAny.take (i := 11) (v := ?_) rfl (by kernel_rfl) (by kernel_rfl) (by kernel_rfl) (fun _ _ _ h => h) (by kernel_rfl) (Or.inl ⟨by rfl, ?_⟩) (by assumption) ?_
          rotate_left
          · (intro w' hSw; (try dsimp only at hSw); go_simp; try (with_reducible rfl))
          try simp only [Act.put]
          refine MAny.take (i := 12) (v := ?_) rfl (by kernel_rfl) (by kernel_rfl) (by kernel_rfl) (fun _ _ _ h => h) (by kernel_rfl) (Or.inl ⟨by rfl, ?_⟩) (by assumption) ?_
          rotate_left
          · (intro w' hSw; (try dsimp only at hSw); go_simp; try (with_reducible rfl))
          try simp only [Act.put]
          refine MAny.take (i := 13) (v := ?_) rfl (by kernel_rfl) (by kernel_rfl) (by kernel_rfl) (fun _ _ _ h => h) (by kernel_rfl) (Or.inl ⟨by rfl, ?_⟩) (by assumption) ?_
          rotate_left
          · (intro w' hSw; (try dsimp only at hSw); go_simp; try (with_reducible rfl))
          try simp only [Act.put]
          refine MAny.ready (rs := [5]) (by kernel_rfl) (by simp) ?_
          refine MReady.cons rfl (fun K hK => ?_) MReady.nil
          go_simp
          refine hK.out _ _ (.inr hHeld) ?_
          clear hK K
          refine MAny.ready (rs := [7]) (by kernel_rfl) (by simp) ?_
          refine MReady.cons rfl (fun K hK => ?_) MReady.nil
          go_simp
          refine hK.out _ _ (.inr hHeld) ?_
          clear hK K
          refine MAny.ready (rs := [14]) (by kernel_rfl) (by simp) ?_
          refine MReady.cons rfl (fun K hK => ?_) MReady.nil
          go_simp
          refine hK.out _ _ (.inr hHeld) ?_
          clear hK K
          refine MAny.ready (rs := [15]) (by kernel_rfl) (by simp) ?_
          refine MReady.cons rfl (fun K hK => ?_) MReady.nil
          go_simp
          refine hK.out _ _ (.inr hHeld) ?_
          clear hK K
          refine MAny.ready (rs := [16]) (by kernel_rfl) (by simp) ?_
          refine MReady.cons rfl (fun K hK => ?_) MReady.nil
          go_simp
          refine hK.out _ _ (.inr g2) ?_
          clear hK K
          refine MAny.ready (rs := [17]) (by kernel_rfl) (by simp) ?_
          refine MReady.cons rfl (fun K hK => ?_) MReady.nil
          go_simp
          refine hK.out _ _ (.inr g2) ?_
          clear hK K
          refine MAny.ready (rs := [18]) (by kernel_rfl) (by simp) ?_
          refine MReady.cons rfl (fun K hK => ?_) MReady.nil
          go_simp
          refine hK.out _ _ (.inr g2) ?_
          clear hK K
          refine MAny.ready (rs := [19]) (by kernel_rfl) (by simp) ?_
          refine MReady.cons rfl (fun K hK => ?_) MReady.nil
          go_simp
          refine hK.out _ _ (.inl rfl) ?_
          clear hK K
          refine MAny.done (by kernel_rfl) ?_ _
          try simp only [List.getElem_toArray, List.getElem_cons_succ, List.getElem_cons_zero]
          go_wp2
          go_ret2
          rw [hR.out]
          exact ⟨some ⟨og, 0, none⟩, oc, by simp, by have := HW.out.1; simp only [List.length_set]; exact this, hB.grown HW.out.2 hB.size (fun g e => by cases e; exact (own_lt ow).1)⟩
    · have hk1 : decide ((k : Int) < (xs.length : Int)) = false := by simp; omega
      obtain rfl : k = xs.length := by omega
      rw [List.take_length] at hno
      by_cases h4 : xs.length = 40
      · have h41 : (xs.length : Int) = 40 := by omega
        have hR := Lib.hid (recR_lim HA.out hok.out hno.out h4)
        clear h4
        go_wp2
        go_ret2
        rw [hR.out]
        exact ⟨none, 0, rfl, World.ownsRow_nil _ _ _ _, hB⟩
      · have h41 : ((xs.length : Int) == 40) = false := by simp; omega
        have hR := Lib.hid (recR_new HA.out hok.out hno.out (by omega))
        have hsk := hit_none HA.out hok.out hno.out
        have hu := (up_of HA.out).1
        have hone := Lib.hid (fun (ys : List Mk) (h1 : ys.Perm (xs ++ [(⟨nm, n, n⟩ : Mk)])) h2 => sort_one (xs := xs ++ [(⟨nm, n, n⟩ : Mk)]) (List.pairwise_append.2 ⟨hu.nok, by simp, fun a ha b hb => by rw [List.mem_singleton.1 hb]; exact hsk a ha⟩) h1 h2 ((insM_perm ⟨nm, n, n⟩ xs).trans (List.perm_append_singleton _ _).symm) (insM_up hu hsk))
        clear hsk hu h4
        have ox := ow.alloc (.cells #[.string nm, .int .i64 n, .int .i64 n] 80)
        have hz : Below wr.heap.size wr (wr.alloc (.cells #[.string nm, .int .i64 n, .int .i64 n] 80)) := (Below.refl _ _).alloc (Nat.le_refl _) _
        replace hB := stepB hB hz hB.size
        clear hz
        go_wp2_with (at_builtin; refine wpList_append_any _ rfl _ _ 48 rfl w.heap.size 80 i0 (.agg #[.string ⟨#[]⟩, .int .i64 0, .int .i64 0]) 3 32 Tryd.underlying48 hi hz0 hz1 hz2 rfl (by decide) _ _ xs.length (xs.flatMap encMk) rfl ox ⟨wr.heap.size, 0, none⟩ 1 1 (encMk ⟨nm, n, n⟩) rfl rfl (World.news_of_block (heap_alloc_new _ _)) (mk_one1 _) (by unfold maxLen; omega) (by omega) hB.size ?_)
        intro og2 oc2 W6 ow3 hgr hor
        replace hB := hB.grown hgr hB.size (fun g e => by cases e; exact (own_lt ox).1)
        clear hgr hor ox ow
        have ow3 : W6.ownsRow w.heap.size 80 3 (.slice (some ⟨og2, 0, none⟩) (xs.length + 1) oc2) (xs.length + 1) ((xs ++ [(⟨nm, n, n⟩ : Mk)]).flatMap encMk) := by rw [List.flatMap_append]; exact ow3
        go_wp2_with fail
        refine (sortMk_any w.heap.size og2 (xs.length + 1) oc2 (xs ++ [⟨nm, n, n⟩]) W6 (by simp) (by omega) ow3).mono ?_
        rintro e W7 ⟨rfl, ys, hp, hpw, ow7, hgr⟩
        obtain rfl := hone.out ys hp hpw
        replace hB := hB.grown hgr hB.size (fun g e => by cases e; exact (own_lt ow3).1)
        clear hgr hp hpw ow3
        go_wp2
        go_ret2
        rw [hR.out]
        exact ⟨some ⟨og2, 0, none⟩, oc2, by rw [insM_len]; rfl, by rw [insM_len]; exact ow7, hB⟩
end Go.Proofs.YtmjbigeeokofeaaDoor
