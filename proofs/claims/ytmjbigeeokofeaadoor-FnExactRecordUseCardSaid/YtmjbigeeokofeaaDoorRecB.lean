/- Walks: RecordUse of the reference. Printed by gen_recb.py. -/
import Derived.Test.YtmjbigeeokofeaaDoorRecA
namespace Go.Proofs.YtmjbigeeokofeaaDoor
open Go.ChangeShapes Go.WideShapes Go.ChangeAt Go.RowKit Go.IntWalk

theorem l16Sorted_n (a : Option Addr) (cap n : Nat) (xs : List Mk) (w : World) (hq : xs.length = n) (hl : n ≤ 1000) (hx : Rd encMk w a xs) (hn : NoK xs) :
    Calls Tryd.prog 50 #[.slice a n cap] w fun e w' => ∃ g c, e = .returned (.slice (some ⟨g, 0, none⟩) n c) ∧ w'.ownsRow w.heap.size 80 3 (.slice (some ⟨g, 0, none⟩) n c) n ((srtM xs).flatMap encMk) ∧ Below w.heap.size w w' := by
  subst hq
  exact l16Sorted_any a cap xs w hl hx hn
set_option maxRecDepth 100000 in
set_option maxHeartbeats 4000000 in
theorem specRecord_any (ga cap : Nat) (xs : List Mk) (nm : ByteArray) (n aw : Int) (w : World) (hl : xs.length ≤ 1048576) (hx : Rd encMk w (some ⟨ga, 0, none⟩) xs) (hs : ∀ m ∈ xs, m.name.size ≤ 1048576) (hnm : nm.size ≤ 1048576) :
    Calls Tryd.prog 19 #[.slice (some ⟨ga, 0, none⟩) xs.length cap, .string nm, .int .i64 n, .int .i64 aw] w fun e w' => ∃ b c, e = .returned (.tuple #[.slice b (recR xs nm n aw).1.length c, .int .i64 (recR xs nm n aw).2]) ∧
      w'.ownsRow w.heap.size 80 3 (.slice b (recR xs nm n aw).1.length c) (recR xs nm n aw).1.length ((recR xs nm n aw).1.flatMap encMk) ∧ Below w.heap.size w w' := by
  obtain ⟨i0, hi, hz0, hz1, hz2⟩ := info_parts infoMk
  have hB := Below.refl w.heap.size w
  cases hA : areMarksB xs
  · have hR : Hid (recR xs nm n aw = ([], 1)) := recR_bad hA
    have HM := Lib.hid (fun W (h : Rd encMk W (some ⟨ga, 0, none⟩) xs) => hA ▸ specAreMarks_any (some ⟨ga, 0, none⟩) cap xs W hl h hs)
    clear hA
    go_enter Tryd.func19, Tryd.ntmps19
    go_wp2_with fail
    refine (HM.out _ hx).mono ?_
    rintro e w1 ⟨rfl, hB1⟩
    go_wp2
    go_ret2
    rw [hR.out]
    exact ⟨none, 0, rfl, World.ownsRow_nil _ _ _ _, hB1⟩
  have HM := Lib.hid (fun W (h : Rd encMk W (some ⟨ga, 0, none⟩) xs) => hA ▸ specAreMarks_any (some ⟨ga, 0, none⟩) cap xs W hl h hs)
  have HA := Lib.hid hA
  have h40 := (up_of hA).2.2
  clear hA
  cases hN : nameB nm.data.toList 12
  · have hR : Hid (recR xs nm n aw = ([], 2)) := recR_rng HA.out (by unfold okRec; rw [hN]; simp)
    have HN := Lib.hid (fun W => hN ▸ l01Name_any nm 12 W (by omega))
    clear hN
    go_enter Tryd.func19, Tryd.ntmps19
    go_wp2_with fail
    refine (HM.out _ hx).mono ?_
    rintro e w1 ⟨rfl, hB1⟩
    replace hB := stepB hB hB1 hB.size
    go_wp2_with fail
    refine (HN.out _).mono ?_
    rintro e w2 ⟨rfl, hB1⟩
    replace hB := stepB hB hB1 hB.size
    go_wp2
    go_ret2
    rw [hR.out]
    exact ⟨none, 0, rfl, World.ownsRow_nil _ _ _ _, hB⟩
  have HN := Lib.hid (fun W => hN ▸ l01Name_any nm 12 W (by omega))
  cases hD : dayB n
  · have hR : Hid (recR xs nm n aw = ([], 2)) := recR_rng HA.out (by unfold okRec; rw [hD]; simp)
    have HD := Lib.hid (fun W => hD ▸ l01Day_any n W)
    clear hN hD
    go_enter Tryd.func19, Tryd.ntmps19
    go_wp2_with fail
    refine (HM.out _ hx).mono ?_
    rintro e w1 ⟨rfl, hB1⟩
    replace hB := stepB hB hB1 hB.size
    go_wp2_with fail
    refine (HN.out _).mono ?_
    rintro e w2 ⟨rfl, hB1⟩
    replace hB := stepB hB hB1 hB.size
    go_wp2_with fail
    refine (HD.out _).mono ?_
    rintro e w3 ⟨rfl, rfl⟩
    go_wp2
    go_ret2
    rw [hR.out]
    exact ⟨none, 0, rfl, World.ownsRow_nil _ _ _ _, hB⟩
  have HD := Lib.hid (fun W => hD ▸ l01Day_any n W)
  have HIN := Lib.hid (fun lo hi W => l01In_any n lo hi W)
  cases hI : inB aw 0 10000
  · have hR : Hid (recR xs nm n aw = ([], 2)) := recR_rng HA.out (by unfold okRec; rw [hI]; simp)
    have HI := Lib.hid (fun W => hI ▸ l01In_any aw 0 10000 W)
    clear hN hD hI
    go_enter Tryd.func19, Tryd.ntmps19
    go_wp2_with fail
    refine (HM.out _ hx).mono ?_
    rintro e w1 ⟨rfl, hB1⟩
    replace hB := stepB hB hB1 hB.size
    go_wp2_with fail
    refine (HN.out _).mono ?_
    rintro e w2 ⟨rfl, hB1⟩
    replace hB := stepB hB hB1 hB.size
    go_wp2_with fail
    refine (HD.out _).mono ?_
    rintro e w3 ⟨rfl, rfl⟩
    go_wp2_with fail
    refine (HI.out _).mono ?_
    rintro e w4 ⟨rfl, rfl⟩
    go_wp2
    go_ret2
    rw [hR.out]
    exact ⟨none, 0, rfl, World.ownsRow_nil _ _ _ _, hB⟩
  have hok : Hid (okRec nm n aw = true) := by unfold Hid okRec; rw [hD, hN, hI]; rfl
  have haw := okRec_bd hok.out
  have HI := Lib.hid (fun W => hI ▸ l01In_any aw 0 10000 W)
  clear hN hD hI
  go_enter Tryd.func19, Tryd.ntmps19
  go_wp2_with fail
  refine (HM.out _ hx).mono ?_
  rintro e w1 ⟨rfl, hB1⟩
  replace hB := stepB hB hB1 hB.size
  go_wp2_with fail
  refine (HN.out _).mono ?_
  rintro e w2 ⟨rfl, hB1⟩
  replace hB := stepB hB hB1 hB.size
  go_wp2_with fail
  refine (HD.out _).mono ?_
  rintro e w3 ⟨rfl, rfl⟩
  go_wp2_with fail
  refine (HI.out _).mono ?_
  rintro e w4 ⟨rfl, rfl⟩
  clear HM HN HD HI hB1
  go_upto_region 5 with (fail)
  have ow := World.ownsRow_made w2 #[] 0 hB.size (by decide) rfl (e := 80) (size := 3)
  have hz : Below w2.heap.size w2 (w2.alloc (.cells #[] 80)) := (Below.refl _ _).alloc (Nat.le_refl _) _
  replace hB := stepB hB hz hB.size
  go_wp2_with (at_builtin; refine wpList_append_any _ rfl _ _ 48 rfl w.heap.size 80 i0 (.agg #[.string ⟨#[]⟩, .int .i64 0, .int .i64 0]) 3 32 Tryd.underlying48 hi hz0 hz1 hz2 rfl (by decide) _ _ 0 ([]) rfl ow ⟨ga, 0, none⟩ xs.length cap (xs.flatMap encMk) rfl (length_flatMap_enc encMk 3 encMk_len xs) (rd_news encMk_len (by decide) (hx.below hB)) (mk_one xs) (by unfold maxLen; omega) (by omega) hB.size ?_)
  intro og oc W3 ow2 hgr hor
  replace hB := hB.grown hgr hB.size (fun g e => by cases e; exact (own_lt ow).1)
  clear ow hz hgr hor
  have hok3 : Hid (∀ m ∈ xs, okMk m = true) := (up_of HA.out).2.1
  go_upto_block 1 with (fail)
  go_cut [11, 12] from 34 to 90 (fun s11 _ wx => ∃ (fb : Bool) (ys : List Mk), s11 = .bool fb ∧ Hid (fb = false → ys = xs ∧ ∀ x ∈ xs, hitM nm n aw x = false) ∧ Hid (fb = true → recR xs nm n aw = (ys, 0) ∧ Up ys) ∧ ys.length = xs.length ∧ wx.ownsRow w.heap.size 80 3 (.slice (some ⟨og, 0, none⟩) xs.length oc) xs.length (ys.flatMap encMk) ∧ Below w.heap.size w wx)
  case first =>
    go_wp2
    go_loopw [11, 12] (fun f i wr => ∃ (k : Nat) (fb : Bool) (ys : List Mk), k ≤ xs.length ∧ i = .int .i64 k ∧ f = .bool fb ∧ Hid (fb = false → ys = xs ∧ ∀ x ∈ xs.take k, hitM nm n aw x = false) ∧ Hid (fb = true → recR xs nm n aw = (ys, 0) ∧ Up ys) ∧ ys.length = xs.length ∧ wr.ownsRow w.heap.size 80 3 (.slice (some ⟨og, 0, none⟩) xs.length oc) xs.length (ys.flatMap encMk) ∧ Below w.heap.size w wr) (fun _ i _ => xs.length - (intOf i).toNat)
    case atStart => exact ⟨0, false, xs, Nat.zero_le _, rfl, rfl, fun _ => ⟨rfl, fun x hx => by simp at hx⟩, (fun h => by cases h), rfl, ow2, hB⟩
    case round =>
      clear ow2 hB
      obtain ⟨k, fb, ys, hk, rfl, rfl, hF, hT, hyl, ow, hB⟩ := hrel
      by_cases hlt : k < xs.length
      · have hk1 : (k : Int) < (xs.length : Int) := by omega
        cases fb
        · obtain ⟨rfl, hno⟩ := hF.out rfl
          have hno := Lib.hid hno
          clear hF hT hyl
          have hgo := (own_lt ow).2
          have hm := List.getElem?_eq_getElem hlt
          generalize ys[k] = m at hm
          have d0 := own_at encMk_len ow hm (j := 0) rfl
          have d1 := own_at encMk_len ow hm (j := 1) rfl
          have d2 := own_at encMk_len ow hm (j := 2) rfl
          rw [Nat.add_zero] at d0
          have hkm := hok3.out m (List.mem_of_getElem? hm)
          unfold okMk at hkm
          simp only [Bool.and_eq_true] at hkm
          have hsp := spanB_bd hkm.2
          clear hkm
          have v1 := i64_in (m.fr - aw) (by omega)
          have v2 := i64_in (m.to + aw) (by omega)
          have hstep := Lib.hid (fun h => take_hit hm hno.out h)
          have hfin := Lib.hid (fun h => recR_hit HA.out hok.out hm hno.out h)
          have hup := Lib.hid (fun h => wide_up HA.out hok.out hm hno.out h)
          go_upto_region 10 with (fail)
          have D0 := Later.cell d0 hgo
          have D1 := Later.cell d1 hgo
          have D2 := Later.cell d2 hgo
          cases h1 : (m.name.toList == nm.toList)
          · have hnx := Lib.hid (hstep.out (hitM_not h1))
            refine wp_region_later wr (by kernel_rfl) (by kernel_rfl) ?_
            repeat (go_big_quiet_step (fail))
            refine wpQuiet_nil ?_
            intro z
            have hz := z.prop
            generalize z.val = w5 at hz
            clear D0 D1 D2
            replace ow := own_below ow hz
            replace hB := stepB hB hz hB.size
            go_wp2
            go_roundw
            case rel => exact ⟨k + 1, false, ys, by omega, by go_num, rfl, fun _ => ⟨rfl, hnx.out⟩, (fun h => by cases h), rfl, ow, hB⟩
            case measure => simp [intOf]; omega
          · cases h2 : inB n (m.fr - aw) (m.to + aw)
            · have hnx := Lib.hid (hstep.out (hitM_in h1 h2))
              have HI2 := Lib.hid (fun W => h2 ▸ HIN.out (m.fr - aw) (m.to + aw) W)
              refine wp_region_later wr (by kernel_rfl) (by kernel_rfl) ?_
              repeat (go_big_quiet_step ((go_at_call 49; exact Later.same (HI2.out _))))
              refine wpQuiet_nil ?_
              intro z
              have hz := z.prop
              generalize z.val = w5 at hz
              clear D0 D1 D2
              replace ow := own_below ow hz
              replace hB := stepB hB hz hB.size
              go_wp2
              go_roundw
              case rel => exact ⟨k + 1, false, ys, by omega, by go_num, rfl, fun _ => ⟨rfl, hnx.out⟩, (fun h => by cases h), rfl, ow, hB⟩
              case measure => simp [intOf]; omega
            · have hnx := Lib.hid (hfin.out (hitM_in h1 h2))
              have hux := Lib.hid (hup.out (hitM_in h1 h2))
              have HI2 := Lib.hid (fun W => h2 ▸ HIN.out (m.fr - aw) (m.to + aw) W)
              refine wp_region_later wr (by kernel_rfl) (by kernel_rfl) ?_
              repeat (go_big_quiet_step ((go_at_call 49; exact Later.same (HI2.out _))))
              refine wpQuiet_nil ?_
              intro z
              have hz := z.prop
              generalize z.val = w5 at hz
              have e1 := ((bcell hz).1 _ _ hgo).trans d1
              have e2 := ((bcell hz).1 _ _ hgo).trans d2
              clear D0 D1 D2 d0 d1 d2
              replace ow := own_below ow hz
              replace hB := stepB hB hz hB.size
              have f1 := ow.frozenAt (k * 3 + 1)
              have f2 := ow.frozenAt (k * 3 + 2)
              have hW := own_wide ow hm (min m.fr n) (max m.to n)
              have HW := Lib.hid hW
              clear hW
              go_upto_region 12 with (fail)
              have g2 : (w5.setCell ⟨og, k * 3 + 1, none⟩ (.int .i64 (min m.fr n))).cell? ⟨og, k * 3 + 2, none⟩ = some (.int .i64 m.to) := (World.cell?_setCell_other _ _ _ _ (by intro e; injection e; omega)).trans e2
              have k2 : (w5.setCell ⟨og, k * 3 + 1, none⟩ (.int .i64 (min m.fr n))).frozen? ⟨og, k * 3 + 2, none⟩ = false := (World.frozen?_setCell _ _ _ _).trans f2
              generalize w5.setCell ⟨og, k * 3 + 1, none⟩ (.int .i64 (min m.fr n)) = w6 at HW g2 k2 ⊢
              clear e1 e2 f1 f2 hz
              go_wp2
              go_roundw
              case rel => exact ⟨k + 1, true, _, by omega, by go_num, rfl, (fun h => by cases h), (fun _ => ⟨hnx.out, hux.out⟩), by simp, HW.out.1, hB.grown HW.out.2 hB.size (fun g e => by cases e; exact (own_lt ow).1)⟩
              case measure => simp [intOf]; omega
        · go_wp2
          go_meet
          case rel => exact ⟨true, ys, rfl, (fun h => by cases h), (fun _ => by first | exact hT.out trivial | exact hT.out rfl), hyl, ow, hB⟩
      · have hk1 : decide ((k : Int) < (xs.length : Int)) = false := by simp; omega
        obtain rfl : k = xs.length := by omega
        have hF2 : Hid (fb = false → ys = xs ∧ ∀ x ∈ xs, hitM nm n aw x = false) := fun h => by have := hF.out h; rw [List.take_length] at this; exact this
        go_wp2
        go_meet
        case rel => exact ⟨fb, ys, rfl, hF2, hT, hyl, ow, hB⟩
  case rest =>
    clear ow2 hB
    obtain ⟨fb, ys, rfl, hF, hT, hyl, ow, hB⟩ := hcut
    cases fb
    · obtain ⟨rfl, hno⟩ := hF.out rfl
      have hsk := hit_none HA.out hok.out hno
      have hu := (up_of HA.out).1
      have hnk : Hid (NoK (ys ++ [(⟨nm, n, n⟩ : Mk)])) := List.pairwise_append.2 ⟨hu.nok, by simp, fun a ha b hb => by rw [List.mem_singleton.1 hb]; exact hsk a ha⟩
      have hlm := Lib.hid (fun h => recR_lim HA.out hok.out hno h)
      have hnw := Lib.hid (fun h => recR_new HA.out hok.out hno h)
      have hso : Hid (srtM (ys ++ [(⟨nm, n, n⟩ : Mk)]) = insM ⟨nm, n, n⟩ ys) := by unfold Hid; rw [srtM_snoc, srtM_up hu]
      clear hno hsk hu hF hT hyl
      have ox := ow.alloc (.cells #[.string nm, .int .i64 n, .int .i64 n] 80)
      have hz : Below wc.heap.size wc (wc.alloc (.cells #[.string nm, .int .i64 n, .int .i64 n] 80)) := (Below.refl _ _).alloc (Nat.le_refl _) _
      replace hB := stepB hB hz hB.size
      clear hz
      go_wp2_with (at_builtin; refine wpList_append_any _ rfl _ _ 48 rfl w.heap.size 80 i0 (.agg #[.string ⟨#[]⟩, .int .i64 0, .int .i64 0]) 3 32 Tryd.underlying48 hi hz0 hz1 hz2 rfl (by decide) _ _ ys.length (ys.flatMap encMk) rfl ox ⟨wc.heap.size, 0, none⟩ 1 1 (encMk ⟨nm, n, n⟩) rfl rfl (World.news_of_block (heap_alloc_new _ _)) (mk_one1 _) (by unfold maxLen; omega) (by omega) hB.size ?_)
      intro og2 oc2 W6 ow3 hgr hor
      replace hB := hB.grown hgr hB.size (fun g e => by cases e; exact (own_lt ox).1)
      clear hgr hor ox ow
      have ow3 : W6.ownsRow w.heap.size 80 3 (.slice (some ⟨og2, 0, none⟩) (ys.length + 1) oc2) (ys.length + 1) ((ys ++ [(⟨nm, n, n⟩ : Mk)]).flatMap encMk) := by rw [List.flatMap_append]; exact ow3
      have HS := Lib.hid (fun W h => l16Sorted_n (some ⟨og2, 0, none⟩) oc2 (ys.length + 1) (ys ++ [(⟨nm, n, n⟩ : Mk)]) W (by simp) (by omega) h hnk.out)
      go_wp2_with fail
      refine (HS.out _ (Rd.of_own encMk_len (by decide) ow3)).mono ?_
      rintro e W7 ⟨g7, c7, rfl, ow7, hB1⟩
      rw [hso.out] at ow7
      have ow7 := own_base ow7 hB.size
      replace hB := stepB hB hB1 hB.size
      by_cases h4 : ys.length = 40
      · have h41 : (40 : Int) < (ys.length : Int) + 1 := by omega
        have hR := Lib.hid (hlm.out h4)
        clear h4
        go_wp2
        go_ret2
        rw [hR.out]
        exact ⟨none, 0, rfl, World.ownsRow_nil _ _ _ _, hB⟩
      · have h41 : decide ((40 : Int) < (ys.length : Int) + 1) = false := by simp; omega
        have hR := Lib.hid (hnw.out (by omega))
        clear h4
        go_wp2
        go_ret2
        rw [hR.out]
        exact ⟨some ⟨g7, 0, none⟩, c7, by rw [insM_len]; rfl, by rw [insM_len]; exact ow7, hB⟩
    · obtain ⟨hr, hu⟩ : recR xs nm n aw = (ys, 0) ∧ Up ys := by first | exact hT.out trivial | exact hT.out rfl
      have hR := Lib.hid hr
      clear hr hF hT
      have HS := Lib.hid (fun W h => l16Sorted_n (some ⟨og, 0, none⟩) oc xs.length ys W hyl (by omega) h hu.nok)
      have hso := Lib.hid (srtM_up hu)
      have h41 : decide ((40 : Int) < (xs.length : Int)) = false := by simp; omega
      have hyl2 := Lib.hid hyl
      clear hyl
      go_wp2_with fail
      refine (HS.out _ (Rd.of_own encMk_len (by decide) ow)).mono ?_
      rintro e W7 ⟨g7, c7, rfl, ow7, hB1⟩
      rw [hso.out] at ow7
      have ow7 := own_base ow7 hB.size
      replace hB := stepB hB hB1 hB.size
      go_wp2
      go_ret2
      rw [hR.out]
      exact ⟨some ⟨g7, 0, none⟩, c7, by rw [hyl2.out]; rfl, by rw [hyl2.out]; exact ow7, hB⟩
end Go.Proofs.YtmjbigeeokofeaaDoor
