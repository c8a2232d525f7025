/- Walks: reigns, a clause and a day are drawn. Printed by gen_drh.py. -/
import Derived.Test.YtdbgnbohdplndaaGreatDoorDrc
import Derived.Test.YtdbgnbohdplndaaGreatDoorNextH
namespace Go.Proofs.YtdbgnbohdplndaaGreatDoor
open Go.ChangeShapes Go.WideShapes Go.ChangeAt Go.RowKit Go.IntWalk

theorem own_apart2 {B : Nat} {E : TypeId} {k n g c x : Nat} {xs : List Value} {w w' : World} (h : w.ownsRow B E k (.slice (some ⟨g, 0, none⟩) n c) n xs) (hg : w.grownBy w' (some x)) (hne : g ≠ x) : w'.ownsRow B E k (.slice (some ⟨g, 0, none⟩) n c) n xs :=
  own_keepV h hg (fun y e e2 => by simp only [Value.ownBlock, Option.some.injEq] at e; injection e2 with e2; omega)
set_option maxRecDepth 100000 in
set_option maxHeartbeats 8000000 in
theorem l11Draw_any (w0 : World) (cs : Option Addr) (cap : Nat) (bs : List Int) (p : Nat) (w : World) (hx : Rd encB w0 cs bs) (hb : ∀ m ∈ bs, goodB m) (hl : bs.length ≤ 4096) (hs : Src w0 cs cap bs p w) :
    Calls Tryz.prog 106 #[.pointer (some ⟨p, 0, none⟩)] w fun e w' => ∃ m : Cl, e = .returned (.agg #[.int .i64 m.kind, .int .i64 m.number, .int .i64 m.month, .int .i64 m.feast, .int .i64 m.relation, .int .i64 m.weekday, .int .i64 m.style, .string m.king]) ∧ m.king.size ≤ 13 ∧ Src w0 cs cap bs p w' ∧ w.grownBy w' (some p) := by
  have D := Drw.start hs
  have res := Box.new w 57 [.int .i64 0, .int .i64 0, .int .i64 0, .int .i64 0, .int .i64 0, .int .i64 0, .int .i64 0, .string ⟨#[]⟩] w.heap.size (Nat.le_refl _) (by simp)
  have D := D.below (belowA w (.cells #[.int .i64 0, .int .i64 0, .int .i64 0, .int .i64 0, .int .i64 0, .int .i64 0, .int .i64 0, .string ⟨#[]⟩] 57))
  have HN := Lib.hid (fun n W hn1 hn2 hs => l01Next_any w0 cs cap bs p n W hx hb hl hn1 hn2 hs)
  have HP := Lib.hid (fun a ca xs W hs hxs h1 h2 => l01Pick_any w0 cs cap bs p a ca xs W hx hb hl hs hxs h1 h2)
  have HF := Lib.hid (fun a ca rs n W hs hlr hrd hfr hkg hn0 hn => l11DrawOf_any w0 cs cap bs p a ca rs n W hx hb hl hs hlr hrd hfr hkg hn0 hn)
  go_enter Tryz.func106, Tryz.ntmps106
  go_wp2_with fail
  refine (l07Draw_any w0 cs cap bs p _ hx hb hl D.src).mono ?_
  rintro e w1 ⟨g, c, rs, rfl, hrl, hok, hown, hs2, hG⟩
  have hown := own_base hown D.size
  have res := Box.keepA res hG D.hp
  have D := D.call hs2 hG
  clear hs2 hG
  go_wp2_with fail
  refine (specAreReigns_any _ c rs _ (by omega) (Rd.of_own encRg_len (by decide) hown) (fun m hm => by have := (hok m hm).1; omega)).mono ?_
  rintro e w2 ⟨rfl, hB3⟩
  have hown := own_below hown hB3
  have res := Box.below res hB3
  have D := D.below hB3
  clear hB3
  clear hs
  cases hv : areReignsB rs
  · go_wp2_with fail
    refine (HN.out 9000 _ (by decide) (by decide) D.src).mono ?_
    rintro e w3 ⟨q, rfl, hq0, hq1, hs, hG⟩
    have res := Box.keepA res hG D.hp
    have D := D.call hs hG
    clear hs hG
    have v1 := i64_in (420000 + q) (by omega)
    go_wp2_with fail
    refine (HF.out none 0 [] (420000 + q) _ D.src (by decide) (fun _ _ => Rd.nil _ _ _) (fun m h => by cases h) (fun m h => by cases h) (by omega) (by omega)).mono ?_
    rintro e w4 ⟨m, rfl, hk, hs, hG⟩
    have res := Box.keepA res hG D.hp
    have D := D.call hs hG
    clear hs hG
    have loc := Box.new w4 57 [.int .i64 m.kind, .int .i64 m.number, .int .i64 m.month, .int .i64 m.feast, .int .i64 m.relation, .int .i64 m.weekday, .int .i64 m.style, .string m.king] w.heap.size D.size (by simp)
    have hlr : w4.heap.size ≠ w.heap.size := by have := res.lt; omega
    have res := Box.below res (belowA w4 (.cells #[.int .i64 m.kind, .int .i64 m.number, .int .i64 m.month, .int .i64 m.feast, .int .i64 m.relation, .int .i64 m.weekday, .int .i64 m.style, .string m.king] 57))
    have D := D.below (belowA w4 (.cells #[.int .i64 m.kind, .int .i64 m.number, .int .i64 m.month, .int .i64 m.feast, .int .i64 m.relation, .int .i64 m.weekday, .int .i64 m.style, .string m.king] 57))
    clear hown hok hrl
    go_wp2_with fail
    refine (HN.out 40 _ (by decide) (by decide) D.src).mono ?_
    rintro e w5 ⟨x, rfl, hx0, hx1, hs, hG⟩
    have res := Box.keepA res hG D.hp
    have loc := Box.keepA loc hG D.hp
    have D := D.call hs hG
    clear hs hG
    by_cases x0 : x = 0
    · subst x0
      go_wp2_with fail
      have hrd := rd_lit (w := w5) (c := #[.int .i64 (-1), .int .i64 (0), .int .i64 (99), .int .i64 (100), .int .i64 (31), .int .i64 (1999), .int .i64 (2000)]) (xs := [(-1), 0, 99, 100, 31, 1999, 2000]) (p := p) rfl D.src.lt.2
      have res := Box.below res (belowA w5 (.cells #[.int .i64 (-1), .int .i64 (0), .int .i64 (99), .int .i64 (100), .int .i64 (31), .int .i64 (1999), .int .i64 (2000)] 2))
      have loc := Box.below loc (belowA w5 (.cells #[.int .i64 (-1), .int .i64 (0), .int .i64 (99), .int .i64 (100), .int .i64 (31), .int .i64 (1999), .int .i64 (2000)] 2))
      have D := D.below (belowA w5 (.cells #[.int .i64 (-1), .int .i64 (0), .int .i64 (99), .int .i64 (100), .int .i64 (31), .int .i64 (1999), .int .i64 (2000)] 2))
      refine (HP.out _ 7 [(-1), 0, 99, 100, 31, 1999, 2000] _ D.src hrd (by simp) (by simp)).mono ?_
      rintro e w6 ⟨y, rfl, _, hs, hG⟩
      have res := Box.keepA res hG D.hp
      have loc := Box.keepA loc hG D.hp
      have D := D.call hs hG
      clear hs hG
      clear hrd
      have g0 := Box.cell loc 1 _ rfl
      have g1 := World.ownsRow.frozenAt loc 1
      have HL := Lib.hid (Box.put (i := 1) (pre := [.int .i64 m.kind]) (post := [.int .i64 m.month, .int .i64 m.feast, .int .i64 m.relation, .int .i64 m.weekday, .int .i64 m.style, .string m.king]) loc rfl (.int .i64 y))
      go_upto_region 14 with (fail)
      have hl2 := HL.out
      have res := Box.keep res hl2.2 (Ne.symm hlr)
      have D := D.store hl2.2 hl2.1.lt.1
      have loc := hl2.1
      clear g0 g1 hl2 HL
      generalize w6.setCell ⟨w4.heap.size, 1, none⟩ (.int .i64 y) = WW at res D loc ⊢
      have m0 := Box.cell loc 0 _ rfl
      have m1 := Box.cell loc 1 _ rfl
      have m2 := Box.cell loc 2 _ rfl
      have m3 := Box.cell loc 3 _ rfl
      have m4 := Box.cell loc 4 _ rfl
      have m5 := Box.cell loc 5 _ rfl
      have m6 := Box.cell loc 6 _ rfl
      have m7 := Box.cell loc 7 _ rfl
      have r0 := Box.cell res 0 _ rfl
      have r1 := Box.cell res 1 _ rfl
      have r2 := Box.cell res 2 _ rfl
      have r3 := Box.cell res 3 _ rfl
      have r4 := Box.cell res 4 _ rfl
      have r5 := Box.cell res 5 _ rfl
      have r6 := Box.cell res 6 _ rfl
      have r7 := Box.cell res 7 _ rfl
      have f0 := World.ownsRow.frozenAt res 0
      have f1 := World.ownsRow.frozenAt res 1
      have f2 := World.ownsRow.frozenAt res 2
      have f3 := World.ownsRow.frozenAt res 3
      have f4 := World.ownsRow.frozenAt res 4
      have f5 := World.ownsRow.frozenAt res 5
      have f6 := World.ownsRow.frozenAt res 6
      have f7 := World.ownsRow.frozenAt res 7
      have HP8 := Lib.hid (Box.put8 res (.int .i64 m.kind) (.int .i64 y) (.int .i64 m.month) (.int .i64 m.feast) (.int .i64 m.relation) (.int .i64 m.weekday) (.int .i64 m.style) (.string m.king))
      go_wp2
      have hp := HP8.out
      have D := D.store hp.2 (Nat.le_refl _)
      generalize (((((((WW.setCell ⟨w.heap.size, 0, none⟩ (.int .i64 m.kind)).setCell ⟨w.heap.size, 1, none⟩ (.int .i64 y)).setCell ⟨w.heap.size, 2, none⟩ (.int .i64 m.month)).setCell ⟨w.heap.size, 3, none⟩ (.int .i64 m.feast)).setCell ⟨w.heap.size, 4, none⟩ (.int .i64 m.relation)).setCell ⟨w.heap.size, 5, none⟩ (.int .i64 m.weekday)).setCell ⟨w.heap.size, 6, none⟩ (.int .i64 m.style)).setCell ⟨w.heap.size, 7, none⟩ (.string m.king) = Wf at hp D ⊢
      have z0 := hp.1.cell 0 _ rfl
      have z1 := hp.1.cell 1 _ rfl
      have z2 := hp.1.cell 2 _ rfl
      have z3 := hp.1.cell 3 _ rfl
      have z4 := hp.1.cell 4 _ rfl
      have z5 := hp.1.cell 5 _ rfl
      have z6 := hp.1.cell 6 _ rfl
      have z7 := hp.1.cell 7 _ rfl
      refine bodyPost_ret_by (v := .agg #[.int .i64 m.kind, .int .i64 y, .int .i64 m.month, .int .i64 m.feast, .int .i64 m.relation, .int .i64 m.weekday, .int .i64 m.style, .string m.king]) ?_ rfl ⟨⟨m.kind, y, m.month, m.feast, m.relation, m.weekday, m.style, m.king⟩, rfl, hk, D.src, D.gr⟩
      simp [results, go_sem, z0, z1, z2, z3, z4, z5, z6, z7]
    · have x0' : (x == 0) = false := by simpa using x0
      by_cases x1 : x = 1
      · subst x1
        go_wp2_with fail
        have hrd := rd_lit (w := w5) (c := #[.int .i64 (-1), .int .i64 (6), .int .i64 (0), .int .i64 (1)]) (xs := [(-1), 6, 0, 1]) (p := p) rfl D.src.lt.2
        have res := Box.below res (belowA w5 (.cells #[.int .i64 (-1), .int .i64 (6), .int .i64 (0), .int .i64 (1)] 2))
        have loc := Box.below loc (belowA w5 (.cells #[.int .i64 (-1), .int .i64 (6), .int .i64 (0), .int .i64 (1)] 2))
        have D := D.below (belowA w5 (.cells #[.int .i64 (-1), .int .i64 (6), .int .i64 (0), .int .i64 (1)] 2))
        refine (HP.out _ 4 [(-1), 6, 0, 1] _ D.src hrd (by simp) (by simp)).mono ?_
        rintro e w6 ⟨y, rfl, _, hs, hG⟩
        have res := Box.keepA res hG D.hp
        have loc := Box.keepA loc hG D.hp
        have D := D.call hs hG
        clear hs hG
        clear hrd
        have g0 := Box.cell loc 0 _ rfl
        have g1 := World.ownsRow.frozenAt loc 0
        have HL := Lib.hid (Box.put (i := 0) (pre := []) (post := [.int .i64 m.number, .int .i64 m.month, .int .i64 m.feast, .int .i64 m.relation, .int .i64 m.weekday, .int .i64 m.style, .string m.king]) loc rfl (.int .i64 y))
        go_upto_region 14 with (fail)
        have hl2 := HL.out
        have res := Box.keep res hl2.2 (Ne.symm hlr)
        have D := D.store hl2.2 hl2.1.lt.1
        have loc := hl2.1
        clear g0 g1 hl2 HL
        generalize w6.setCell ⟨w4.heap.size, 0, none⟩ (.int .i64 y) = WW at res D loc ⊢
        have m0 := Box.cell loc 0 _ rfl
        have m1 := Box.cell loc 1 _ rfl
        have m2 := Box.cell loc 2 _ rfl
        have m3 := Box.cell loc 3 _ rfl
        have m4 := Box.cell loc 4 _ rfl
        have m5 := Box.cell loc 5 _ rfl
        have m6 := Box.cell loc 6 _ rfl
        have m7 := Box.cell loc 7 _ rfl
        have r0 := Box.cell res 0 _ rfl
        have r1 := Box.cell res 1 _ rfl
        have r2 := Box.cell res 2 _ rfl
        have r3 := Box.cell res 3 _ rfl
        have r4 := Box.cell res 4 _ rfl
        have r5 := Box.cell res 5 _ rfl
        have r6 := Box.cell res 6 _ rfl
        have r7 := Box.cell res 7 _ rfl
        have f0 := World.ownsRow.frozenAt res 0
        have f1 := World.ownsRow.frozenAt res 1
        have f2 := World.ownsRow.frozenAt res 2
        have f3 := World.ownsRow.frozenAt res 3
        have f4 := World.ownsRow.frozenAt res 4
        have f5 := World.ownsRow.frozenAt res 5
        have f6 := World.ownsRow.frozenAt res 6
        have f7 := World.ownsRow.frozenAt res 7
        have HP8 := Lib.hid (Box.put8 res (.int .i64 y) (.int .i64 m.number) (.int .i64 m.month) (.int .i64 m.feast) (.int .i64 m.relation) (.int .i64 m.weekday) (.int .i64 m.style) (.string m.king))
        go_wp2
        have hp := HP8.out
        have D := D.store hp.2 (Nat.le_refl _)
        generalize (((((((WW.setCell ⟨w.heap.size, 0, none⟩ (.int .i64 y)).setCell ⟨w.heap.size, 1, none⟩ (.int .i64 m.number)).setCell ⟨w.heap.size, 2, none⟩ (.int .i64 m.month)).setCell ⟨w.heap.size, 3, none⟩ (.int .i64 m.feast)).setCell ⟨w.heap.size, 4, none⟩ (.int .i64 m.relation)).setCell ⟨w.heap.size, 5, none⟩ (.int .i64 m.weekday)).setCell ⟨w.heap.size, 6, none⟩ (.int .i64 m.style)).setCell ⟨w.heap.size, 7, none⟩ (.string m.king) = Wf at hp D ⊢
        have z0 := hp.1.cell 0 _ rfl
        have z1 := hp.1.cell 1 _ rfl
        have z2 := hp.1.cell 2 _ rfl
        have z3 := hp.1.cell 3 _ rfl
        have z4 := hp.1.cell 4 _ rfl
        have z5 := hp.1.cell 5 _ rfl
        have z6 := hp.1.cell 6 _ rfl
        have z7 := hp.1.cell 7 _ rfl
        refine bodyPost_ret_by (v := .agg #[.int .i64 y, .int .i64 m.number, .int .i64 m.month, .int .i64 m.feast, .int .i64 m.relation, .int .i64 m.weekday, .int .i64 m.style, .string m.king]) ?_ rfl ⟨⟨y, m.number, m.month, m.feast, m.relation, m.weekday, m.style, m.king⟩, rfl, hk, D.src, D.gr⟩
        simp [results, go_sem, z0, z1, z2, z3, z4, z5, z6, z7]
      · have x1' : (x == 1) = false := by simpa using x1
        by_cases x2 : x = 2
        · subst x2
          go_wp2_with fail
          have hrd := rd_lit (w := w5) (c := #[.int .i64 (-1), .int .i64 (3), .int .i64 (7), .int .i64 (2)]) (xs := [(-1), 3, 7, 2]) (p := p) rfl D.src.lt.2
          have res := Box.below res (belowA w5 (.cells #[.int .i64 (-1), .int .i64 (3), .int .i64 (7), .int .i64 (2)] 2))
          have loc := Box.below loc (belowA w5 (.cells #[.int .i64 (-1), .int .i64 (3), .int .i64 (7), .int .i64 (2)] 2))
          have D := D.below (belowA w5 (.cells #[.int .i64 (-1), .int .i64 (3), .int .i64 (7), .int .i64 (2)] 2))
          refine (HP.out _ 4 [(-1), 3, 7, 2] _ D.src hrd (by simp) (by simp)).mono ?_
          rintro e w6 ⟨y, rfl, _, hs, hG⟩
          have res := Box.keepA res hG D.hp
          have loc := Box.keepA loc hG D.hp
          have D := D.call hs hG
          clear hs hG
          clear hrd
          have g0 := Box.cell loc 6 _ rfl
          have g1 := World.ownsRow.frozenAt loc 6
          have HL := Lib.hid (Box.put (i := 6) (pre := [.int .i64 m.kind, .int .i64 m.number, .int .i64 m.month, .int .i64 m.feast, .int .i64 m.relation, .int .i64 m.weekday]) (post := [.string m.king]) loc rfl (.int .i64 y))
          go_upto_region 14 with (fail)
          have hl2 := HL.out
          have res := Box.keep res hl2.2 (Ne.symm hlr)
          have D := D.store hl2.2 hl2.1.lt.1
          have loc := hl2.1
          clear g0 g1 hl2 HL
          generalize w6.setCell ⟨w4.heap.size, 6, none⟩ (.int .i64 y) = WW at res D loc ⊢
          have m0 := Box.cell loc 0 _ rfl
          have m1 := Box.cell loc 1 _ rfl
          have m2 := Box.cell loc 2 _ rfl
          have m3 := Box.cell loc 3 _ rfl
          have m4 := Box.cell loc 4 _ rfl
          have m5 := Box.cell loc 5 _ rfl
          have m6 := Box.cell loc 6 _ rfl
          have m7 := Box.cell loc 7 _ rfl
          have r0 := Box.cell res 0 _ rfl
          have r1 := Box.cell res 1 _ rfl
          have r2 := Box.cell res 2 _ rfl
          have r3 := Box.cell res 3 _ rfl
          have r4 := Box.cell res 4 _ rfl
          have r5 := Box.cell res 5 _ rfl
          have r6 := Box.cell res 6 _ rfl
          have r7 := Box.cell res 7 _ rfl
          have f0 := World.ownsRow.frozenAt res 0
          have f1 := World.ownsRow.frozenAt res 1
          have f2 := World.ownsRow.frozenAt res 2
          have f3 := World.ownsRow.frozenAt res 3
          have f4 := World.ownsRow.frozenAt res 4
          have f5 := World.ownsRow.frozenAt res 5
          have f6 := World.ownsRow.frozenAt res 6
          have f7 := World.ownsRow.frozenAt res 7
          have HP8 := Lib.hid (Box.put8 res (.int .i64 m.kind) (.int .i64 m.number) (.int .i64 m.month) (.int .i64 m.feast) (.int .i64 m.relation) (.int .i64 m.weekday) (.int .i64 y) (.string m.king))
          go_wp2
          have hp := HP8.out
          have D := D.store hp.2 (Nat.le_refl _)
          generalize (((((((WW.setCell ⟨w.heap.size, 0, none⟩ (.int .i64 m.kind)).setCell ⟨w.heap.size, 1, none⟩ (.int .i64 m.number)).setCell ⟨w.heap.size, 2, none⟩ (.int .i64 m.month)).setCell ⟨w.heap.size, 3, none⟩ (.int .i64 m.feast)).setCell ⟨w.heap.size, 4, none⟩ (.int .i64 m.relation)).setCell ⟨w.heap.size, 5, none⟩ (.int .i64 m.weekday)).setCell ⟨w.heap.size, 6, none⟩ (.int .i64 y)).setCell ⟨w.heap.size, 7, none⟩ (.string m.king) = Wf at hp D ⊢
          have z0 := hp.1.cell 0 _ rfl
          have z1 := hp.1.cell 1 _ rfl
          have z2 := hp.1.cell 2 _ rfl
          have z3 := hp.1.cell 3 _ rfl
          have z4 := hp.1.cell 4 _ rfl
          have z5 := hp.1.cell 5 _ rfl
          have z6 := hp.1.cell 6 _ rfl
          have z7 := hp.1.cell 7 _ rfl
          refine bodyPost_ret_by (v := .agg #[.int .i64 m.kind, .int .i64 m.number, .int .i64 m.month, .int .i64 m.feast, .int .i64 m.relation, .int .i64 m.weekday, .int .i64 y, .string m.king]) ?_ rfl ⟨⟨m.kind, m.number, m.month, m.feast, m.relation, m.weekday, y, m.king⟩, rfl, hk, D.src, D.gr⟩
          simp [results, go_sem, z0, z1, z2, z3, z4, z5, z6, z7]
        · have x2' : (x == 2) = false := by simpa using x2
          by_cases x3 : x = 3
          · subst x3
            go_wp2_with fail
            have hrd := rd_lit (w := w5) (c := #[.int .i64 (-1), .int .i64 (7), .int .i64 (3)]) (xs := [(-1), 7, 3]) (p := p) rfl D.src.lt.2
            have res := Box.below res (belowA w5 (.cells #[.int .i64 (-1), .int .i64 (7), .int .i64 (3)] 2))
            have loc := Box.below loc (belowA w5 (.cells #[.int .i64 (-1), .int .i64 (7), .int .i64 (3)] 2))
            have D := D.below (belowA w5 (.cells #[.int .i64 (-1), .int .i64 (7), .int .i64 (3)] 2))
            refine (HP.out _ 3 [(-1), 7, 3] _ D.src hrd (by simp) (by simp)).mono ?_
            rintro e w6 ⟨y, rfl, _, hs, hG⟩
            have res := Box.keepA res hG D.hp
            have loc := Box.keepA loc hG D.hp
            have D := D.call hs hG
            clear hs hG
            clear hrd
            have g0 := Box.cell loc 5 _ rfl
            have g1 := World.ownsRow.frozenAt loc 5
            have HL := Lib.hid (Box.put (i := 5) (pre := [.int .i64 m.kind, .int .i64 m.number, .int .i64 m.month, .int .i64 m.feast, .int .i64 m.relation]) (post := [.int .i64 m.style, .string m.king]) loc rfl (.int .i64 y))
            go_upto_region 14 with (fail)
            have hl2 := HL.out
            have res := Box.keep res hl2.2 (Ne.symm hlr)
            have D := D.store hl2.2 hl2.1.lt.1
            have loc := hl2.1
            clear g0 g1 hl2 HL
            generalize w6.setCell ⟨w4.heap.size, 5, none⟩ (.int .i64 y) = WW at res D loc ⊢
            have m0 := Box.cell loc 0 _ rfl
            have m1 := Box.cell loc 1 _ rfl
            have m2 := Box.cell loc 2 _ rfl
            have m3 := Box.cell loc 3 _ rfl
            have m4 := Box.cell loc 4 _ rfl
            have m5 := Box.cell loc 5 _ rfl
            have m6 := Box.cell loc 6 _ rfl
            have m7 := Box.cell loc 7 _ rfl
            have r0 := Box.cell res 0 _ rfl
            have r1 := Box.cell res 1 _ rfl
            have r2 := Box.cell res 2 _ rfl
            have r3 := Box.cell res 3 _ rfl
            have r4 := Box.cell res 4 _ rfl
            have r5 := Box.cell res 5 _ rfl
            have r6 := Box.cell res 6 _ rfl
            have r7 := Box.cell res 7 _ rfl
            have f0 := World.ownsRow.frozenAt res 0
            have f1 := World.ownsRow.frozenAt res 1
            have f2 := World.ownsRow.frozenAt res 2
            have f3 := World.ownsRow.frozenAt res 3
            have f4 := World.ownsRow.frozenAt res 4
            have f5 := World.ownsRow.frozenAt res 5
            have f6 := World.ownsRow.frozenAt res 6
            have f7 := World.ownsRow.frozenAt res 7
            have HP8 := Lib.hid (Box.put8 res (.int .i64 m.kind) (.int .i64 m.number) (.int .i64 m.month) (.int .i64 m.feast) (.int .i64 m.relation) (.int .i64 y) (.int .i64 m.style) (.string m.king))
            go_wp2
            have hp := HP8.out
            have D := D.store hp.2 (Nat.le_refl _)
            generalize (((((((WW.setCell ⟨w.heap.size, 0, none⟩ (.int .i64 m.kind)).setCell ⟨w.heap.size, 1, none⟩ (.int .i64 m.number)).setCell ⟨w.heap.size, 2, none⟩ (.int .i64 m.month)).setCell ⟨w.heap.size, 3, none⟩ (.int .i64 m.feast)).setCell ⟨w.heap.size, 4, none⟩ (.int .i64 m.relation)).setCell ⟨w.heap.size, 5, none⟩ (.int .i64 y)).setCell ⟨w.heap.size, 6, none⟩ (.int .i64 m.style)).setCell ⟨w.heap.size, 7, none⟩ (.string m.king) = Wf at hp D ⊢
            have z0 := hp.1.cell 0 _ rfl
            have z1 := hp.1.cell 1 _ rfl
            have z2 := hp.1.cell 2 _ rfl
            have z3 := hp.1.cell 3 _ rfl
            have z4 := hp.1.cell 4 _ rfl
            have z5 := hp.1.cell 5 _ rfl
            have z6 := hp.1.cell 6 _ rfl
            have z7 := hp.1.cell 7 _ rfl
            refine bodyPost_ret_by (v := .agg #[.int .i64 m.kind, .int .i64 m.number, .int .i64 m.month, .int .i64 m.feast, .int .i64 m.relation, .int .i64 y, .int .i64 m.style, .string m.king]) ?_ rfl ⟨⟨m.kind, m.number, m.month, m.feast, m.relation, y, m.style, m.king⟩, rfl, hk, D.src, D.gr⟩
            simp [results, go_sem, z0, z1, z2, z3, z4, z5, z6, z7]
          · have x3' : (x == 3) = false := by simpa using x3
            have m0 := Box.cell loc 0 _ rfl
            have m1 := Box.cell loc 1 _ rfl
            have m2 := Box.cell loc 2 _ rfl
            have m3 := Box.cell loc 3 _ rfl
            have m4 := Box.cell loc 4 _ rfl
            have m5 := Box.cell loc 5 _ rfl
            have m6 := Box.cell loc 6 _ rfl
            have m7 := Box.cell loc 7 _ rfl
            have r0 := Box.cell res 0 _ rfl
            have r1 := Box.cell res 1 _ rfl
            have r2 := Box.cell res 2 _ rfl
            have r3 := Box.cell res 3 _ rfl
            have r4 := Box.cell res 4 _ rfl
            have r5 := Box.cell res 5 _ rfl
            have r6 := Box.cell res 6 _ rfl
            have r7 := Box.cell res 7 _ rfl
            have f0 := World.ownsRow.frozenAt res 0
            have f1 := World.ownsRow.frozenAt res 1
            have f2 := World.ownsRow.frozenAt res 2
            have f3 := World.ownsRow.frozenAt res 3
            have f4 := World.ownsRow.frozenAt res 4
            have f5 := World.ownsRow.frozenAt res 5
            have f6 := World.ownsRow.frozenAt res 6
            have f7 := World.ownsRow.frozenAt res 7
            have HP8 := Lib.hid (Box.put8 res (.int .i64 m.kind) (.int .i64 m.number) (.int .i64 m.month) (.int .i64 m.feast) (.int .i64 m.relation) (.int .i64 m.weekday) (.int .i64 m.style) (.string m.king))
            go_wp2
            have hp := HP8.out
            have D := D.store hp.2 (Nat.le_refl _)
            generalize (((((((w5.setCell ⟨w.heap.size, 0, none⟩ (.int .i64 m.kind)).setCell ⟨w.heap.size, 1, none⟩ (.int .i64 m.number)).setCell ⟨w.heap.size, 2, none⟩ (.int .i64 m.month)).setCell ⟨w.heap.size, 3, none⟩ (.int .i64 m.feast)).setCell ⟨w.heap.size, 4, none⟩ (.int .i64 m.relation)).setCell ⟨w.heap.size, 5, none⟩ (.int .i64 m.weekday)).setCell ⟨w.heap.size, 6, none⟩ (.int .i64 m.style)).setCell ⟨w.heap.size, 7, none⟩ (.string m.king) = Wf at hp D ⊢
            have z0 := hp.1.cell 0 _ rfl
            have z1 := hp.1.cell 1 _ rfl
            have z2 := hp.1.cell 2 _ rfl
            have z3 := hp.1.cell 3 _ rfl
            have z4 := hp.1.cell 4 _ rfl
            have z5 := hp.1.cell 5 _ rfl
            have z6 := hp.1.cell 6 _ rfl
            have z7 := hp.1.cell 7 _ rfl
            refine bodyPost_ret_by (v := .agg #[.int .i64 m.kind, .int .i64 m.number, .int .i64 m.month, .int .i64 m.feast, .int .i64 m.relation, .int .i64 m.weekday, .int .i64 m.style, .string m.king]) ?_ rfl ⟨⟨m.kind, m.number, m.month, m.feast, m.relation, m.weekday, m.style, m.king⟩, rfl, hk, D.src, D.gr⟩
            simp [results, go_sem, z0, z1, z2, z3, z4, z5, z6, z7]
  · go_wp2_with fail
    refine (HN.out 9000 _ (by decide) (by decide) D.src).mono ?_
    rintro e w3 ⟨q, rfl, hq0, hq1, hs, hG⟩
    have res := Box.keepA res hG D.hp
    have hown := own_keepA hown hG D.hp
    have D := D.call hs hG
    clear hs hG
    have v1 := i64_in (420000 + q) (by omega)
    go_wp2_with fail
    refine (HF.out _ c rs (420000 + q) _ D.src (by omega) (fun W hW => Rd.of_own encRg_len (by decide) (own_keepA hown hW D.hp)) (reigns_fr hv) (fun m h => (hok m h).1) (by omega) (by omega)).mono ?_
    rintro e w4 ⟨m, rfl, hk, hs, hG⟩
    have res := Box.keepA res hG D.hp
    have hown := own_keepA hown hG D.hp
    have D := D.call hs hG
    clear hs hG
    have loc := Box.new w4 57 [.int .i64 m.kind, .int .i64 m.number, .int .i64 m.month, .int .i64 m.feast, .int .i64 m.relation, .int .i64 m.weekday, .int .i64 m.style, .string m.king] w.heap.size D.size (by simp)
    have hlr : w4.heap.size ≠ w.heap.size := by have := res.lt; omega
    have res := Box.below res (belowA w4 (.cells #[.int .i64 m.kind, .int .i64 m.number, .int .i64 m.month, .int .i64 m.feast, .int .i64 m.relation, .int .i64 m.weekday, .int .i64 m.style, .string m.king] 57))
    have D := D.below (belowA w4 (.cells #[.int .i64 m.kind, .int .i64 m.number, .int .i64 m.month, .int .i64 m.feast, .int .i64 m.relation, .int .i64 m.weekday, .int .i64 m.style, .string m.king] 57))
    clear hown hok hrl
    go_wp2_with fail
    refine (HN.out 40 _ (by decide) (by decide) D.src).mono ?_
    rintro e w5 ⟨x, rfl, hx0, hx1, hs, hG⟩
    have res := Box.keepA res hG D.hp
    have loc := Box.keepA loc hG D.hp
    have D := D.call hs hG
    clear hs hG
    by_cases x0 : x = 0
    · subst x0
      go_wp2_with fail
      have hrd := rd_lit (w := w5) (c := #[.int .i64 (-1), .int .i64 (0), .int .i64 (99), .int .i64 (100), .int .i64 (31), .int .i64 (1999), .int .i64 (2000)]) (xs := [(-1), 0, 99, 100, 31, 1999, 2000]) (p := p) rfl D.src.lt.2
      have res := Box.below res (belowA w5 (.cells #[.int .i64 (-1), .int .i64 (0), .int .i64 (99), .int .i64 (100), .int .i64 (31), .int .i64 (1999), .int .i64 (2000)] 2))
      have loc := Box.below loc (belowA w5 (.cells #[.int .i64 (-1), .int .i64 (0), .int .i64 (99), .int .i64 (100), .int .i64 (31), .int .i64 (1999), .int .i64 (2000)] 2))
      have D := D.below (belowA w5 (.cells #[.int .i64 (-1), .int .i64 (0), .int .i64 (99), .int .i64 (100), .int .i64 (31), .int .i64 (1999), .int .i64 (2000)] 2))
      refine (HP.out _ 7 [(-1), 0, 99, 100, 31, 1999, 2000] _ D.src hrd (by simp) (by simp)).mono ?_
      rintro e w6 ⟨y, rfl, _, hs, hG⟩
      have res := Box.keepA res hG D.hp
      have loc := Box.keepA loc hG D.hp
      have D := D.call hs hG
      clear hs hG
      clear hrd
      have g0 := Box.cell loc 1 _ rfl
      have g1 := World.ownsRow.frozenAt loc 1
      have HL := Lib.hid (Box.put (i := 1) (pre := [.int .i64 m.kind]) (post := [.int .i64 m.month, .int .i64 m.feast, .int .i64 m.relation, .int .i64 m.weekday, .int .i64 m.style, .string m.king]) loc rfl (.int .i64 y))
      go_upto_region 14 with (fail)
      have hl2 := HL.out
      have res := Box.keep res hl2.2 (Ne.symm hlr)
      have D := D.store hl2.2 hl2.1.lt.1
      have loc := hl2.1
      clear g0 g1 hl2 HL
      generalize w6.setCell ⟨w4.heap.size, 1, none⟩ (.int .i64 y) = WW at res D loc ⊢
      have m0 := Box.cell loc 0 _ rfl
      have m1 := Box.cell loc 1 _ rfl
      have m2 := Box.cell loc 2 _ rfl
      have m3 := Box.cell loc 3 _ rfl
      have m4 := Box.cell loc 4 _ rfl
      have m5 := Box.cell loc 5 _ rfl
      have m6 := Box.cell loc 6 _ rfl
      have m7 := Box.cell loc 7 _ rfl
      have r0 := Box.cell res 0 _ rfl
      have r1 := Box.cell res 1 _ rfl
      have r2 := Box.cell res 2 _ rfl
      have r3 := Box.cell res 3 _ rfl
      have r4 := Box.cell res 4 _ rfl
      have r5 := Box.cell res 5 _ rfl
      have r6 := Box.cell res 6 _ rfl
      have r7 := Box.cell res 7 _ rfl
      have f0 := World.ownsRow.frozenAt res 0
      have f1 := World.ownsRow.frozenAt res 1
      have f2 := World.ownsRow.frozenAt res 2
      have f3 := World.ownsRow.frozenAt res 3
      have f4 := World.ownsRow.frozenAt res 4
      have f5 := World.ownsRow.frozenAt res 5
      have f6 := World.ownsRow.frozenAt res 6
      have f7 := World.ownsRow.frozenAt res 7
      have HP8 := Lib.hid (Box.put8 res (.int .i64 m.kind) (.int .i64 y) (.int .i64 m.month) (.int .i64 m.feast) (.int .i64 m.relation) (.int .i64 m.weekday) (.int .i64 m.style) (.string m.king))
      go_wp2
      have hp := HP8.out
      have D := D.store hp.2 (Nat.le_refl _)
      generalize (((((((WW.setCell ⟨w.heap.size, 0, none⟩ (.int .i64 m.kind)).setCell ⟨w.heap.size, 1, none⟩ (.int .i64 y)).setCell ⟨w.heap.size, 2, none⟩ (.int .i64 m.month)).setCell ⟨w.heap.size, 3, none⟩ (.int .i64 m.feast)).setCell ⟨w.heap.size, 4, none⟩ (.int .i64 m.relation)).setCell ⟨w.heap.size, 5, none⟩ (.int .i64 m.weekday)).setCell ⟨w.heap.size, 6, none⟩ (.int .i64 m.style)).setCell ⟨w.heap.size, 7, none⟩ (.string m.king) = Wf at hp D ⊢
      have z0 := hp.1.cell 0 _ rfl
      have z1 := hp.1.cell 1 _ rfl
      have z2 := hp.1.cell 2 _ rfl
      have z3 := hp.1.cell 3 _ rfl
      have z4 := hp.1.cell 4 _ rfl
      have z5 := hp.1.cell 5 _ rfl
      have z6 := hp.1.cell 6 _ rfl
      have z7 := hp.1.cell 7 _ rfl
      refine bodyPost_ret_by (v := .agg #[.int .i64 m.kind, .int .i64 y, .int .i64 m.month, .int .i64 m.feast, .int .i64 m.relation, .int .i64 m.weekday, .int .i64 m.style, .string m.king]) ?_ rfl ⟨⟨m.kind, y, m.month, m.feast, m.relation, m.weekday, m.style, m.king⟩, rfl, hk, D.src, D.gr⟩
      simp [results, go_sem, z0, z1, z2, z3, z4, z5, z6, z7]
    · have x0' : (x == 0) = false := by simpa using x0
      by_cases x1 : x = 1
      · subst x1
        go_wp2_with fail
        have hrd := rd_lit (w := w5) (c := #[.int .i64 (-1), .int .i64 (6), .int .i64 (0), .int .i64 (1)]) (xs := [(-1), 6, 0, 1]) (p := p) rfl D.src.lt.2
        have res := Box.below res (belowA w5 (.cells #[.int .i64 (-1), .int .i64 (6), .int .i64 (0), .int .i64 (1)] 2))
        have loc := Box.below loc (belowA w5 (.cells #[.int .i64 (-1), .int .i64 (6), .int .i64 (0), .int .i64 (1)] 2))
        have D := D.below (belowA w5 (.cells #[.int .i64 (-1), .int .i64 (6), .int .i64 (0), .int .i64 (1)] 2))
        refine (HP.out _ 4 [(-1), 6, 0, 1] _ D.src hrd (by simp) (by simp)).mono ?_
        rintro e w6 ⟨y, rfl, _, hs, hG⟩
        have res := Box.keepA res hG D.hp
        have loc := Box.keepA loc hG D.hp
        have D := D.call hs hG
        clear hs hG
        clear hrd
        have g0 := Box.cell loc 0 _ rfl
        have g1 := World.ownsRow.frozenAt loc 0
        have HL := Lib.hid (Box.put (i := 0) (pre := []) (post := [.int .i64 m.number, .int .i64 m.month, .int .i64 m.feast, .int .i64 m.relation, .int .i64 m.weekday, .int .i64 m.style, .string m.king]) loc rfl (.int .i64 y))
        go_upto_region 14 with (fail)
        have hl2 := HL.out
        have res := Box.keep res hl2.2 (Ne.symm hlr)
        have D := D.store hl2.2 hl2.1.lt.1
        have loc := hl2.1
        clear g0 g1 hl2 HL
        generalize w6.setCell ⟨w4.heap.size, 0, none⟩ (.int .i64 y) = WW at res D loc ⊢
        have m0 := Box.cell loc 0 _ rfl
        have m1 := Box.cell loc 1 _ rfl
        have m2 := Box.cell loc 2 _ rfl
        have m3 := Box.cell loc 3 _ rfl
        have m4 := Box.cell loc 4 _ rfl
        have m5 := Box.cell loc 5 _ rfl
        have m6 := Box.cell loc 6 _ rfl
        have m7 := Box.cell loc 7 _ rfl
        have r0 := Box.cell res 0 _ rfl
        have r1 := Box.cell res 1 _ rfl
        have r2 := Box.cell res 2 _ rfl
        have r3 := Box.cell res 3 _ rfl
        have r4 := Box.cell res 4 _ rfl
        have r5 := Box.cell res 5 _ rfl
        have r6 := Box.cell res 6 _ rfl
        have r7 := Box.cell res 7 _ rfl
        have f0 := World.ownsRow.frozenAt res 0
        have f1 := World.ownsRow.frozenAt res 1
        have f2 := World.ownsRow.frozenAt res 2
        have f3 := World.ownsRow.frozenAt res 3
        have f4 := World.ownsRow.frozenAt res 4
        have f5 := World.ownsRow.frozenAt res 5
        have f6 := World.ownsRow.frozenAt res 6
        have f7 := World.ownsRow.frozenAt res 7
        have HP8 := Lib.hid (Box.put8 res (.int .i64 y) (.int .i64 m.number) (.int .i64 m.month) (.int .i64 m.feast) (.int .i64 m.relation) (.int .i64 m.weekday) (.int .i64 m.style) (.string m.king))
        go_wp2
        have hp := HP8.out
        have D := D.store hp.2 (Nat.le_refl _)
        generalize (((((((WW.setCell ⟨w.heap.size, 0, none⟩ (.int .i64 y)).setCell ⟨w.heap.size, 1, none⟩ (.int .i64 m.number)).setCell ⟨w.heap.size, 2, none⟩ (.int .i64 m.month)).setCell ⟨w.heap.size, 3, none⟩ (.int .i64 m.feast)).setCell ⟨w.heap.size, 4, none⟩ (.int .i64 m.relation)).setCell ⟨w.heap.size, 5, none⟩ (.int .i64 m.weekday)).setCell ⟨w.heap.size, 6, none⟩ (.int .i64 m.style)).setCell ⟨w.heap.size, 7, none⟩ (.string m.king) = Wf at hp D ⊢
        have z0 := hp.1.cell 0 _ rfl
        have z1 := hp.1.cell 1 _ rfl
        have z2 := hp.1.cell 2 _ rfl
        have z3 := hp.1.cell 3 _ rfl
        have z4 := hp.1.cell 4 _ rfl
        have z5 := hp.1.cell 5 _ rfl
        have z6 := hp.1.cell 6 _ rfl
        have z7 := hp.1.cell 7 _ rfl
        refine bodyPost_ret_by (v := .agg #[.int .i64 y, .int .i64 m.number, .int .i64 m.month, .int .i64 m.feast, .int .i64 m.relation, .int .i64 m.weekday, .int .i64 m.style, .string m.king]) ?_ rfl ⟨⟨y, m.number, m.month, m.feast, m.relation, m.weekday, m.style, m.king⟩, rfl, hk, D.src, D.gr⟩
        simp [results, go_sem, z0, z1, z2, z3, z4, z5, z6, z7]
      · have x1' : (x == 1) = false := by simpa using x1
        by_cases x2 : x = 2
        · subst x2
          go_wp2_with fail
          have hrd := rd_lit (w := w5) (c := #[.int .i64 (-1), .int .i64 (3), .int .i64 (7), .int .i64 (2)]) (xs := [(-1), 3, 7, 2]) (p := p) rfl D.src.lt.2
          have res := Box.below res (belowA w5 (.cells #[.int .i64 (-1), .int .i64 (3), .int .i64 (7), .int .i64 (2)] 2))
          have loc := Box.below loc (belowA w5 (.cells #[.int .i64 (-1), .int .i64 (3), .int .i64 (7), .int .i64 (2)] 2))
          have D := D.below (belowA w5 (.cells #[.int .i64 (-1), .int .i64 (3), .int .i64 (7), .int .i64 (2)] 2))
          refine (HP.out _ 4 [(-1), 3, 7, 2] _ D.src hrd (by simp) (by simp)).mono ?_
          rintro e w6 ⟨y, rfl, _, hs, hG⟩
          have res := Box.keepA res hG D.hp
          have loc := Box.keepA loc hG D.hp
          have D := D.call hs hG
          clear hs hG
          clear hrd
          have g0 := Box.cell loc 6 _ rfl
          have g1 := World.ownsRow.frozenAt loc 6
          have HL := Lib.hid (Box.put (i := 6) (pre := [.int .i64 m.kind, .int .i64 m.number, .int .i64 m.month, .int .i64 m.feast, .int .i64 m.relation, .int .i64 m.weekday]) (post := [.string m.king]) loc rfl (.int .i64 y))
          go_upto_region 14 with (fail)
          have hl2 := HL.out
          have res := Box.keep res hl2.2 (Ne.symm hlr)
          have D := D.store hl2.2 hl2.1.lt.1
          have loc := hl2.1
          clear g0 g1 hl2 HL
          generalize w6.setCell ⟨w4.heap.size, 6, none⟩ (.int .i64 y) = WW at res D loc ⊢
          have m0 := Box.cell loc 0 _ rfl
          have m1 := Box.cell loc 1 _ rfl
          have m2 := Box.cell loc 2 _ rfl
          have m3 := Box.cell loc 3 _ rfl
          have m4 := Box.cell loc 4 _ rfl
          have m5 := Box.cell loc 5 _ rfl
          have m6 := Box.cell loc 6 _ rfl
          have m7 := Box.cell loc 7 _ rfl
          have r0 := Box.cell res 0 _ rfl
          have r1 := Box.cell res 1 _ rfl
          have r2 := Box.cell res 2 _ rfl
          have r3 := Box.cell res 3 _ rfl
          have r4 := Box.cell res 4 _ rfl
          have r5 := Box.cell res 5 _ rfl
          have r6 := Box.cell res 6 _ rfl
          have r7 := Box.cell res 7 _ rfl
          have f0 := World.ownsRow.frozenAt res 0
          have f1 := World.ownsRow.frozenAt res 1
          have f2 := World.ownsRow.frozenAt res 2
          have f3 := World.ownsRow.frozenAt res 3
          have f4 := World.ownsRow.frozenAt res 4
          have f5 := World.ownsRow.frozenAt res 5
          have f6 := World.ownsRow.frozenAt res 6
          have f7 := World.ownsRow.frozenAt res 7
          have HP8 := Lib.hid (Box.put8 res (.int .i64 m.kind) (.int .i64 m.number) (.int .i64 m.month) (.int .i64 m.feast) (.int .i64 m.relation) (.int .i64 m.weekday) (.int .i64 y) (.string m.king))
          go_wp2
          have hp := HP8.out
          have D := D.store hp.2 (Nat.le_refl _)
          generalize (((((((WW.setCell ⟨w.heap.size, 0, none⟩ (.int .i64 m.kind)).setCell ⟨w.heap.size, 1, none⟩ (.int .i64 m.number)).setCell ⟨w.heap.size, 2, none⟩ (.int .i64 m.month)).setCell ⟨w.heap.size, 3, none⟩ (.int .i64 m.feast)).setCell ⟨w.heap.size, 4, none⟩ (.int .i64 m.relation)).setCell ⟨w.heap.size, 5, none⟩ (.int .i64 m.weekday)).setCell ⟨w.heap.size, 6, none⟩ (.int .i64 y)).setCell ⟨w.heap.size, 7, none⟩ (.string m.king) = Wf at hp D ⊢
          have z0 := hp.1.cell 0 _ rfl
          have z1 := hp.1.cell 1 _ rfl
          have z2 := hp.1.cell 2 _ rfl
          have z3 := hp.1.cell 3 _ rfl
          have z4 := hp.1.cell 4 _ rfl
          have z5 := hp.1.cell 5 _ rfl
          have z6 := hp.1.cell 6 _ rfl
          have z7 := hp.1.cell 7 _ rfl
          refine bodyPost_ret_by (v := .agg #[.int .i64 m.kind, .int .i64 m.number, .int .i64 m.month, .int .i64 m.feast, .int .i64 m.relation, .int .i64 m.weekday, .int .i64 y, .string m.king]) ?_ rfl ⟨⟨m.kind, m.number, m.month, m.feast, m.relation, m.weekday, y, m.king⟩, rfl, hk, D.src, D.gr⟩
          simp [results, go_sem, z0, z1, z2, z3, z4, z5, z6, z7]
        · have x2' : (x == 2) = false := by simpa using x2
          by_cases x3 : x = 3
          · subst x3
            go_wp2_with fail
            have hrd := rd_lit (w := w5) (c := #[.int .i64 (-1), .int .i64 (7), .int .i64 (3)]) (xs := [(-1), 7, 3]) (p := p) rfl D.src.lt.2
            have res := Box.below res (belowA w5 (.cells #[.int .i64 (-1), .int .i64 (7), .int .i64 (3)] 2))
            have loc := Box.below loc (belowA w5 (.cells #[.int .i64 (-1), .int .i64 (7), .int .i64 (3)] 2))
            have D := D.below (belowA w5 (.cells #[.int .i64 (-1), .int .i64 (7), .int .i64 (3)] 2))
            refine (HP.out _ 3 [(-1), 7, 3] _ D.src hrd (by simp) (by simp)).mono ?_
            rintro e w6 ⟨y, rfl, _, hs, hG⟩
            have res := Box.keepA res hG D.hp
            have loc := Box.keepA loc hG D.hp
            have D := D.call hs hG
            clear hs hG
            clear hrd
            have g0 := Box.cell loc 5 _ rfl
            have g1 := World.ownsRow.frozenAt loc 5
            have HL := Lib.hid (Box.put (i := 5) (pre := [.int .i64 m.kind, .int .i64 m.number, .int .i64 m.month, .int .i64 m.feast, .int .i64 m.relation]) (post := [.int .i64 m.style, .string m.king]) loc rfl (.int .i64 y))
            go_upto_region 14 with (fail)
            have hl2 := HL.out
            have res := Box.keep res hl2.2 (Ne.symm hlr)
            have D := D.store hl2.2 hl2.1.lt.1
            have loc := hl2.1
            clear g0 g1 hl2 HL
            generalize w6.setCell ⟨w4.heap.size, 5, none⟩ (.int .i64 y) = WW at res D loc ⊢
            have m0 := Box.cell loc 0 _ rfl
            have m1 := Box.cell loc 1 _ rfl
            have m2 := Box.cell loc 2 _ rfl
            have m3 := Box.cell loc 3 _ rfl
            have m4 := Box.cell loc 4 _ rfl
            have m5 := Box.cell loc 5 _ rfl
            have m6 := Box.cell loc 6 _ rfl
            have m7 := Box.cell loc 7 _ rfl
            have r0 := Box.cell res 0 _ rfl
            have r1 := Box.cell res 1 _ rfl
            have r2 := Box.cell res 2 _ rfl
            have r3 := Box.cell res 3 _ rfl
            have r4 := Box.cell res 4 _ rfl
            have r5 := Box.cell res 5 _ rfl
            have r6 := Box.cell res 6 _ rfl
            have r7 := Box.cell res 7 _ rfl
            have f0 := World.ownsRow.frozenAt res 0
            have f1 := World.ownsRow.frozenAt res 1
            have f2 := World.ownsRow.frozenAt res 2
            have f3 := World.ownsRow.frozenAt res 3
            have f4 := World.ownsRow.frozenAt res 4
            have f5 := World.ownsRow.frozenAt res 5
            have f6 := World.ownsRow.frozenAt res 6
            have f7 := World.ownsRow.frozenAt res 7
            have HP8 := Lib.hid (Box.put8 res (.int .i64 m.kind) (.int .i64 m.number) (.int .i64 m.month) (.int .i64 m.feast) (.int .i64 m.relation) (.int .i64 y) (.int .i64 m.style) (.string m.king))
            go_wp2
            have hp := HP8.out
            have D := D.store hp.2 (Nat.le_refl _)
            generalize (((((((WW.setCell ⟨w.heap.size, 0, none⟩ (.int .i64 m.kind)).setCell ⟨w.heap.size, 1, none⟩ (.int .i64 m.number)).setCell ⟨w.heap.size, 2, none⟩ (.int .i64 m.month)).setCell ⟨w.heap.size, 3, none⟩ (.int .i64 m.feast)).setCell ⟨w.heap.size, 4, none⟩ (.int .i64 m.relation)).setCell ⟨w.heap.size, 5, none⟩ (.int .i64 y)).setCell ⟨w.heap.size, 6, none⟩ (.int .i64 m.style)).setCell ⟨w.heap.size, 7, none⟩ (.string m.king) = Wf at hp D ⊢
            have z0 := hp.1.cell 0 _ rfl
            have z1 := hp.1.cell 1 _ rfl
            have z2 := hp.1.cell 2 _ rfl
            have z3 := hp.1.cell 3 _ rfl
            have z4 := hp.1.cell 4 _ rfl
            have z5 := hp.1.cell 5 _ rfl
            have z6 := hp.1.cell 6 _ rfl
            have z7 := hp.1.cell 7 _ rfl
            refine bodyPost_ret_by (v := .agg #[.int .i64 m.kind, .int .i64 m.number, .int .i64 m.month, .int .i64 m.feast, .int .i64 m.relation, .int .i64 y, .int .i64 m.style, .string m.king]) ?_ rfl ⟨⟨m.kind, m.number, m.month, m.feast, m.relation, y, m.style, m.king⟩, rfl, hk, D.src, D.gr⟩
            simp [results, go_sem, z0, z1, z2, z3, z4, z5, z6, z7]
          · have x3' : (x == 3) = false := by simpa using x3
            have m0 := Box.cell loc 0 _ rfl
            have m1 := Box.cell loc 1 _ rfl
            have m2 := Box.cell loc 2 _ rfl
            have m3 := Box.cell loc 3 _ rfl
            have m4 := Box.cell loc 4 _ rfl
            have m5 := Box.cell loc 5 _ rfl
            have m6 := Box.cell loc 6 _ rfl
            have m7 := Box.cell loc 7 _ rfl
            have r0 := Box.cell res 0 _ rfl
            have r1 := Box.cell res 1 _ rfl
            have r2 := Box.cell res 2 _ rfl
            have r3 := Box.cell res 3 _ rfl
            have r4 := Box.cell res 4 _ rfl
            have r5 := Box.cell res 5 _ rfl
            have r6 := Box.cell res 6 _ rfl
            have r7 := Box.cell res 7 _ rfl
            have f0 := World.ownsRow.frozenAt res 0
            have f1 := World.ownsRow.frozenAt res 1
            have f2 := World.ownsRow.frozenAt res 2
            have f3 := World.ownsRow.frozenAt res 3
            have f4 := World.ownsRow.frozenAt res 4
            have f5 := World.ownsRow.frozenAt res 5
            have f6 := World.ownsRow.frozenAt res 6
            have f7 := World.ownsRow.frozenAt res 7
            have HP8 := Lib.hid (Box.put8 res (.int .i64 m.kind) (.int .i64 m.number) (.int .i64 m.month) (.int .i64 m.feast) (.int .i64 m.relation) (.int .i64 m.weekday) (.int .i64 m.style) (.string m.king))
            go_wp2
            have hp := HP8.out
            have D := D.store hp.2 (Nat.le_refl _)
            generalize (((((((w5.setCell ⟨w.heap.size, 0, none⟩ (.int .i64 m.kind)).setCell ⟨w.heap.size, 1, none⟩ (.int .i64 m.number)).setCell ⟨w.heap.size, 2, none⟩ (.int .i64 m.month)).setCell ⟨w.heap.size, 3, none⟩ (.int .i64 m.feast)).setCell ⟨w.heap.size, 4, none⟩ (.int .i64 m.relation)).setCell ⟨w.heap.size, 5, none⟩ (.int .i64 m.weekday)).setCell ⟨w.heap.size, 6, none⟩ (.int .i64 m.style)).setCell ⟨w.heap.size, 7, none⟩ (.string m.king) = Wf at hp D ⊢
            have z0 := hp.1.cell 0 _ rfl
            have z1 := hp.1.cell 1 _ rfl
            have z2 := hp.1.cell 2 _ rfl
            have z3 := hp.1.cell 3 _ rfl
            have z4 := hp.1.cell 4 _ rfl
            have z5 := hp.1.cell 5 _ rfl
            have z6 := hp.1.cell 6 _ rfl
            have z7 := hp.1.cell 7 _ rfl
            refine bodyPost_ret_by (v := .agg #[.int .i64 m.kind, .int .i64 m.number, .int .i64 m.month, .int .i64 m.feast, .int .i64 m.relation, .int .i64 m.weekday, .int .i64 m.style, .string m.king]) ?_ rfl ⟨⟨m.kind, m.number, m.month, m.feast, m.relation, m.weekday, m.style, m.king⟩, rfl, hk, D.src, D.gr⟩
            simp [results, go_sem, z0, z1, z2, z3, z4, z5, z6, z7]
set_option maxRecDepth 100000 in
set_option maxHeartbeats 8000000 in
theorem l11DrawHolding_any (w0 : World) (cs : Option Addr) (cap : Nat) (bs : List Int) (p : Nat) (w : World) (hx : Rd encB w0 cs bs) (hb : ∀ m ∈ bs, goodB m) (hl : bs.length ≤ 4096) (hs : Src w0 cs cap bs p w) :
    Calls Tryz.prog 75 #[.pointer (some ⟨p, 0, none⟩)] w fun e w' => ∃ (g c : Nat) (rs : List Rg) (m : Cl) (n : Int), e = .returned (.tuple #[.slice (some ⟨g, 0, none⟩) rs.length c, .agg #[.int .i64 m.kind, .int .i64 m.number, .int .i64 m.month, .int .i64 m.feast, .int .i64 m.relation, .int .i64 m.weekday, .int .i64 m.style, .string m.king], .int .i64 n]) ∧ rs.length ≤ 31 ∧ (∀ m ∈ rs, okD m) ∧ m.king.size ≤ 13 ∧ (-1 ≤ n ∧ n ≤ 730500) ∧ w'.ownsRow w.heap.size 119 3 (.slice (some ⟨g, 0, none⟩) rs.length c) rs.length (rs.flatMap encRg) ∧ Src w0 cs cap bs p w' ∧ w.grownBy w' (some p) := by
  have D := Drw.start hs
  have res := Box.new w 57 [.int .i64 0, .int .i64 0, .int .i64 0, .int .i64 0, .int .i64 0, .int .i64 0, .int .i64 0, .string ⟨#[]⟩] w.heap.size (Nat.le_refl _) (by simp)
  have D := D.below (belowA w (.cells #[.int .i64 0, .int .i64 0, .int .i64 0, .int .i64 0, .int .i64 0, .int .i64 0, .int .i64 0, .string ⟨#[]⟩] 57))
  have HN := Lib.hid (fun n W hn1 hn2 hs => l01Next_any w0 cs cap bs p n W hx hb hl hn1 hn2 hs)
  have HF := Lib.hid (fun a ca rs n W hs hlr hrd hfr hkg hn0 hn => l11DrawOf_any w0 cs cap bs p a ca rs n W hx hb hl hs hlr hrd hfr hkg hn0 hn)
  have HL := Lib.hid (fun W hs => l11Draw_any w0 cs cap bs p W hx hb hl hs)
  go_enter Tryz.func75, Tryz.ntmps75
  go_wp2_with fail
  refine (l07Draw_any w0 cs cap bs p _ hx hb hl D.src).mono ?_
  rintro e w1 ⟨g, c, rs, rfl, hrl, hok, hown, hs2, hG⟩
  have hown0 := hown
  have hown := own_base hown D.size
  have res0lt := res.lt.2
  have res := Box.keepA res hG D.hp
  have D := D.call hs2 hG
  have hgr : g ≠ w.heap.size := by have := (own_lt hown0).1; have := res0lt; omega
  clear hs2 hG hown0
  go_wp2_with fail
  refine (l07DrawDay_any w0 cs cap bs p _ hx hb hl D.src).mono ?_
  rintro e w2 ⟨n, rfl, hn, hs, hG⟩
  have res := Box.keepA res hG D.hp
  have hown := own_keepA hown hG D.hp
  have D := D.call hs hG
  clear hs hG
  clear hs
  go_wp2_with fail
  refine (specAreReigns_any _ c rs _ (by omega) (Rd.of_own encRg_len (by decide) hown) (fun m hm => by have := (hok m hm).1; omega)).mono ?_
  rintro e w3 ⟨rfl, hB3⟩
  have hown := own_below hown hB3
  have res := Box.below res hB3
  have D := D.below hB3
  clear hB3
  cases hv : areReignsB rs
  · go_wp2_with fail
    refine (HL.out _ D.src).mono ?_
    rintro e w4 ⟨m, rfl, hk, hs, hG⟩
    have res := Box.keepA res hG D.hp
    have hown := own_keepA hown hG D.hp
    have D := D.call hs hG
    clear hs hG
    have r0 := Box.cell res 0 _ rfl
    have r1 := Box.cell res 1 _ rfl
    have r2 := Box.cell res 2 _ rfl
    have r3 := Box.cell res 3 _ rfl
    have r4 := Box.cell res 4 _ rfl
    have r5 := Box.cell res 5 _ rfl
    have r6 := Box.cell res 6 _ rfl
    have r7 := Box.cell res 7 _ rfl
    have f0 := World.ownsRow.frozenAt res 0
    have f1 := World.ownsRow.frozenAt res 1
    have f2 := World.ownsRow.frozenAt res 2
    have f3 := World.ownsRow.frozenAt res 3
    have f4 := World.ownsRow.frozenAt res 4
    have f5 := World.ownsRow.frozenAt res 5
    have f6 := World.ownsRow.frozenAt res 6
    have f7 := World.ownsRow.frozenAt res 7
    have HP8 := Lib.hid (Box.put8 res (.int .i64 m.kind) (.int .i64 m.number) (.int .i64 m.month) (.int .i64 m.feast) (.int .i64 m.relation) (.int .i64 m.weekday) (.int .i64 m.style) (.string m.king))
    go_wp2
    have hp := HP8.out
    have D := D.store hp.2 (Nat.le_refl _)
    have hown := own_apart2 hown hp.2 hgr
    generalize (((((((w4.setCell ⟨w.heap.size, 0, none⟩ (.int .i64 m.kind)).setCell ⟨w.heap.size, 1, none⟩ (.int .i64 m.number)).setCell ⟨w.heap.size, 2, none⟩ (.int .i64 m.month)).setCell ⟨w.heap.size, 3, none⟩ (.int .i64 m.feast)).setCell ⟨w.heap.size, 4, none⟩ (.int .i64 m.relation)).setCell ⟨w.heap.size, 5, none⟩ (.int .i64 m.weekday)).setCell ⟨w.heap.size, 6, none⟩ (.int .i64 m.style)).setCell ⟨w.heap.size, 7, none⟩ (.string m.king) = Wf at hp D hown ⊢
    have z0 := hp.1.cell 0 _ rfl
    have z1 := hp.1.cell 1 _ rfl
    have z2 := hp.1.cell 2 _ rfl
    have z3 := hp.1.cell 3 _ rfl
    have z4 := hp.1.cell 4 _ rfl
    have z5 := hp.1.cell 5 _ rfl
    have z6 := hp.1.cell 6 _ rfl
    have z7 := hp.1.cell 7 _ rfl
    refine bodyPost_ret_by (v := .tuple #[.slice (some ⟨g, 0, none⟩) rs.length c, .agg #[.int .i64 m.kind, .int .i64 m.number, .int .i64 m.month, .int .i64 m.feast, .int .i64 m.relation, .int .i64 m.weekday, .int .i64 m.style, .string m.king], .int .i64 n]) ?_ rfl ⟨g, c, rs, ⟨m.kind, m.number, m.month, m.feast, m.relation, m.weekday, m.style, m.king⟩, n, rfl, hrl, hok, hk, hn, hown, D.src, D.gr⟩
    simp [results, go_sem, z0, z1, z2, z3, z4, z5, z6, z7]
  · go_wp2_with fail
    refine (l01Day_any n _).mono ?_
    rintro e wd ⟨rfl, rfl⟩
    cases hd : dayB n
    · go_wp2_with fail
      refine (HL.out _ D.src).mono ?_
      rintro e w4 ⟨m, rfl, hk, hs, hG⟩
      have res := Box.keepA res hG D.hp
      have hown := own_keepA hown hG D.hp
      have D := D.call hs hG
      clear hs hG
      have r0 := Box.cell res 0 _ rfl
      have r1 := Box.cell res 1 _ rfl
      have r2 := Box.cell res 2 _ rfl
      have r3 := Box.cell res 3 _ rfl
      have r4 := Box.cell res 4 _ rfl
      have r5 := Box.cell res 5 _ rfl
      have r6 := Box.cell res 6 _ rfl
      have r7 := Box.cell res 7 _ rfl
      have f0 := World.ownsRow.frozenAt res 0
      have f1 := World.ownsRow.frozenAt res 1
      have f2 := World.ownsRow.frozenAt res 2
      have f3 := World.ownsRow.frozenAt res 3
      have f4 := World.ownsRow.frozenAt res 4
      have f5 := World.ownsRow.frozenAt res 5
      have f6 := World.ownsRow.frozenAt res 6
      have f7 := World.ownsRow.frozenAt res 7
      have HP8 := Lib.hid (Box.put8 res (.int .i64 m.kind) (.int .i64 m.number) (.int .i64 m.month) (.int .i64 m.feast) (.int .i64 m.relation) (.int .i64 m.weekday) (.int .i64 m.style) (.string m.king))
      go_wp2
      have hp := HP8.out
      have D := D.store hp.2 (Nat.le_refl _)
      have hown := own_apart2 hown hp.2 hgr
      generalize (((((((w4.setCell ⟨w.heap.size, 0, none⟩ (.int .i64 m.kind)).setCell ⟨w.heap.size, 1, none⟩ (.int .i64 m.number)).setCell ⟨w.heap.size, 2, none⟩ (.int .i64 m.month)).setCell ⟨w.heap.size, 3, none⟩ (.int .i64 m.feast)).setCell ⟨w.heap.size, 4, none⟩ (.int .i64 m.relation)).setCell ⟨w.heap.size, 5, none⟩ (.int .i64 m.weekday)).setCell ⟨w.heap.size, 6, none⟩ (.int .i64 m.style)).setCell ⟨w.heap.size, 7, none⟩ (.string m.king) = Wf at hp D hown ⊢
      have z0 := hp.1.cell 0 _ rfl
      have z1 := hp.1.cell 1 _ rfl
      have z2 := hp.1.cell 2 _ rfl
      have z3 := hp.1.cell 3 _ rfl
      have z4 := hp.1.cell 4 _ rfl
      have z5 := hp.1.cell 5 _ rfl
      have z6 := hp.1.cell 6 _ rfl
      have z7 := hp.1.cell 7 _ rfl
      refine bodyPost_ret_by (v := .tuple #[.slice (some ⟨g, 0, none⟩) rs.length c, .agg #[.int .i64 m.kind, .int .i64 m.number, .int .i64 m.month, .int .i64 m.feast, .int .i64 m.relation, .int .i64 m.weekday, .int .i64 m.style, .string m.king], .int .i64 n]) ?_ rfl ⟨g, c, rs, ⟨m.kind, m.number, m.month, m.feast, m.relation, m.weekday, m.style, m.king⟩, n, rfl, hrl, hok, hk, hn, hown, D.src, D.gr⟩
      simp [results, go_sem, z0, z1, z2, z3, z4, z5, z6, z7]
    · have hn2 : 0 ≤ n ∧ n ≤ 730499 := by simpa [dayB, inB] using hd
      go_wp2_with fail
      refine (HN.out 3 _ (by decide) (by decide) D.src).mono ?_
      rintro e w4 ⟨r, rfl, hr0, hr1, hs, hG⟩
      have res := Box.keepA res hG D.hp
      have hown := own_keepA hown hG D.hp
      have D := D.call hs hG
      clear hs hG
      by_cases h0 : r = 0
      · subst h0
        go_wp2_with fail
        refine (HL.out _ D.src).mono ?_
        rintro e w5 ⟨m, rfl, hk, hs, hG⟩
        have res := Box.keepA res hG D.hp
        have hown := own_keepA hown hG D.hp
        have D := D.call hs hG
        clear hs hG
        have r0 := Box.cell res 0 _ rfl
        have r1 := Box.cell res 1 _ rfl
        have r2 := Box.cell res 2 _ rfl
        have r3 := Box.cell res 3 _ rfl
        have r4 := Box.cell res 4 _ rfl
        have r5 := Box.cell res 5 _ rfl
        have r6 := Box.cell res 6 _ rfl
        have r7 := Box.cell res 7 _ rfl
        have f0 := World.ownsRow.frozenAt res 0
        have f1 := World.ownsRow.frozenAt res 1
        have f2 := World.ownsRow.frozenAt res 2
        have f3 := World.ownsRow.frozenAt res 3
        have f4 := World.ownsRow.frozenAt res 4
        have f5 := World.ownsRow.frozenAt res 5
        have f6 := World.ownsRow.frozenAt res 6
        have f7 := World.ownsRow.frozenAt res 7
        have HP8 := Lib.hid (Box.put8 res (.int .i64 m.kind) (.int .i64 m.number) (.int .i64 m.month) (.int .i64 m.feast) (.int .i64 m.relation) (.int .i64 m.weekday) (.int .i64 m.style) (.string m.king))
        go_wp2
        have hp := HP8.out
        have D := D.store hp.2 (Nat.le_refl _)
        have hown := own_apart2 hown hp.2 hgr
        generalize (((((((w5.setCell ⟨w.heap.size, 0, none⟩ (.int .i64 m.kind)).setCell ⟨w.heap.size, 1, none⟩ (.int .i64 m.number)).setCell ⟨w.heap.size, 2, none⟩ (.int .i64 m.month)).setCell ⟨w.heap.size, 3, none⟩ (.int .i64 m.feast)).setCell ⟨w.heap.size, 4, none⟩ (.int .i64 m.relation)).setCell ⟨w.heap.size, 5, none⟩ (.int .i64 m.weekday)).setCell ⟨w.heap.size, 6, none⟩ (.int .i64 m.style)).setCell ⟨w.heap.size, 7, none⟩ (.string m.king) = Wf at hp D hown ⊢
        have z0 := hp.1.cell 0 _ rfl
        have z1 := hp.1.cell 1 _ rfl
        have z2 := hp.1.cell 2 _ rfl
        have z3 := hp.1.cell 3 _ rfl
        have z4 := hp.1.cell 4 _ rfl
        have z5 := hp.1.cell 5 _ rfl
        have z6 := hp.1.cell 6 _ rfl
        have z7 := hp.1.cell 7 _ rfl
        refine bodyPost_ret_by (v := .tuple #[.slice (some ⟨g, 0, none⟩) rs.length c, .agg #[.int .i64 m.kind, .int .i64 m.number, .int .i64 m.month, .int .i64 m.feast, .int .i64 m.relation, .int .i64 m.weekday, .int .i64 m.style, .string m.king], .int .i64 n]) ?_ rfl ⟨g, c, rs, ⟨m.kind, m.number, m.month, m.feast, m.relation, m.weekday, m.style, m.king⟩, n, rfl, hrl, hok, hk, hn, hown, D.src, D.gr⟩
        simp [results, go_sem, z0, z1, z2, z3, z4, z5, z6, z7]
      · have h0' : (r == 0) = false := by simpa using h0
        go_wp2_with fail
        refine (HF.out _ c rs n _ D.src (by omega) (fun W hW => Rd.of_own encRg_len (by decide) (own_keepA hown hW D.hp)) (reigns_fr hv) (fun m h => (hok m h).1) hn2.1 hn2.2).mono ?_
        rintro e w5 ⟨m, rfl, hk, hs, hG⟩
        have res := Box.keepA res hG D.hp
        have hown := own_keepA hown hG D.hp
        have D := D.call hs hG
        clear hs hG
        have r0 := Box.cell res 0 _ rfl
        have r1 := Box.cell res 1 _ rfl
        have r2 := Box.cell res 2 _ rfl
        have r3 := Box.cell res 3 _ rfl
        have r4 := Box.cell res 4 _ rfl
        have r5 := Box.cell res 5 _ rfl
        have r6 := Box.cell res 6 _ rfl
        have r7 := Box.cell res 7 _ rfl
        have f0 := World.ownsRow.frozenAt res 0
        have f1 := World.ownsRow.frozenAt res 1
        have f2 := World.ownsRow.frozenAt res 2
        have f3 := World.ownsRow.frozenAt res 3
        have f4 := World.ownsRow.frozenAt res 4
        have f5 := World.ownsRow.frozenAt res 5
        have f6 := World.ownsRow.frozenAt res 6
        have f7 := World.ownsRow.frozenAt res 7
        have HP8 := Lib.hid (Box.put8 res (.int .i64 m.kind) (.int .i64 m.number) (.int .i64 m.month) (.int .i64 m.feast) (.int .i64 m.relation) (.int .i64 m.weekday) (.int .i64 m.style) (.string m.king))
        go_wp2
        have hp := HP8.out
        have D := D.store hp.2 (Nat.le_refl _)
        have hown := own_apart2 hown hp.2 hgr
        generalize (((((((w5.setCell ⟨w.heap.size, 0, none⟩ (.int .i64 m.kind)).setCell ⟨w.heap.size, 1, none⟩ (.int .i64 m.number)).setCell ⟨w.heap.size, 2, none⟩ (.int .i64 m.month)).setCell ⟨w.heap.size, 3, none⟩ (.int .i64 m.feast)).setCell ⟨w.heap.size, 4, none⟩ (.int .i64 m.relation)).setCell ⟨w.heap.size, 5, none⟩ (.int .i64 m.weekday)).setCell ⟨w.heap.size, 6, none⟩ (.int .i64 m.style)).setCell ⟨w.heap.size, 7, none⟩ (.string m.king) = Wf at hp D hown ⊢
        have z0 := hp.1.cell 0 _ rfl
        have z1 := hp.1.cell 1 _ rfl
        have z2 := hp.1.cell 2 _ rfl
        have z3 := hp.1.cell 3 _ rfl
        have z4 := hp.1.cell 4 _ rfl
        have z5 := hp.1.cell 5 _ rfl
        have z6 := hp.1.cell 6 _ rfl
        have z7 := hp.1.cell 7 _ rfl
        refine bodyPost_ret_by (v := .tuple #[.slice (some ⟨g, 0, none⟩) rs.length c, .agg #[.int .i64 m.kind, .int .i64 m.number, .int .i64 m.month, .int .i64 m.feast, .int .i64 m.relation, .int .i64 m.weekday, .int .i64 m.style, .string m.king], .int .i64 n]) ?_ rfl ⟨g, c, rs, ⟨m.kind, m.number, m.month, m.feast, m.relation, m.weekday, m.style, m.king⟩, n, rfl, hrl, hok, hk, hn, hown, D.src, D.gr⟩
        simp [results, go_sem, z0, z1, z2, z3, z4, z5, z6, z7]
set_option maxRecDepth 100000 in
set_option maxHeartbeats 8000000 in
theorem drawDoesHold_any (cs : Option Addr) (cap : Nat) (bs : List Int) (w : World) (hx : Rd encB w cs bs) (hb : ∀ m ∈ bs, goodB m) (hl : bs.length ≤ 4096) :
    Calls Tryz.prog 36 #[.slice cs bs.length cap] w fun e w' => ∃ (g c : Nat) (rs : List Rg) (m : Cl) (n : Int), e = .returned (.tuple #[.slice (some ⟨g, 0, none⟩) rs.length c, .agg #[.int .i64 m.kind, .int .i64 m.number, .int .i64 m.month, .int .i64 m.feast, .int .i64 m.relation, .int .i64 m.weekday, .int .i64 m.style, .string m.king], .int .i64 n]) ∧ rs.length ≤ 31 ∧ (∀ m ∈ rs, okD m) ∧ m.king.size ≤ 13 ∧ (-1000 ≤ n ∧ n ≤ 730500) ∧ w'.ownsRow w.heap.size 119 3 (.slice (some ⟨g, 0, none⟩) rs.length c) rs.length (rs.flatMap encRg) ∧ Below w.heap.size w w' := by
  have res := Box.new w 57 [.int .i64 0, .int .i64 0, .int .i64 0, .int .i64 0, .int .i64 0, .int .i64 0, .int .i64 0, .string ⟨#[]⟩] w.heap.size (Nat.le_refl _) (by simp)
  have hB1 := belowA w (.cells #[.int .i64 0, .int .i64 0, .int .i64 0, .int .i64 0, .int .i64 0, .int .i64 0, .int .i64 0, .string ⟨#[]⟩] 57)
  have hx1 := hx.below hB1
  generalize hW1 : w.alloc (.cells #[.int .i64 0, .int .i64 0, .int .i64 0, .int .i64 0, .int .i64 0, .int .i64 0, .int .i64 0, .string ⟨#[]⟩] 57) = w1 at res hB1 hx1
  have hrl1 := res.lt.2
  go_enter Tryz.func36, Tryz.ntmps36
  go_wp2_with fail
  clear hW1
  refine (l01From_any cs cap bs w1 hx1 hb).mono ?_
  rintro e w2 ⟨p, rfl, hs⟩
  have hpl := hs.lt
  have hne : w.heap.size ≠ p := by omega
  have res := Box.below res hs.base
  go_wp2_with fail
  refine (l11DrawHolding_any w1 cs cap bs p w2 hx1 hb hl hs).mono ?_
  rintro e w3 ⟨g, c, rs, m, n, rfl, hrl, hok, hk, hn, hown, hs, hG⟩
  have hgl := (own_lt hown).1
  have hgr : g ≠ w.heap.size := by omega
  have hgp : g ≠ p := by omega
  have res := Box.keep res hG hne
  have hw12 := hG.size
  clear hG
  have r0 := Box.cell res 0 _ rfl
  have r1 := Box.cell res 1 _ rfl
  have r2 := Box.cell res 2 _ rfl
  have r3 := Box.cell res 3 _ rfl
  have r4 := Box.cell res 4 _ rfl
  have r5 := Box.cell res 5 _ rfl
  have r6 := Box.cell res 6 _ rfl
  have r7 := Box.cell res 7 _ rfl
  have f0 := World.ownsRow.frozenAt res 0
  have f1 := World.ownsRow.frozenAt res 1
  have f2 := World.ownsRow.frozenAt res 2
  have f3 := World.ownsRow.frozenAt res 3
  have f4 := World.ownsRow.frozenAt res 4
  have f5 := World.ownsRow.frozenAt res 5
  have f6 := World.ownsRow.frozenAt res 6
  have f7 := World.ownsRow.frozenAt res 7
  have hB := stepB hB1 hs.base hB1.size
  have HP8 := Lib.hid (Box.put8 res (.int .i64 m.kind) (.int .i64 m.number) (.int .i64 m.month) (.int .i64 m.feast) (.int .i64 m.relation) (.int .i64 m.weekday) (.int .i64 m.style) (.string m.king))
  go_wp2
  have hp := HP8.out
  have hown := own_apart2 hown hp.2 hgr
  have hB := hB.grown hp.2 hB.size (fun g e => by cases e; exact Nat.le_refl _)
  generalize (((((((w3.setCell ⟨w.heap.size, 0, none⟩ (.int .i64 m.kind)).setCell ⟨w.heap.size, 1, none⟩ (.int .i64 m.number)).setCell ⟨w.heap.size, 2, none⟩ (.int .i64 m.month)).setCell ⟨w.heap.size, 3, none⟩ (.int .i64 m.feast)).setCell ⟨w.heap.size, 4, none⟩ (.int .i64 m.relation)).setCell ⟨w.heap.size, 5, none⟩ (.int .i64 m.weekday)).setCell ⟨w.heap.size, 6, none⟩ (.int .i64 m.style)).setCell ⟨w.heap.size, 7, none⟩ (.string m.king) = Wf at hp hB hown ⊢
  have z0 := hp.1.cell 0 _ rfl
  have z1 := hp.1.cell 1 _ rfl
  have z2 := hp.1.cell 2 _ rfl
  have z3 := hp.1.cell 3 _ rfl
  have z4 := hp.1.cell 4 _ rfl
  have z5 := hp.1.cell 5 _ rfl
  have z6 := hp.1.cell 6 _ rfl
  have z7 := hp.1.cell 7 _ rfl
  refine bodyPost_ret_by (v := .tuple #[.slice (some ⟨g, 0, none⟩) rs.length c, .agg #[.int .i64 m.kind, .int .i64 m.number, .int .i64 m.month, .int .i64 m.feast, .int .i64 m.relation, .int .i64 m.weekday, .int .i64 m.style, .string m.king], .int .i64 n]) ?_ rfl ⟨g, c, rs, m, n, rfl, hrl, hok, hk, by omega, own_base hown (by omega), hB⟩
  simp [results, go_sem, z0, z1, z2, z3, z4, z5, z6, z7]
set_option maxRecDepth 100000 in
set_option maxHeartbeats 8000000 in
theorem drawNextHolding_any (cs : Option Addr) (cap : Nat) (bs : List Int) (w : World) (hx : Rd encB w cs bs) (hb : ∀ m ∈ bs, goodB m) (hl : bs.length ≤ 4096) :
    Calls Tryz.prog 33 #[.slice cs bs.length cap] w fun e w' => ∃ (g c : Nat) (rs : List Rg) (m : Cl) (n : Int), e = .returned (.tuple #[.slice (some ⟨g, 0, none⟩) rs.length c, .agg #[.int .i64 m.kind, .int .i64 m.number, .int .i64 m.month, .int .i64 m.feast, .int .i64 m.relation, .int .i64 m.weekday, .int .i64 m.style, .string m.king], .int .i64 n]) ∧ rs.length ≤ 31 ∧ (∀ m ∈ rs, okD m) ∧ m.king.size ≤ 13 ∧ (-1000 ≤ n ∧ n ≤ 730500) ∧ w'.ownsRow w.heap.size 119 3 (.slice (some ⟨g, 0, none⟩) rs.length c) rs.length (rs.flatMap encRg) ∧ Below w.heap.size w w' := by
  have res := Box.new w 57 [.int .i64 0, .int .i64 0, .int .i64 0, .int .i64 0, .int .i64 0, .int .i64 0, .int .i64 0, .string ⟨#[]⟩] w.heap.size (Nat.le_refl _) (by simp)
  have hB1 := belowA w (.cells #[.int .i64 0, .int .i64 0, .int .i64 0, .int .i64 0, .int .i64 0, .int .i64 0, .int .i64 0, .string ⟨#[]⟩] 57)
  have hx1 := hx.below hB1
  generalize hW1 : w.alloc (.cells #[.int .i64 0, .int .i64 0, .int .i64 0, .int .i64 0, .int .i64 0, .int .i64 0, .int .i64 0, .string ⟨#[]⟩] 57) = w1 at res hB1 hx1
  have hrl1 := res.lt.2
  go_enter Tryz.func33, Tryz.ntmps33
  go_wp2_with fail
  clear hW1
  refine (l01From_any cs cap bs w1 hx1 hb).mono ?_
  rintro e w2 ⟨p, rfl, hs⟩
  have hpl := hs.lt
  have hne : w.heap.size ≠ p := by omega
  have res := Box.below res hs.base
  go_wp2_with fail
  refine (l11DrawHolding_any w1 cs cap bs p w2 hx1 hb hl hs).mono ?_
  rintro e w3 ⟨g, c, rs, m, n, rfl, hrl, hok, hk, hn, hown, hs, hG⟩
  have hgl := (own_lt hown).1
  have hgr : g ≠ w.heap.size := by omega
  have hgp : g ≠ p := by omega
  have res := Box.keep res hG hne
  have hw12 := hG.size
  clear hG
  have loc := Box.new w3 57 [.int .i64 m.kind, .int .i64 m.number, .int .i64 m.month, .int .i64 m.feast, .int .i64 m.relation, .int .i64 m.weekday, .int .i64 m.style, .string m.king] w.heap.size (by omega) (by simp)
  have hBA := belowA w3 (.cells #[.int .i64 m.kind, .int .i64 m.number, .int .i64 m.month, .int .i64 m.feast, .int .i64 m.relation, .int .i64 m.weekday, .int .i64 m.style, .string m.king] 57)
  have res := Box.below res hBA
  have hown := own_below hown hBA
  have hs := hs.below hBA
  have hlr : w3.heap.size ≠ w.heap.size := by have := res.lt; omega
  have hlp : w3.heap.size ≠ p := by omega
  go_upto_region 3 with (fail)
  generalize w3.alloc (.cells #[.int .i64 m.kind, .int .i64 m.number, .int .i64 m.month, .int .i64 m.feast, .int .i64 m.relation, .int .i64 m.weekday, .int .i64 m.style, .string m.king] 57) = w4 at res hown hs loc ⊢
  generalize w3.heap.size = lb at loc hlr hlp ⊢
  clear hBA
  have res := Box.below res (Below.refl _ w4).drew
  have hown := own_below hown (Below.refl _ w4).drew
  have hs := hs.below (Below.refl _ w4).drew
  have loc := Box.below loc (Below.refl _ w4).drew
  refine MAny.region (S := fun w' => w'.cell? ⟨lb, 0, none⟩ = some (.int .i64 m.kind) ∧ w'.cell? ⟨lb, 1, none⟩ = some (.int .i64 m.number) ∧ w'.cell? ⟨lb, 2, none⟩ = some (.int .i64 m.month) ∧ w'.cell? ⟨lb, 3, none⟩ = some (.int .i64 m.feast) ∧ w'.cell? ⟨lb, 4, none⟩ = some (.int .i64 m.relation) ∧ w'.cell? ⟨lb, 5, none⟩ = some (.int .i64 m.weekday) ∧ w'.cell? ⟨lb, 6, none⟩ = some (.int .i64 m.style) ∧ w'.cell? ⟨lb, 7, none⟩ = some (.string m.king)) (last := 8) (by kernel_rfl) ?_
  generalize w4.drew = W0 at res hown hs loc ⊢
  have hHeld : W0.cell? ⟨lb, 0, none⟩ = some (.int .i64 m.kind) ∧ W0.cell? ⟨lb, 1, none⟩ = some (.int .i64 m.number) ∧ W0.cell? ⟨lb, 2, none⟩ = some (.int .i64 m.month) ∧ W0.cell? ⟨lb, 3, none⟩ = some (.int .i64 m.feast) ∧ W0.cell? ⟨lb, 4, none⟩ = some (.int .i64 m.relation) ∧ W0.cell? ⟨lb, 5, none⟩ = some (.int .i64 m.weekday) ∧ W0.cell? ⟨lb, 6, none⟩ = some (.int .i64 m.style) ∧ W0.cell? ⟨lb, 7, none⟩ = some (.string m.king) := ⟨Box.cell loc 0 _ rfl, Box.cell loc 1 _ rfl, Box.cell loc 2 _ rfl, Box.cell loc 3 _ rfl, Box.cell loc 4 _ rfl, Box.cell loc 5 _ rfl, Box.cell loc 6 _ rfl, Box.cell loc 7 _ rfl⟩
  refine MAny.take (i := 0) (v := ?_) rfl (by kernel_rfl) (by kernel_rfl) (by kernel_rfl) (fun _ _ _ h => h) (by kernel_rfl) (Or.inl ⟨by rfl, ?_⟩) (by assumption) ?_
  rotate_left
  · (intro w' hSw; (try dsimp only at hSw); go_simp; try (with_reducible rfl))
  try simp only [Act.put, List.setIfInBounds_toArray]
  refine MAny.take (i := 1) (v := ?_) rfl (by kernel_rfl) (by kernel_rfl) (by kernel_rfl) (fun _ _ _ h => h) (by kernel_rfl) (Or.inl ⟨by rfl, ?_⟩) (by assumption) ?_
  rotate_left
  · (intro w' hSw; (try dsimp only at hSw); go_simp; try (with_reducible rfl))
  try simp only [Act.put]
  refine MAny.take (i := 2) (v := ?_) rfl (by kernel_rfl) (by kernel_rfl) (by kernel_rfl) (fun _ _ _ h => h) (by kernel_rfl) (Or.inl ⟨by rfl, ?_⟩) (by assumption) ?_
  rotate_left
  · (intro w' hSw; (try dsimp only at hSw); go_simp; try (with_reducible rfl))
  try simp only [Act.put]
  refine MAny.take (i := 3) (v := ?_) rfl (by kernel_rfl) (by kernel_rfl) (by kernel_rfl) (fun _ _ _ h => h) (by kernel_rfl) (Or.inl ⟨by rfl, ?_⟩) (by assumption) ?_
  rotate_left
  · (intro w' hSw; (try dsimp only at hSw); go_simp; try (with_reducible rfl))
  try simp only [Act.put]
  refine MAny.ready (rs := [4]) (by kernel_rfl) (by simp) ?_
  refine MReady.cons rfl (fun K hK => ?_) MReady.nil
  go_simp
  go_wp2_with (go_at_call 76; refine (l01Next_any w1 cs cap bs p 500 W0 hx1 hb hl (by decide) (by decide) hs).mono ?_; rintro e W1 ⟨q, rfl, hq0, hq1, hs, hG⟩)
  have res := Box.keep res hG hne
  have hown := own_apart2 hown hG hgp
  have loc := Box.keep loc hG hlp
  have v1 := i64_in (n - q) (by omega)
  clear hHeld
  have hHeld : W1.cell? ⟨lb, 0, none⟩ = some (.int .i64 m.kind) ∧ W1.cell? ⟨lb, 1, none⟩ = some (.int .i64 m.number) ∧ W1.cell? ⟨lb, 2, none⟩ = some (.int .i64 m.month) ∧ W1.cell? ⟨lb, 3, none⟩ = some (.int .i64 m.feast) ∧ W1.cell? ⟨lb, 4, none⟩ = some (.int .i64 m.relation) ∧ W1.cell? ⟨lb, 5, none⟩ = some (.int .i64 m.weekday) ∧ W1.cell? ⟨lb, 6, none⟩ = some (.int .i64 m.style) ∧ W1.cell? ⟨lb, 7, none⟩ = some (.string m.king) := ⟨Box.cell loc 0 _ rfl, Box.cell loc 1 _ rfl, Box.cell loc 2 _ rfl, Box.cell loc 3 _ rfl, Box.cell loc 4 _ rfl, Box.cell loc 5 _ rfl, Box.cell loc 6 _ rfl, Box.cell loc 7 _ rfl⟩
  refine hK.out _ _ (.inr hHeld) ?_
  clear hK K
  refine MAny.take (i := 5) (v := ?_) rfl (by kernel_rfl) (by kernel_rfl) (by kernel_rfl) (fun _ _ _ h => h) (by kernel_rfl) (Or.inl ⟨by rfl, ?_⟩) (by assumption) ?_
  rotate_left
  · (intro w' hSw; (try dsimp only at hSw); go_simp; try (with_reducible rfl))
  try simp only [Act.put]
  refine MAny.ready (rs := [6]) (by kernel_rfl) (by simp) ?_
  refine MReady.cons rfl (fun K hK => ?_) MReady.nil
  go_simp
  refine hK.out _ _ (.inr hHeld) ?_
  clear hK K
  have r0 := Box.cell res 0 _ rfl
  have r1 := Box.cell res 1 _ rfl
  have r2 := Box.cell res 2 _ rfl
  have r3 := Box.cell res 3 _ rfl
  have r4 := Box.cell res 4 _ rfl
  have r5 := Box.cell res 5 _ rfl
  have r6 := Box.cell res 6 _ rfl
  have r7 := Box.cell res 7 _ rfl
  have f0 := World.ownsRow.frozenAt res 0
  have f1 := World.ownsRow.frozenAt res 1
  have f2 := World.ownsRow.frozenAt res 2
  have f3 := World.ownsRow.frozenAt res 3
  have f4 := World.ownsRow.frozenAt res 4
  have f5 := World.ownsRow.frozenAt res 5
  have f6 := World.ownsRow.frozenAt res 6
  have f7 := World.ownsRow.frozenAt res 7
  have hB := stepB hB1 hs.base hB1.size
  have HP8 := Lib.hid (Box.put8 res (.int .i64 m.kind) (.int .i64 m.number) (.int .i64 m.month) (.int .i64 m.feast) (.int .i64 m.relation) (.int .i64 m.weekday) (.int .i64 m.style) (.string m.king))
  refine MAny.ready (rs := [7]) (by kernel_rfl) (by simp) ?_
  refine MReady.cons rfl (fun K hK => ?_) MReady.nil
  go_simp
  have hp := HP8.out
  have hown := own_apart2 hown hp.2 hgr
  have hB := hB.grown hp.2 hB.size (fun g e => by cases e; exact Nat.le_refl _)
  have loc := Box.keep loc hp.2 hlr
  clear hHeld r0 r1 r2 r3 r4 r5 r6 r7 f0 f1 f2 f3 f4 f5 f6 f7
  generalize (((((((W1.setCell ⟨w.heap.size, 0, none⟩ (.int .i64 m.kind)).setCell ⟨w.heap.size, 1, none⟩ (.int .i64 m.number)).setCell ⟨w.heap.size, 2, none⟩ (.int .i64 m.month)).setCell ⟨w.heap.size, 3, none⟩ (.int .i64 m.feast)).setCell ⟨w.heap.size, 4, none⟩ (.int .i64 m.relation)).setCell ⟨w.heap.size, 5, none⟩ (.int .i64 m.weekday)).setCell ⟨w.heap.size, 6, none⟩ (.int .i64 m.style)).setCell ⟨w.heap.size, 7, none⟩ (.string m.king) = Wf at hp hB hown loc ⊢
  have hHeld : Wf.cell? ⟨lb, 0, none⟩ = some (.int .i64 m.kind) ∧ Wf.cell? ⟨lb, 1, none⟩ = some (.int .i64 m.number) ∧ Wf.cell? ⟨lb, 2, none⟩ = some (.int .i64 m.month) ∧ Wf.cell? ⟨lb, 3, none⟩ = some (.int .i64 m.feast) ∧ Wf.cell? ⟨lb, 4, none⟩ = some (.int .i64 m.relation) ∧ Wf.cell? ⟨lb, 5, none⟩ = some (.int .i64 m.weekday) ∧ Wf.cell? ⟨lb, 6, none⟩ = some (.int .i64 m.style) ∧ Wf.cell? ⟨lb, 7, none⟩ = some (.string m.king) := ⟨Box.cell loc 0 _ rfl, Box.cell loc 1 _ rfl, Box.cell loc 2 _ rfl, Box.cell loc 3 _ rfl, Box.cell loc 4 _ rfl, Box.cell loc 5 _ rfl, Box.cell loc 6 _ rfl, Box.cell loc 7 _ rfl⟩
  refine hK.out _ _ (.inr hHeld) ?_
  clear hK K
  refine MAny.ready (rs := [8]) (by kernel_rfl) (by simp) ?_
  refine MReady.cons rfl (fun K hK => ?_) MReady.nil
  go_simp
  refine hK.out _ _ (.inl rfl) ?_
  clear hK K
  refine MAny.done (by kernel_rfl) ?_ _
  try simp only [List.getElem_toArray, List.getElem_cons_succ, List.getElem_cons_zero]
  go_wp2
  have z0 := hp.1.cell 0 _ rfl
  have z1 := hp.1.cell 1 _ rfl
  have z2 := hp.1.cell 2 _ rfl
  have z3 := hp.1.cell 3 _ rfl
  have z4 := hp.1.cell 4 _ rfl
  have z5 := hp.1.cell 5 _ rfl
  have z6 := hp.1.cell 6 _ rfl
  have z7 := hp.1.cell 7 _ rfl
  refine bodyPost_ret_by (v := .tuple #[.slice (some ⟨g, 0, none⟩) rs.length c, .agg #[.int .i64 m.kind, .int .i64 m.number, .int .i64 m.month, .int .i64 m.feast, .int .i64 m.relation, .int .i64 m.weekday, .int .i64 m.style, .string m.king], .int .i64 (n - q)]) ?_ rfl ⟨g, c, rs, m, n - q, rfl, hrl, hok, hk, by omega, own_base hown (by omega), hB⟩
  simp [results, go_sem, z0, z1, z2, z3, z4, z5, z6, z7]
end Go.Proofs.YtdbgnbohdplndaaGreatDoor
