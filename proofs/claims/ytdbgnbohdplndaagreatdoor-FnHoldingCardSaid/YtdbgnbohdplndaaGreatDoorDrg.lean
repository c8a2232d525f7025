/- Walks: reigns are drawn. Printed by gen_drg.py. -/
import Derived.Test.YtdbgnbohdplndaaGreatDoorDrw
import Derived.Test.YtdbgnbohdplndaaGreatDoorFix
namespace Go.Proofs.YtdbgnbohdplndaaGreatDoor
open Go.ChangeShapes Go.WideShapes Go.ChangeAt Go.RowKit Go.IntWalk

/-- A drawn reign's bounds. -/
def okD (m : Rg) : Prop := m.king.size ≤ 13 ∧ (-2000 ≤ m.fr ∧ m.fr ≤ 3000000) ∧ (-2000 ≤ m.to ∧ m.to ≤ 3000000)
theorem okD_mk {k : ByteArray} {f t : Int} (h1 : k.size ≤ 13) (h2 : -2000 ≤ f ∧ f ≤ 3000000) (h3 : -2000 ≤ t ∧ t ≤ 3000000) : okD ⟨k, f, t⟩ := ⟨h1, h2, h3⟩

set_option maxRecDepth 100000 in
set_option maxHeartbeats 4000000 in
theorem l07DrawReign_any (w0 : World) (cs : Option Addr) (cap : Nat) (bs : List Int) (p : Nat) (w : World) (hx : Rd encB w0 cs bs) (hb : ∀ m ∈ bs, goodB m) (hl : bs.length ≤ 4096) (hs : Src w0 cs cap bs p w) :
    Calls Tryz.prog 143 #[.pointer (some ⟨p, 0, none⟩)] w fun e w' => ∃ m : Rg, e = .returned (.agg #[.string m.king, .int .i64 m.fr, .int .i64 m.to]) ∧ okD m ∧ Src w0 cs cap bs p w' ∧ w.grownBy w' (some p) := by
  have D := Drw.start hs
  have res := Box.new w 119 [.string ⟨#[]⟩, .int .i64 0, .int .i64 0] w.heap.size (Nat.le_refl _) (by simp)
  have D := D.below (belowA w (.cells #[.string ⟨#[]⟩, .int .i64 0, .int .i64 0] 119))
  have HN := Lib.hid (fun n W hn1 hn2 hs => l01Next_any w0 cs cap bs p n W hx hb hl hn1 hn2 hs)
  have HP := Lib.hid (fun a ca xs W hs hxs h1 h2 => l01Pick_any w0 cs cap bs p a ca xs W hx hb hl hs hxs h1 h2)
  have HK := Lib.hid (fun W hs => l07DrawKing_any w0 cs cap bs p W hx hb hl hs)
  clear hs
  go_enter Tryz.func143, Tryz.ntmps143
  go_wp2_with fail
  refine (HN.out 6000 _ (by decide) (by decide) D.src).mono ?_
  rintro e w7 ⟨r, rfl, hr0, hr1, hs, hG⟩
  have res := Box.keepA res hG D.hp
  have D := D.call hs hG
  clear hs hG
  have v1 := i64_in (420000 + r) (by omega)
  go_wp2_with fail
  refine (HN.out 6 _ (by decide) (by decide) D.src).mono ?_
  rintro e w8 ⟨q, rfl, hq0, hq1, hs, hG⟩
  have res := Box.keepA res hG D.hp
  have D := D.call hs hG
  clear hs hG
  by_cases q0 : q = 0
  · subst q0
    go_wp2_with fail
    refine (HN.out 6 _ (by decide) (by decide) D.src).mono ?_
    rintro e w9 ⟨a, rfl, ha0, ha1, hs, hG⟩
    have res := Box.keepA res hG D.hp
    have D := D.call hs hG
    clear hs hG
    have v5 := i64_in (4 * a) (by omega)
    have v6 := i64_in (1160 + 4 * a) (by omega)
    have hnb := numO_bd (1160 + 4 * a) 2 29 (by omega) (by omega) (by decide) (by decide) (by decide)
    have HD := Lib.hid (fun W => l01Number_any (1160 + 4 * a) 2 29 W (by omega) (by omega) (by decide) (by decide) (by decide) (by decide))
    generalize numO (1160 + 4 * a) 2 29 = f at hnb HD
    go_wp2_with fail
    refine (HD.out _).mono ?_
    rintro e WN ⟨rfl, hBN⟩
    have res := Box.below res hBN
    have D := D.below hBN
    clear hBN HD
    go_wp2_with fail
    refine (HK.out _ D.src).mono ?_
    rintro e w10 ⟨k, rfl, hk, hs, hG⟩
    have res := Box.keepA res hG D.hp
    have D := D.call hs hG
    clear hs hG
    go_wp2_with fail
    have hrd := rd_lit (w := w10) (c := #[.int .i64 (100), .int .i64 (3000), .int .i64 (9000)]) (xs := [100, 3000, 9000]) (p := p) rfl D.src.lt.2
    have res := Box.below res (belowA w10 (.cells #[.int .i64 (100), .int .i64 (3000), .int .i64 (9000)] 2))
    have D := D.below (belowA w10 (.cells #[.int .i64 (100), .int .i64 (3000), .int .i64 (9000)] 2))
    refine (HP.out _ 3 [100, 3000, 9000] _ D.src hrd (by simp) (by simp)).mono ?_
    rintro e w11 ⟨v, rfl, hv, hs, hG⟩
    have res := Box.keepA res hG D.hp
    have D := D.call hs hG
    clear hs hG
    clear hrd
    have hv2 : 0 ≤ v ∧ v ≤ 9000 := by simp at hv; omega
    clear hv
    go_wp2_with fail
    refine (HN.out v _ (by omega) (by omega) D.src).mono ?_
    rintro e w12 ⟨u, rfl, hu0, hu1, hs, hG⟩
    have res := Box.keepA res hG D.hp
    have D := D.call hs hG
    clear hs hG
    have v3 := i64_in (f + u) (by omega)
    have loc := Box.new w12 119 [.string k, .int .i64 f, .int .i64 (f + u)] w.heap.size D.size (by simp)
    have hlr : w12.heap.size ≠ w.heap.size := by have := res.lt; omega
    have res := Box.below res (belowA w12 (.cells #[.string k, .int .i64 f, .int .i64 (f + u)] 119))
    have D := D.below (belowA w12 (.cells #[.string k, .int .i64 f, .int .i64 (f + u)] 119))
    go_wp2_with fail
    refine (HN.out 60 _ (by decide) (by decide) D.src).mono ?_
    rintro e w13 ⟨x, rfl, hx0, hx1, hs, hG⟩
    have res := Box.keepA res hG D.hp
    have loc := Box.keepA loc hG D.hp
    have D := D.call hs hG
    clear hs hG
    by_cases x0 : x = 0
    · subst x0
      have m1 := loc.cell 1 _ rfl
      have v4 := i64_in (f - 1) (by omega)
      go_wp2_with fail
      have hrd := rd_lit (w := w13) (c := #[.int .i64 (f - 1), .int .i64 (730499), .int .i64 (730500)]) (xs := [f - 1, 730499, 730500]) (p := p) rfl D.src.lt.2
      have res := Box.below res (belowA w13 (.cells #[.int .i64 (f - 1), .int .i64 (730499), .int .i64 (730500)] 2))
      have loc := Box.below loc (belowA w13 (.cells #[.int .i64 (f - 1), .int .i64 (730499), .int .i64 (730500)] 2))
      have D := D.below (belowA w13 (.cells #[.int .i64 (f - 1), .int .i64 (730499), .int .i64 (730500)] 2))
      refine (HP.out _ 3 [f - 1, 730499, 730500] _ D.src hrd (by simp) (by simp)).mono ?_
      rintro e w14 ⟨y, rfl, hy, hs, hG⟩
      have res := Box.keepA res hG D.hp
      have loc := Box.keepA loc hG D.hp
      have D := D.call hs hG
      clear hs hG
      clear hrd
      have hy2 : -2000 ≤ y ∧ y ≤ 3000000 := by simp at hy; omega
      clear hy m1
      have m2 := loc.cell 2 _ rfl
      have g2 := World.ownsRow.frozenAt loc 2
      have HL := Lib.hid (Box.put (i := 2) (pre := [.string k, .int .i64 f]) (post := []) loc rfl (.int .i64 y))
      go_upto_region 10 with (fail)
      have hl2 := HL.out
      have res := Box.keep res hl2.2 (Ne.symm hlr)
      have D := D.store hl2.2 hl2.1.lt.1
      have loc := hl2.1
      clear m2 g2 hl2 HL
      generalize w14.setCell ⟨w12.heap.size, 2, none⟩ (.int .i64 y) = w15 at res D loc ⊢
      have m0 := loc.cell 0 _ rfl
      have m1 := loc.cell 1 _ rfl
      have m2 := loc.cell 2 _ rfl
      have r0 := res.cell 0 _ rfl
      have r1 := res.cell 1 _ rfl
      have r2 := res.cell 2 _ rfl
      have f0 := World.ownsRow.frozenAt res 0
      have f1 := World.ownsRow.frozenAt res 1
      have f2 := World.ownsRow.frozenAt res 2
      have HP3 := Lib.hid (Box.put3 res (.string k) (.int .i64 f) (.int .i64 y))
      go_wp2
      have hp := HP3.out
      have D := D.store hp.2 (Nat.le_refl _)
      generalize ((w15.setCell ⟨w.heap.size, 0, none⟩ (.string k)).setCell ⟨w.heap.size, 1, none⟩ (.int .i64 f)).setCell ⟨w.heap.size, 2, none⟩ (.int .i64 y) = Wf at hp D ⊢
      have z0 := hp.1.cell 0 _ rfl
      have z1 := hp.1.cell 1 _ rfl
      have z2 := hp.1.cell 2 _ rfl
      refine bodyPost_ret_by (v := .agg #[.string k, .int .i64 f, .int .i64 y]) ?_ rfl ⟨⟨k, f, y⟩, rfl, okD_mk hk (by omega) (by omega), D.src, D.gr⟩
      simp [results, go_sem, z0, z1, z2]
    · have x0' : (x == 0) = false := by simpa using x0
      by_cases x1 : x = 1
      · subst x1
        go_wp2_with fail
        generalize hWs : w13.alloc (.cells #[.string ⟨#[]⟩, .string ⟨#[65, 100, 97, 109]⟩, .string ⟨#[97, 98, 99, 100, 101, 102, 103, 104, 105, 106, 107, 108, 109]⟩] 9) = Ws
        have hBs : Below w13.heap.size w13 Ws := by rw [← hWs]; exact belowA _ _
        have hlt : w13.heap.size < Ws.heap.size := by rw [← hWs]; simp
        have c0 : Ws.cell? ⟨w13.heap.size, 0, none⟩ = some (.string ⟨#[]⟩) := by rw [← hWs]; exact World.cell?_alloc_at _ _ _ _ rfl
        have c1 : Ws.cell? ⟨w13.heap.size, 1, none⟩ = some (.string ⟨#[65, 100, 97, 109]⟩) := by rw [← hWs]; exact World.cell?_alloc_at _ _ _ _ rfl
        have c2 : Ws.cell? ⟨w13.heap.size, 2, none⟩ = some (.string ⟨#[97, 98, 99, 100, 101, 102, 103, 104, 105, 106, 107, 108, 109]⟩) := by rw [← hWs]; exact World.cell?_alloc_at _ _ _ _ rfl
        clear hWs
        have hne : w13.heap.size ≠ p := Nat.ne_of_gt D.src.lt.2
        have res := Box.below res hBs
        have loc := Box.below loc hBs
        have D := D.below hBs
        refine (HN.out 3 _ (by decide) (by decide) D.src).mono ?_
        rintro e w16 ⟨y, rfl, hy0, hy1, hs, hG⟩
        have c0 := D.cell hG c0 hlt hne
        have c1 := D.cell hG c1 hlt hne
        have c2 := D.cell hG c2 hlt hne
        have res := Box.keepA res hG D.hp
        have loc := Box.keepA loc hG D.hp
        have D := D.call hs hG
        clear hs hG hBs
        obtain rfl | rfl | rfl : y = 0 ∨ y = 1 ∨ y = 2 := by omega
        · have m0 := loc.cell 0 _ rfl
          have g0 := World.ownsRow.frozenAt loc 0
          have HL := Lib.hid (Box.put (i := 0) (pre := []) (post := [.int .i64 f, .int .i64 (f + u)]) loc rfl (.string ⟨#[]⟩))
          go_upto_region 10 with (fail)
          have hl2 := HL.out
          have res := Box.keep res hl2.2 (Ne.symm hlr)
          have D := D.store hl2.2 hl2.1.lt.1
          have loc := hl2.1
          clear m0 g0 hl2 HL c0 c1 c2
          generalize w16.setCell ⟨w12.heap.size, 0, none⟩ (.string ⟨#[]⟩) = WW at res D loc ⊢
          have m0 := loc.cell 0 _ rfl
          have m1 := loc.cell 1 _ rfl
          have m2 := loc.cell 2 _ rfl
          have r0 := res.cell 0 _ rfl
          have r1 := res.cell 1 _ rfl
          have r2 := res.cell 2 _ rfl
          have f0 := World.ownsRow.frozenAt res 0
          have f1 := World.ownsRow.frozenAt res 1
          have f2 := World.ownsRow.frozenAt res 2
          have HP3 := Lib.hid (Box.put3 res (.string ⟨#[]⟩) (.int .i64 f) (.int .i64 (f + u)))
          go_wp2
          have hp := HP3.out
          have D := D.store hp.2 (Nat.le_refl _)
          generalize ((WW.setCell ⟨w.heap.size, 0, none⟩ (.string ⟨#[]⟩)).setCell ⟨w.heap.size, 1, none⟩ (.int .i64 f)).setCell ⟨w.heap.size, 2, none⟩ (.int .i64 (f + u)) = Wf at hp D ⊢
          have z0 := hp.1.cell 0 _ rfl
          have z1 := hp.1.cell 1 _ rfl
          have z2 := hp.1.cell 2 _ rfl
          refine bodyPost_ret_by (v := .agg #[.string ⟨#[]⟩, .int .i64 f, .int .i64 (f + u)]) ?_ rfl ⟨⟨⟨#[]⟩, f, (f + u)⟩, rfl, okD_mk (by decide) (by omega) (by omega), D.src, D.gr⟩
          simp [results, go_sem, z0, z1, z2]
        · have m0 := loc.cell 0 _ rfl
          have g0 := World.ownsRow.frozenAt loc 0
          have HL := Lib.hid (Box.put (i := 0) (pre := []) (post := [.int .i64 f, .int .i64 (f + u)]) loc rfl (.string ⟨#[65, 100, 97, 109]⟩))
          go_upto_region 10 with (fail)
          have hl2 := HL.out
          have res := Box.keep res hl2.2 (Ne.symm hlr)
          have D := D.store hl2.2 hl2.1.lt.1
          have loc := hl2.1
          clear m0 g0 hl2 HL c0 c1 c2
          generalize w16.setCell ⟨w12.heap.size, 0, none⟩ (.string ⟨#[65, 100, 97, 109]⟩) = WW at res D loc ⊢
          have m0 := loc.cell 0 _ rfl
          have m1 := loc.cell 1 _ rfl
          have m2 := loc.cell 2 _ rfl
          have r0 := res.cell 0 _ rfl
          have r1 := res.cell 1 _ rfl
          have r2 := res.cell 2 _ rfl
          have f0 := World.ownsRow.frozenAt res 0
          have f1 := World.ownsRow.frozenAt res 1
          have f2 := World.ownsRow.frozenAt res 2
          have HP3 := Lib.hid (Box.put3 res (.string ⟨#[65, 100, 97, 109]⟩) (.int .i64 f) (.int .i64 (f + u)))
          go_wp2
          have hp := HP3.out
          have D := D.store hp.2 (Nat.le_refl _)
          generalize ((WW.setCell ⟨w.heap.size, 0, none⟩ (.string ⟨#[65, 100, 97, 109]⟩)).setCell ⟨w.heap.size, 1, none⟩ (.int .i64 f)).setCell ⟨w.heap.size, 2, none⟩ (.int .i64 (f + u)) = Wf at hp D ⊢
          have z0 := hp.1.cell 0 _ rfl
          have z1 := hp.1.cell 1 _ rfl
          have z2 := hp.1.cell 2 _ rfl
          refine bodyPost_ret_by (v := .agg #[.string ⟨#[65, 100, 97, 109]⟩, .int .i64 f, .int .i64 (f + u)]) ?_ rfl ⟨⟨⟨#[65, 100, 97, 109]⟩, f, (f + u)⟩, rfl, okD_mk (by decide) (by omega) (by omega), D.src, D.gr⟩
          simp [results, go_sem, z0, z1, z2]
        · have m0 := loc.cell 0 _ rfl
          have g0 := World.ownsRow.frozenAt loc 0
          have HL := Lib.hid (Box.put (i := 0) (pre := []) (post := [.int .i64 f, .int .i64 (f + u)]) loc rfl (.string ⟨#[97, 98, 99, 100, 101, 102, 103, 104, 105, 106, 107, 108, 109]⟩))
          go_upto_region 10 with (fail)
          have hl2 := HL.out
          have res := Box.keep res hl2.2 (Ne.symm hlr)
          have D := D.store hl2.2 hl2.1.lt.1
          have loc := hl2.1
          clear m0 g0 hl2 HL c0 c1 c2
          generalize w16.setCell ⟨w12.heap.size, 0, none⟩ (.string ⟨#[97, 98, 99, 100, 101, 102, 103, 104, 105, 106, 107, 108, 109]⟩) = WW at res D loc ⊢
          have m0 := loc.cell 0 _ rfl
          have m1 := loc.cell 1 _ rfl
          have m2 := loc.cell 2 _ rfl
          have r0 := res.cell 0 _ rfl
          have r1 := res.cell 1 _ rfl
          have r2 := res.cell 2 _ rfl
          have f0 := World.ownsRow.frozenAt res 0
          have f1 := World.ownsRow.frozenAt res 1
          have f2 := World.ownsRow.frozenAt res 2
          have HP3 := Lib.hid (Box.put3 res (.string ⟨#[97, 98, 99, 100, 101, 102, 103, 104, 105, 106, 107, 108, 109]⟩) (.int .i64 f) (.int .i64 (f + u)))
          go_wp2
          have hp := HP3.out
          have D := D.store hp.2 (Nat.le_refl _)
          generalize ((WW.setCell ⟨w.heap.size, 0, none⟩ (.string ⟨#[97, 98, 99, 100, 101, 102, 103, 104, 105, 106, 107, 108, 109]⟩)).setCell ⟨w.heap.size, 1, none⟩ (.int .i64 f)).setCell ⟨w.heap.size, 2, none⟩ (.int .i64 (f + u)) = Wf at hp D ⊢
          have z0 := hp.1.cell 0 _ rfl
          have z1 := hp.1.cell 1 _ rfl
          have z2 := hp.1.cell 2 _ rfl
          refine bodyPost_ret_by (v := .agg #[.string ⟨#[97, 98, 99, 100, 101, 102, 103, 104, 105, 106, 107, 108, 109]⟩, .int .i64 f, .int .i64 (f + u)]) ?_ rfl ⟨⟨⟨#[97, 98, 99, 100, 101, 102, 103, 104, 105, 106, 107, 108, 109]⟩, f, (f + u)⟩, rfl, okD_mk (by decide) (by omega) (by omega), D.src, D.gr⟩
          simp [results, go_sem, z0, z1, z2]
      · have x1' : (x == 1) = false := by simpa using x1
        have m0 := loc.cell 0 _ rfl
        have m1 := loc.cell 1 _ rfl
        have m2 := loc.cell 2 _ rfl
        have r0 := res.cell 0 _ rfl
        have r1 := res.cell 1 _ rfl
        have r2 := res.cell 2 _ rfl
        have f0 := World.ownsRow.frozenAt res 0
        have f1 := World.ownsRow.frozenAt res 1
        have f2 := World.ownsRow.frozenAt res 2
        have HP3 := Lib.hid (Box.put3 res (.string k) (.int .i64 f) (.int .i64 (f + u)))
        go_wp2
        have hp := HP3.out
        have D := D.store hp.2 (Nat.le_refl _)
        generalize ((w13.setCell ⟨w.heap.size, 0, none⟩ (.string k)).setCell ⟨w.heap.size, 1, none⟩ (.int .i64 f)).setCell ⟨w.heap.size, 2, none⟩ (.int .i64 (f + u)) = Wf at hp D ⊢
        have z0 := hp.1.cell 0 _ rfl
        have z1 := hp.1.cell 1 _ rfl
        have z2 := hp.1.cell 2 _ rfl
        refine bodyPost_ret_by (v := .agg #[.string k, .int .i64 f, .int .i64 (f + u)]) ?_ rfl ⟨⟨k, f, (f + u)⟩, rfl, okD_mk hk (by omega) (by omega), D.src, D.gr⟩
        simp [results, go_sem, z0, z1, z2]
  · have q0' : (q == 0) = false := by simpa using q0
    go_wp2_with fail
    refine (HK.out _ D.src).mono ?_
    rintro e w17 ⟨k, rfl, hk, hs, hG⟩
    have res := Box.keepA res hG D.hp
    have D := D.call hs hG
    clear hs hG
    go_wp2_with fail
    have hrd := rd_lit (w := w17) (c := #[.int .i64 (100), .int .i64 (3000), .int .i64 (9000)]) (xs := [100, 3000, 9000]) (p := p) rfl D.src.lt.2
    have res := Box.below res (belowA w17 (.cells #[.int .i64 (100), .int .i64 (3000), .int .i64 (9000)] 2))
    have D := D.below (belowA w17 (.cells #[.int .i64 (100), .int .i64 (3000), .int .i64 (9000)] 2))
    refine (HP.out _ 3 [100, 3000, 9000] _ D.src hrd (by simp) (by simp)).mono ?_
    rintro e w18 ⟨v, rfl, hv, hs, hG⟩
    have res := Box.keepA res hG D.hp
    have D := D.call hs hG
    clear hs hG
    clear hrd
    have hv2 : 0 ≤ v ∧ v ≤ 9000 := by simp at hv; omega
    clear hv
    go_wp2_with fail
    refine (HN.out v _ (by omega) (by omega) D.src).mono ?_
    rintro e w19 ⟨u, rfl, hu0, hu1, hs, hG⟩
    have res := Box.keepA res hG D.hp
    have D := D.call hs hG
    clear hs hG
    have v3 := i64_in ((420000 + r) + u) (by omega)
    have loc := Box.new w19 119 [.string k, .int .i64 (420000 + r), .int .i64 ((420000 + r) + u)] w.heap.size D.size (by simp)
    have hlr : w19.heap.size ≠ w.heap.size := by have := res.lt; omega
    have res := Box.below res (belowA w19 (.cells #[.string k, .int .i64 (420000 + r), .int .i64 ((420000 + r) + u)] 119))
    have D := D.below (belowA w19 (.cells #[.string k, .int .i64 (420000 + r), .int .i64 ((420000 + r) + u)] 119))
    go_wp2_with fail
    refine (HN.out 60 _ (by decide) (by decide) D.src).mono ?_
    rintro e w20 ⟨x, rfl, hx0, hx1, hs, hG⟩
    have res := Box.keepA res hG D.hp
    have loc := Box.keepA loc hG D.hp
    have D := D.call hs hG
    clear hs hG
    by_cases x0 : x = 0
    · subst x0
      have m1 := loc.cell 1 _ rfl
      have v4 := i64_in ((420000 + r) - 1) (by omega)
      go_wp2_with fail
      have hrd := rd_lit (w := w20) (c := #[.int .i64 ((420000 + r) - 1), .int .i64 (730499), .int .i64 (730500)]) (xs := [(420000 + r) - 1, 730499, 730500]) (p := p) rfl D.src.lt.2
      have res := Box.below res (belowA w20 (.cells #[.int .i64 ((420000 + r) - 1), .int .i64 (730499), .int .i64 (730500)] 2))
      have loc := Box.below loc (belowA w20 (.cells #[.int .i64 ((420000 + r) - 1), .int .i64 (730499), .int .i64 (730500)] 2))
      have D := D.below (belowA w20 (.cells #[.int .i64 ((420000 + r) - 1), .int .i64 (730499), .int .i64 (730500)] 2))
      refine (HP.out _ 3 [(420000 + r) - 1, 730499, 730500] _ D.src hrd (by simp) (by simp)).mono ?_
      rintro e w21 ⟨y, rfl, hy, hs, hG⟩
      have res := Box.keepA res hG D.hp
      have loc := Box.keepA loc hG D.hp
      have D := D.call hs hG
      clear hs hG
      clear hrd
      have hy2 : -2000 ≤ y ∧ y ≤ 3000000 := by simp at hy; omega
      clear hy m1
      have m2 := loc.cell 2 _ rfl
      have g2 := World.ownsRow.frozenAt loc 2
      have HL := Lib.hid (Box.put (i := 2) (pre := [.string k, .int .i64 (420000 + r)]) (post := []) loc rfl (.int .i64 y))
      go_upto_region 10 with (fail)
      have hl2 := HL.out
      have res := Box.keep res hl2.2 (Ne.symm hlr)
      have D := D.store hl2.2 hl2.1.lt.1
      have loc := hl2.1
      clear m2 g2 hl2 HL
      generalize w21.setCell ⟨w19.heap.size, 2, none⟩ (.int .i64 y) = w22 at res D loc ⊢
      have m0 := loc.cell 0 _ rfl
      have m1 := loc.cell 1 _ rfl
      have m2 := loc.cell 2 _ rfl
      have r0 := res.cell 0 _ rfl
      have r1 := res.cell 1 _ rfl
      have r2 := res.cell 2 _ rfl
      have f0 := World.ownsRow.frozenAt res 0
      have f1 := World.ownsRow.frozenAt res 1
      have f2 := World.ownsRow.frozenAt res 2
      have HP3 := Lib.hid (Box.put3 res (.string k) (.int .i64 (420000 + r)) (.int .i64 y))
      go_wp2
      have hp := HP3.out
      have D := D.store hp.2 (Nat.le_refl _)
      generalize ((w22.setCell ⟨w.heap.size, 0, none⟩ (.string k)).setCell ⟨w.heap.size, 1, none⟩ (.int .i64 (420000 + r))).setCell ⟨w.heap.size, 2, none⟩ (.int .i64 y) = Wf at hp D ⊢
      have z0 := hp.1.cell 0 _ rfl
      have z1 := hp.1.cell 1 _ rfl
      have z2 := hp.1.cell 2 _ rfl
      refine bodyPost_ret_by (v := .agg #[.string k, .int .i64 (420000 + r), .int .i64 y]) ?_ rfl ⟨⟨k, (420000 + r), y⟩, rfl, okD_mk hk (by omega) (by omega), D.src, D.gr⟩
      simp [results, go_sem, z0, z1, z2]
    · have x0' : (x == 0) = false := by simpa using x0
      by_cases x1 : x = 1
      · subst x1
        go_wp2_with fail
        generalize hWs : w20.alloc (.cells #[.string ⟨#[]⟩, .string ⟨#[65, 100, 97, 109]⟩, .string ⟨#[97, 98, 99, 100, 101, 102, 103, 104, 105, 106, 107, 108, 109]⟩] 9) = Ws
        have hBs : Below w20.heap.size w20 Ws := by rw [← hWs]; exact belowA _ _
        have hlt : w20.heap.size < Ws.heap.size := by rw [← hWs]; simp
        have c0 : Ws.cell? ⟨w20.heap.size, 0, none⟩ = some (.string ⟨#[]⟩) := by rw [← hWs]; exact World.cell?_alloc_at _ _ _ _ rfl
        have c1 : Ws.cell? ⟨w20.heap.size, 1, none⟩ = some (.string ⟨#[65, 100, 97, 109]⟩) := by rw [← hWs]; exact World.cell?_alloc_at _ _ _ _ rfl
        have c2 : Ws.cell? ⟨w20.heap.size, 2, none⟩ = some (.string ⟨#[97, 98, 99, 100, 101, 102, 103, 104, 105, 106, 107, 108, 109]⟩) := by rw [← hWs]; exact World.cell?_alloc_at _ _ _ _ rfl
        clear hWs
        have hne : w20.heap.size ≠ p := Nat.ne_of_gt D.src.lt.2
        have res := Box.below res hBs
        have loc := Box.below loc hBs
        have D := D.below hBs
        refine (HN.out 3 _ (by decide) (by decide) D.src).mono ?_
        rintro e w23 ⟨y, rfl, hy0, hy1, hs, hG⟩
        have c0 := D.cell hG c0 hlt hne
        have c1 := D.cell hG c1 hlt hne
        have c2 := D.cell hG c2 hlt hne
        have res := Box.keepA res hG D.hp
        have loc := Box.keepA loc hG D.hp
        have D := D.call hs hG
        clear hs hG hBs
        obtain rfl | rfl | rfl : y = 0 ∨ y = 1 ∨ y = 2 := by omega
        · have m0 := loc.cell 0 _ rfl
          have g0 := World.ownsRow.frozenAt loc 0
          have HL := Lib.hid (Box.put (i := 0) (pre := []) (post := [.int .i64 (420000 + r), .int .i64 ((420000 + r) + u)]) loc rfl (.string ⟨#[]⟩))
          go_upto_region 10 with (fail)
          have hl2 := HL.out
          have res := Box.keep res hl2.2 (Ne.symm hlr)
          have D := D.store hl2.2 hl2.1.lt.1
          have loc := hl2.1
          clear m0 g0 hl2 HL c0 c1 c2
          generalize w23.setCell ⟨w19.heap.size, 0, none⟩ (.string ⟨#[]⟩) = WW at res D loc ⊢
          have m0 := loc.cell 0 _ rfl
          have m1 := loc.cell 1 _ rfl
          have m2 := loc.cell 2 _ rfl
          have r0 := res.cell 0 _ rfl
          have r1 := res.cell 1 _ rfl
          have r2 := res.cell 2 _ rfl
          have f0 := World.ownsRow.frozenAt res 0
          have f1 := World.ownsRow.frozenAt res 1
          have f2 := World.ownsRow.frozenAt res 2
          have HP3 := Lib.hid (Box.put3 res (.string ⟨#[]⟩) (.int .i64 (420000 + r)) (.int .i64 ((420000 + r) + u)))
          go_wp2
          have hp := HP3.out
          have D := D.store hp.2 (Nat.le_refl _)
          generalize ((WW.setCell ⟨w.heap.size, 0, none⟩ (.string ⟨#[]⟩)).setCell ⟨w.heap.size, 1, none⟩ (.int .i64 (420000 + r))).setCell ⟨w.heap.size, 2, none⟩ (.int .i64 ((420000 + r) + u)) = Wf at hp D ⊢
          have z0 := hp.1.cell 0 _ rfl
          have z1 := hp.1.cell 1 _ rfl
          have z2 := hp.1.cell 2 _ rfl
          refine bodyPost_ret_by (v := .agg #[.string ⟨#[]⟩, .int .i64 (420000 + r), .int .i64 ((420000 + r) + u)]) ?_ rfl ⟨⟨⟨#[]⟩, (420000 + r), ((420000 + r) + u)⟩, rfl, okD_mk (by decide) (by omega) (by omega), D.src, D.gr⟩
          simp [results, go_sem, z0, z1, z2]
        · have m0 := loc.cell 0 _ rfl
          have g0 := World.ownsRow.frozenAt loc 0
          have HL := Lib.hid (Box.put (i := 0) (pre := []) (post := [.int .i64 (420000 + r), .int .i64 ((420000 + r) + u)]) loc rfl (.string ⟨#[65, 100, 97, 109]⟩))
          go_upto_region 10 with (fail)
          have hl2 := HL.out
          have res := Box.keep res hl2.2 (Ne.symm hlr)
          have D := D.store hl2.2 hl2.1.lt.1
          have loc := hl2.1
          clear m0 g0 hl2 HL c0 c1 c2
          generalize w23.setCell ⟨w19.heap.size, 0, none⟩ (.string ⟨#[65, 100, 97, 109]⟩) = WW at res D loc ⊢
          have m0 := loc.cell 0 _ rfl
          have m1 := loc.cell 1 _ rfl
          have m2 := loc.cell 2 _ rfl
          have r0 := res.cell 0 _ rfl
          have r1 := res.cell 1 _ rfl
          have r2 := res.cell 2 _ rfl
          have f0 := World.ownsRow.frozenAt res 0
          have f1 := World.ownsRow.frozenAt res 1
          have f2 := World.ownsRow.frozenAt res 2
          have HP3 := Lib.hid (Box.put3 res (.string ⟨#[65, 100, 97, 109]⟩) (.int .i64 (420000 + r)) (.int .i64 ((420000 + r) + u)))
          go_wp2
          have hp := HP3.out
          have D := D.store hp.2 (Nat.le_refl _)
          generalize ((WW.setCell ⟨w.heap.size, 0, none⟩ (.string ⟨#[65, 100, 97, 109]⟩)).setCell ⟨w.heap.size, 1, none⟩ (.int .i64 (420000 + r))).setCell ⟨w.heap.size, 2, none⟩ (.int .i64 ((420000 + r) + u)) = Wf at hp D ⊢
          have z0 := hp.1.cell 0 _ rfl
          have z1 := hp.1.cell 1 _ rfl
          have z2 := hp.1.cell 2 _ rfl
          refine bodyPost_ret_by (v := .agg #[.string ⟨#[65, 100, 97, 109]⟩, .int .i64 (420000 + r), .int .i64 ((420000 + r) + u)]) ?_ rfl ⟨⟨⟨#[65, 100, 97, 109]⟩, (420000 + r), ((420000 + r) + u)⟩, rfl, okD_mk (by decide) (by omega) (by omega), D.src, D.gr⟩
          simp [results, go_sem, z0, z1, z2]
        · have m0 := loc.cell 0 _ rfl
          have g0 := World.ownsRow.frozenAt loc 0
          have HL := Lib.hid (Box.put (i := 0) (pre := []) (post := [.int .i64 (420000 + r), .int .i64 ((420000 + r) + u)]) loc rfl (.string ⟨#[97, 98, 99, 100, 101, 102, 103, 104, 105, 106, 107, 108, 109]⟩))
          go_upto_region 10 with (fail)
          have hl2 := HL.out
          have res := Box.keep res hl2.2 (Ne.symm hlr)
          have D := D.store hl2.2 hl2.1.lt.1
          have loc := hl2.1
          clear m0 g0 hl2 HL c0 c1 c2
          generalize w23.setCell ⟨w19.heap.size, 0, none⟩ (.string ⟨#[97, 98, 99, 100, 101, 102, 103, 104, 105, 106, 107, 108, 109]⟩) = WW at res D loc ⊢
          have m0 := loc.cell 0 _ rfl
          have m1 := loc.cell 1 _ rfl
          have m2 := loc.cell 2 _ rfl
          have r0 := res.cell 0 _ rfl
          have r1 := res.cell 1 _ rfl
          have r2 := res.cell 2 _ rfl
          have f0 := World.ownsRow.frozenAt res 0
          have f1 := World.ownsRow.frozenAt res 1
          have f2 := World.ownsRow.frozenAt res 2
          have HP3 := Lib.hid (Box.put3 res (.string ⟨#[97, 98, 99, 100, 101, 102, 103, 104, 105, 106, 107, 108, 109]⟩) (.int .i64 (420000 + r)) (.int .i64 ((420000 + r) + u)))
          go_wp2
          have hp := HP3.out
          have D := D.store hp.2 (Nat.le_refl _)
          generalize ((WW.setCell ⟨w.heap.size, 0, none⟩ (.string ⟨#[97, 98, 99, 100, 101, 102, 103, 104, 105, 106, 107, 108, 109]⟩)).setCell ⟨w.heap.size, 1, none⟩ (.int .i64 (420000 + r))).setCell ⟨w.heap.size, 2, none⟩ (.int .i64 ((420000 + r) + u)) = Wf at hp D ⊢
          have z0 := hp.1.cell 0 _ rfl
          have z1 := hp.1.cell 1 _ rfl
          have z2 := hp.1.cell 2 _ rfl
          refine bodyPost_ret_by (v := .agg #[.string ⟨#[97, 98, 99, 100, 101, 102, 103, 104, 105, 106, 107, 108, 109]⟩, .int .i64 (420000 + r), .int .i64 ((420000 + r) + u)]) ?_ rfl ⟨⟨⟨#[97, 98, 99, 100, 101, 102, 103, 104, 105, 106, 107, 108, 109]⟩, (420000 + r), ((420000 + r) + u)⟩, rfl, okD_mk (by decide) (by omega) (by omega), D.src, D.gr⟩
          simp [results, go_sem, z0, z1, z2]
      · have x1' : (x == 1) = false := by simpa using x1
        have m0 := loc.cell 0 _ rfl
        have m1 := loc.cell 1 _ rfl
        have m2 := loc.cell 2 _ rfl
        have r0 := res.cell 0 _ rfl
        have r1 := res.cell 1 _ rfl
        have r2 := res.cell 2 _ rfl
        have f0 := World.ownsRow.frozenAt res 0
        have f1 := World.ownsRow.frozenAt res 1
        have f2 := World.ownsRow.frozenAt res 2
        have HP3 := Lib.hid (Box.put3 res (.string k) (.int .i64 (420000 + r)) (.int .i64 ((420000 + r) + u)))
        go_wp2
        have hp := HP3.out
        have D := D.store hp.2 (Nat.le_refl _)
        generalize ((w20.setCell ⟨w.heap.size, 0, none⟩ (.string k)).setCell ⟨w.heap.size, 1, none⟩ (.int .i64 (420000 + r))).setCell ⟨w.heap.size, 2, none⟩ (.int .i64 ((420000 + r) + u)) = Wf at hp D ⊢
        have z0 := hp.1.cell 0 _ rfl
        have z1 := hp.1.cell 1 _ rfl
        have z2 := hp.1.cell 2 _ rfl
        refine bodyPost_ret_by (v := .agg #[.string k, .int .i64 (420000 + r), .int .i64 ((420000 + r) + u)]) ?_ rfl ⟨⟨k, (420000 + r), ((420000 + r) + u)⟩, rfl, okD_mk hk (by omega) (by omega), D.src, D.gr⟩
        simp [results, go_sem, z0, z1, z2]
end Go.Proofs.YtdbgnbohdplndaaGreatDoor
