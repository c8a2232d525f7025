/- Walk: a clause is drawn. Printed by gen_drc.py. -/
import Derived.Test.YtdbgnbohdplndaaGreatDoorDrcA
import Derived.Test.YtdbgnbohdplndaaGreatDoorRegnS
import Derived.Test.YtdbgnbohdplndaaGreatDoorTCl
namespace Go.Proofs.YtdbgnbohdplndaaGreatDoor
open Go.ChangeShapes Go.WideShapes Go.ChangeAt Go.RowKit Go.IntWalk

theorem king0 : (⟨#[]⟩ : ByteArray).size ≤ 13 := by decide

set_option maxRecDepth 100000 in
set_option maxHeartbeats 8000000 in
theorem l11DrawOf_any (w0 : World) (cs : Option Addr) (cap : Nat) (bs : List Int) (p : Nat) (a : Option Addr) (ca : Nat) (rs : List Rg) (n : Int) (w : World) (hx : Rd encB w0 cs bs) (hb : ∀ m ∈ bs, goodB m) (hl : bs.length ≤ 4096) (hs : Src w0 cs cap bs p w) (hlr : rs.length ≤ 1000) (hrd : ∀ W, w.grownBy W (some p) → Rd encRg W a rs) (hfr : ∀ m ∈ rs, 0 ≤ m.fr) (hkg : ∀ m ∈ rs, m.king.size ≤ 13) (hn0 : 0 ≤ n) (hn : n ≤ 730499) :
    Calls Tryz.prog 107 #[.pointer (some ⟨p, 0, none⟩), .slice a rs.length ca, .int .i64 n] w fun e w' => ∃ m : Cl, e = .returned (.agg #[.int .i64 m.kind, .int .i64 m.number, .int .i64 m.month, .int .i64 m.feast, .int .i64 m.relation, .int .i64 m.weekday, .int .i64 m.style, .string m.king]) ∧ m.king.size ≤ 13 ∧ Src w0 cs cap bs p w' ∧ w.grownBy w' (some p) := by
  have D := Drw.start hs
  have res := Box.new w 57 [.int .i64 0, .int .i64 0, .int .i64 0, .int .i64 0, .int .i64 0, .int .i64 0, .int .i64 0, .string ⟨#[]⟩] w.heap.size (Nat.le_refl _) (by simp)
  have D := D.below (belowA w (.cells #[.int .i64 0, .int .i64 0, .int .i64 0, .int .i64 0, .int .i64 0, .int .i64 0, .int .i64 0, .string ⟨#[]⟩] 57))
  have HN := Lib.hid (fun n W hn1 hn2 hs => l01Next_any w0 cs cap bs p n W hx hb hl hn1 hn2 hs)
  have HO := Lib.hid (fun W => l01Old_any n W hn0 hn)
  have hdy := dyO_bd n
  have hmy := mlO_bd (yrO n) (mnO n)
  have HW := Lib.hid (fun W => l01Weekday_any n W (by omega) (by omega))
  have HNear := Lib.hid (fun W => nearest_any n W hn0 hn)
  generalize (n + 5) % 7 = wd at HW
  clear hs
  go_enter Tryz.func107, Tryz.ntmps107
  go_wp2_with fail
  refine (HO.out _).mono ?_
  rintro e w1 ⟨rfl, hB1⟩
  have res := Box.below res hB1
  have D := D.below hB1
  have dat := Box.new w1 137 [.int .i64 (yrO n), .int .i64 (mnO n : Nat), .int .i64 (dyO n)] w.heap.size D.size (by simp)
  have res := Box.below res (belowA w1 (.cells #[.int .i64 (yrO n), .int .i64 (mnO n : Nat), .int .i64 (dyO n)] 137))
  have D := D.below (belowA w1 (.cells #[.int .i64 (yrO n), .int .i64 (mnO n : Nat), .int .i64 (dyO n)] 137))
  clear hB1
  go_wp2_with fail
  generalize w1.alloc (.cells #[.int .i64 (yrO n), .int .i64 (mnO n : Nat), .int .i64 (dyO n)] 137) = w2 at D res dat ⊢
  generalize (mnO n : Int) = M at dat ⊢
  generalize dyO n = DD at dat hdy ⊢
  generalize w1.heap.size = db at dat ⊢
  refine (HN.out 6 _ (by decide) (by decide) D.src).mono ?_
  rintro e w3 ⟨r, rfl, hr0, hr1, hs, hG⟩
  have res := Box.keepA res hG D.hp
  have dat := Box.keepA dat hG D.hp
  have D := D.call hs hG
  clear hs hG
  by_cases q0 : r = 0
  · subst q0
    have m1 := Box.cell dat 1 _ rfl
    have m2 := Box.cell dat 2 _ rfl
    have r0 := Box.cell res 0 _ rfl
    have r1 := Box.cell res 1 _ rfl
    have r2 := Box.cell res 2 _ rfl
    have r3 := Box.cell res 3 _ rfl
    have r4 := Box.cell res 4 _ rfl
    have r5 := Box.cell res 5 _ rfl
    have r6 := Box.cell res 6 _ rfl
    have r7 := Box.cell res 7 _ rfl
    have f0 := World.ownsRow.frozenAt res 0
    have f1 := World.ownsRow.frozenAt res 1
    have f2 := World.ownsRow.frozenAt res 2
    have f3 := World.ownsRow.frozenAt res 3
    have f4 := World.ownsRow.frozenAt res 4
    have f5 := World.ownsRow.frozenAt res 5
    have f6 := World.ownsRow.frozenAt res 6
    have f7 := World.ownsRow.frozenAt res 7
    have HP8 := Lib.hid (Box.put8 res (.int .i64 0) (.int .i64 DD) (.int .i64 M) (.int .i64 0) (.int .i64 0) (.int .i64 0) (.int .i64 0) (.string ⟨#[]⟩))
    go_wp2
    have hp := HP8.out
    have D := D.store hp.2 (Nat.le_refl _)
    generalize (((((((w3.setCell ⟨w.heap.size, 0, none⟩ (.int .i64 0)).setCell ⟨w.heap.size, 1, none⟩ (.int .i64 DD)).setCell ⟨w.heap.size, 2, none⟩ (.int .i64 M)).setCell ⟨w.heap.size, 3, none⟩ (.int .i64 0)).setCell ⟨w.heap.size, 4, none⟩ (.int .i64 0)).setCell ⟨w.heap.size, 5, none⟩ (.int .i64 0)).setCell ⟨w.heap.size, 6, none⟩ (.int .i64 0)).setCell ⟨w.heap.size, 7, none⟩ (.string ⟨#[]⟩) = Wf at hp D ⊢
    have z0 := hp.1.cell 0 _ rfl
    have z1 := hp.1.cell 1 _ rfl
    have z2 := hp.1.cell 2 _ rfl
    have z3 := hp.1.cell 3 _ rfl
    have z4 := hp.1.cell 4 _ rfl
    have z5 := hp.1.cell 5 _ rfl
    have z6 := hp.1.cell 6 _ rfl
    have z7 := hp.1.cell 7 _ rfl
    refine bodyPost_ret_by (v := .agg #[.int .i64 0, .int .i64 DD, .int .i64 M, .int .i64 0, .int .i64 0, .int .i64 0, .int .i64 0, .string ⟨#[]⟩]) ?_ rfl ⟨⟨0, DD, M, 0, 0, 0, 0, ⟨#[]⟩⟩, rfl, king0, D.src, D.gr⟩
    simp [results, go_sem, z0, z1, z2, z3, z4, z5, z6, z7]
  · have q0' : (r == 0) = false := by simpa using q0
    by_cases q1 : r = 1
    · subst q1
      clear dat
      go_wp2_with fail
      refine (HNear.out _).mono ?_
      rintro e w4 ⟨f, aw, rfl, hf, hB4⟩
      have res := Box.below res hB4
      have D := D.below hB4
      clear hB4
      by_cases h1 : aw = 0
      · subst h1
        have r0 := Box.cell res 0 _ rfl
        have r1 := Box.cell res 1 _ rfl
        have r2 := Box.cell res 2 _ rfl
        have r3 := Box.cell res 3 _ rfl
        have r4 := Box.cell res 4 _ rfl
        have r5 := Box.cell res 5 _ rfl
        have r6 := Box.cell res 6 _ rfl
        have r7 := Box.cell res 7 _ rfl
        have f0 := World.ownsRow.frozenAt res 0
        have f1 := World.ownsRow.frozenAt res 1
        have f2 := World.ownsRow.frozenAt res 2
        have f3 := World.ownsRow.frozenAt res 3
        have f4 := World.ownsRow.frozenAt res 4
        have f5 := World.ownsRow.frozenAt res 5
        have f6 := World.ownsRow.frozenAt res 6
        have f7 := World.ownsRow.frozenAt res 7
        have HP8 := Lib.hid (Box.put8 res (.int .i64 1) (.int .i64 0) (.int .i64 0) (.int .i64 f) (.int .i64 0) (.int .i64 0) (.int .i64 0) (.string ⟨#[]⟩))
        go_wp2
        have hp := HP8.out
        have D := D.store hp.2 (Nat.le_refl _)
        generalize (((((((w4.setCell ⟨w.heap.size, 0, none⟩ (.int .i64 1)).setCell ⟨w.heap.size, 1, none⟩ (.int .i64 0)).setCell ⟨w.heap.size, 2, none⟩ (.int .i64 0)).setCell ⟨w.heap.size, 3, none⟩ (.int .i64 f)).setCell ⟨w.heap.size, 4, none⟩ (.int .i64 0)).setCell ⟨w.heap.size, 5, none⟩ (.int .i64 0)).setCell ⟨w.heap.size, 6, none⟩ (.int .i64 0)).setCell ⟨w.heap.size, 7, none⟩ (.string ⟨#[]⟩) = Wf at hp D ⊢
        have z0 := hp.1.cell 0 _ rfl
        have z1 := hp.1.cell 1 _ rfl
        have z2 := hp.1.cell 2 _ rfl
        have z3 := hp.1.cell 3 _ rfl
        have z4 := hp.1.cell 4 _ rfl
        have z5 := hp.1.cell 5 _ rfl
        have z6 := hp.1.cell 6 _ rfl
        have z7 := hp.1.cell 7 _ rfl
        refine bodyPost_ret_by (v := .agg #[.int .i64 1, .int .i64 0, .int .i64 0, .int .i64 f, .int .i64 0, .int .i64 0, .int .i64 0, .string ⟨#[]⟩]) ?_ rfl ⟨⟨1, 0, 0, f, 0, 0, 0, ⟨#[]⟩⟩, rfl, king0, D.src, D.gr⟩
        simp [results, go_sem, z0, z1, z2, z3, z4, z5, z6, z7]
      · have h1n : (aw == 0) = false := by simpa using h1
        by_cases h2 : aw = -1
        · subst h2
          have r0 := Box.cell res 0 _ rfl
          have r1 := Box.cell res 1 _ rfl
          have r2 := Box.cell res 2 _ rfl
          have r3 := Box.cell res 3 _ rfl
          have r4 := Box.cell res 4 _ rfl
          have r5 := Box.cell res 5 _ rfl
          have r6 := Box.cell res 6 _ rfl
          have r7 := Box.cell res 7 _ rfl
          have f0 := World.ownsRow.frozenAt res 0
          have f1 := World.ownsRow.frozenAt res 1
          have f2 := World.ownsRow.frozenAt res 2
          have f3 := World.ownsRow.frozenAt res 3
          have f4 := World.ownsRow.frozenAt res 4
          have f5 := World.ownsRow.frozenAt res 5
          have f6 := World.ownsRow.frozenAt res 6
          have f7 := World.ownsRow.frozenAt res 7
          have HP8 := Lib.hid (Box.put8 res (.int .i64 1) (.int .i64 0) (.int .i64 0) (.int .i64 f) (.int .i64 1) (.int .i64 0) (.int .i64 0) (.string ⟨#[]⟩))
          go_wp2
          have hp := HP8.out
          have D := D.store hp.2 (Nat.le_refl _)
          generalize (((((((w4.setCell ⟨w.heap.size, 0, none⟩ (.int .i64 1)).setCell ⟨w.heap.size, 1, none⟩ (.int .i64 0)).setCell ⟨w.heap.size, 2, none⟩ (.int .i64 0)).setCell ⟨w.heap.size, 3, none⟩ (.int .i64 f)).setCell ⟨w.heap.size, 4, none⟩ (.int .i64 1)).setCell ⟨w.heap.size, 5, none⟩ (.int .i64 0)).setCell ⟨w.heap.size, 6, none⟩ (.int .i64 0)).setCell ⟨w.heap.size, 7, none⟩ (.string ⟨#[]⟩) = Wf at hp D ⊢
          have z0 := hp.1.cell 0 _ rfl
          have z1 := hp.1.cell 1 _ rfl
          have z2 := hp.1.cell 2 _ rfl
          have z3 := hp.1.cell 3 _ rfl
          have z4 := hp.1.cell 4 _ rfl
          have z5 := hp.1.cell 5 _ rfl
          have z6 := hp.1.cell 6 _ rfl
          have z7 := hp.1.cell 7 _ rfl
          refine bodyPost_ret_by (v := .agg #[.int .i64 1, .int .i64 0, .int .i64 0, .int .i64 f, .int .i64 1, .int .i64 0, .int .i64 0, .string ⟨#[]⟩]) ?_ rfl ⟨⟨1, 0, 0, f, 1, 0, 0, ⟨#[]⟩⟩, rfl, king0, D.src, D.gr⟩
          simp [results, go_sem, z0, z1, z2, z3, z4, z5, z6, z7]
        · have h2n : (aw == -1) = false := by simpa using h2
          by_cases h5 : 0 < aw
          · have h3n : decide (aw < 0) = false := by simp; omega
            by_cases h6 : aw ≤ 7
            · go_wp2_with fail
              refine (HW.out _).mono ?_
              rintro e wz ⟨rfl, rfl⟩
              have r0 := Box.cell res 0 _ rfl
              have r1 := Box.cell res 1 _ rfl
              have r2 := Box.cell res 2 _ rfl
              have r3 := Box.cell res 3 _ rfl
              have r4 := Box.cell res 4 _ rfl
              have r5 := Box.cell res 5 _ rfl
              have r6 := Box.cell res 6 _ rfl
              have r7 := Box.cell res 7 _ rfl
              have f0 := World.ownsRow.frozenAt res 0
              have f1 := World.ownsRow.frozenAt res 1
              have f2 := World.ownsRow.frozenAt res 2
              have f3 := World.ownsRow.frozenAt res 3
              have f4 := World.ownsRow.frozenAt res 4
              have f5 := World.ownsRow.frozenAt res 5
              have f6 := World.ownsRow.frozenAt res 6
              have f7 := World.ownsRow.frozenAt res 7
              have HP8 := Lib.hid (Box.put8 res (.int .i64 1) (.int .i64 0) (.int .i64 0) (.int .i64 f) (.int .i64 3) (.int .i64 wd) (.int .i64 0) (.string ⟨#[]⟩))
              go_wp2
              have hp := HP8.out
              have D := D.store hp.2 (Nat.le_refl _)
              generalize (((((((w4.setCell ⟨w.heap.size, 0, none⟩ (.int .i64 1)).setCell ⟨w.heap.size, 1, none⟩ (.int .i64 0)).setCell ⟨w.heap.size, 2, none⟩ (.int .i64 0)).setCell ⟨w.heap.size, 3, none⟩ (.int .i64 f)).setCell ⟨w.heap.size, 4, none⟩ (.int .i64 3)).setCell ⟨w.heap.size, 5, none⟩ (.int .i64 wd)).setCell ⟨w.heap.size, 6, none⟩ (.int .i64 0)).setCell ⟨w.heap.size, 7, none⟩ (.string ⟨#[]⟩) = Wf at hp D ⊢
              have z0 := hp.1.cell 0 _ rfl
              have z1 := hp.1.cell 1 _ rfl
              have z2 := hp.1.cell 2 _ rfl
              have z3 := hp.1.cell 3 _ rfl
              have z4 := hp.1.cell 4 _ rfl
              have z5 := hp.1.cell 5 _ rfl
              have z6 := hp.1.cell 6 _ rfl
              have z7 := hp.1.cell 7 _ rfl
              refine bodyPost_ret_by (v := .agg #[.int .i64 1, .int .i64 0, .int .i64 0, .int .i64 f, .int .i64 3, .int .i64 wd, .int .i64 0, .string ⟨#[]⟩]) ?_ rfl ⟨⟨1, 0, 0, f, 3, wd, 0, ⟨#[]⟩⟩, rfl, king0, D.src, D.gr⟩
              simp [results, go_sem, z0, z1, z2, z3, z4, z5, z6, z7]
            · have h6n : decide (aw ≤ 7) = false := by simpa using h6
              go_wp2_with fail
              refine (HW.out _).mono ?_
              rintro e wz ⟨rfl, rfl⟩
              have r0 := Box.cell res 0 _ rfl
              have r1 := Box.cell res 1 _ rfl
              have r2 := Box.cell res 2 _ rfl
              have r3 := Box.cell res 3 _ rfl
              have r4 := Box.cell res 4 _ rfl
              have r5 := Box.cell res 5 _ rfl
              have r6 := Box.cell res 6 _ rfl
              have r7 := Box.cell res 7 _ rfl
              have f0 := World.ownsRow.frozenAt res 0
              have f1 := World.ownsRow.frozenAt res 1
              have f2 := World.ownsRow.frozenAt res 2
              have f3 := World.ownsRow.frozenAt res 3
              have f4 := World.ownsRow.frozenAt res 4
              have f5 := World.ownsRow.frozenAt res 5
              have f6 := World.ownsRow.frozenAt res 6
              have f7 := World.ownsRow.frozenAt res 7
              have HP8 := Lib.hid (Box.put8 res (.int .i64 5) (.int .i64 0) (.int .i64 0) (.int .i64 0) (.int .i64 0) (.int .i64 wd) (.int .i64 0) (.string ⟨#[]⟩))
              go_wp2
              have hp := HP8.out
              have D := D.store hp.2 (Nat.le_refl _)
              generalize (((((((w4.setCell ⟨w.heap.size, 0, none⟩ (.int .i64 5)).setCell ⟨w.heap.size, 1, none⟩ (.int .i64 0)).setCell ⟨w.heap.size, 2, none⟩ (.int .i64 0)).setCell ⟨w.heap.size, 3, none⟩ (.int .i64 0)).setCell ⟨w.heap.size, 4, none⟩ (.int .i64 0)).setCell ⟨w.heap.size, 5, none⟩ (.int .i64 wd)).setCell ⟨w.heap.size, 6, none⟩ (.int .i64 0)).setCell ⟨w.heap.size, 7, none⟩ (.string ⟨#[]⟩) = Wf at hp D ⊢
              have z0 := hp.1.cell 0 _ rfl
              have z1 := hp.1.cell 1 _ rfl
              have z2 := hp.1.cell 2 _ rfl
              have z3 := hp.1.cell 3 _ rfl
              have z4 := hp.1.cell 4 _ rfl
              have z5 := hp.1.cell 5 _ rfl
              have z6 := hp.1.cell 6 _ rfl
              have z7 := hp.1.cell 7 _ rfl
              refine bodyPost_ret_by (v := .agg #[.int .i64 5, .int .i64 0, .int .i64 0, .int .i64 0, .int .i64 0, .int .i64 wd, .int .i64 0, .string ⟨#[]⟩]) ?_ rfl ⟨⟨5, 0, 0, 0, 0, wd, 0, ⟨#[]⟩⟩, rfl, king0, D.src, D.gr⟩
              simp [results, go_sem, z0, z1, z2, z3, z4, z5, z6, z7]
          · have h5n : decide (0 < aw) = false := by simpa using h5
            by_cases h3 : aw < 0
            · by_cases h4 : -7 ≤ aw
              · go_wp2_with fail
                refine (HW.out _).mono ?_
                rintro e wz ⟨rfl, rfl⟩
                have r0 := Box.cell res 0 _ rfl
                have r1 := Box.cell res 1 _ rfl
                have r2 := Box.cell res 2 _ rfl
                have r3 := Box.cell res 3 _ rfl
                have r4 := Box.cell res 4 _ rfl
                have r5 := Box.cell res 5 _ rfl
                have r6 := Box.cell res 6 _ rfl
                have r7 := Box.cell res 7 _ rfl
                have f0 := World.ownsRow.frozenAt res 0
                have f1 := World.ownsRow.frozenAt res 1
                have f2 := World.ownsRow.frozenAt res 2
                have f3 := World.ownsRow.frozenAt res 3
                have f4 := World.ownsRow.frozenAt res 4
                have f5 := World.ownsRow.frozenAt res 5
                have f6 := World.ownsRow.frozenAt res 6
                have f7 := World.ownsRow.frozenAt res 7
                have HP8 := Lib.hid (Box.put8 res (.int .i64 1) (.int .i64 0) (.int .i64 0) (.int .i64 f) (.int .i64 4) (.int .i64 wd) (.int .i64 0) (.string ⟨#[]⟩))
                go_wp2
                have hp := HP8.out
                have D := D.store hp.2 (Nat.le_refl _)
                generalize (((((((w4.setCell ⟨w.heap.size, 0, none⟩ (.int .i64 1)).setCell ⟨w.heap.size, 1, none⟩ (.int .i64 0)).setCell ⟨w.heap.size, 2, none⟩ (.int .i64 0)).setCell ⟨w.heap.size, 3, none⟩ (.int .i64 f)).setCell ⟨w.heap.size, 4, none⟩ (.int .i64 4)).setCell ⟨w.heap.size, 5, none⟩ (.int .i64 wd)).setCell ⟨w.heap.size, 6, none⟩ (.int .i64 0)).setCell ⟨w.heap.size, 7, none⟩ (.string ⟨#[]⟩) = Wf at hp D ⊢
                have z0 := hp.1.cell 0 _ rfl
                have z1 := hp.1.cell 1 _ rfl
                have z2 := hp.1.cell 2 _ rfl
                have z3 := hp.1.cell 3 _ rfl
                have z4 := hp.1.cell 4 _ rfl
                have z5 := hp.1.cell 5 _ rfl
                have z6 := hp.1.cell 6 _ rfl
                have z7 := hp.1.cell 7 _ rfl
                refine bodyPost_ret_by (v := .agg #[.int .i64 1, .int .i64 0, .int .i64 0, .int .i64 f, .int .i64 4, .int .i64 wd, .int .i64 0, .string ⟨#[]⟩]) ?_ rfl ⟨⟨1, 0, 0, f, 4, wd, 0, ⟨#[]⟩⟩, rfl, king0, D.src, D.gr⟩
                simp [results, go_sem, z0, z1, z2, z3, z4, z5, z6, z7]
              · have h4n : decide (-7 ≤ aw) = false := by simpa using h4
                go_wp2_with fail
                refine (HW.out _).mono ?_
                rintro e wz ⟨rfl, rfl⟩
                have r0 := Box.cell res 0 _ rfl
                have r1 := Box.cell res 1 _ rfl
                have r2 := Box.cell res 2 _ rfl
                have r3 := Box.cell res 3 _ rfl
                have r4 := Box.cell res 4 _ rfl
                have r5 := Box.cell res 5 _ rfl
                have r6 := Box.cell res 6 _ rfl
                have r7 := Box.cell res 7 _ rfl
                have f0 := World.ownsRow.frozenAt res 0
                have f1 := World.ownsRow.frozenAt res 1
                have f2 := World.ownsRow.frozenAt res 2
                have f3 := World.ownsRow.frozenAt res 3
                have f4 := World.ownsRow.frozenAt res 4
                have f5 := World.ownsRow.frozenAt res 5
                have f6 := World.ownsRow.frozenAt res 6
                have f7 := World.ownsRow.frozenAt res 7
                have HP8 := Lib.hid (Box.put8 res (.int .i64 5) (.int .i64 0) (.int .i64 0) (.int .i64 0) (.int .i64 0) (.int .i64 wd) (.int .i64 0) (.string ⟨#[]⟩))
                go_wp2
                have hp := HP8.out
                have D := D.store hp.2 (Nat.le_refl _)
                generalize (((((((w4.setCell ⟨w.heap.size, 0, none⟩ (.int .i64 5)).setCell ⟨w.heap.size, 1, none⟩ (.int .i64 0)).setCell ⟨w.heap.size, 2, none⟩ (.int .i64 0)).setCell ⟨w.heap.size, 3, none⟩ (.int .i64 0)).setCell ⟨w.heap.size, 4, none⟩ (.int .i64 0)).setCell ⟨w.heap.size, 5, none⟩ (.int .i64 wd)).setCell ⟨w.heap.size, 6, none⟩ (.int .i64 0)).setCell ⟨w.heap.size, 7, none⟩ (.string ⟨#[]⟩) = Wf at hp D ⊢
                have z0 := hp.1.cell 0 _ rfl
                have z1 := hp.1.cell 1 _ rfl
                have z2 := hp.1.cell 2 _ rfl
                have z3 := hp.1.cell 3 _ rfl
                have z4 := hp.1.cell 4 _ rfl
                have z5 := hp.1.cell 5 _ rfl
                have z6 := hp.1.cell 6 _ rfl
                have z7 := hp.1.cell 7 _ rfl
                refine bodyPost_ret_by (v := .agg #[.int .i64 5, .int .i64 0, .int .i64 0, .int .i64 0, .int .i64 0, .int .i64 wd, .int .i64 0, .string ⟨#[]⟩]) ?_ rfl ⟨⟨5, 0, 0, 0, 0, wd, 0, ⟨#[]⟩⟩, rfl, king0, D.src, D.gr⟩
                simp [results, go_sem, z0, z1, z2, z3, z4, z5, z6, z7]
            · have h3n : decide (aw < 0) = false := by simpa using h3
              exfalso
              omega
    · have q1' : (r == 1) = false := by simpa using q1
      by_cases q2 : r = 2
      · subst q2
        clear dat
        have hrw := hrd _ D.gr
        go_wp2_with fail
        refine (l07On_any a ca rs n _ (by omega) hrw).mono ?_
        rintro e w4 ⟨g, c, xs, rfl, hxl, hon, hown, hB4⟩
        have hown := own_base hown D.size
        have res := Box.below res hB4
        have D := D.below hB4
        clear hB4 hrw
        by_cases hx0 : 0 < xs.length
        · have hx0' : (0 : Int) < (xs.length : Int) := by omega
          go_wp2_with fail
          refine (HN.out xs.length _ (by omega) (by omega) D.src).mono ?_
          rintro e w1 ⟨u, rfl, hu0, hu1, hs, hG⟩
          have res := Box.keepA res hG D.hp
          have hown := own_keepA hown hG D.hp
          have D := D.call hs hG
          clear hs hG
          obtain ⟨j, rfl⟩ : ∃ j : Nat, u = j := ⟨u.toNat, by omega⟩
          have hj : j < xs.length := by omega
          have hj' : (j : Int) < (xs.length : Int) := by omega
          have hxj := List.getElem?_eq_getElem hj
          obtain ⟨k, m, hk, hm, hmn0, hmn1⟩ := hon _ (List.getElem_mem hj)
          rw [hk] at hxj
          have cj : w1.cell? ⟨g, j, none⟩ = some (.int .i64 (k : Nat)) := by simpa using own_at encI_len hown hxj (j := 0) rfl
          have hkl := (List.getElem?_eq_some_iff.1 hm).1
          have hkl' : (k : Int) < (rs.length : Int) := by omega
          have hmem := List.mem_of_getElem? hm
          have hm0 := hfr m hmem
          have hmk := hkg m hmem
          have hrw := hrd _ D.gr
          obtain ⟨b, off, rfl, hb, e0, e1, e2⟩ := hrw.rg hm
          clear hk hxj hm hmem hon hu0 hu1 hxl hrw
          have loc := Box.new w1 119 [.string m.king, .int .i64 m.fr, .int .i64 m.to] w.heap.size D.size (by simp)
          have res := Box.below res (belowA w1 (.cells #[.string m.king, .int .i64 m.fr, .int .i64 m.to] 119))
          have D := D.below (belowA w1 (.cells #[.string m.king, .int .i64 m.fr, .int .i64 m.to] 119))
          have hlr2 : w.heap.size ≠ w1.heap.size := by have := res.lt; have := (own_lt hown).2; have := (own_lt hown).1; omega
          go_upto_region 19 with (fail)
          generalize w1.alloc (.cells #[.string m.king, .int .i64 m.fr, .int .i64 m.to] 119) = w6 at D res loc ⊢
          generalize w1.heap.size = lb at loc hlr2 ⊢
          clear e0 e1 e2 cj hown
          have HY := Lib.hid (fun W => l07Year_any m n W hm0 hmn0 hn)
          generalize rgY m.fr n = yy at HY
          obtain ⟨zz, hzz⟩ : ∃ zz, min 99 yy = zz := ⟨_, rfl⟩
          have D0 := D.below (Below.refl _ w6).drew
          have res0 := Box.below res (Below.refl _ w6).drew
          have l0 := Box.cell loc 0 _ rfl
          have l1 := Box.cell loc 1 _ rfl
          have l2 := Box.cell loc 2 _ rfl
          have hll := loc.lt.2
          refine MAny.region (S := fun w' => w'.cell? ⟨lb, 0, none⟩ = some (.string m.king) ∧ w'.cell? ⟨lb, 1, none⟩ = some (.int .i64 m.fr) ∧ w'.cell? ⟨lb, 2, none⟩ = some (.int .i64 m.to)) (last := 7) (by kernel_rfl) ?_
          have hHeld : w6.drew.cell? ⟨lb, 0, none⟩ = some (.string m.king) ∧ w6.drew.cell? ⟨lb, 1, none⟩ = some (.int .i64 m.fr) ∧ w6.drew.cell? ⟨lb, 2, none⟩ = some (.int .i64 m.to) := ⟨l0, l1, l2⟩
          have hll0 : lb < w6.drew.heap.size := hll
          clear D res l0 l1 l2 hll loc
          generalize w6.drew = W0 at D0 res0 hHeld hll0 ⊢
          refine MAny.take (i := 0) (v := ?_) rfl (by kernel_rfl) (by kernel_rfl) (by kernel_rfl) (fun _ _ _ h => h) (by kernel_rfl) (Or.inl ⟨by rfl, ?_⟩) (by assumption) ?_
          rotate_left
          · (intro w' hSw; (try dsimp only at hSw); go_simp; try (with_reducible rfl))
          try simp only [Act.put, List.setIfInBounds_toArray]
          refine MAny.take (i := 1) (v := ?_) rfl (by kernel_rfl) (by kernel_rfl) (by kernel_rfl) (fun _ _ _ h => h) (by kernel_rfl) (Or.inl ⟨by rfl, ?_⟩) (by assumption) ?_
          rotate_left
          · (intro w' hSw; (try dsimp only at hSw); go_simp; try (with_reducible rfl))
          try simp only [Act.put]
          refine MAny.take (i := 4) (v := ?_) rfl (by kernel_rfl) (by kernel_rfl) (by kernel_rfl) (fun _ _ _ h => h) (by kernel_rfl) (Or.inl ⟨by rfl, ?_⟩) (by assumption) ?_
          rotate_left
          · (intro w' hSw; (try dsimp only at hSw); go_simp; try (with_reducible rfl))
          try simp only [Act.put]
          refine MAny.take (i := 5) (v := ?_) rfl (by kernel_rfl) (by kernel_rfl) (by kernel_rfl) (fun _ _ _ h => h) (by kernel_rfl) (Or.inl ⟨by rfl, ?_⟩) (by assumption) ?_
          rotate_left
          · (intro w' hSw; (try dsimp only at hSw); go_simp; try (with_reducible rfl))
          try simp only [Act.put]
          refine MAny.ready (rs := [2]) (by kernel_rfl) (by simp) ?_
          refine MReady.cons rfl (fun K hK => ?_) MReady.nil
          go_simp
          go_wp2_with (go_at_call 127; refine (HY.out W0).mono ?_; rintro e w7 ⟨rfl, hB7⟩)
          have res := Box.below res0 hB7
          have D := D0.below hB7
          have hHeld : w7.cell? ⟨lb, 0, none⟩ = some (.string m.king) ∧ w7.cell? ⟨lb, 1, none⟩ = some (.int .i64 m.fr) ∧ w7.cell? ⟨lb, 2, none⟩ = some (.int .i64 m.to) := ⟨(hB7.cell (p := ⟨lb, 0, none⟩) hll0).trans hHeld.1, (hB7.cell (p := ⟨lb, 1, none⟩) hll0).trans hHeld.2.1, (hB7.cell (p := ⟨lb, 2, none⟩) hll0).trans hHeld.2.2⟩
          refine hK.out _ _ (.inr hHeld) ?_
          clear hK K D0 res0 hB7 hll0
          refine MAny.ready (rs := [3]) (by kernel_rfl) (by simp) ?_
          refine MReady.cons rfl (fun K hK => ?_) MReady.nil
          go_simp
          refine hK.out _ _ (.inr hHeld) ?_
          clear hK K
          refine MAny.ready (rs := [6]) (by kernel_rfl) (by simp) ?_
          refine MReady.cons rfl (fun K hK => ?_) MReady.nil
          go_simp
          refine hK.out _ _ (.inr hHeld) ?_
          clear hK K
          have r0 := Box.cell res 0 _ rfl
          have r1 := Box.cell res 1 _ rfl
          have r2 := Box.cell res 2 _ rfl
          have r3 := Box.cell res 3 _ rfl
          have r4 := Box.cell res 4 _ rfl
          have r5 := Box.cell res 5 _ rfl
          have r6 := Box.cell res 6 _ rfl
          have r7 := Box.cell res 7 _ rfl
          have f0 := World.ownsRow.frozenAt res 0
          have f1 := World.ownsRow.frozenAt res 1
          have f2 := World.ownsRow.frozenAt res 2
          have f3 := World.ownsRow.frozenAt res 3
          have f4 := World.ownsRow.frozenAt res 4
          have f5 := World.ownsRow.frozenAt res 5
          have f6 := World.ownsRow.frozenAt res 6
          have f7 := World.ownsRow.frozenAt res 7
          have HP8 := Lib.hid (Box.put8 res (.int .i64 2) (.int .i64 zz) (.int .i64 0) (.int .i64 0) (.int .i64 0) (.int .i64 0) (.int .i64 0) (.string m.king))
          refine MAny.ready (rs := [7]) (by kernel_rfl) (by simp) ?_
          refine MReady.cons rfl (fun K hK => ?_) MReady.nil
          go_simp
          refine hK.out _ _ (.inl rfl) ?_
          clear hK K
          refine MAny.done (by kernel_rfl) ?_ _
          try simp only [List.getElem_toArray, List.getElem_cons_succ, List.getElem_cons_zero]
          go_wp2
          have hp := HP8.out
          have D := D.store hp.2 (Nat.le_refl _)
          generalize (((((((w7.setCell ⟨w.heap.size, 0, none⟩ (.int .i64 2)).setCell ⟨w.heap.size, 1, none⟩ (.int .i64 zz)).setCell ⟨w.heap.size, 2, none⟩ (.int .i64 0)).setCell ⟨w.heap.size, 3, none⟩ (.int .i64 0)).setCell ⟨w.heap.size, 4, none⟩ (.int .i64 0)).setCell ⟨w.heap.size, 5, none⟩ (.int .i64 0)).setCell ⟨w.heap.size, 6, none⟩ (.int .i64 0)).setCell ⟨w.heap.size, 7, none⟩ (.string m.king) = Wf at hp D ⊢
          have z0 := hp.1.cell 0 _ rfl
          have z1 := hp.1.cell 1 _ rfl
          have z2 := hp.1.cell 2 _ rfl
          have z3 := hp.1.cell 3 _ rfl
          have z4 := hp.1.cell 4 _ rfl
          have z5 := hp.1.cell 5 _ rfl
          have z6 := hp.1.cell 6 _ rfl
          have z7 := hp.1.cell 7 _ rfl
          refine bodyPost_ret_by (v := .agg #[.int .i64 2, .int .i64 zz, .int .i64 0, .int .i64 0, .int .i64 0, .int .i64 0, .int .i64 0, .string m.king]) ?_ rfl ⟨⟨2, zz, 0, 0, 0, 0, 0, m.king⟩, rfl, hmk, D.src, D.gr⟩
          simp [results, go_sem, z0, z1, z2, z3, z4, z5, z6, z7]
        · have hx0n : decide (0 < xs.length) = false := by simpa using hx0
          have hx1n : decide ((0 : Int) < (xs.length : Int)) = false := by simpa using hx0
          go_wp2_with fail
          refine (HW.out _).mono ?_
          rintro e wz ⟨rfl, rfl⟩
          have r0 := Box.cell res 0 _ rfl
          have r1 := Box.cell res 1 _ rfl
          have r2 := Box.cell res 2 _ rfl
          have r3 := Box.cell res 3 _ rfl
          have r4 := Box.cell res 4 _ rfl
          have r5 := Box.cell res 5 _ rfl
          have r6 := Box.cell res 6 _ rfl
          have r7 := Box.cell res 7 _ rfl
          have f0 := World.ownsRow.frozenAt res 0
          have f1 := World.ownsRow.frozenAt res 1
          have f2 := World.ownsRow.frozenAt res 2
          have f3 := World.ownsRow.frozenAt res 3
          have f4 := World.ownsRow.frozenAt res 4
          have f5 := World.ownsRow.frozenAt res 5
          have f6 := World.ownsRow.frozenAt res 6
          have f7 := World.ownsRow.frozenAt res 7
          have HP8 := Lib.hid (Box.put8 res (.int .i64 5) (.int .i64 0) (.int .i64 0) (.int .i64 0) (.int .i64 0) (.int .i64 wd) (.int .i64 0) (.string ⟨#[]⟩))
          go_wp2
          have hp := HP8.out
          have D := D.store hp.2 (Nat.le_refl _)
          generalize (((((((w4.setCell ⟨w.heap.size, 0, none⟩ (.int .i64 5)).setCell ⟨w.heap.size, 1, none⟩ (.int .i64 0)).setCell ⟨w.heap.size, 2, none⟩ (.int .i64 0)).setCell ⟨w.heap.size, 3, none⟩ (.int .i64 0)).setCell ⟨w.heap.size, 4, none⟩ (.int .i64 0)).setCell ⟨w.heap.size, 5, none⟩ (.int .i64 wd)).setCell ⟨w.heap.size, 6, none⟩ (.int .i64 0)).setCell ⟨w.heap.size, 7, none⟩ (.string ⟨#[]⟩) = Wf at hp D ⊢
          have z0 := hp.1.cell 0 _ rfl
          have z1 := hp.1.cell 1 _ rfl
          have z2 := hp.1.cell 2 _ rfl
          have z3 := hp.1.cell 3 _ rfl
          have z4 := hp.1.cell 4 _ rfl
          have z5 := hp.1.cell 5 _ rfl
          have z6 := hp.1.cell 6 _ rfl
          have z7 := hp.1.cell 7 _ rfl
          refine bodyPost_ret_by (v := .agg #[.int .i64 5, .int .i64 0, .int .i64 0, .int .i64 0, .int .i64 0, .int .i64 wd, .int .i64 0, .string ⟨#[]⟩]) ?_ rfl ⟨⟨5, 0, 0, 0, 0, wd, 0, ⟨#[]⟩⟩, rfl, king0, D.src, D.gr⟩
          simp [results, go_sem, z0, z1, z2, z3, z4, z5, z6, z7]
      · have q2' : (r == 2) = false := by simpa using q2
        by_cases q3 : r = 3
        · subst q3
          clear dat
          go_wp2_with fail
          refine (HN.out 7 _ (by decide) (by decide) D.src).mono ?_
          rintro e w2 ⟨s, rfl, hs0, hs1, hs, hG⟩
          have res := Box.keepA res hG D.hp
          have D := D.call hs hG
          clear hs hG
          go_wp2_with fail
          refine (l06On_any s n _ hn0 hn).mono ?_
          rintro e w5 ⟨rfl, hB5⟩
          have res := Box.below res hB5
          have D := D.below hB5
          clear hB5
          generalize (yoR s n).1 = y
          generalize (yoR s n).2 = ok
          cases ok
          · go_wp2_with fail
            refine (HW.out _).mono ?_
            rintro e wz ⟨rfl, rfl⟩
            have r0 := Box.cell res 0 _ rfl
            have r1 := Box.cell res 1 _ rfl
            have r2 := Box.cell res 2 _ rfl
            have r3 := Box.cell res 3 _ rfl
            have r4 := Box.cell res 4 _ rfl
            have r5 := Box.cell res 5 _ rfl
            have r6 := Box.cell res 6 _ rfl
            have r7 := Box.cell res 7 _ rfl
            have f0 := World.ownsRow.frozenAt res 0
            have f1 := World.ownsRow.frozenAt res 1
            have f2 := World.ownsRow.frozenAt res 2
            have f3 := World.ownsRow.frozenAt res 3
            have f4 := World.ownsRow.frozenAt res 4
            have f5 := World.ownsRow.frozenAt res 5
            have f6 := World.ownsRow.frozenAt res 6
            have f7 := World.ownsRow.frozenAt res 7
            have HP8 := Lib.hid (Box.put8 res (.int .i64 5) (.int .i64 0) (.int .i64 0) (.int .i64 0) (.int .i64 0) (.int .i64 wd) (.int .i64 0) (.string ⟨#[]⟩))
            go_wp2
            have hp := HP8.out
            have D := D.store hp.2 (Nat.le_refl _)
            generalize (((((((w5.setCell ⟨w.heap.size, 0, none⟩ (.int .i64 5)).setCell ⟨w.heap.size, 1, none⟩ (.int .i64 0)).setCell ⟨w.heap.size, 2, none⟩ (.int .i64 0)).setCell ⟨w.heap.size, 3, none⟩ (.int .i64 0)).setCell ⟨w.heap.size, 4, none⟩ (.int .i64 0)).setCell ⟨w.heap.size, 5, none⟩ (.int .i64 wd)).setCell ⟨w.heap.size, 6, none⟩ (.int .i64 0)).setCell ⟨w.heap.size, 7, none⟩ (.string ⟨#[]⟩) = Wf at hp D ⊢
            have z0 := hp.1.cell 0 _ rfl
            have z1 := hp.1.cell 1 _ rfl
            have z2 := hp.1.cell 2 _ rfl
            have z3 := hp.1.cell 3 _ rfl
            have z4 := hp.1.cell 4 _ rfl
            have z5 := hp.1.cell 5 _ rfl
            have z6 := hp.1.cell 6 _ rfl
            have z7 := hp.1.cell 7 _ rfl
            refine bodyPost_ret_by (v := .agg #[.int .i64 5, .int .i64 0, .int .i64 0, .int .i64 0, .int .i64 0, .int .i64 wd, .int .i64 0, .string ⟨#[]⟩]) ?_ rfl ⟨⟨5, 0, 0, 0, 0, wd, 0, ⟨#[]⟩⟩, rfl, king0, D.src, D.gr⟩
            simp [results, go_sem, z0, z1, z2, z3, z4, z5, z6, z7]
          · have r0 := Box.cell res 0 _ rfl
            have r1 := Box.cell res 1 _ rfl
            have r2 := Box.cell res 2 _ rfl
            have r3 := Box.cell res 3 _ rfl
            have r4 := Box.cell res 4 _ rfl
            have r5 := Box.cell res 5 _ rfl
            have r6 := Box.cell res 6 _ rfl
            have r7 := Box.cell res 7 _ rfl
            have f0 := World.ownsRow.frozenAt res 0
            have f1 := World.ownsRow.frozenAt res 1
            have f2 := World.ownsRow.frozenAt res 2
            have f3 := World.ownsRow.frozenAt res 3
            have f4 := World.ownsRow.frozenAt res 4
            have f5 := World.ownsRow.frozenAt res 5
            have f6 := World.ownsRow.frozenAt res 6
            have f7 := World.ownsRow.frozenAt res 7
            have HP8 := Lib.hid (Box.put8 res (.int .i64 3) (.int .i64 y) (.int .i64 0) (.int .i64 0) (.int .i64 0) (.int .i64 0) (.int .i64 s) (.string ⟨#[]⟩))
            go_wp2
            have hp := HP8.out
            have D := D.store hp.2 (Nat.le_refl _)
            generalize (((((((w5.setCell ⟨w.heap.size, 0, none⟩ (.int .i64 3)).setCell ⟨w.heap.size, 1, none⟩ (.int .i64 y)).setCell ⟨w.heap.size, 2, none⟩ (.int .i64 0)).setCell ⟨w.heap.size, 3, none⟩ (.int .i64 0)).setCell ⟨w.heap.size, 4, none⟩ (.int .i64 0)).setCell ⟨w.heap.size, 5, none⟩ (.int .i64 0)).setCell ⟨w.heap.size, 6, none⟩ (.int .i64 s)).setCell ⟨w.heap.size, 7, none⟩ (.string ⟨#[]⟩) = Wf at hp D ⊢
            have z0 := hp.1.cell 0 _ rfl
            have z1 := hp.1.cell 1 _ rfl
            have z2 := hp.1.cell 2 _ rfl
            have z3 := hp.1.cell 3 _ rfl
            have z4 := hp.1.cell 4 _ rfl
            have z5 := hp.1.cell 5 _ rfl
            have z6 := hp.1.cell 6 _ rfl
            have z7 := hp.1.cell 7 _ rfl
            refine bodyPost_ret_by (v := .agg #[.int .i64 3, .int .i64 y, .int .i64 0, .int .i64 0, .int .i64 0, .int .i64 0, .int .i64 s, .string ⟨#[]⟩]) ?_ rfl ⟨⟨3, y, 0, 0, 0, 0, s, ⟨#[]⟩⟩, rfl, king0, D.src, D.gr⟩
            simp [results, go_sem, z0, z1, z2, z3, z4, z5, z6, z7]
        · have q3' : (r == 3) = false := by simpa using q3
          by_cases q4 : r = 4
          · subst q4
            clear dat
            go_wp2_with fail
            refine (HN.out 3 _ (by decide) (by decide) D.src).mono ?_
            rintro e w3 ⟨s, rfl, hs0, hs1, hs, hG⟩
            have res := Box.keepA res hG D.hp
            have D := D.call hs hG
            clear hs hG
            go_wp2_with fail
            refine (l08On_any s n _ (by omega) (by omega) hn0 hn).mono ?_
            rintro e w5 ⟨rfl, hB5⟩
            have res := Box.below res hB5
            have D := D.below hB5
            clear hB5
            generalize ioO s n = y
            have r0 := Box.cell res 0 _ rfl
            have r1 := Box.cell res 1 _ rfl
            have r2 := Box.cell res 2 _ rfl
            have r3 := Box.cell res 3 _ rfl
            have r4 := Box.cell res 4 _ rfl
            have r5 := Box.cell res 5 _ rfl
            have r6 := Box.cell res 6 _ rfl
            have r7 := Box.cell res 7 _ rfl
            have f0 := World.ownsRow.frozenAt res 0
            have f1 := World.ownsRow.frozenAt res 1
            have f2 := World.ownsRow.frozenAt res 2
            have f3 := World.ownsRow.frozenAt res 3
            have f4 := World.ownsRow.frozenAt res 4
            have f5 := World.ownsRow.frozenAt res 5
            have f6 := World.ownsRow.frozenAt res 6
            have f7 := World.ownsRow.frozenAt res 7
            have HP8 := Lib.hid (Box.put8 res (.int .i64 4) (.int .i64 y) (.int .i64 0) (.int .i64 0) (.int .i64 0) (.int .i64 0) (.int .i64 s) (.string ⟨#[]⟩))
            go_wp2
            have hp := HP8.out
            have D := D.store hp.2 (Nat.le_refl _)
            generalize (((((((w5.setCell ⟨w.heap.size, 0, none⟩ (.int .i64 4)).setCell ⟨w.heap.size, 1, none⟩ (.int .i64 y)).setCell ⟨w.heap.size, 2, none⟩ (.int .i64 0)).setCell ⟨w.heap.size, 3, none⟩ (.int .i64 0)).setCell ⟨w.heap.size, 4, none⟩ (.int .i64 0)).setCell ⟨w.heap.size, 5, none⟩ (.int .i64 0)).setCell ⟨w.heap.size, 6, none⟩ (.int .i64 s)).setCell ⟨w.heap.size, 7, none⟩ (.string ⟨#[]⟩) = Wf at hp D ⊢
            have z0 := hp.1.cell 0 _ rfl
            have z1 := hp.1.cell 1 _ rfl
            have z2 := hp.1.cell 2 _ rfl
            have z3 := hp.1.cell 3 _ rfl
            have z4 := hp.1.cell 4 _ rfl
            have z5 := hp.1.cell 5 _ rfl
            have z6 := hp.1.cell 6 _ rfl
            have z7 := hp.1.cell 7 _ rfl
            refine bodyPost_ret_by (v := .agg #[.int .i64 4, .int .i64 y, .int .i64 0, .int .i64 0, .int .i64 0, .int .i64 0, .int .i64 s, .string ⟨#[]⟩]) ?_ rfl ⟨⟨4, y, 0, 0, 0, 0, s, ⟨#[]⟩⟩, rfl, king0, D.src, D.gr⟩
            simp [results, go_sem, z0, z1, z2, z3, z4, z5, z6, z7]
          · have q4' : (r == 4) = false := by simpa using q4
            clear dat
            go_wp2_with fail
            refine (HW.out _).mono ?_
            rintro e wz ⟨rfl, rfl⟩
            have r0 := Box.cell res 0 _ rfl
            have r1 := Box.cell res 1 _ rfl
            have r2 := Box.cell res 2 _ rfl
            have r3 := Box.cell res 3 _ rfl
            have r4 := Box.cell res 4 _ rfl
            have r5 := Box.cell res 5 _ rfl
            have r6 := Box.cell res 6 _ rfl
            have r7 := Box.cell res 7 _ rfl
            have f0 := World.ownsRow.frozenAt res 0
            have f1 := World.ownsRow.frozenAt res 1
            have f2 := World.ownsRow.frozenAt res 2
            have f3 := World.ownsRow.frozenAt res 3
            have f4 := World.ownsRow.frozenAt res 4
            have f5 := World.ownsRow.frozenAt res 5
            have f6 := World.ownsRow.frozenAt res 6
            have f7 := World.ownsRow.frozenAt res 7
            have HP8 := Lib.hid (Box.put8 res (.int .i64 5) (.int .i64 0) (.int .i64 0) (.int .i64 0) (.int .i64 0) (.int .i64 wd) (.int .i64 0) (.string ⟨#[]⟩))
            go_wp2
            have hp := HP8.out
            have D := D.store hp.2 (Nat.le_refl _)
            generalize (((((((w3.setCell ⟨w.heap.size, 0, none⟩ (.int .i64 5)).setCell ⟨w.heap.size, 1, none⟩ (.int .i64 0)).setCell ⟨w.heap.size, 2, none⟩ (.int .i64 0)).setCell ⟨w.heap.size, 3, none⟩ (.int .i64 0)).setCell ⟨w.heap.size, 4, none⟩ (.int .i64 0)).setCell ⟨w.heap.size, 5, none⟩ (.int .i64 wd)).setCell ⟨w.heap.size, 6, none⟩ (.int .i64 0)).setCell ⟨w.heap.size, 7, none⟩ (.string ⟨#[]⟩) = Wf at hp D ⊢
            have z0 := hp.1.cell 0 _ rfl
            have z1 := hp.1.cell 1 _ rfl
            have z2 := hp.1.cell 2 _ rfl
            have z3 := hp.1.cell 3 _ rfl
            have z4 := hp.1.cell 4 _ rfl
            have z5 := hp.1.cell 5 _ rfl
            have z6 := hp.1.cell 6 _ rfl
            have z7 := hp.1.cell 7 _ rfl
            refine bodyPost_ret_by (v := .agg #[.int .i64 5, .int .i64 0, .int .i64 0, .int .i64 0, .int .i64 0, .int .i64 wd, .int .i64 0, .string ⟨#[]⟩]) ?_ rfl ⟨⟨5, 0, 0, 0, 0, wd, 0, ⟨#[]⟩⟩, rfl, king0, D.src, D.gr⟩
            simp [results, go_sem, z0, z1, z2, z3, z4, z5, z6, z7]
end Go.Proofs.YtdbgnbohdplndaaGreatDoor
