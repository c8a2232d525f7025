/- Walk: ReadClause of the reference. Printed by gen_rdi.py. -/
import Derived.Test.YteajkofgcmfaoaaGreatDoorRd5
namespace Go.Proofs.YteajkofgcmfaoaaGreatDoor
open Go.ChangeShapes Go.WideShapes Go.ChangeAt Go.RowKit Go.IntWalk

theorem rdR_spec (s : ByteArray) : rdR s = if okCl (guS rnB (wsB 32 s)) = true ∧ txtB (guS rnB (wsB 32 s)) = jnS 32 (numW (wsB 32 s) (guS rnB (wsB 32 s))) then (guS rnB (wsB 32 s), 0) else (clZ, 6) := by
  obtain ⟨h1, h2⟩ := read_law rnB (wsB_ne 32 s) (wsB_free 32 s)
  unfold rdR
  by_cases h : okCl (readI rnB (wsB 32 s)) = true
  · have h3 : okS rnB (wsB 32 s) = true := h1.trans h
    unfold okS at h3
    simp only [Bool.and_eq_true, decide_eq_true_eq] at h3
    rw [if_pos h, if_pos h3, h2 h]
  · rw [if_neg h, if_neg]
    intro hh
    apply h
    rw [← h1]
    unfold okS
    simp only [Bool.and_eq_true, decide_eq_true_eq]
    exact hh
theorem guS_num (rn : ByteArray → Int) : ∀ L : List ByteArray, okCl (guS rn L) = true → L.length ≤ 6 ∧ ((guS rn L).kind = 2 ∨ (guS rn L).kind = 3 ∨ (guS rn L).kind = 4 → L.length = 6)
  | [], h => by rw [show guS rn [] = clN from rfl, okCl_N] at h; cases h
  | [_], h => by rw [show guS rn [_] = clN from rfl, okCl_N] at h; cases h
  | [a, x], _ => ⟨by simp, fun h => by rw [guS2] at h; split at h <;> (revert h; simp [clN])⟩
  | [a, c, x], _ => ⟨by simp, fun h => by rw [guS3] at h; split at h <;> (revert h; simp [clN])⟩
  | [_, _, _, _], h => by rw [show guS rn [_, _, _, _] = clN from rfl, okCl_N] at h; cases h
  | [a, c, x, d, y], _ => ⟨by simp, fun h => by
      rw [guS5] at h
      split at h
      · split at h <;> (revert h; simp)
      · split at h
        · split at h <;> (revert h; simp)
        · revert h; simp [clN]⟩
  | [a, c, d, x, u, y], _ => ⟨by simp, fun _ => rfl⟩
  | a :: b :: c :: d :: e :: f :: k :: r, h => by rw [show guS rn (a :: b :: c :: d :: e :: f :: k :: r) = clN from rfl, okCl_N] at h; cases h
theorem set_enc (L : List ByteArray) (i : Nat) (x : ByteArray) : (L.flatMap encS).set i (.string x) = (L.set i x).flatMap encS := by
  rw [← encS_map, ← encS_map, List.map_set]

set_option maxRecDepth 100000 in
set_option maxHeartbeats 8000000 in
theorem specReadClause_any (s : ByteArray) (hs : s.size ≤ 1048576) (w : World) :
    Calls Tryz.prog 18 #[.string s] w fun e w' => e = .returned (.tuple #[clV (rdR s).1, .int .i64 (rdR s).2]) ∧ Below w.heap.size w w' := by
  have hk := guS_king rnB s.size (wsB 32 s) (wsB_part 32 s)
  have hR0 := rdR_spec s
  have hsz := wsB_part 32 s
  have hln := wsB_len 32 s
  have HSP := Lib.hid (fun W => show Calls Tryz.prog 38 #[.string s, .int .u8 32] W _ from l01Split_any s 32 W hs)
  have HG := fun g c W => l11Guess_any (wsB 32 s) g c W (wsB_ne 32 s) (by omega)
  have hnum := guS_num rnB (wsB 32 s)
  generalize rdR s = RR at hR0 ⊢
  generalize wsB 32 s = L at hk hR0 hsz hln HSP HG hnum
  generalize guS rnB L = m at hk hR0 HG hnum
  unfold clV at HG
  replace HG := Lib.hid HG
  have R := RP.start w
  have HM := Lib.hid (fun W => specClause_any m W (by omega))
  cases hok : okCl m
  · rw [hok] at HM
    have hE := Lib.hid (show RR = (clZ, 6) by rw [hR0, hok, if_neg (fun h => by cases h.1)])
    clear hR0 hok hnum
    go_enter Tryz.func18, Tryz.ntmps18
    go_upto_region 1 with (fail)
    have hw2 := R.res.lt.2
    generalize w.alloc (.cells #[.int .i64 0, .int .i64 0, .int .i64 0, .int .i64 0, .int .i64 0, .int .i64 0, .int .i64 0, .string ⟨#[]⟩] 31) = w2 at R hw2 ⊢
    go_wp2_with fail
    refine (HSP.out _).mono ?_
    rintro e w3 ⟨g, cp, rfl, ow, hB3⟩
    replace R := R.go hB3
    clear hB3 HSP
    go_wp2_with fail
    refine (HG.out g cp _ (Rd.of_own encS_len (by decide) ow)).mono ?_
    rintro e w4 ⟨rfl, hB4⟩
    replace R := R.go hB4
    replace ow := own_below ow hB4
    clear hB4 HG
    have hgl := own_lt ow
    have hA := At.start w4 [.int .i64 m.kind, .int .i64 m.number, .int .i64 m.month, .int .i64 m.feast, .int .i64 m.relation, .int .i64 m.weekday, .int .i64 m.style, .string m.king] 31
    go_upto_region 3 with (fail)
    generalize hW : w4.alloc (.cells #[.int .i64 m.kind, .int .i64 m.number, .int .i64 m.month, .int .i64 m.feast, .int .i64 m.relation, .int .i64 m.weekday, .int .i64 m.style, .string m.king] 31) = w5 at hA ⊢
    clear hW
    replace R := R.go hA.below
    replace ow := own_below ow hA.below
    have c0 := hA.cell 0 _ rfl
    have c1 := hA.cell 1 _ rfl
    have c2 := hA.cell 2 _ rfl
    have c3 := hA.cell 3 _ rfl
    have c4 := hA.cell 4 _ rfl
    have c5 := hA.cell 5 _ rfl
    have c6 := hA.cell 6 _ rfl
    have c7 := hA.cell 7 _ rfl
    go_wp2_with fail
    refine (HM.out _).mono ?_
    rintro e w6 ⟨rfl, hB6⟩
    replace R := R.go hB6
    replace hA := hA.step hB6
    replace ow := own_below ow hB6
    clear hB6 HM c0 c1 c2 c3 c4 c5 c6 c7
    have c0 := hA.cell 0 _ rfl
    have c1 := hA.cell 1 _ rfl
    have c2 := hA.cell 2 _ rfl
    have c3 := hA.cell 3 _ rfl
    have c4 := hA.cell 4 _ rfl
    have c5 := hA.cell 5 _ rfl
    have c6 := hA.cell 6 _ rfl
    have c7 := hA.cell 7 _ rfl
    have res := R.res
    have r0 := Box.cell res 0 _ rfl
    have r1 := Box.cell res 1 _ rfl
    have r2 := Box.cell res 2 _ rfl
    have r3 := Box.cell res 3 _ rfl
    have r4 := Box.cell res 4 _ rfl
    have r5 := Box.cell res 5 _ rfl
    have r6 := Box.cell res 6 _ rfl
    have r7 := Box.cell res 7 _ rfl
    have f0 := World.ownsRow.frozenAt res 0
    have f1 := World.ownsRow.frozenAt res 1
    have f2 := World.ownsRow.frozenAt res 2
    have f3 := World.ownsRow.frozenAt res 3
    have f4 := World.ownsRow.frozenAt res 4
    have f5 := World.ownsRow.frozenAt res 5
    have f6 := World.ownsRow.frozenAt res 6
    have f7 := World.ownsRow.frozenAt res 7
    have HP8 := Lib.hid (Box.put8 res (.int .i64 0) (.int .i64 0) (.int .i64 0) (.int .i64 0) (.int .i64 0) (.int .i64 0) (.int .i64 0) (.string ⟨#[]⟩))
    go_wp2
    have hp := HP8.out
    have hGf := RP.fin R hp.2
    generalize (((((((w6.setCell ⟨w.heap.size, 0, none⟩ (.int .i64 0)).setCell ⟨w.heap.size, 1, none⟩ (.int .i64 0)).setCell ⟨w.heap.size, 2, none⟩ (.int .i64 0)).setCell ⟨w.heap.size, 3, none⟩ (.int .i64 0)).setCell ⟨w.heap.size, 4, none⟩ (.int .i64 0)).setCell ⟨w.heap.size, 5, none⟩ (.int .i64 0)).setCell ⟨w.heap.size, 6, none⟩ (.int .i64 0)).setCell ⟨w.heap.size, 7, none⟩ (.string ⟨#[]⟩) = Wf at hp hGf ⊢
    have z0 := hp.1.cell 0 _ rfl
    have z1 := hp.1.cell 1 _ rfl
    have z2 := hp.1.cell 2 _ rfl
    have z3 := hp.1.cell 3 _ rfl
    have z4 := hp.1.cell 4 _ rfl
    have z5 := hp.1.cell 5 _ rfl
    have z6 := hp.1.cell 6 _ rfl
    have z7 := hp.1.cell 7 _ rfl
    refine bodyPost_ret_by (v := .tuple #[.agg #[.int .i64 0, .int .i64 0, .int .i64 0, .int .i64 0, .int .i64 0, .int .i64 0, .int .i64 0, .string ⟨#[]⟩], .int .i64 6]) ?_ rfl ⟨by rw [hE.out]; rfl, hGf⟩
    simp [results, go_sem, z0, z1, z2, z3, z4, z5, z6, z7]
  · rw [hok] at HM
    have hbd := okCl_bd hok
    have hnm := hnum hok
    have HX := Lib.hid (fun W => specTxt_any m W hok)
    clear hnum
    go_enter Tryz.func18, Tryz.ntmps18
    go_upto_region 1 with (fail)
    have hw2 := R.res.lt.2
    generalize w.alloc (.cells #[.int .i64 0, .int .i64 0, .int .i64 0, .int .i64 0, .int .i64 0, .int .i64 0, .int .i64 0, .string ⟨#[]⟩] 31) = w2 at R hw2 ⊢
    go_wp2_with fail
    refine (HSP.out _).mono ?_
    rintro e w3 ⟨g, cp, rfl, ow, hB3⟩
    replace R := R.go hB3
    clear hB3 HSP
    go_wp2_with fail
    refine (HG.out g cp _ (Rd.of_own encS_len (by decide) ow)).mono ?_
    rintro e w4 ⟨rfl, hB4⟩
    replace R := R.go hB4
    replace ow := own_below ow hB4
    clear hB4 HG
    have hgl := own_lt ow
    have hA := At.start w4 [.int .i64 m.kind, .int .i64 m.number, .int .i64 m.month, .int .i64 m.feast, .int .i64 m.relation, .int .i64 m.weekday, .int .i64 m.style, .string m.king] 31
    go_upto_region 3 with (fail)
    generalize hW : w4.alloc (.cells #[.int .i64 m.kind, .int .i64 m.number, .int .i64 m.month, .int .i64 m.feast, .int .i64 m.relation, .int .i64 m.weekday, .int .i64 m.style, .string m.king] 31) = w5 at hA ⊢
    clear hW
    replace R := R.go hA.below
    replace ow := own_below ow hA.below
    have c0 := hA.cell 0 _ rfl
    have c1 := hA.cell 1 _ rfl
    have c2 := hA.cell 2 _ rfl
    have c3 := hA.cell 3 _ rfl
    have c4 := hA.cell 4 _ rfl
    have c5 := hA.cell 5 _ rfl
    have c6 := hA.cell 6 _ rfl
    have c7 := hA.cell 7 _ rfl
    go_wp2_with fail
    refine (HM.out _).mono ?_
    rintro e w6 ⟨rfl, hB6⟩
    replace R := R.go hB6
    replace hA := hA.step hB6
    replace ow := own_below ow hB6
    clear hB6 HM c0 c1 c2 c3 c4 c5 c6 c7
    by_cases k2 : m.kind = 2
    · have g2 : (m.kind == 2) = true := by simp; omega
      have g3 : (m.kind == 3) = false := by simp; omega
      have g4 : (m.kind == 4) = false := by simp; omega
      have hn0 : 0 ≤ m.number := by omega
      have hn1 : m.number ≤ 2000 := by omega
      have h3 : 3 < L.length := by omega
      have HD := Lib.hid (fun W => l01DecJ m.number hn0 hn1 W)
      rw [show numW L m = L.set 3 (decB m.number) from if_pos (by omega)] at hR0
      have hJl : (L.set 3 (decB m.number)).length = L.length := List.length_set
      have hszs : ∀ x ∈ L.set 3 (decB m.number), x.size ≤ 2000000 := fun x hx => by
        rcases List.mem_or_eq_of_mem_set hx with h | h
        · have := hsz x h; omega
        · have := decB_sz hn0 hn1; rw [h]; omega
      have HJ := Lib.hid (fun W (h : W.ownsRow w2.heap.size 9 1 (.slice (some ⟨g, 0, none⟩) L.length cp) L.length ((L.set 3 (decB m.number)).flatMap encS)) => hJl ▸ l01JoinC_any (some ⟨g, 0, none⟩) cp (L.set 3 (decB m.number)) W (by omega) (Rd.of_own encS_len (by decide) h) hszs)
      have hset := Lib.hid (set_enc L 3 (decB m.number))
      clear k2 hbd hnm
      by_cases hcmp : txtB m = jnS 32 (L.set 3 (decB m.number))
      · have hE := Lib.hid (show RR = (m, 0) by rw [hR0, hok, if_pos ⟨rfl, hcmp⟩])
        have hc : ((txtB m).toList == (jnC (L.set 3 (decB m.number))).toList) = true := by rw [ba_beq, decide_eq_true (show txtB m = jnC (L.set 3 (decB m.number)) from hcmp)]
        clear hR0 hcmp hok
        generalize txtB m = T at HX hc
        generalize jnC (L.set 3 (decB m.number)) = J at HJ hc
        have c0 := hA.cell 0 _ rfl
        have c1 := hA.cell 1 _ rfl
        have c2 := hA.cell 2 _ rfl
        have c3 := hA.cell 3 _ rfl
        have c4 := hA.cell 4 _ rfl
        have c5 := hA.cell 5 _ rfl
        have c6 := hA.cell 6 _ rfl
        have c7 := hA.cell 7 _ rfl
        generalize hdd : decB m.number = D at *
        clear hdd
        go_wp2_with fail
        refine (HD.out _).mono ?_
        rintro e w7 ⟨rfl, hB7⟩
        replace R := R.go hB7
        replace hA := hA.step hB7
        replace ow := own_below ow hB7
        clear hB7 HD c0 c1 c2 c3 c4 c5 c6 c7
        obtain ⟨v3, cv3, fv3⟩ := own_cell ow 3 (by omega)
        go_upto_region 7 with (fail)
        clear cv3 fv3
        have hst := ow.stored 3 (.string D)
        rw [hset.out] at hst
        have c0 := hA.cell 0 _ rfl
        have c1 := hA.cell 1 _ rfl
        have c2 := hA.cell 2 _ rfl
        have c3 := hA.cell 3 _ rfl
        have c4 := hA.cell 4 _ rfl
        have c5 := hA.cell 5 _ rfl
        have c6 := hA.cell 6 _ rfl
        have c7 := hA.cell 7 _ rfl
        have hbs : w4.heap.size < w7.heap.size := hA.size
        have hne4 : w4.heap.size ≠ g := by omega
        have hnew : w.heap.size ≠ g := by omega
        have res2 := Box.keep R.res hst.2 hnew
        have bel2 := R.below.grown hst.2 R.below.size (fun g' e => by cases e; omega)
        replace c0 := (gcell hst.2 (p := ⟨w4.heap.size, 0, none⟩) hbs (fun g' e => by cases e; exact hne4)).trans c0
        replace c1 := (gcell hst.2 (p := ⟨w4.heap.size, 1, none⟩) hbs (fun g' e => by cases e; exact hne4)).trans c1
        replace c2 := (gcell hst.2 (p := ⟨w4.heap.size, 2, none⟩) hbs (fun g' e => by cases e; exact hne4)).trans c2
        replace c3 := (gcell hst.2 (p := ⟨w4.heap.size, 3, none⟩) hbs (fun g' e => by cases e; exact hne4)).trans c3
        replace c4 := (gcell hst.2 (p := ⟨w4.heap.size, 4, none⟩) hbs (fun g' e => by cases e; exact hne4)).trans c4
        replace c5 := (gcell hst.2 (p := ⟨w4.heap.size, 5, none⟩) hbs (fun g' e => by cases e; exact hne4)).trans c5
        replace c6 := (gcell hst.2 (p := ⟨w4.heap.size, 6, none⟩) hbs (fun g' e => by cases e; exact hne4)).trans c6
        replace c7 := (gcell hst.2 (p := ⟨w4.heap.size, 7, none⟩) hbs (fun g' e => by cases e; exact hne4)).trans c7
        replace hbs := Nat.lt_of_lt_of_le hbs hst.2.size
        clear ow
        obtain ⟨ow, hgrw⟩ := hst
        generalize w7.setCell ⟨g, 3, none⟩ (.string D) = w8 at ow res2 bel2 hbs c0 c1 c2 c3 c4 c5 c6 c7 ⊢
        clear R hgrw hA
        have R : RP w w8 := ⟨res2, bel2⟩
        clear res2 bel2
        go_wp2_with fail
        refine (HX.out _).mono ?_
        rintro e w9 ⟨rfl, hB9⟩
        replace R := R.go hB9
        clear HX
        replace c0 := (hB9.cell (p := ⟨w4.heap.size, 0, none⟩) hbs).trans c0
        replace c1 := (hB9.cell (p := ⟨w4.heap.size, 1, none⟩) hbs).trans c1
        replace c2 := (hB9.cell (p := ⟨w4.heap.size, 2, none⟩) hbs).trans c2
        replace c3 := (hB9.cell (p := ⟨w4.heap.size, 3, none⟩) hbs).trans c3
        replace c4 := (hB9.cell (p := ⟨w4.heap.size, 4, none⟩) hbs).trans c4
        replace c5 := (hB9.cell (p := ⟨w4.heap.size, 5, none⟩) hbs).trans c5
        replace c6 := (hB9.cell (p := ⟨w4.heap.size, 6, none⟩) hbs).trans c6
        replace c7 := (hB9.cell (p := ⟨w4.heap.size, 7, none⟩) hbs).trans c7
        replace hbs := Nat.lt_of_lt_of_le hbs hB9.size
        go_wp2_with fail
        refine (HJ.out _ (own_below ow hB9)).mono ?_
        rintro e w10 ⟨rfl, hB10⟩
        replace R := R.go hB10
        clear HJ hB9
        replace c0 := (hB10.cell (p := ⟨w4.heap.size, 0, none⟩) hbs).trans c0
        replace c1 := (hB10.cell (p := ⟨w4.heap.size, 1, none⟩) hbs).trans c1
        replace c2 := (hB10.cell (p := ⟨w4.heap.size, 2, none⟩) hbs).trans c2
        replace c3 := (hB10.cell (p := ⟨w4.heap.size, 3, none⟩) hbs).trans c3
        replace c4 := (hB10.cell (p := ⟨w4.heap.size, 4, none⟩) hbs).trans c4
        replace c5 := (hB10.cell (p := ⟨w4.heap.size, 5, none⟩) hbs).trans c5
        replace c6 := (hB10.cell (p := ⟨w4.heap.size, 6, none⟩) hbs).trans c6
        replace c7 := (hB10.cell (p := ⟨w4.heap.size, 7, none⟩) hbs).trans c7
        clear hB10
        have res := R.res
        have r0 := Box.cell res 0 _ rfl
        have r1 := Box.cell res 1 _ rfl
        have r2 := Box.cell res 2 _ rfl
        have r3 := Box.cell res 3 _ rfl
        have r4 := Box.cell res 4 _ rfl
        have r5 := Box.cell res 5 _ rfl
        have r6 := Box.cell res 6 _ rfl
        have r7 := Box.cell res 7 _ rfl
        have f0 := World.ownsRow.frozenAt res 0
        have f1 := World.ownsRow.frozenAt res 1
        have f2 := World.ownsRow.frozenAt res 2
        have f3 := World.ownsRow.frozenAt res 3
        have f4 := World.ownsRow.frozenAt res 4
        have f5 := World.ownsRow.frozenAt res 5
        have f6 := World.ownsRow.frozenAt res 6
        have f7 := World.ownsRow.frozenAt res 7
        have HP8 := Lib.hid (Box.put8 res (.int .i64 m.kind) (.int .i64 m.number) (.int .i64 m.month) (.int .i64 m.feast) (.int .i64 m.relation) (.int .i64 m.weekday) (.int .i64 m.style) (.string m.king))
        go_wp2
        have hp := HP8.out
        have hGf := RP.fin R hp.2
        generalize (((((((w10.setCell ⟨w.heap.size, 0, none⟩ (.int .i64 m.kind)).setCell ⟨w.heap.size, 1, none⟩ (.int .i64 m.number)).setCell ⟨w.heap.size, 2, none⟩ (.int .i64 m.month)).setCell ⟨w.heap.size, 3, none⟩ (.int .i64 m.feast)).setCell ⟨w.heap.size, 4, none⟩ (.int .i64 m.relation)).setCell ⟨w.heap.size, 5, none⟩ (.int .i64 m.weekday)).setCell ⟨w.heap.size, 6, none⟩ (.int .i64 m.style)).setCell ⟨w.heap.size, 7, none⟩ (.string m.king) = Wf at hp hGf ⊢
        have z0 := hp.1.cell 0 _ rfl
        have z1 := hp.1.cell 1 _ rfl
        have z2 := hp.1.cell 2 _ rfl
        have z3 := hp.1.cell 3 _ rfl
        have z4 := hp.1.cell 4 _ rfl
        have z5 := hp.1.cell 5 _ rfl
        have z6 := hp.1.cell 6 _ rfl
        have z7 := hp.1.cell 7 _ rfl
        refine bodyPost_ret_by (v := .tuple #[.agg #[.int .i64 m.kind, .int .i64 m.number, .int .i64 m.month, .int .i64 m.feast, .int .i64 m.relation, .int .i64 m.weekday, .int .i64 m.style, .string m.king], .int .i64 0]) ?_ rfl ⟨by rw [hE.out]; rfl, hGf⟩
        simp [results, go_sem, z0, z1, z2, z3, z4, z5, z6, z7]
      · have hE := Lib.hid (show RR = (clZ, 6) by rw [hR0, hok, if_neg (fun h => hcmp h.2)])
        have hc : ((txtB m).toList == (jnC (L.set 3 (decB m.number))).toList) = false := by rw [ba_beq, decide_eq_false (show ¬ txtB m = jnC (L.set 3 (decB m.number)) from hcmp)]
        clear hR0 hcmp hok
        generalize txtB m = T at HX hc
        generalize jnC (L.set 3 (decB m.number)) = J at HJ hc
        have c0 := hA.cell 0 _ rfl
        have c1 := hA.cell 1 _ rfl
        have c2 := hA.cell 2 _ rfl
        have c3 := hA.cell 3 _ rfl
        have c4 := hA.cell 4 _ rfl
        have c5 := hA.cell 5 _ rfl
        have c6 := hA.cell 6 _ rfl
        have c7 := hA.cell 7 _ rfl
        generalize hdd : decB m.number = D at *
        clear hdd
        go_wp2_with fail
        refine (HD.out _).mono ?_
        rintro e w7 ⟨rfl, hB7⟩
        replace R := R.go hB7
        replace hA := hA.step hB7
        replace ow := own_below ow hB7
        clear hB7 HD c0 c1 c2 c3 c4 c5 c6 c7
        obtain ⟨v3, cv3, fv3⟩ := own_cell ow 3 (by omega)
        go_upto_region 7 with (fail)
        clear cv3 fv3
        have hst := ow.stored 3 (.string D)
        rw [hset.out] at hst
        have c0 := hA.cell 0 _ rfl
        have c1 := hA.cell 1 _ rfl
        have c2 := hA.cell 2 _ rfl
        have c3 := hA.cell 3 _ rfl
        have c4 := hA.cell 4 _ rfl
        have c5 := hA.cell 5 _ rfl
        have c6 := hA.cell 6 _ rfl
        have c7 := hA.cell 7 _ rfl
        have hbs : w4.heap.size < w7.heap.size := hA.size
        have hne4 : w4.heap.size ≠ g := by omega
        have hnew : w.heap.size ≠ g := by omega
        have res2 := Box.keep R.res hst.2 hnew
        have bel2 := R.below.grown hst.2 R.below.size (fun g' e => by cases e; omega)
        replace c0 := (gcell hst.2 (p := ⟨w4.heap.size, 0, none⟩) hbs (fun g' e => by cases e; exact hne4)).trans c0
        replace c1 := (gcell hst.2 (p := ⟨w4.heap.size, 1, none⟩) hbs (fun g' e => by cases e; exact hne4)).trans c1
        replace c2 := (gcell hst.2 (p := ⟨w4.heap.size, 2, none⟩) hbs (fun g' e => by cases e; exact hne4)).trans c2
        replace c3 := (gcell hst.2 (p := ⟨w4.heap.size, 3, none⟩) hbs (fun g' e => by cases e; exact hne4)).trans c3
        replace c4 := (gcell hst.2 (p := ⟨w4.heap.size, 4, none⟩) hbs (fun g' e => by cases e; exact hne4)).trans c4
        replace c5 := (gcell hst.2 (p := ⟨w4.heap.size, 5, none⟩) hbs (fun g' e => by cases e; exact hne4)).trans c5
        replace c6 := (gcell hst.2 (p := ⟨w4.heap.size, 6, none⟩) hbs (fun g' e => by cases e; exact hne4)).trans c6
        replace c7 := (gcell hst.2 (p := ⟨w4.heap.size, 7, none⟩) hbs (fun g' e => by cases e; exact hne4)).trans c7
        replace hbs := Nat.lt_of_lt_of_le hbs hst.2.size
        clear ow
        obtain ⟨ow, hgrw⟩ := hst
        generalize w7.setCell ⟨g, 3, none⟩ (.string D) = w8 at ow res2 bel2 hbs c0 c1 c2 c3 c4 c5 c6 c7 ⊢
        clear R hgrw hA
        have R : RP w w8 := ⟨res2, bel2⟩
        clear res2 bel2
        go_wp2_with fail
        refine (HX.out _).mono ?_
        rintro e w9 ⟨rfl, hB9⟩
        replace R := R.go hB9
        clear HX
        replace c0 := (hB9.cell (p := ⟨w4.heap.size, 0, none⟩) hbs).trans c0
        replace c1 := (hB9.cell (p := ⟨w4.heap.size, 1, none⟩) hbs).trans c1
        replace c2 := (hB9.cell (p := ⟨w4.heap.size, 2, none⟩) hbs).trans c2
        replace c3 := (hB9.cell (p := ⟨w4.heap.size, 3, none⟩) hbs).trans c3
        replace c4 := (hB9.cell (p := ⟨w4.heap.size, 4, none⟩) hbs).trans c4
        replace c5 := (hB9.cell (p := ⟨w4.heap.size, 5, none⟩) hbs).trans c5
        replace c6 := (hB9.cell (p := ⟨w4.heap.size, 6, none⟩) hbs).trans c6
        replace c7 := (hB9.cell (p := ⟨w4.heap.size, 7, none⟩) hbs).trans c7
        replace hbs := Nat.lt_of_lt_of_le hbs hB9.size
        go_wp2_with fail
        refine (HJ.out _ (own_below ow hB9)).mono ?_
        rintro e w10 ⟨rfl, hB10⟩
        replace R := R.go hB10
        clear HJ hB9
        replace c0 := (hB10.cell (p := ⟨w4.heap.size, 0, none⟩) hbs).trans c0
        replace c1 := (hB10.cell (p := ⟨w4.heap.size, 1, none⟩) hbs).trans c1
        replace c2 := (hB10.cell (p := ⟨w4.heap.size, 2, none⟩) hbs).trans c2
        replace c3 := (hB10.cell (p := ⟨w4.heap.size, 3, none⟩) hbs).trans c3
        replace c4 := (hB10.cell (p := ⟨w4.heap.size, 4, none⟩) hbs).trans c4
        replace c5 := (hB10.cell (p := ⟨w4.heap.size, 5, none⟩) hbs).trans c5
        replace c6 := (hB10.cell (p := ⟨w4.heap.size, 6, none⟩) hbs).trans c6
        replace c7 := (hB10.cell (p := ⟨w4.heap.size, 7, none⟩) hbs).trans c7
        clear hB10
        have res := R.res
        have r0 := Box.cell res 0 _ rfl
        have r1 := Box.cell res 1 _ rfl
        have r2 := Box.cell res 2 _ rfl
        have r3 := Box.cell res 3 _ rfl
        have r4 := Box.cell res 4 _ rfl
        have r5 := Box.cell res 5 _ rfl
        have r6 := Box.cell res 6 _ rfl
        have r7 := Box.cell res 7 _ rfl
        have f0 := World.ownsRow.frozenAt res 0
        have f1 := World.ownsRow.frozenAt res 1
        have f2 := World.ownsRow.frozenAt res 2
        have f3 := World.ownsRow.frozenAt res 3
        have f4 := World.ownsRow.frozenAt res 4
        have f5 := World.ownsRow.frozenAt res 5
        have f6 := World.ownsRow.frozenAt res 6
        have f7 := World.ownsRow.frozenAt res 7
        have HP8 := Lib.hid (Box.put8 res (.int .i64 0) (.int .i64 0) (.int .i64 0) (.int .i64 0) (.int .i64 0) (.int .i64 0) (.int .i64 0) (.string ⟨#[]⟩))
        go_wp2
        have hp := HP8.out
        have hGf := RP.fin R hp.2
        generalize (((((((w10.setCell ⟨w.heap.size, 0, none⟩ (.int .i64 0)).setCell ⟨w.heap.size, 1, none⟩ (.int .i64 0)).setCell ⟨w.heap.size, 2, none⟩ (.int .i64 0)).setCell ⟨w.heap.size, 3, none⟩ (.int .i64 0)).setCell ⟨w.heap.size, 4, none⟩ (.int .i64 0)).setCell ⟨w.heap.size, 5, none⟩ (.int .i64 0)).setCell ⟨w.heap.size, 6, none⟩ (.int .i64 0)).setCell ⟨w.heap.size, 7, none⟩ (.string ⟨#[]⟩) = Wf at hp hGf ⊢
        have z0 := hp.1.cell 0 _ rfl
        have z1 := hp.1.cell 1 _ rfl
        have z2 := hp.1.cell 2 _ rfl
        have z3 := hp.1.cell 3 _ rfl
        have z4 := hp.1.cell 4 _ rfl
        have z5 := hp.1.cell 5 _ rfl
        have z6 := hp.1.cell 6 _ rfl
        have z7 := hp.1.cell 7 _ rfl
        refine bodyPost_ret_by (v := .tuple #[.agg #[.int .i64 0, .int .i64 0, .int .i64 0, .int .i64 0, .int .i64 0, .int .i64 0, .int .i64 0, .string ⟨#[]⟩], .int .i64 6]) ?_ rfl ⟨by rw [hE.out]; rfl, hGf⟩
        simp [results, go_sem, z0, z1, z2, z3, z4, z5, z6, z7]
    by_cases k3 : m.kind = 3
    · have g2 : (m.kind == 2) = false := by simp; omega
      have g3 : (m.kind == 3) = true := by simp; omega
      have g4 : (m.kind == 4) = false := by simp; omega
      have hn0 : 0 ≤ m.number := by omega
      have hn1 : m.number ≤ 2000 := by omega
      have h3 : 3 < L.length := by omega
      have HD := Lib.hid (fun W => l01DecJ m.number hn0 hn1 W)
      rw [show numW L m = L.set 3 (decB m.number) from if_pos (by omega)] at hR0
      have hJl : (L.set 3 (decB m.number)).length = L.length := List.length_set
      have hszs : ∀ x ∈ L.set 3 (decB m.number), x.size ≤ 2000000 := fun x hx => by
        rcases List.mem_or_eq_of_mem_set hx with h | h
        · have := hsz x h; omega
        · have := decB_sz hn0 hn1; rw [h]; omega
      have HJ := Lib.hid (fun W (h : W.ownsRow w2.heap.size 9 1 (.slice (some ⟨g, 0, none⟩) L.length cp) L.length ((L.set 3 (decB m.number)).flatMap encS)) => hJl ▸ l01JoinC_any (some ⟨g, 0, none⟩) cp (L.set 3 (decB m.number)) W (by omega) (Rd.of_own encS_len (by decide) h) hszs)
      have hset := Lib.hid (set_enc L 3 (decB m.number))
      clear k3 hbd hnm
      by_cases hcmp : txtB m = jnS 32 (L.set 3 (decB m.number))
      · have hE := Lib.hid (show RR = (m, 0) by rw [hR0, hok, if_pos ⟨rfl, hcmp⟩])
        have hc : ((txtB m).toList == (jnC (L.set 3 (decB m.number))).toList) = true := by rw [ba_beq, decide_eq_true (show txtB m = jnC (L.set 3 (decB m.number)) from hcmp)]
        clear hR0 hcmp hok
        generalize txtB m = T at HX hc
        generalize jnC (L.set 3 (decB m.number)) = J at HJ hc
        have c0 := hA.cell 0 _ rfl
        have c1 := hA.cell 1 _ rfl
        have c2 := hA.cell 2 _ rfl
        have c3 := hA.cell 3 _ rfl
        have c4 := hA.cell 4 _ rfl
        have c5 := hA.cell 5 _ rfl
        have c6 := hA.cell 6 _ rfl
        have c7 := hA.cell 7 _ rfl
        generalize hdd : decB m.number = D at *
        clear hdd
        go_wp2_with fail
        refine (HD.out _).mono ?_
        rintro e w7 ⟨rfl, hB7⟩
        replace R := R.go hB7
        replace hA := hA.step hB7
        replace ow := own_below ow hB7
        clear hB7 HD c0 c1 c2 c3 c4 c5 c6 c7
        obtain ⟨v3, cv3, fv3⟩ := own_cell ow 3 (by omega)
        go_upto_region 7 with (fail)
        clear cv3 fv3
        have hst := ow.stored 3 (.string D)
        rw [hset.out] at hst
        have c0 := hA.cell 0 _ rfl
        have c1 := hA.cell 1 _ rfl
        have c2 := hA.cell 2 _ rfl
        have c3 := hA.cell 3 _ rfl
        have c4 := hA.cell 4 _ rfl
        have c5 := hA.cell 5 _ rfl
        have c6 := hA.cell 6 _ rfl
        have c7 := hA.cell 7 _ rfl
        have hbs : w4.heap.size < w7.heap.size := hA.size
        have hne4 : w4.heap.size ≠ g := by omega
        have hnew : w.heap.size ≠ g := by omega
        have res2 := Box.keep R.res hst.2 hnew
        have bel2 := R.below.grown hst.2 R.below.size (fun g' e => by cases e; omega)
        replace c0 := (gcell hst.2 (p := ⟨w4.heap.size, 0, none⟩) hbs (fun g' e => by cases e; exact hne4)).trans c0
        replace c1 := (gcell hst.2 (p := ⟨w4.heap.size, 1, none⟩) hbs (fun g' e => by cases e; exact hne4)).trans c1
        replace c2 := (gcell hst.2 (p := ⟨w4.heap.size, 2, none⟩) hbs (fun g' e => by cases e; exact hne4)).trans c2
        replace c3 := (gcell hst.2 (p := ⟨w4.heap.size, 3, none⟩) hbs (fun g' e => by cases e; exact hne4)).trans c3
        replace c4 := (gcell hst.2 (p := ⟨w4.heap.size, 4, none⟩) hbs (fun g' e => by cases e; exact hne4)).trans c4
        replace c5 := (gcell hst.2 (p := ⟨w4.heap.size, 5, none⟩) hbs (fun g' e => by cases e; exact hne4)).trans c5
        replace c6 := (gcell hst.2 (p := ⟨w4.heap.size, 6, none⟩) hbs (fun g' e => by cases e; exact hne4)).trans c6
        replace c7 := (gcell hst.2 (p := ⟨w4.heap.size, 7, none⟩) hbs (fun g' e => by cases e; exact hne4)).trans c7
        replace hbs := Nat.lt_of_lt_of_le hbs hst.2.size
        clear ow
        obtain ⟨ow, hgrw⟩ := hst
        generalize w7.setCell ⟨g, 3, none⟩ (.string D) = w8 at ow res2 bel2 hbs c0 c1 c2 c3 c4 c5 c6 c7 ⊢
        clear R hgrw hA
        have R : RP w w8 := ⟨res2, bel2⟩
        clear res2 bel2
        go_wp2_with fail
        refine (HX.out _).mono ?_
        rintro e w9 ⟨rfl, hB9⟩
        replace R := R.go hB9
        clear HX
        replace c0 := (hB9.cell (p := ⟨w4.heap.size, 0, none⟩) hbs).trans c0
        replace c1 := (hB9.cell (p := ⟨w4.heap.size, 1, none⟩) hbs).trans c1
        replace c2 := (hB9.cell (p := ⟨w4.heap.size, 2, none⟩) hbs).trans c2
        replace c3 := (hB9.cell (p := ⟨w4.heap.size, 3, none⟩) hbs).trans c3
        replace c4 := (hB9.cell (p := ⟨w4.heap.size, 4, none⟩) hbs).trans c4
        replace c5 := (hB9.cell (p := ⟨w4.heap.size, 5, none⟩) hbs).trans c5
        replace c6 := (hB9.cell (p := ⟨w4.heap.size, 6, none⟩) hbs).trans c6
        replace c7 := (hB9.cell (p := ⟨w4.heap.size, 7, none⟩) hbs).trans c7
        replace hbs := Nat.lt_of_lt_of_le hbs hB9.size
        go_wp2_with fail
        refine (HJ.out _ (own_below ow hB9)).mono ?_
        rintro e w10 ⟨rfl, hB10⟩
        replace R := R.go hB10
        clear HJ hB9
        replace c0 := (hB10.cell (p := ⟨w4.heap.size, 0, none⟩) hbs).trans c0
        replace c1 := (hB10.cell (p := ⟨w4.heap.size, 1, none⟩) hbs).trans c1
        replace c2 := (hB10.cell (p := ⟨w4.heap.size, 2, none⟩) hbs).trans c2
        replace c3 := (hB10.cell (p := ⟨w4.heap.size, 3, none⟩) hbs).trans c3
        replace c4 := (hB10.cell (p := ⟨w4.heap.size, 4, none⟩) hbs).trans c4
        replace c5 := (hB10.cell (p := ⟨w4.heap.size, 5, none⟩) hbs).trans c5
        replace c6 := (hB10.cell (p := ⟨w4.heap.size, 6, none⟩) hbs).trans c6
        replace c7 := (hB10.cell (p := ⟨w4.heap.size, 7, none⟩) hbs).trans c7
        clear hB10
        have res := R.res
        have r0 := Box.cell res 0 _ rfl
        have r1 := Box.cell res 1 _ rfl
        have r2 := Box.cell res 2 _ rfl
        have r3 := Box.cell res 3 _ rfl
        have r4 := Box.cell res 4 _ rfl
        have r5 := Box.cell res 5 _ rfl
        have r6 := Box.cell res 6 _ rfl
        have r7 := Box.cell res 7 _ rfl
        have f0 := World.ownsRow.frozenAt res 0
        have f1 := World.ownsRow.frozenAt res 1
        have f2 := World.ownsRow.frozenAt res 2
        have f3 := World.ownsRow.frozenAt res 3
        have f4 := World.ownsRow.frozenAt res 4
        have f5 := World.ownsRow.frozenAt res 5
        have f6 := World.ownsRow.frozenAt res 6
        have f7 := World.ownsRow.frozenAt res 7
        have HP8 := Lib.hid (Box.put8 res (.int .i64 m.kind) (.int .i64 m.number) (.int .i64 m.month) (.int .i64 m.feast) (.int .i64 m.relation) (.int .i64 m.weekday) (.int .i64 m.style) (.string m.king))
        go_wp2
        have hp := HP8.out
        have hGf := RP.fin R hp.2
        generalize (((((((w10.setCell ⟨w.heap.size, 0, none⟩ (.int .i64 m.kind)).setCell ⟨w.heap.size, 1, none⟩ (.int .i64 m.number)).setCell ⟨w.heap.size, 2, none⟩ (.int .i64 m.month)).setCell ⟨w.heap.size, 3, none⟩ (.int .i64 m.feast)).setCell ⟨w.heap.size, 4, none⟩ (.int .i64 m.relation)).setCell ⟨w.heap.size, 5, none⟩ (.int .i64 m.weekday)).setCell ⟨w.heap.size, 6, none⟩ (.int .i64 m.style)).setCell ⟨w.heap.size, 7, none⟩ (.string m.king) = Wf at hp hGf ⊢
        have z0 := hp.1.cell 0 _ rfl
        have z1 := hp.1.cell 1 _ rfl
        have z2 := hp.1.cell 2 _ rfl
        have z3 := hp.1.cell 3 _ rfl
        have z4 := hp.1.cell 4 _ rfl
        have z5 := hp.1.cell 5 _ rfl
        have z6 := hp.1.cell 6 _ rfl
        have z7 := hp.1.cell 7 _ rfl
        refine bodyPost_ret_by (v := .tuple #[.agg #[.int .i64 m.kind, .int .i64 m.number, .int .i64 m.month, .int .i64 m.feast, .int .i64 m.relation, .int .i64 m.weekday, .int .i64 m.style, .string m.king], .int .i64 0]) ?_ rfl ⟨by rw [hE.out]; rfl, hGf⟩
        simp [results, go_sem, z0, z1, z2, z3, z4, z5, z6, z7]
      · have hE := Lib.hid (show RR = (clZ, 6) by rw [hR0, hok, if_neg (fun h => hcmp h.2)])
        have hc : ((txtB m).toList == (jnC (L.set 3 (decB m.number))).toList) = false := by rw [ba_beq, decide_eq_false (show ¬ txtB m = jnC (L.set 3 (decB m.number)) from hcmp)]
        clear hR0 hcmp hok
        generalize txtB m = T at HX hc
        generalize jnC (L.set 3 (decB m.number)) = J at HJ hc
        have c0 := hA.cell 0 _ rfl
        have c1 := hA.cell 1 _ rfl
        have c2 := hA.cell 2 _ rfl
        have c3 := hA.cell 3 _ rfl
        have c4 := hA.cell 4 _ rfl
        have c5 := hA.cell 5 _ rfl
        have c6 := hA.cell 6 _ rfl
        have c7 := hA.cell 7 _ rfl
        generalize hdd : decB m.number = D at *
        clear hdd
        go_wp2_with fail
        refine (HD.out _).mono ?_
        rintro e w7 ⟨rfl, hB7⟩
        replace R := R.go hB7
        replace hA := hA.step hB7
        replace ow := own_below ow hB7
        clear hB7 HD c0 c1 c2 c3 c4 c5 c6 c7
        obtain ⟨v3, cv3, fv3⟩ := own_cell ow 3 (by omega)
        go_upto_region 7 with (fail)
        clear cv3 fv3
        have hst := ow.stored 3 (.string D)
        rw [hset.out] at hst
        have c0 := hA.cell 0 _ rfl
        have c1 := hA.cell 1 _ rfl
        have c2 := hA.cell 2 _ rfl
        have c3 := hA.cell 3 _ rfl
        have c4 := hA.cell 4 _ rfl
        have c5 := hA.cell 5 _ rfl
        have c6 := hA.cell 6 _ rfl
        have c7 := hA.cell 7 _ rfl
        have hbs : w4.heap.size < w7.heap.size := hA.size
        have hne4 : w4.heap.size ≠ g := by omega
        have hnew : w.heap.size ≠ g := by omega
        have res2 := Box.keep R.res hst.2 hnew
        have bel2 := R.below.grown hst.2 R.below.size (fun g' e => by cases e; omega)
        replace c0 := (gcell hst.2 (p := ⟨w4.heap.size, 0, none⟩) hbs (fun g' e => by cases e; exact hne4)).trans c0
        replace c1 := (gcell hst.2 (p := ⟨w4.heap.size, 1, none⟩) hbs (fun g' e => by cases e; exact hne4)).trans c1
        replace c2 := (gcell hst.2 (p := ⟨w4.heap.size, 2, none⟩) hbs (fun g' e => by cases e; exact hne4)).trans c2
        replace c3 := (gcell hst.2 (p := ⟨w4.heap.size, 3, none⟩) hbs (fun g' e => by cases e; exact hne4)).trans c3
        replace c4 := (gcell hst.2 (p := ⟨w4.heap.size, 4, none⟩) hbs (fun g' e => by cases e; exact hne4)).trans c4
        replace c5 := (gcell hst.2 (p := ⟨w4.heap.size, 5, none⟩) hbs (fun g' e => by cases e; exact hne4)).trans c5
        replace c6 := (gcell hst.2 (p := ⟨w4.heap.size, 6, none⟩) hbs (fun g' e => by cases e; exact hne4)).trans c6
        replace c7 := (gcell hst.2 (p := ⟨w4.heap.size, 7, none⟩) hbs (fun g' e => by cases e; exact hne4)).trans c7
        replace hbs := Nat.lt_of_lt_of_le hbs hst.2.size
        clear ow
        obtain ⟨ow, hgrw⟩ := hst
        generalize w7.setCell ⟨g, 3, none⟩ (.string D) = w8 at ow res2 bel2 hbs c0 c1 c2 c3 c4 c5 c6 c7 ⊢
        clear R hgrw hA
        have R : RP w w8 := ⟨res2, bel2⟩
        clear res2 bel2
        go_wp2_with fail
        refine (HX.out _).mono ?_
        rintro e w9 ⟨rfl, hB9⟩
        replace R := R.go hB9
        clear HX
        replace c0 := (hB9.cell (p := ⟨w4.heap.size, 0, none⟩) hbs).trans c0
        replace c1 := (hB9.cell (p := ⟨w4.heap.size, 1, none⟩) hbs).trans c1
        replace c2 := (hB9.cell (p := ⟨w4.heap.size, 2, none⟩) hbs).trans c2
        replace c3 := (hB9.cell (p := ⟨w4.heap.size, 3, none⟩) hbs).trans c3
        replace c4 := (hB9.cell (p := ⟨w4.heap.size, 4, none⟩) hbs).trans c4
        replace c5 := (hB9.cell (p := ⟨w4.heap.size, 5, none⟩) hbs).trans c5
        replace c6 := (hB9.cell (p := ⟨w4.heap.size, 6, none⟩) hbs).trans c6
        replace c7 := (hB9.cell (p := ⟨w4.heap.size, 7, none⟩) hbs).trans c7
        replace hbs := Nat.lt_of_lt_of_le hbs hB9.size
        go_wp2_with fail
        refine (HJ.out _ (own_below ow hB9)).mono ?_
        rintro e w10 ⟨rfl, hB10⟩
        replace R := R.go hB10
        clear HJ hB9
        replace c0 := (hB10.cell (p := ⟨w4.heap.size, 0, none⟩) hbs).trans c0
        replace c1 := (hB10.cell (p := ⟨w4.heap.size, 1, none⟩) hbs).trans c1
        replace c2 := (hB10.cell (p := ⟨w4.heap.size, 2, none⟩) hbs).trans c2
        replace c3 := (hB10.cell (p := ⟨w4.heap.size, 3, none⟩) hbs).trans c3
        replace c4 := (hB10.cell (p := ⟨w4.heap.size, 4, none⟩) hbs).trans c4
        replace c5 := (hB10.cell (p := ⟨w4.heap.size, 5, none⟩) hbs).trans c5
        replace c6 := (hB10.cell (p := ⟨w4.heap.size, 6, none⟩) hbs).trans c6
        replace c7 := (hB10.cell (p := ⟨w4.heap.size, 7, none⟩) hbs).trans c7
        clear hB10
        have res := R.res
        have r0 := Box.cell res 0 _ rfl
        have r1 := Box.cell res 1 _ rfl
        have r2 := Box.cell res 2 _ rfl
        have r3 := Box.cell res 3 _ rfl
        have r4 := Box.cell res 4 _ rfl
        have r5 := Box.cell res 5 _ rfl
        have r6 := Box.cell res 6 _ rfl
        have r7 := Box.cell res 7 _ rfl
        have f0 := World.ownsRow.frozenAt res 0
        have f1 := World.ownsRow.frozenAt res 1
        have f2 := World.ownsRow.frozenAt res 2
        have f3 := World.ownsRow.frozenAt res 3
        have f4 := World.ownsRow.frozenAt res 4
        have f5 := World.ownsRow.frozenAt res 5
        have f6 := World.ownsRow.frozenAt res 6
        have f7 := World.ownsRow.frozenAt res 7
        have HP8 := Lib.hid (Box.put8 res (.int .i64 0) (.int .i64 0) (.int .i64 0) (.int .i64 0) (.int .i64 0) (.int .i64 0) (.int .i64 0) (.string ⟨#[]⟩))
        go_wp2
        have hp := HP8.out
        have hGf := RP.fin R hp.2
        generalize (((((((w10.setCell ⟨w.heap.size, 0, none⟩ (.int .i64 0)).setCell ⟨w.heap.size, 1, none⟩ (.int .i64 0)).setCell ⟨w.heap.size, 2, none⟩ (.int .i64 0)).setCell ⟨w.heap.size, 3, none⟩ (.int .i64 0)).setCell ⟨w.heap.size, 4, none⟩ (.int .i64 0)).setCell ⟨w.heap.size, 5, none⟩ (.int .i64 0)).setCell ⟨w.heap.size, 6, none⟩ (.int .i64 0)).setCell ⟨w.heap.size, 7, none⟩ (.string ⟨#[]⟩) = Wf at hp hGf ⊢
        have z0 := hp.1.cell 0 _ rfl
        have z1 := hp.1.cell 1 _ rfl
        have z2 := hp.1.cell 2 _ rfl
        have z3 := hp.1.cell 3 _ rfl
        have z4 := hp.1.cell 4 _ rfl
        have z5 := hp.1.cell 5 _ rfl
        have z6 := hp.1.cell 6 _ rfl
        have z7 := hp.1.cell 7 _ rfl
        refine bodyPost_ret_by (v := .tuple #[.agg #[.int .i64 0, .int .i64 0, .int .i64 0, .int .i64 0, .int .i64 0, .int .i64 0, .int .i64 0, .string ⟨#[]⟩], .int .i64 6]) ?_ rfl ⟨by rw [hE.out]; rfl, hGf⟩
        simp [results, go_sem, z0, z1, z2, z3, z4, z5, z6, z7]
    by_cases k4 : m.kind = 4
    · have g2 : (m.kind == 2) = false := by simp; omega
      have g3 : (m.kind == 3) = false := by simp; omega
      have g4 : (m.kind == 4) = true := by simp; omega
      have hn0 : 0 ≤ m.number := by omega
      have hn1 : m.number ≤ 2000 := by omega
      have h3 : 3 < L.length := by omega
      have HD := Lib.hid (fun W => l01DecJ m.number hn0 hn1 W)
      rw [show numW L m = L.set 3 (decB m.number) from if_pos (by omega)] at hR0
      have hJl : (L.set 3 (decB m.number)).length = L.length := List.length_set
      have hszs : ∀ x ∈ L.set 3 (decB m.number), x.size ≤ 2000000 := fun x hx => by
        rcases List.mem_or_eq_of_mem_set hx with h | h
        · have := hsz x h; omega
        · have := decB_sz hn0 hn1; rw [h]; omega
      have HJ := Lib.hid (fun W (h : W.ownsRow w2.heap.size 9 1 (.slice (some ⟨g, 0, none⟩) L.length cp) L.length ((L.set 3 (decB m.number)).flatMap encS)) => hJl ▸ l01JoinC_any (some ⟨g, 0, none⟩) cp (L.set 3 (decB m.number)) W (by omega) (Rd.of_own encS_len (by decide) h) hszs)
      have hset := Lib.hid (set_enc L 3 (decB m.number))
      clear k4 hbd hnm
      by_cases hcmp : txtB m = jnS 32 (L.set 3 (decB m.number))
      · have hE := Lib.hid (show RR = (m, 0) by rw [hR0, hok, if_pos ⟨rfl, hcmp⟩])
        have hc : ((txtB m).toList == (jnC (L.set 3 (decB m.number))).toList) = true := by rw [ba_beq, decide_eq_true (show txtB m = jnC (L.set 3 (decB m.number)) from hcmp)]
        clear hR0 hcmp hok
        generalize txtB m = T at HX hc
        generalize jnC (L.set 3 (decB m.number)) = J at HJ hc
        have c0 := hA.cell 0 _ rfl
        have c1 := hA.cell 1 _ rfl
        have c2 := hA.cell 2 _ rfl
        have c3 := hA.cell 3 _ rfl
        have c4 := hA.cell 4 _ rfl
        have c5 := hA.cell 5 _ rfl
        have c6 := hA.cell 6 _ rfl
        have c7 := hA.cell 7 _ rfl
        generalize hdd : decB m.number = D at *
        clear hdd
        go_wp2_with fail
        refine (HD.out _).mono ?_
        rintro e w7 ⟨rfl, hB7⟩
        replace R := R.go hB7
        replace hA := hA.step hB7
        replace ow := own_below ow hB7
        clear hB7 HD c0 c1 c2 c3 c4 c5 c6 c7
        obtain ⟨v3, cv3, fv3⟩ := own_cell ow 3 (by omega)
        go_upto_region 7 with (fail)
        clear cv3 fv3
        have hst := ow.stored 3 (.string D)
        rw [hset.out] at hst
        have c0 := hA.cell 0 _ rfl
        have c1 := hA.cell 1 _ rfl
        have c2 := hA.cell 2 _ rfl
        have c3 := hA.cell 3 _ rfl
        have c4 := hA.cell 4 _ rfl
        have c5 := hA.cell 5 _ rfl
        have c6 := hA.cell 6 _ rfl
        have c7 := hA.cell 7 _ rfl
        have hbs : w4.heap.size < w7.heap.size := hA.size
        have hne4 : w4.heap.size ≠ g := by omega
        have hnew : w.heap.size ≠ g := by omega
        have res2 := Box.keep R.res hst.2 hnew
        have bel2 := R.below.grown hst.2 R.below.size (fun g' e => by cases e; omega)
        replace c0 := (gcell hst.2 (p := ⟨w4.heap.size, 0, none⟩) hbs (fun g' e => by cases e; exact hne4)).trans c0
        replace c1 := (gcell hst.2 (p := ⟨w4.heap.size, 1, none⟩) hbs (fun g' e => by cases e; exact hne4)).trans c1
        replace c2 := (gcell hst.2 (p := ⟨w4.heap.size, 2, none⟩) hbs (fun g' e => by cases e; exact hne4)).trans c2
        replace c3 := (gcell hst.2 (p := ⟨w4.heap.size, 3, none⟩) hbs (fun g' e => by cases e; exact hne4)).trans c3
        replace c4 := (gcell hst.2 (p := ⟨w4.heap.size, 4, none⟩) hbs (fun g' e => by cases e; exact hne4)).trans c4
        replace c5 := (gcell hst.2 (p := ⟨w4.heap.size, 5, none⟩) hbs (fun g' e => by cases e; exact hne4)).trans c5
        replace c6 := (gcell hst.2 (p := ⟨w4.heap.size, 6, none⟩) hbs (fun g' e => by cases e; exact hne4)).trans c6
        replace c7 := (gcell hst.2 (p := ⟨w4.heap.size, 7, none⟩) hbs (fun g' e => by cases e; exact hne4)).trans c7
        replace hbs := Nat.lt_of_lt_of_le hbs hst.2.size
        clear ow
        obtain ⟨ow, hgrw⟩ := hst
        generalize w7.setCell ⟨g, 3, none⟩ (.string D) = w8 at ow res2 bel2 hbs c0 c1 c2 c3 c4 c5 c6 c7 ⊢
        clear R hgrw hA
        have R : RP w w8 := ⟨res2, bel2⟩
        clear res2 bel2
        go_wp2_with fail
        refine (HX.out _).mono ?_
        rintro e w9 ⟨rfl, hB9⟩
        replace R := R.go hB9
        clear HX
        replace c0 := (hB9.cell (p := ⟨w4.heap.size, 0, none⟩) hbs).trans c0
        replace c1 := (hB9.cell (p := ⟨w4.heap.size, 1, none⟩) hbs).trans c1
        replace c2 := (hB9.cell (p := ⟨w4.heap.size, 2, none⟩) hbs).trans c2
        replace c3 := (hB9.cell (p := ⟨w4.heap.size, 3, none⟩) hbs).trans c3
        replace c4 := (hB9.cell (p := ⟨w4.heap.size, 4, none⟩) hbs).trans c4
        replace c5 := (hB9.cell (p := ⟨w4.heap.size, 5, none⟩) hbs).trans c5
        replace c6 := (hB9.cell (p := ⟨w4.heap.size, 6, none⟩) hbs).trans c6
        replace c7 := (hB9.cell (p := ⟨w4.heap.size, 7, none⟩) hbs).trans c7
        replace hbs := Nat.lt_of_lt_of_le hbs hB9.size
        go_wp2_with fail
        refine (HJ.out _ (own_below ow hB9)).mono ?_
        rintro e w10 ⟨rfl, hB10⟩
        replace R := R.go hB10
        clear HJ hB9
        replace c0 := (hB10.cell (p := ⟨w4.heap.size, 0, none⟩) hbs).trans c0
        replace c1 := (hB10.cell (p := ⟨w4.heap.size, 1, none⟩) hbs).trans c1
        replace c2 := (hB10.cell (p := ⟨w4.heap.size, 2, none⟩) hbs).trans c2
        replace c3 := (hB10.cell (p := ⟨w4.heap.size, 3, none⟩) hbs).trans c3
        replace c4 := (hB10.cell (p := ⟨w4.heap.size, 4, none⟩) hbs).trans c4
        replace c5 := (hB10.cell (p := ⟨w4.heap.size, 5, none⟩) hbs).trans c5
        replace c6 := (hB10.cell (p := ⟨w4.heap.size, 6, none⟩) hbs).trans c6
        replace c7 := (hB10.cell (p := ⟨w4.heap.size, 7, none⟩) hbs).trans c7
        clear hB10
        have res := R.res
        have r0 := Box.cell res 0 _ rfl
        have r1 := Box.cell res 1 _ rfl
        have r2 := Box.cell res 2 _ rfl
        have r3 := Box.cell res 3 _ rfl
        have r4 := Box.cell res 4 _ rfl
        have r5 := Box.cell res 5 _ rfl
        have r6 := Box.cell res 6 _ rfl
        have r7 := Box.cell res 7 _ rfl
        have f0 := World.ownsRow.frozenAt res 0
        have f1 := World.ownsRow.frozenAt res 1
        have f2 := World.ownsRow.frozenAt res 2
        have f3 := World.ownsRow.frozenAt res 3
        have f4 := World.ownsRow.frozenAt res 4
        have f5 := World.ownsRow.frozenAt res 5
        have f6 := World.ownsRow.frozenAt res 6
        have f7 := World.ownsRow.frozenAt res 7
        have HP8 := Lib.hid (Box.put8 res (.int .i64 m.kind) (.int .i64 m.number) (.int .i64 m.month) (.int .i64 m.feast) (.int .i64 m.relation) (.int .i64 m.weekday) (.int .i64 m.style) (.string m.king))
        go_wp2
        have hp := HP8.out
        have hGf := RP.fin R hp.2
        generalize (((((((w10.setCell ⟨w.heap.size, 0, none⟩ (.int .i64 m.kind)).setCell ⟨w.heap.size, 1, none⟩ (.int .i64 m.number)).setCell ⟨w.heap.size, 2, none⟩ (.int .i64 m.month)).setCell ⟨w.heap.size, 3, none⟩ (.int .i64 m.feast)).setCell ⟨w.heap.size, 4, none⟩ (.int .i64 m.relation)).setCell ⟨w.heap.size, 5, none⟩ (.int .i64 m.weekday)).setCell ⟨w.heap.size, 6, none⟩ (.int .i64 m.style)).setCell ⟨w.heap.size, 7, none⟩ (.string m.king) = Wf at hp hGf ⊢
        have z0 := hp.1.cell 0 _ rfl
        have z1 := hp.1.cell 1 _ rfl
        have z2 := hp.1.cell 2 _ rfl
        have z3 := hp.1.cell 3 _ rfl
        have z4 := hp.1.cell 4 _ rfl
        have z5 := hp.1.cell 5 _ rfl
        have z6 := hp.1.cell 6 _ rfl
        have z7 := hp.1.cell 7 _ rfl
        refine bodyPost_ret_by (v := .tuple #[.agg #[.int .i64 m.kind, .int .i64 m.number, .int .i64 m.month, .int .i64 m.feast, .int .i64 m.relation, .int .i64 m.weekday, .int .i64 m.style, .string m.king], .int .i64 0]) ?_ rfl ⟨by rw [hE.out]; rfl, hGf⟩
        simp [results, go_sem, z0, z1, z2, z3, z4, z5, z6, z7]
      · have hE := Lib.hid (show RR = (clZ, 6) by rw [hR0, hok, if_neg (fun h => hcmp h.2)])
        have hc : ((txtB m).toList == (jnC (L.set 3 (decB m.number))).toList) = false := by rw [ba_beq, decide_eq_false (show ¬ txtB m = jnC (L.set 3 (decB m.number)) from hcmp)]
        clear hR0 hcmp hok
        generalize txtB m = T at HX hc
        generalize jnC (L.set 3 (decB m.number)) = J at HJ hc
        have c0 := hA.cell 0 _ rfl
        have c1 := hA.cell 1 _ rfl
        have c2 := hA.cell 2 _ rfl
        have c3 := hA.cell 3 _ rfl
        have c4 := hA.cell 4 _ rfl
        have c5 := hA.cell 5 _ rfl
        have c6 := hA.cell 6 _ rfl
        have c7 := hA.cell 7 _ rfl
        generalize hdd : decB m.number = D at *
        clear hdd
        go_wp2_with fail
        refine (HD.out _).mono ?_
        rintro e w7 ⟨rfl, hB7⟩
        replace R := R.go hB7
        replace hA := hA.step hB7
        replace ow := own_below ow hB7
        clear hB7 HD c0 c1 c2 c3 c4 c5 c6 c7
        obtain ⟨v3, cv3, fv3⟩ := own_cell ow 3 (by omega)
        go_upto_region 7 with (fail)
        clear cv3 fv3
        have hst := ow.stored 3 (.string D)
        rw [hset.out] at hst
        have c0 := hA.cell 0 _ rfl
        have c1 := hA.cell 1 _ rfl
        have c2 := hA.cell 2 _ rfl
        have c3 := hA.cell 3 _ rfl
        have c4 := hA.cell 4 _ rfl
        have c5 := hA.cell 5 _ rfl
        have c6 := hA.cell 6 _ rfl
        have c7 := hA.cell 7 _ rfl
        have hbs : w4.heap.size < w7.heap.size := hA.size
        have hne4 : w4.heap.size ≠ g := by omega
        have hnew : w.heap.size ≠ g := by omega
        have res2 := Box.keep R.res hst.2 hnew
        have bel2 := R.below.grown hst.2 R.below.size (fun g' e => by cases e; omega)
        replace c0 := (gcell hst.2 (p := ⟨w4.heap.size, 0, none⟩) hbs (fun g' e => by cases e; exact hne4)).trans c0
        replace c1 := (gcell hst.2 (p := ⟨w4.heap.size, 1, none⟩) hbs (fun g' e => by cases e; exact hne4)).trans c1
        replace c2 := (gcell hst.2 (p := ⟨w4.heap.size, 2, none⟩) hbs (fun g' e => by cases e; exact hne4)).trans c2
        replace c3 := (gcell hst.2 (p := ⟨w4.heap.size, 3, none⟩) hbs (fun g' e => by cases e; exact hne4)).trans c3
        replace c4 := (gcell hst.2 (p := ⟨w4.heap.size, 4, none⟩) hbs (fun g' e => by cases e; exact hne4)).trans c4
        replace c5 := (gcell hst.2 (p := ⟨w4.heap.size, 5, none⟩) hbs (fun g' e => by cases e; exact hne4)).trans c5
        replace c6 := (gcell hst.2 (p := ⟨w4.heap.size, 6, none⟩) hbs (fun g' e => by cases e; exact hne4)).trans c6
        replace c7 := (gcell hst.2 (p := ⟨w4.heap.size, 7, none⟩) hbs (fun g' e => by cases e; exact hne4)).trans c7
        replace hbs := Nat.lt_of_lt_of_le hbs hst.2.size
        clear ow
        obtain ⟨ow, hgrw⟩ := hst
        generalize w7.setCell ⟨g, 3, none⟩ (.string D) = w8 at ow res2 bel2 hbs c0 c1 c2 c3 c4 c5 c6 c7 ⊢
        clear R hgrw hA
        have R : RP w w8 := ⟨res2, bel2⟩
        clear res2 bel2
        go_wp2_with fail
        refine (HX.out _).mono ?_
        rintro e w9 ⟨rfl, hB9⟩
        replace R := R.go hB9
        clear HX
        replace c0 := (hB9.cell (p := ⟨w4.heap.size, 0, none⟩) hbs).trans c0
        replace c1 := (hB9.cell (p := ⟨w4.heap.size, 1, none⟩) hbs).trans c1
        replace c2 := (hB9.cell (p := ⟨w4.heap.size, 2, none⟩) hbs).trans c2
        replace c3 := (hB9.cell (p := ⟨w4.heap.size, 3, none⟩) hbs).trans c3
        replace c4 := (hB9.cell (p := ⟨w4.heap.size, 4, none⟩) hbs).trans c4
        replace c5 := (hB9.cell (p := ⟨w4.heap.size, 5, none⟩) hbs).trans c5
        replace c6 := (hB9.cell (p := ⟨w4.heap.size, 6, none⟩) hbs).trans c6
        replace c7 := (hB9.cell (p := ⟨w4.heap.size, 7, none⟩) hbs).trans c7
        replace hbs := Nat.lt_of_lt_of_le hbs hB9.size
        go_wp2_with fail
        refine (HJ.out _ (own_below ow hB9)).mono ?_
        rintro e w10 ⟨rfl, hB10⟩
        replace R := R.go hB10
        clear HJ hB9
        replace c0 := (hB10.cell (p := ⟨w4.heap.size, 0, none⟩) hbs).trans c0
        replace c1 := (hB10.cell (p := ⟨w4.heap.size, 1, none⟩) hbs).trans c1
        replace c2 := (hB10.cell (p := ⟨w4.heap.size, 2, none⟩) hbs).trans c2
        replace c3 := (hB10.cell (p := ⟨w4.heap.size, 3, none⟩) hbs).trans c3
        replace c4 := (hB10.cell (p := ⟨w4.heap.size, 4, none⟩) hbs).trans c4
        replace c5 := (hB10.cell (p := ⟨w4.heap.size, 5, none⟩) hbs).trans c5
        replace c6 := (hB10.cell (p := ⟨w4.heap.size, 6, none⟩) hbs).trans c6
        replace c7 := (hB10.cell (p := ⟨w4.heap.size, 7, none⟩) hbs).trans c7
        clear hB10
        have res := R.res
        have r0 := Box.cell res 0 _ rfl
        have r1 := Box.cell res 1 _ rfl
        have r2 := Box.cell res 2 _ rfl
        have r3 := Box.cell res 3 _ rfl
        have r4 := Box.cell res 4 _ rfl
        have r5 := Box.cell res 5 _ rfl
        have r6 := Box.cell res 6 _ rfl
        have r7 := Box.cell res 7 _ rfl
        have f0 := World.ownsRow.frozenAt res 0
        have f1 := World.ownsRow.frozenAt res 1
        have f2 := World.ownsRow.frozenAt res 2
        have f3 := World.ownsRow.frozenAt res 3
        have f4 := World.ownsRow.frozenAt res 4
        have f5 := World.ownsRow.frozenAt res 5
        have f6 := World.ownsRow.frozenAt res 6
        have f7 := World.ownsRow.frozenAt res 7
        have HP8 := Lib.hid (Box.put8 res (.int .i64 0) (.int .i64 0) (.int .i64 0) (.int .i64 0) (.int .i64 0) (.int .i64 0) (.int .i64 0) (.string ⟨#[]⟩))
        go_wp2
        have hp := HP8.out
        have hGf := RP.fin R hp.2
        generalize (((((((w10.setCell ⟨w.heap.size, 0, none⟩ (.int .i64 0)).setCell ⟨w.heap.size, 1, none⟩ (.int .i64 0)).setCell ⟨w.heap.size, 2, none⟩ (.int .i64 0)).setCell ⟨w.heap.size, 3, none⟩ (.int .i64 0)).setCell ⟨w.heap.size, 4, none⟩ (.int .i64 0)).setCell ⟨w.heap.size, 5, none⟩ (.int .i64 0)).setCell ⟨w.heap.size, 6, none⟩ (.int .i64 0)).setCell ⟨w.heap.size, 7, none⟩ (.string ⟨#[]⟩) = Wf at hp hGf ⊢
        have z0 := hp.1.cell 0 _ rfl
        have z1 := hp.1.cell 1 _ rfl
        have z2 := hp.1.cell 2 _ rfl
        have z3 := hp.1.cell 3 _ rfl
        have z4 := hp.1.cell 4 _ rfl
        have z5 := hp.1.cell 5 _ rfl
        have z6 := hp.1.cell 6 _ rfl
        have z7 := hp.1.cell 7 _ rfl
        refine bodyPost_ret_by (v := .tuple #[.agg #[.int .i64 0, .int .i64 0, .int .i64 0, .int .i64 0, .int .i64 0, .int .i64 0, .int .i64 0, .string ⟨#[]⟩], .int .i64 6]) ?_ rfl ⟨by rw [hE.out]; rfl, hGf⟩
        simp [results, go_sem, z0, z1, z2, z3, z4, z5, z6, z7]
    have g2 : (m.kind == 2) = false := by simp; omega
    have g3 : (m.kind == 3) = false := by simp; omega
    have g4 : (m.kind == 4) = false := by simp; omega
    rw [show numW L m = L from if_neg (by omega)] at hR0
    have hJl : L.length = L.length := rfl
    have hszs : ∀ x ∈ L, x.size ≤ 2000000 := fun x hx => by have := hsz x hx; omega
    have HJ := Lib.hid (fun W (h : W.ownsRow w2.heap.size 9 1 (.slice (some ⟨g, 0, none⟩) L.length cp) L.length (L.flatMap encS)) => l01JoinC_any (some ⟨g, 0, none⟩) cp L W (by omega) (Rd.of_own encS_len (by decide) h) hszs)
    clear hJl hbd hnm
    have c0 := hA.cell 0 _ rfl
    have c1 := hA.cell 1 _ rfl
    have c2 := hA.cell 2 _ rfl
    have c3 := hA.cell 3 _ rfl
    have c4 := hA.cell 4 _ rfl
    have c5 := hA.cell 5 _ rfl
    have c6 := hA.cell 6 _ rfl
    have c7 := hA.cell 7 _ rfl
    have hbs : w4.heap.size < w6.heap.size := hA.size
    by_cases hcmp : txtB m = jnS 32 L
    · have hE := Lib.hid (show RR = (m, 0) by rw [hR0, hok, if_pos ⟨rfl, hcmp⟩])
      have hc : ((txtB m).toList == (jnC L).toList) = true := by rw [ba_beq, decide_eq_true (show txtB m = jnC L from hcmp)]
      clear hR0 hcmp hok
      generalize txtB m = T at HX hc
      generalize jnC L = J at HJ hc
      go_wp2_with fail
      refine (HX.out _).mono ?_
      rintro e w9 ⟨rfl, hB9⟩
      replace R := R.go hB9
      clear HX
      replace c0 := (hB9.cell (p := ⟨w4.heap.size, 0, none⟩) hbs).trans c0
      replace c1 := (hB9.cell (p := ⟨w4.heap.size, 1, none⟩) hbs).trans c1
      replace c2 := (hB9.cell (p := ⟨w4.heap.size, 2, none⟩) hbs).trans c2
      replace c3 := (hB9.cell (p := ⟨w4.heap.size, 3, none⟩) hbs).trans c3
      replace c4 := (hB9.cell (p := ⟨w4.heap.size, 4, none⟩) hbs).trans c4
      replace c5 := (hB9.cell (p := ⟨w4.heap.size, 5, none⟩) hbs).trans c5
      replace c6 := (hB9.cell (p := ⟨w4.heap.size, 6, none⟩) hbs).trans c6
      replace c7 := (hB9.cell (p := ⟨w4.heap.size, 7, none⟩) hbs).trans c7
      replace hbs := Nat.lt_of_lt_of_le hbs hB9.size
      go_wp2_with fail
      refine (HJ.out _ (own_below ow hB9)).mono ?_
      rintro e w10 ⟨rfl, hB10⟩
      replace R := R.go hB10
      clear HJ hB9
      replace c0 := (hB10.cell (p := ⟨w4.heap.size, 0, none⟩) hbs).trans c0
      replace c1 := (hB10.cell (p := ⟨w4.heap.size, 1, none⟩) hbs).trans c1
      replace c2 := (hB10.cell (p := ⟨w4.heap.size, 2, none⟩) hbs).trans c2
      replace c3 := (hB10.cell (p := ⟨w4.heap.size, 3, none⟩) hbs).trans c3
      replace c4 := (hB10.cell (p := ⟨w4.heap.size, 4, none⟩) hbs).trans c4
      replace c5 := (hB10.cell (p := ⟨w4.heap.size, 5, none⟩) hbs).trans c5
      replace c6 := (hB10.cell (p := ⟨w4.heap.size, 6, none⟩) hbs).trans c6
      replace c7 := (hB10.cell (p := ⟨w4.heap.size, 7, none⟩) hbs).trans c7
      clear hB10
      have res := R.res
      have r0 := Box.cell res 0 _ rfl
      have r1 := Box.cell res 1 _ rfl
      have r2 := Box.cell res 2 _ rfl
      have r3 := Box.cell res 3 _ rfl
      have r4 := Box.cell res 4 _ rfl
      have r5 := Box.cell res 5 _ rfl
      have r6 := Box.cell res 6 _ rfl
      have r7 := Box.cell res 7 _ rfl
      have f0 := World.ownsRow.frozenAt res 0
      have f1 := World.ownsRow.frozenAt res 1
      have f2 := World.ownsRow.frozenAt res 2
      have f3 := World.ownsRow.frozenAt res 3
      have f4 := World.ownsRow.frozenAt res 4
      have f5 := World.ownsRow.frozenAt res 5
      have f6 := World.ownsRow.frozenAt res 6
      have f7 := World.ownsRow.frozenAt res 7
      have HP8 := Lib.hid (Box.put8 res (.int .i64 m.kind) (.int .i64 m.number) (.int .i64 m.month) (.int .i64 m.feast) (.int .i64 m.relation) (.int .i64 m.weekday) (.int .i64 m.style) (.string m.king))
      go_wp2
      have hp := HP8.out
      have hGf := RP.fin R hp.2
      generalize (((((((w10.setCell ⟨w.heap.size, 0, none⟩ (.int .i64 m.kind)).setCell ⟨w.heap.size, 1, none⟩ (.int .i64 m.number)).setCell ⟨w.heap.size, 2, none⟩ (.int .i64 m.month)).setCell ⟨w.heap.size, 3, none⟩ (.int .i64 m.feast)).setCell ⟨w.heap.size, 4, none⟩ (.int .i64 m.relation)).setCell ⟨w.heap.size, 5, none⟩ (.int .i64 m.weekday)).setCell ⟨w.heap.size, 6, none⟩ (.int .i64 m.style)).setCell ⟨w.heap.size, 7, none⟩ (.string m.king) = Wf at hp hGf ⊢
      have z0 := hp.1.cell 0 _ rfl
      have z1 := hp.1.cell 1 _ rfl
      have z2 := hp.1.cell 2 _ rfl
      have z3 := hp.1.cell 3 _ rfl
      have z4 := hp.1.cell 4 _ rfl
      have z5 := hp.1.cell 5 _ rfl
      have z6 := hp.1.cell 6 _ rfl
      have z7 := hp.1.cell 7 _ rfl
      refine bodyPost_ret_by (v := .tuple #[.agg #[.int .i64 m.kind, .int .i64 m.number, .int .i64 m.month, .int .i64 m.feast, .int .i64 m.relation, .int .i64 m.weekday, .int .i64 m.style, .string m.king], .int .i64 0]) ?_ rfl ⟨by rw [hE.out]; rfl, hGf⟩
      simp [results, go_sem, z0, z1, z2, z3, z4, z5, z6, z7]
    · have hE := Lib.hid (show RR = (clZ, 6) by rw [hR0, hok, if_neg (fun h => hcmp h.2)])
      have hc : ((txtB m).toList == (jnC L).toList) = false := by rw [ba_beq, decide_eq_false (show ¬ txtB m = jnC L from hcmp)]
      clear hR0 hcmp hok
      generalize txtB m = T at HX hc
      generalize jnC L = J at HJ hc
      go_wp2_with fail
      refine (HX.out _).mono ?_
      rintro e w9 ⟨rfl, hB9⟩
      replace R := R.go hB9
      clear HX
      replace c0 := (hB9.cell (p := ⟨w4.heap.size, 0, none⟩) hbs).trans c0
      replace c1 := (hB9.cell (p := ⟨w4.heap.size, 1, none⟩) hbs).trans c1
      replace c2 := (hB9.cell (p := ⟨w4.heap.size, 2, none⟩) hbs).trans c2
      replace c3 := (hB9.cell (p := ⟨w4.heap.size, 3, none⟩) hbs).trans c3
      replace c4 := (hB9.cell (p := ⟨w4.heap.size, 4, none⟩) hbs).trans c4
      replace c5 := (hB9.cell (p := ⟨w4.heap.size, 5, none⟩) hbs).trans c5
      replace c6 := (hB9.cell (p := ⟨w4.heap.size, 6, none⟩) hbs).trans c6
      replace c7 := (hB9.cell (p := ⟨w4.heap.size, 7, none⟩) hbs).trans c7
      replace hbs := Nat.lt_of_lt_of_le hbs hB9.size
      go_wp2_with fail
      refine (HJ.out _ (own_below ow hB9)).mono ?_
      rintro e w10 ⟨rfl, hB10⟩
      replace R := R.go hB10
      clear HJ hB9
      replace c0 := (hB10.cell (p := ⟨w4.heap.size, 0, none⟩) hbs).trans c0
      replace c1 := (hB10.cell (p := ⟨w4.heap.size, 1, none⟩) hbs).trans c1
      replace c2 := (hB10.cell (p := ⟨w4.heap.size, 2, none⟩) hbs).trans c2
      replace c3 := (hB10.cell (p := ⟨w4.heap.size, 3, none⟩) hbs).trans c3
      replace c4 := (hB10.cell (p := ⟨w4.heap.size, 4, none⟩) hbs).trans c4
      replace c5 := (hB10.cell (p := ⟨w4.heap.size, 5, none⟩) hbs).trans c5
      replace c6 := (hB10.cell (p := ⟨w4.heap.size, 6, none⟩) hbs).trans c6
      replace c7 := (hB10.cell (p := ⟨w4.heap.size, 7, none⟩) hbs).trans c7
      clear hB10
      have res := R.res
      have r0 := Box.cell res 0 _ rfl
      have r1 := Box.cell res 1 _ rfl
      have r2 := Box.cell res 2 _ rfl
      have r3 := Box.cell res 3 _ rfl
      have r4 := Box.cell res 4 _ rfl
      have r5 := Box.cell res 5 _ rfl
      have r6 := Box.cell res 6 _ rfl
      have r7 := Box.cell res 7 _ rfl
      have f0 := World.ownsRow.frozenAt res 0
      have f1 := World.ownsRow.frozenAt res 1
      have f2 := World.ownsRow.frozenAt res 2
      have f3 := World.ownsRow.frozenAt res 3
      have f4 := World.ownsRow.frozenAt res 4
      have f5 := World.ownsRow.frozenAt res 5
      have f6 := World.ownsRow.frozenAt res 6
      have f7 := World.ownsRow.frozenAt res 7
      have HP8 := Lib.hid (Box.put8 res (.int .i64 0) (.int .i64 0) (.int .i64 0) (.int .i64 0) (.int .i64 0) (.int .i64 0) (.int .i64 0) (.string ⟨#[]⟩))
      go_wp2
      have hp := HP8.out
      have hGf := RP.fin R hp.2
      generalize (((((((w10.setCell ⟨w.heap.size, 0, none⟩ (.int .i64 0)).setCell ⟨w.heap.size, 1, none⟩ (.int .i64 0)).setCell ⟨w.heap.size, 2, none⟩ (.int .i64 0)).setCell ⟨w.heap.size, 3, none⟩ (.int .i64 0)).setCell ⟨w.heap.size, 4, none⟩ (.int .i64 0)).setCell ⟨w.heap.size, 5, none⟩ (.int .i64 0)).setCell ⟨w.heap.size, 6, none⟩ (.int .i64 0)).setCell ⟨w.heap.size, 7, none⟩ (.string ⟨#[]⟩) = Wf at hp hGf ⊢
      have z0 := hp.1.cell 0 _ rfl
      have z1 := hp.1.cell 1 _ rfl
      have z2 := hp.1.cell 2 _ rfl
      have z3 := hp.1.cell 3 _ rfl
      have z4 := hp.1.cell 4 _ rfl
      have z5 := hp.1.cell 5 _ rfl
      have z6 := hp.1.cell 6 _ rfl
      have z7 := hp.1.cell 7 _ rfl
      refine bodyPost_ret_by (v := .tuple #[.agg #[.int .i64 0, .int .i64 0, .int .i64 0, .int .i64 0, .int .i64 0, .int .i64 0, .int .i64 0, .string ⟨#[]⟩], .int .i64 6]) ?_ rfl ⟨by rw [hE.out]; rfl, hGf⟩
      simp [results, go_sem, z0, z1, z2, z3, z4, z5, z6, z7]
end Go.Proofs.YteajkofgcmfaoaaGreatDoor
