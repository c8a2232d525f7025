/- Walks: ReadDating of both sides. Printed by gen_rdt.py. -/
import Derived.Test.YteajkofgcmfaoaaGreatDoorRd5
import Derived.Test.YteajkofgcmfaoaaGreatDoorDt
import Derived.Test.YteajkofgcmfaoaaGreatDoorRi
namespace Go.Proofs.YteajkofgcmfaoaaGreatDoor
section
open Go.ChangeShapes Go.WideShapes Go.ChangeAt Go.RowKit Go.IntWalk

theorem rdR_spec (s : ByteArray) : rdR s = if okCl (guS rnB (wsB 32 s)) = true ∧ txtB (guS rnB (wsB 32 s)) = jnS 32 (numW (wsB 32 s) (guS rnB (wsB 32 s))) then (guS rnB (wsB 32 s), 0) else (clZ, 6) := by
  obtain ⟨h1, h2⟩ := read_law rnB (wsB_ne 32 s) (wsB_free 32 s)
  unfold rdR
  by_cases h : okCl (readI rnB (wsB 32 s)) = true
  · have h3 : okS rnB (wsB 32 s) = true := h1.trans h
    unfold okS at h3
    simp only [Bool.and_eq_true, decide_eq_true_eq] at h3
    rw [if_pos h, if_pos h3, h2 h]
  · rw [if_neg h, if_neg]
    intro hh
    apply h
    rw [← h1]
    unfold okS
    simp only [Bool.and_eq_true, decide_eq_true_eq]
    exact hh
theorem guS_num (rn : ByteArray → Int) : ∀ L : List ByteArray, okCl (guS rn L) = true → L.length ≤ 6 ∧ ((guS rn L).kind = 2 ∨ (guS rn L).kind = 3 ∨ (guS rn L).kind = 4 → L.length = 6)
  | [], h => by rw [show guS rn [] = clN from rfl, okCl_N] at h; cases h
  | [_], h => by rw [show guS rn [_] = clN from rfl, okCl_N] at h; cases h
  | [a, x], _ => ⟨by simp, fun h => by rw [guS2] at h; split at h <;> (revert h; simp [clN])⟩
  | [a, c, x], _ => ⟨by simp, fun h => by rw [guS3] at h; split at h <;> (revert h; simp [clN])⟩
  | [_, _, _, _], h => by rw [show guS rn [_, _, _, _] = clN from rfl, okCl_N] at h; cases h
  | [a, c, x, d, y], _ => ⟨by simp, fun h => by
      rw [guS5] at h
      split at h
      · split at h <;> (revert h; simp)
      · split at h
        · split at h <;> (revert h; simp)
        · revert h; simp [clN]⟩
  | [a, c, d, x, u, y], _ => ⟨by simp, fun _ => rfl⟩
  | a :: b :: c :: d :: e :: f :: k :: r, h => by rw [show guS rn (a :: b :: c :: d :: e :: f :: k :: r) = clN from rfl, okCl_N] at h; cases h
theorem set_enc (L : List ByteArray) (i : Nat) (x : ByteArray) : (L.flatMap encS).set i (.string x) = (L.set i x).flatMap encS := by
  rw [← encS_map, ← encS_map, List.map_set]

set_option maxRecDepth 100000 in
set_option maxHeartbeats 8000000 in
theorem specReadClause_any (s : ByteArray) (hs : s.size ≤ 1048576) (w : World) :
    Calls Tryz.prog 18 #[.string s] w fun e w' => e = .returned (.tuple #[clV (rdR s).1, .int .i64 (rdR s).2]) ∧ Below w.heap.size w w' := by
  have hk := guS_king rnB s.size (wsB 32 s) (wsB_part 32 s)
  have hR0 := rdR_spec s
  have hsz := wsB_part 32 s
  have hln := wsB_len 32 s
  have HSP := Lib.hid (fun W => show Calls Tryz.prog 38 #[.string s, .int .u8 32] W _ from l01Split_any s 32 W hs)
  have HG := fun g c W => l11Guess_any (wsB 32 s) g c W (wsB_ne 32 s) (by omega)
  have hnum := guS_num rnB (wsB 32 s)
  generalize rdR s = RR at hR0 ⊢
  generalize wsB 32 s = L at hk hR0 hsz hln HSP HG hnum
  generalize guS rnB L = m at hk hR0 HG hnum
  unfold clV at HG
  replace HG := Lib.hid HG
  have R := RP.start w
  have HM := Lib.hid (fun W => specClause_any m W (by omega))
  cases hok : okCl m
  · rw [hok] at HM
    have hE := Lib.hid (show RR = (clZ, 6) by rw [hR0, hok, if_neg (fun h => by cases h.1)])
    clear hR0 hok hnum
    go_enter Tryz.func18, Tryz.ntmps18
    go_upto_region 1 with (fail)
    have hw2 := R.res.lt.2
    generalize w.alloc (.cells #[.int .i64 0, .int .i64 0, .int .i64 0, .int .i64 0, .int .i64 0, .int .i64 0, .int .i64 0, .string ⟨#[]⟩] 31) = w2 at R hw2 ⊢
    go_wp2_with fail
    refine (HSP.out _).mono ?_
    rintro e w3 ⟨g, cp, rfl, ow, hB3⟩
    replace R := R.go hB3
    clear hB3 HSP
    go_wp2_with fail
    refine (HG.out g cp _ (Rd.of_own encS_len (by decide) ow)).mono ?_
    rintro e w4 ⟨rfl, hB4⟩
    replace R := R.go hB4
    replace ow := own_below ow hB4
    clear hB4 HG
    have hgl := own_lt ow
    have hA := At.start w4 [.int .i64 m.kind, .int .i64 m.number, .int .i64 m.month, .int .i64 m.feast, .int .i64 m.relation, .int .i64 m.weekday, .int .i64 m.style, .string m.king] 31
    go_upto_region 3 with (fail)
    generalize hW : w4.alloc (.cells #[.int .i64 m.kind, .int .i64 m.number, .int .i64 m.month, .int .i64 m.feast, .int .i64 m.relation, .int .i64 m.weekday, .int .i64 m.style, .string m.king] 31) = w5 at hA ⊢
    clear hW
    replace R := R.go hA.below
    replace ow := own_below ow hA.below
    have c0 := hA.cell 0 _ rfl
    have c1 := hA.cell 1 _ rfl
    have c2 := hA.cell 2 _ rfl
    have c3 := hA.cell 3 _ rfl
    have c4 := hA.cell 4 _ rfl
    have c5 := hA.cell 5 _ rfl
    have c6 := hA.cell 6 _ rfl
    have c7 := hA.cell 7 _ rfl
    go_wp2_with fail
    refine (HM.out _).mono ?_
    rintro e w6 ⟨rfl, hB6⟩
    replace R := R.go hB6
    replace hA := hA.step hB6
    replace ow := own_below ow hB6
    clear hB6 HM c0 c1 c2 c3 c4 c5 c6 c7
    have c0 := hA.cell 0 _ rfl
    have c1 := hA.cell 1 _ rfl
    have c2 := hA.cell 2 _ rfl
    have c3 := hA.cell 3 _ rfl
    have c4 := hA.cell 4 _ rfl
    have c5 := hA.cell 5 _ rfl
    have c6 := hA.cell 6 _ rfl
    have c7 := hA.cell 7 _ rfl
    have res := R.res
    have r0 := Box.cell res 0 _ rfl
    have r1 := Box.cell res 1 _ rfl
    have r2 := Box.cell res 2 _ rfl
    have r3 := Box.cell res 3 _ rfl
    have r4 := Box.cell res 4 _ rfl
    have r5 := Box.cell res 5 _ rfl
    have r6 := Box.cell res 6 _ rfl
    have r7 := Box.cell res 7 _ rfl
    have f0 := World.ownsRow.frozenAt res 0
    have f1 := World.ownsRow.frozenAt res 1
    have f2 := World.ownsRow.frozenAt res 2
    have f3 := World.ownsRow.frozenAt res 3
    have f4 := World.ownsRow.frozenAt res 4
    have f5 := World.ownsRow.frozenAt res 5
    have f6 := World.ownsRow.frozenAt res 6
    have f7 := World.ownsRow.frozenAt res 7
    have HP8 := Lib.hid (Box.put8 res (.int .i64 0) (.int .i64 0) (.int .i64 0) (.int .i64 0) (.int .i64 0) (.int .i64 0) (.int .i64 0) (.string ⟨#[]⟩))
    go_wp2
    have hp := HP8.out
    have hGf := RP.fin R hp.2
    generalize (((((((w6.setCell ⟨w.heap.size, 0, none⟩ (.int .i64 0)).setCell ⟨w.heap.size, 1, none⟩ (.int .i64 0)).setCell ⟨w.heap.size, 2, none⟩ (.int .i64 0)).setCell ⟨w.heap.size, 3, none⟩ (.int .i64 0)).setCell ⟨w.heap.size, 4, none⟩ (.int .i64 0)).setCell ⟨w.heap.size, 5, none⟩ (.int .i64 0)).setCell ⟨w.heap.size, 6, none⟩ (.int .i64 0)).setCell ⟨w.heap.size, 7, none⟩ (.string ⟨#[]⟩) = Wf at hp hGf ⊢
    have z0 := hp.1.cell 0 _ rfl
    have z1 := hp.1.cell 1 _ rfl
    have z2 := hp.1.cell 2 _ rfl
    have z3 := hp.1.cell 3 _ rfl
    have z4 := hp.1.cell 4 _ rfl
    have z5 := hp.1.cell 5 _ rfl
    have z6 := hp.1.cell 6 _ rfl
    have z7 := hp.1.cell 7 _ rfl
    refine bodyPost_ret_by (v := .tuple #[.agg #[.int .i64 0, .int .i64 0, .int .i64 0, .int .i64 0, .int .i64 0, .int .i64 0, .int .i64 0, .string ⟨#[]⟩], .int .i64 6]) ?_ rfl ⟨by rw [hE.out]; rfl, hGf⟩
    simp [results, go_sem, z0, z1, z2, z3, z4, z5, z6, z7]
  · rw [hok] at HM
    have hbd := okCl_bd hok
    have hnm := hnum hok
    have HX := Lib.hid (fun W => specTxt_any m W hok)
    clear hnum
    go_enter Tryz.func18, Tryz.ntmps18
    go_upto_region 1 with (fail)
    have hw2 := R.res.lt.2
    generalize w.alloc (.cells #[.int .i64 0, .int .i64 0, .int .i64 0, .int .i64 0, .int .i64 0, .int .i64 0, .int .i64 0, .string ⟨#[]⟩] 31) = w2 at R hw2 ⊢
    go_wp2_with fail
    refine (HSP.out _).mono ?_
    rintro e w3 ⟨g, cp, rfl, ow, hB3⟩
    replace R := R.go hB3
    clear hB3 HSP
    go_wp2_with fail
    refine (HG.out g cp _ (Rd.of_own encS_len (by decide) ow)).mono ?_
    rintro e w4 ⟨rfl, hB4⟩
    replace R := R.go hB4
    replace ow := own_below ow hB4
    clear hB4 HG
    have hgl := own_lt ow
    have hA := At.start w4 [.int .i64 m.kind, .int .i64 m.number, .int .i64 m.month, .int .i64 m.feast, .int .i64 m.relation, .int .i64 m.weekday, .int .i64 m.style, .string m.king] 31
    go_upto_region 3 with (fail)
    generalize hW : w4.alloc (.cells #[.int .i64 m.kind, .int .i64 m.number, .int .i64 m.month, .int .i64 m.feast, .int .i64 m.relation, .int .i64 m.weekday, .int .i64 m.style, .string m.king] 31) = w5 at hA ⊢
    clear hW
    replace R := R.go hA.below
    replace ow := own_below ow hA.below
    have c0 := hA.cell 0 _ rfl
    have c1 := hA.cell 1 _ rfl
    have c2 := hA.cell 2 _ rfl
    have c3 := hA.cell 3 _ rfl
    have c4 := hA.cell 4 _ rfl
    have c5 := hA.cell 5 _ rfl
    have c6 := hA.cell 6 _ rfl
    have c7 := hA.cell 7 _ rfl
    go_wp2_with fail
    refine (HM.out _).mono ?_
    rintro e w6 ⟨rfl, hB6⟩
    replace R := R.go hB6
    replace hA := hA.step hB6
    replace ow := own_below ow hB6
    clear hB6 HM c0 c1 c2 c3 c4 c5 c6 c7
    by_cases k2 : m.kind = 2
    · have g2 : (m.kind == 2) = true := by simp; omega
      have g3 : (m.kind == 3) = false := by simp; omega
      have g4 : (m.kind == 4) = false := by simp; omega
      have hn0 : 0 ≤ m.number := by omega
      have hn1 : m.number ≤ 2000 := by omega
      have h3 : 3 < L.length := by omega
      have HD := Lib.hid (fun W => l01DecJ m.number hn0 hn1 W)
      rw [show numW L m = L.set 3 (decB m.number) from if_pos (by omega)] at hR0
      have hJl : (L.set 3 (decB m.number)).length = L.length := List.length_set
      have hszs : ∀ x ∈ L.set 3 (decB m.number), x.size ≤ 2000000 := fun x hx => by
        rcases List.mem_or_eq_of_mem_set hx with h | h
        · have := hsz x h; omega
        · have := decB_sz hn0 hn1; rw [h]; omega
      have HJ := Lib.hid (fun W (h : W.ownsRow w2.heap.size 9 1 (.slice (some ⟨g, 0, none⟩) L.length cp) L.length ((L.set 3 (decB m.number)).flatMap encS)) => hJl ▸ l01JoinC_any (some ⟨g, 0, none⟩) cp (L.set 3 (decB m.number)) W (by omega) (Rd.of_own encS_len (by decide) h) hszs)
      have hset := Lib.hid (set_enc L 3 (decB m.number))
      clear k2 hbd hnm
      by_cases hcmp : txtB m = jnS 32 (L.set 3 (decB m.number))
      · have hE := Lib.hid (show RR = (m, 0) by rw [hR0, hok, if_pos ⟨rfl, hcmp⟩])
        have hc : ((txtB m).toList == (jnC (L.set 3 (decB m.number))).toList) = true := by rw [ba_beq, decide_eq_true (show txtB m = jnC (L.set 3 (decB m.number)) from hcmp)]
        clear hR0 hcmp hok
        generalize txtB m = T at HX hc
        generalize jnC (L.set 3 (decB m.number)) = J at HJ hc
        have c0 := hA.cell 0 _ rfl
        have c1 := hA.cell 1 _ rfl
        have c2 := hA.cell 2 _ rfl
        have c3 := hA.cell 3 _ rfl
        have c4 := hA.cell 4 _ rfl
        have c5 := hA.cell 5 _ rfl
        have c6 := hA.cell 6 _ rfl
        have c7 := hA.cell 7 _ rfl
        generalize hdd : decB m.number = D at *
        clear hdd
        go_wp2_with fail
        refine (HD.out _).mono ?_
        rintro e w7 ⟨rfl, hB7⟩
        replace R := R.go hB7
        replace hA := hA.step hB7
        replace ow := own_below ow hB7
        clear hB7 HD c0 c1 c2 c3 c4 c5 c6 c7
        obtain ⟨v3, cv3, fv3⟩ := own_cell ow 3 (by omega)
        go_upto_region 7 with (fail)
        clear cv3 fv3
        have hst := ow.stored 3 (.string D)
        rw [hset.out] at hst
        have c0 := hA.cell 0 _ rfl
        have c1 := hA.cell 1 _ rfl
        have c2 := hA.cell 2 _ rfl
        have c3 := hA.cell 3 _ rfl
        have c4 := hA.cell 4 _ rfl
        have c5 := hA.cell 5 _ rfl
        have c6 := hA.cell 6 _ rfl
        have c7 := hA.cell 7 _ rfl
        have hbs : w4.heap.size < w7.heap.size := hA.size
        have hne4 : w4.heap.size ≠ g := by omega
        have hnew : w.heap.size ≠ g := by omega
        have res2 := Box.keep R.res hst.2 hnew
        have bel2 := R.below.grown hst.2 R.below.size (fun g' e => by cases e; omega)
        replace c0 := (gcell hst.2 (p := ⟨w4.heap.size, 0, none⟩) hbs (fun g' e => by cases e; exact hne4)).trans c0
        replace c1 := (gcell hst.2 (p := ⟨w4.heap.size, 1, none⟩) hbs (fun g' e => by cases e; exact hne4)).trans c1
        replace c2 := (gcell hst.2 (p := ⟨w4.heap.size, 2, none⟩) hbs (fun g' e => by cases e; exact hne4)).trans c2
        replace c3 := (gcell hst.2 (p := ⟨w4.heap.size, 3, none⟩) hbs (fun g' e => by cases e; exact hne4)).trans c3
        replace c4 := (gcell hst.2 (p := ⟨w4.heap.size, 4, none⟩) hbs (fun g' e => by cases e; exact hne4)).trans c4
        replace c5 := (gcell hst.2 (p := ⟨w4.heap.size, 5, none⟩) hbs (fun g' e => by cases e; exact hne4)).trans c5
        replace c6 := (gcell hst.2 (p := ⟨w4.heap.size, 6, none⟩) hbs (fun g' e => by cases e; exact hne4)).trans c6
        replace c7 := (gcell hst.2 (p := ⟨w4.heap.size, 7, none⟩) hbs (fun g' e => by cases e; exact hne4)).trans c7
        replace hbs := Nat.lt_of_lt_of_le hbs hst.2.size
        clear ow
        obtain ⟨ow, hgrw⟩ := hst
        generalize w7.setCell ⟨g, 3, none⟩ (.string D) = w8 at ow res2 bel2 hbs c0 c1 c2 c3 c4 c5 c6 c7 ⊢
        clear R hgrw hA
        have R : RP w w8 := ⟨res2, bel2⟩
        clear res2 bel2
        go_wp2_with fail
        refine (HX.out _).mono ?_
        rintro e w9 ⟨rfl, hB9⟩
        replace R := R.go hB9
        clear HX
        replace c0 := (hB9.cell (p := ⟨w4.heap.size, 0, none⟩) hbs).trans c0
        replace c1 := (hB9.cell (p := ⟨w4.heap.size, 1, none⟩) hbs).trans c1
        replace c2 := (hB9.cell (p := ⟨w4.heap.size, 2, none⟩) hbs).trans c2
        replace c3 := (hB9.cell (p := ⟨w4.heap.size, 3, none⟩) hbs).trans c3
        replace c4 := (hB9.cell (p := ⟨w4.heap.size, 4, none⟩) hbs).trans c4
        replace c5 := (hB9.cell (p := ⟨w4.heap.size, 5, none⟩) hbs).trans c5
        replace c6 := (hB9.cell (p := ⟨w4.heap.size, 6, none⟩) hbs).trans c6
        replace c7 := (hB9.cell (p := ⟨w4.heap.size, 7, none⟩) hbs).trans c7
        replace hbs := Nat.lt_of_lt_of_le hbs hB9.size
        go_wp2_with fail
        refine (HJ.out _ (own_below ow hB9)).mono ?_
        rintro e w10 ⟨rfl, hB10⟩
        replace R := R.go hB10
        clear HJ hB9
        replace c0 := (hB10.cell (p := ⟨w4.heap.size, 0, none⟩) hbs).trans c0
        replace c1 := (hB10.cell (p := ⟨w4.heap.size, 1, none⟩) hbs).trans c1
        replace c2 := (hB10.cell (p := ⟨w4.heap.size, 2, none⟩) hbs).trans c2
        replace c3 := (hB10.cell (p := ⟨w4.heap.size, 3, none⟩) hbs).trans c3
        replace c4 := (hB10.cell (p := ⟨w4.heap.size, 4, none⟩) hbs).trans c4
        replace c5 := (hB10.cell (p := ⟨w4.heap.size, 5, none⟩) hbs).trans c5
        replace c6 := (hB10.cell (p := ⟨w4.heap.size, 6, none⟩) hbs).trans c6
        replace c7 := (hB10.cell (p := ⟨w4.heap.size, 7, none⟩) hbs).trans c7
        clear hB10
        have res := R.res
        have r0 := Box.cell res 0 _ rfl
        have r1 := Box.cell res 1 _ rfl
        have r2 := Box.cell res 2 _ rfl
        have r3 := Box.cell res 3 _ rfl
        have r4 := Box.cell res 4 _ rfl
        have r5 := Box.cell res 5 _ rfl
        have r6 := Box.cell res 6 _ rfl
        have r7 := Box.cell res 7 _ rfl
        have f0 := World.ownsRow.frozenAt res 0
        have f1 := World.ownsRow.frozenAt res 1
        have f2 := World.ownsRow.frozenAt res 2
        have f3 := World.ownsRow.frozenAt res 3
        have f4 := World.ownsRow.frozenAt res 4
        have f5 := World.ownsRow.frozenAt res 5
        have f6 := World.ownsRow.frozenAt res 6
        have f7 := World.ownsRow.frozenAt res 7
        have HP8 := Lib.hid (Box.put8 res (.int .i64 m.kind) (.int .i64 m.number) (.int .i64 m.month) (.int .i64 m.feast) (.int .i64 m.relation) (.int .i64 m.weekday) (.int .i64 m.style) (.string m.king))
        go_wp2
        have hp := HP8.out
        have hGf := RP.fin R hp.2
        generalize (((((((w10.setCell ⟨w.heap.size, 0, none⟩ (.int .i64 m.kind)).setCell ⟨w.heap.size, 1, none⟩ (.int .i64 m.number)).setCell ⟨w.heap.size, 2, none⟩ (.int .i64 m.month)).setCell ⟨w.heap.size, 3, none⟩ (.int .i64 m.feast)).setCell ⟨w.heap.size, 4, none⟩ (.int .i64 m.relation)).setCell ⟨w.heap.size, 5, none⟩ (.int .i64 m.weekday)).setCell ⟨w.heap.size, 6, none⟩ (.int .i64 m.style)).setCell ⟨w.heap.size, 7, none⟩ (.string m.king) = Wf at hp hGf ⊢
        have z0 := hp.1.cell 0 _ rfl
        have z1 := hp.1.cell 1 _ rfl
        have z2 := hp.1.cell 2 _ rfl
        have z3 := hp.1.cell 3 _ rfl
        have z4 := hp.1.cell 4 _ rfl
        have z5 := hp.1.cell 5 _ rfl
        have z6 := hp.1.cell 6 _ rfl
        have z7 := hp.1.cell 7 _ rfl
        refine bodyPost_ret_by (v := .tuple #[.agg #[.int .i64 m.kind, .int .i64 m.number, .int .i64 m.month, .int .i64 m.feast, .int .i64 m.relation, .int .i64 m.weekday, .int .i64 m.style, .string m.king], .int .i64 0]) ?_ rfl ⟨by rw [hE.out]; rfl, hGf⟩
        simp [results, go_sem, z0, z1, z2, z3, z4, z5, z6, z7]
      · have hE := Lib.hid (show RR = (clZ, 6) by rw [hR0, hok, if_neg (fun h => hcmp h.2)])
        have hc : ((txtB m).toList == (jnC (L.set 3 (decB m.number))).toList) = false := by rw [ba_beq, decide_eq_false (show ¬ txtB m = jnC (L.set 3 (decB m.number)) from hcmp)]
        clear hR0 hcmp hok
        generalize txtB m = T at HX hc
        generalize jnC (L.set 3 (decB m.number)) = J at HJ hc
        have c0 := hA.cell 0 _ rfl
        have c1 := hA.cell 1 _ rfl
        have c2 := hA.cell 2 _ rfl
        have c3 := hA.cell 3 _ rfl
        have c4 := hA.cell 4 _ rfl
        have c5 := hA.cell 5 _ rfl
        have c6 := hA.cell 6 _ rfl
        have c7 := hA.cell 7 _ rfl
        generalize hdd : decB m.number = D at *
        clear hdd
        go_wp2_with fail
        refine (HD.out _).mono ?_
        rintro e w7 ⟨rfl, hB7⟩
        replace R := R.go hB7
        replace hA := hA.step hB7
        replace ow := own_below ow hB7
        clear hB7 HD c0 c1 c2 c3 c4 c5 c6 c7
        obtain ⟨v3, cv3, fv3⟩ := own_cell ow 3 (by omega)
        go_upto_region 7 with (fail)
        clear cv3 fv3
        have hst := ow.stored 3 (.string D)
        rw [hset.out] at hst
        have c0 := hA.cell 0 _ rfl
        have c1 := hA.cell 1 _ rfl
        have c2 := hA.cell 2 _ rfl
        have c3 := hA.cell 3 _ rfl
        have c4 := hA.cell 4 _ rfl
        have c5 := hA.cell 5 _ rfl
        have c6 := hA.cell 6 _ rfl
        have c7 := hA.cell 7 _ rfl
        have hbs : w4.heap.size < w7.heap.size := hA.size
        have hne4 : w4.heap.size ≠ g := by omega
        have hnew : w.heap.size ≠ g := by omega
        have res2 := Box.keep R.res hst.2 hnew
        have bel2 := R.below.grown hst.2 R.below.size (fun g' e => by cases e; omega)
        replace c0 := (gcell hst.2 (p := ⟨w4.heap.size, 0, none⟩) hbs (fun g' e => by cases e; exact hne4)).trans c0
        replace c1 := (gcell hst.2 (p := ⟨w4.heap.size, 1, none⟩) hbs (fun g' e => by cases e; exact hne4)).trans c1
        replace c2 := (gcell hst.2 (p := ⟨w4.heap.size, 2, none⟩) hbs (fun g' e => by cases e; exact hne4)).trans c2
        replace c3 := (gcell hst.2 (p := ⟨w4.heap.size, 3, none⟩) hbs (fun g' e => by cases e; exact hne4)).trans c3
        replace c4 := (gcell hst.2 (p := ⟨w4.heap.size, 4, none⟩) hbs (fun g' e => by cases e; exact hne4)).trans c4
        replace c5 := (gcell hst.2 (p := ⟨w4.heap.size, 5, none⟩) hbs (fun g' e => by cases e; exact hne4)).trans c5
        replace c6 := (gcell hst.2 (p := ⟨w4.heap.size, 6, none⟩) hbs (fun g' e => by cases e; exact hne4)).trans c6
        replace c7 := (gcell hst.2 (p := ⟨w4.heap.size, 7, none⟩) hbs (fun g' e => by cases e; exact hne4)).trans c7
        replace hbs := Nat.lt_of_lt_of_le hbs hst.2.size
        clear ow
        obtain ⟨ow, hgrw⟩ := hst
        generalize w7.setCell ⟨g, 3, none⟩ (.string D) = w8 at ow res2 bel2 hbs c0 c1 c2 c3 c4 c5 c6 c7 ⊢
        clear R hgrw hA
        have R : RP w w8 := ⟨res2, bel2⟩
        clear res2 bel2
        go_wp2_with fail
        refine (HX.out _).mono ?_
        rintro e w9 ⟨rfl, hB9⟩
        replace R := R.go hB9
        clear HX
        replace c0 := (hB9.cell (p := ⟨w4.heap.size, 0, none⟩) hbs).trans c0
        replace c1 := (hB9.cell (p := ⟨w4.heap.size, 1, none⟩) hbs).trans c1
        replace c2 := (hB9.cell (p := ⟨w4.heap.size, 2, none⟩) hbs).trans c2
        replace c3 := (hB9.cell (p := ⟨w4.heap.size, 3, none⟩) hbs).trans c3
        replace c4 := (hB9.cell (p := ⟨w4.heap.size, 4, none⟩) hbs).trans c4
        replace c5 := (hB9.cell (p := ⟨w4.heap.size, 5, none⟩) hbs).trans c5
        replace c6 := (hB9.cell (p := ⟨w4.heap.size, 6, none⟩) hbs).trans c6
        replace c7 := (hB9.cell (p := ⟨w4.heap.size, 7, none⟩) hbs).trans c7
        replace hbs := Nat.lt_of_lt_of_le hbs hB9.size
        go_wp2_with fail
        refine (HJ.out _ (own_below ow hB9)).mono ?_
        rintro e w10 ⟨rfl, hB10⟩
        replace R := R.go hB10
        clear HJ hB9
        replace c0 := (hB10.cell (p := ⟨w4.heap.size, 0, none⟩) hbs).trans c0
        replace c1 := (hB10.cell (p := ⟨w4.heap.size, 1, none⟩) hbs).trans c1
        replace c2 := (hB10.cell (p := ⟨w4.heap.size, 2, none⟩) hbs).trans c2
        replace c3 := (hB10.cell (p := ⟨w4.heap.size, 3, none⟩) hbs).trans c3
        replace c4 := (hB10.cell (p := ⟨w4.heap.size, 4, none⟩) hbs).trans c4
        replace c5 := (hB10.cell (p := ⟨w4.heap.size, 5, none⟩) hbs).trans c5
        replace c6 := (hB10.cell (p := ⟨w4.heap.size, 6, none⟩) hbs).trans c6
        replace c7 := (hB10.cell (p := ⟨w4.heap.size, 7, none⟩) hbs).trans c7
        clear hB10
        have res := R.res
        have r0 := Box.cell res 0 _ rfl
        have r1 := Box.cell res 1 _ rfl
        have r2 := Box.cell res 2 _ rfl
        have r3 := Box.cell res 3 _ rfl
        have r4 := Box.cell res 4 _ rfl
        have r5 := Box.cell res 5 _ rfl
        have r6 := Box.cell res 6 _ rfl
        have r7 := Box.cell res 7 _ rfl
        have f0 := World.ownsRow.frozenAt res 0
        have f1 := World.ownsRow.frozenAt res 1
        have f2 := World.ownsRow.frozenAt res 2
        have f3 := World.ownsRow.frozenAt res 3
        have f4 := World.ownsRow.frozenAt res 4
        have f5 := World.ownsRow.frozenAt res 5
        have f6 := World.ownsRow.frozenAt res 6
        have f7 := World.ownsRow.frozenAt res 7
        have HP8 := Lib.hid (Box.put8 res (.int .i64 0) (.int .i64 0) (.int .i64 0) (.int .i64 0) (.int .i64 0) (.int .i64 0) (.int .i64 0) (.string ⟨#[]⟩))
        go_wp2
        have hp := HP8.out
        have hGf := RP.fin R hp.2
        generalize (((((((w10.setCell ⟨w.heap.size, 0, none⟩ (.int .i64 0)).setCell ⟨w.heap.size, 1, none⟩ (.int .i64 0)).setCell ⟨w.heap.size, 2, none⟩ (.int .i64 0)).setCell ⟨w.heap.size, 3, none⟩ (.int .i64 0)).setCell ⟨w.heap.size, 4, none⟩ (.int .i64 0)).setCell ⟨w.heap.size, 5, none⟩ (.int .i64 0)).setCell ⟨w.heap.size, 6, none⟩ (.int .i64 0)).setCell ⟨w.heap.size, 7, none⟩ (.string ⟨#[]⟩) = Wf at hp hGf ⊢
        have z0 := hp.1.cell 0 _ rfl
        have z1 := hp.1.cell 1 _ rfl
        have z2 := hp.1.cell 2 _ rfl
        have z3 := hp.1.cell 3 _ rfl
        have z4 := hp.1.cell 4 _ rfl
        have z5 := hp.1.cell 5 _ rfl
        have z6 := hp.1.cell 6 _ rfl
        have z7 := hp.1.cell 7 _ rfl
        refine bodyPost_ret_by (v := .tuple #[.agg #[.int .i64 0, .int .i64 0, .int .i64 0, .int .i64 0, .int .i64 0, .int .i64 0, .int .i64 0, .string ⟨#[]⟩], .int .i64 6]) ?_ rfl ⟨by rw [hE.out]; rfl, hGf⟩
        simp [results, go_sem, z0, z1, z2, z3, z4, z5, z6, z7]
    by_cases k3 : m.kind = 3
    · have g2 : (m.kind == 2) = false := by simp; omega
      have g3 : (m.kind == 3) = true := by simp; omega
      have g4 : (m.kind == 4) = false := by simp; omega
      have hn0 : 0 ≤ m.number := by omega
      have hn1 : m.number ≤ 2000 := by omega
      have h3 : 3 < L.length := by omega
      have HD := Lib.hid (fun W => l01DecJ m.number hn0 hn1 W)
      rw [show numW L m = L.set 3 (decB m.number) from if_pos (by omega)] at hR0
      have hJl : (L.set 3 (decB m.number)).length = L.length := List.length_set
      have hszs : ∀ x ∈ L.set 3 (decB m.number), x.size ≤ 2000000 := fun x hx => by
        rcases List.mem_or_eq_of_mem_set hx with h | h
        · have := hsz x h; omega
        · have := decB_sz hn0 hn1; rw [h]; omega
      have HJ := Lib.hid (fun W (h : W.ownsRow w2.heap.size 9 1 (.slice (some ⟨g, 0, none⟩) L.length cp) L.length ((L.set 3 (decB m.number)).flatMap encS)) => hJl ▸ l01JoinC_any (some ⟨g, 0, none⟩) cp (L.set 3 (decB m.number)) W (by omega) (Rd.of_own encS_len (by decide) h) hszs)
      have hset := Lib.hid (set_enc L 3 (decB m.number))
      clear k3 hbd hnm
      by_cases hcmp : txtB m = jnS 32 (L.set 3 (decB m.number))
      · have hE := Lib.hid (show RR = (m, 0) by rw [hR0, hok, if_pos ⟨rfl, hcmp⟩])
        have hc : ((txtB m).toList == (jnC (L.set 3 (decB m.number))).toList) = true := by rw [ba_beq, decide_eq_true (show txtB m = jnC (L.set 3 (decB m.number)) from hcmp)]
        clear hR0 hcmp hok
        generalize txtB m = T at HX hc
        generalize jnC (L.set 3 (decB m.number)) = J at HJ hc
        have c0 := hA.cell 0 _ rfl
        have c1 := hA.cell 1 _ rfl
        have c2 := hA.cell 2 _ rfl
        have c3 := hA.cell 3 _ rfl
        have c4 := hA.cell 4 _ rfl
        have c5 := hA.cell 5 _ rfl
        have c6 := hA.cell 6 _ rfl
        have c7 := hA.cell 7 _ rfl
        generalize hdd : decB m.number = D at *
        clear hdd
        go_wp2_with fail
        refine (HD.out _).mono ?_
        rintro e w7 ⟨rfl, hB7⟩
        replace R := R.go hB7
        replace hA := hA.step hB7
        replace ow := own_below ow hB7
        clear hB7 HD c0 c1 c2 c3 c4 c5 c6 c7
        obtain ⟨v3, cv3, fv3⟩ := own_cell ow 3 (by omega)
        go_upto_region 7 with (fail)
        clear cv3 fv3
        have hst := ow.stored 3 (.string D)
        rw [hset.out] at hst
        have c0 := hA.cell 0 _ rfl
        have c1 := hA.cell 1 _ rfl
        have c2 := hA.cell 2 _ rfl
        have c3 := hA.cell 3 _ rfl
        have c4 := hA.cell 4 _ rfl
        have c5 := hA.cell 5 _ rfl
        have c6 := hA.cell 6 _ rfl
        have c7 := hA.cell 7 _ rfl
        have hbs : w4.heap.size < w7.heap.size := hA.size
        have hne4 : w4.heap.size ≠ g := by omega
        have hnew : w.heap.size ≠ g := by omega
        have res2 := Box.keep R.res hst.2 hnew
        have bel2 := R.below.grown hst.2 R.below.size (fun g' e => by cases e; omega)
        replace c0 := (gcell hst.2 (p := ⟨w4.heap.size, 0, none⟩) hbs (fun g' e => by cases e; exact hne4)).trans c0
        replace c1 := (gcell hst.2 (p := ⟨w4.heap.size, 1, none⟩) hbs (fun g' e => by cases e; exact hne4)).trans c1
        replace c2 := (gcell hst.2 (p := ⟨w4.heap.size, 2, none⟩) hbs (fun g' e => by cases e; exact hne4)).trans c2
        replace c3 := (gcell hst.2 (p := ⟨w4.heap.size, 3, none⟩) hbs (fun g' e => by cases e; exact hne4)).trans c3
        replace c4 := (gcell hst.2 (p := ⟨w4.heap.size, 4, none⟩) hbs (fun g' e => by cases e; exact hne4)).trans c4
        replace c5 := (gcell hst.2 (p := ⟨w4.heap.size, 5, none⟩) hbs (fun g' e => by cases e; exact hne4)).trans c5
        replace c6 := (gcell hst.2 (p := ⟨w4.heap.size, 6, none⟩) hbs (fun g' e => by cases e; exact hne4)).trans c6
        replace c7 := (gcell hst.2 (p := ⟨w4.heap.size, 7, none⟩) hbs (fun g' e => by cases e; exact hne4)).trans c7
        replace hbs := Nat.lt_of_lt_of_le hbs hst.2.size
        clear ow
        obtain ⟨ow, hgrw⟩ := hst
        generalize w7.setCell ⟨g, 3, none⟩ (.string D) = w8 at ow res2 bel2 hbs c0 c1 c2 c3 c4 c5 c6 c7 ⊢
        clear R hgrw hA
        have R : RP w w8 := ⟨res2, bel2⟩
        clear res2 bel2
        go_wp2_with fail
        refine (HX.out _).mono ?_
        rintro e w9 ⟨rfl, hB9⟩
        replace R := R.go hB9
        clear HX
        replace c0 := (hB9.cell (p := ⟨w4.heap.size, 0, none⟩) hbs).trans c0
        replace c1 := (hB9.cell (p := ⟨w4.heap.size, 1, none⟩) hbs).trans c1
        replace c2 := (hB9.cell (p := ⟨w4.heap.size, 2, none⟩) hbs).trans c2
        replace c3 := (hB9.cell (p := ⟨w4.heap.size, 3, none⟩) hbs).trans c3
        replace c4 := (hB9.cell (p := ⟨w4.heap.size, 4, none⟩) hbs).trans c4
        replace c5 := (hB9.cell (p := ⟨w4.heap.size, 5, none⟩) hbs).trans c5
        replace c6 := (hB9.cell (p := ⟨w4.heap.size, 6, none⟩) hbs).trans c6
        replace c7 := (hB9.cell (p := ⟨w4.heap.size, 7, none⟩) hbs).trans c7
        replace hbs := Nat.lt_of_lt_of_le hbs hB9.size
        go_wp2_with fail
        refine (HJ.out _ (own_below ow hB9)).mono ?_
        rintro e w10 ⟨rfl, hB10⟩
        replace R := R.go hB10
        clear HJ hB9
        replace c0 := (hB10.cell (p := ⟨w4.heap.size, 0, none⟩) hbs).trans c0
        replace c1 := (hB10.cell (p := ⟨w4.heap.size, 1, none⟩) hbs).trans c1
        replace c2 := (hB10.cell (p := ⟨w4.heap.size, 2, none⟩) hbs).trans c2
        replace c3 := (hB10.cell (p := ⟨w4.heap.size, 3, none⟩) hbs).trans c3
        replace c4 := (hB10.cell (p := ⟨w4.heap.size, 4, none⟩) hbs).trans c4
        replace c5 := (hB10.cell (p := ⟨w4.heap.size, 5, none⟩) hbs).trans c5
        replace c6 := (hB10.cell (p := ⟨w4.heap.size, 6, none⟩) hbs).trans c6
        replace c7 := (hB10.cell (p := ⟨w4.heap.size, 7, none⟩) hbs).trans c7
        clear hB10
        have res := R.res
        have r0 := Box.cell res 0 _ rfl
        have r1 := Box.cell res 1 _ rfl
        have r2 := Box.cell res 2 _ rfl
        have r3 := Box.cell res 3 _ rfl
        have r4 := Box.cell res 4 _ rfl
        have r5 := Box.cell res 5 _ rfl
        have r6 := Box.cell res 6 _ rfl
        have r7 := Box.cell res 7 _ rfl
        have f0 := World.ownsRow.frozenAt res 0
        have f1 := World.ownsRow.frozenAt res 1
        have f2 := World.ownsRow.frozenAt res 2
        have f3 := World.ownsRow.frozenAt res 3
        have f4 := World.ownsRow.frozenAt res 4
        have f5 := World.ownsRow.frozenAt res 5
        have f6 := World.ownsRow.frozenAt res 6
        have f7 := World.ownsRow.frozenAt res 7
        have HP8 := Lib.hid (Box.put8 res (.int .i64 m.kind) (.int .i64 m.number) (.int .i64 m.month) (.int .i64 m.feast) (.int .i64 m.relation) (.int .i64 m.weekday) (.int .i64 m.style) (.string m.king))
        go_wp2
        have hp := HP8.out
        have hGf := RP.fin R hp.2
        generalize (((((((w10.setCell ⟨w.heap.size, 0, none⟩ (.int .i64 m.kind)).setCell ⟨w.heap.size, 1, none⟩ (.int .i64 m.number)).setCell ⟨w.heap.size, 2, none⟩ (.int .i64 m.month)).setCell ⟨w.heap.size, 3, none⟩ (.int .i64 m.feast)).setCell ⟨w.heap.size, 4, none⟩ (.int .i64 m.relation)).setCell ⟨w.heap.size, 5, none⟩ (.int .i64 m.weekday)).setCell ⟨w.heap.size, 6, none⟩ (.int .i64 m.style)).setCell ⟨w.heap.size, 7, none⟩ (.string m.king) = Wf at hp hGf ⊢
        have z0 := hp.1.cell 0 _ rfl
        have z1 := hp.1.cell 1 _ rfl
        have z2 := hp.1.cell 2 _ rfl
        have z3 := hp.1.cell 3 _ rfl
        have z4 := hp.1.cell 4 _ rfl
        have z5 := hp.1.cell 5 _ rfl
        have z6 := hp.1.cell 6 _ rfl
        have z7 := hp.1.cell 7 _ rfl
        refine bodyPost_ret_by (v := .tuple #[.agg #[.int .i64 m.kind, .int .i64 m.number, .int .i64 m.month, .int .i64 m.feast, .int .i64 m.relation, .int .i64 m.weekday, .int .i64 m.style, .string m.king], .int .i64 0]) ?_ rfl ⟨by rw [hE.out]; rfl, hGf⟩
        simp [results, go_sem, z0, z1, z2, z3, z4, z5, z6, z7]
      · have hE := Lib.hid (show RR = (clZ, 6) by rw [hR0, hok, if_neg (fun h => hcmp h.2)])
        have hc : ((txtB m).toList == (jnC (L.set 3 (decB m.number))).toList) = false := by rw [ba_beq, decide_eq_false (show ¬ txtB m = jnC (L.set 3 (decB m.number)) from hcmp)]
        clear hR0 hcmp hok
        generalize txtB m = T at HX hc
        generalize jnC (L.set 3 (decB m.number)) = J at HJ hc
        have c0 := hA.cell 0 _ rfl
        have c1 := hA.cell 1 _ rfl
        have c2 := hA.cell 2 _ rfl
        have c3 := hA.cell 3 _ rfl
        have c4 := hA.cell 4 _ rfl
        have c5 := hA.cell 5 _ rfl
        have c6 := hA.cell 6 _ rfl
        have c7 := hA.cell 7 _ rfl
        generalize hdd : decB m.number = D at *
        clear hdd
        go_wp2_with fail
        refine (HD.out _).mono ?_
        rintro e w7 ⟨rfl, hB7⟩
        replace R := R.go hB7
        replace hA := hA.step hB7
        replace ow := own_below ow hB7
        clear hB7 HD c0 c1 c2 c3 c4 c5 c6 c7
        obtain ⟨v3, cv3, fv3⟩ := own_cell ow 3 (by omega)
        go_upto_region 7 with (fail)
        clear cv3 fv3
        have hst := ow.stored 3 (.string D)
        rw [hset.out] at hst
        have c0 := hA.cell 0 _ rfl
        have c1 := hA.cell 1 _ rfl
        have c2 := hA.cell 2 _ rfl
        have c3 := hA.cell 3 _ rfl
        have c4 := hA.cell 4 _ rfl
        have c5 := hA.cell 5 _ rfl
        have c6 := hA.cell 6 _ rfl
        have c7 := hA.cell 7 _ rfl
        have hbs : w4.heap.size < w7.heap.size := hA.size
        have hne4 : w4.heap.size ≠ g := by omega
        have hnew : w.heap.size ≠ g := by omega
        have res2 := Box.keep R.res hst.2 hnew
        have bel2 := R.below.grown hst.2 R.below.size (fun g' e => by cases e; omega)
        replace c0 := (gcell hst.2 (p := ⟨w4.heap.size, 0, none⟩) hbs (fun g' e => by cases e; exact hne4)).trans c0
        replace c1 := (gcell hst.2 (p := ⟨w4.heap.size, 1, none⟩) hbs (fun g' e => by cases e; exact hne4)).trans c1
        replace c2 := (gcell hst.2 (p := ⟨w4.heap.size, 2, none⟩) hbs (fun g' e => by cases e; exact hne4)).trans c2
        replace c3 := (gcell hst.2 (p := ⟨w4.heap.size, 3, none⟩) hbs (fun g' e => by cases e; exact hne4)).trans c3
        replace c4 := (gcell hst.2 (p := ⟨w4.heap.size, 4, none⟩) hbs (fun g' e => by cases e; exact hne4)).trans c4
        replace c5 := (gcell hst.2 (p := ⟨w4.heap.size, 5, none⟩) hbs (fun g' e => by cases e; exact hne4)).trans c5
        replace c6 := (gcell hst.2 (p := ⟨w4.heap.size, 6, none⟩) hbs (fun g' e => by cases e; exact hne4)).trans c6
        replace c7 := (gcell hst.2 (p := ⟨w4.heap.size, 7, none⟩) hbs (fun g' e => by cases e; exact hne4)).trans c7
        replace hbs := Nat.lt_of_lt_of_le hbs hst.2.size
        clear ow
        obtain ⟨ow, hgrw⟩ := hst
        generalize w7.setCell ⟨g, 3, none⟩ (.string D) = w8 at ow res2 bel2 hbs c0 c1 c2 c3 c4 c5 c6 c7 ⊢
        clear R hgrw hA
        have R : RP w w8 := ⟨res2, bel2⟩
        clear res2 bel2
        go_wp2_with fail
        refine (HX.out _).mono ?_
        rintro e w9 ⟨rfl, hB9⟩
        replace R := R.go hB9
        clear HX
        replace c0 := (hB9.cell (p := ⟨w4.heap.size, 0, none⟩) hbs).trans c0
        replace c1 := (hB9.cell (p := ⟨w4.heap.size, 1, none⟩) hbs).trans c1
        replace c2 := (hB9.cell (p := ⟨w4.heap.size, 2, none⟩) hbs).trans c2
        replace c3 := (hB9.cell (p := ⟨w4.heap.size, 3, none⟩) hbs).trans c3
        replace c4 := (hB9.cell (p := ⟨w4.heap.size, 4, none⟩) hbs).trans c4
        replace c5 := (hB9.cell (p := ⟨w4.heap.size, 5, none⟩) hbs).trans c5
        replace c6 := (hB9.cell (p := ⟨w4.heap.size, 6, none⟩) hbs).trans c6
        replace c7 := (hB9.cell (p := ⟨w4.heap.size, 7, none⟩) hbs).trans c7
        replace hbs := Nat.lt_of_lt_of_le hbs hB9.size
        go_wp2_with fail
        refine (HJ.out _ (own_below ow hB9)).mono ?_
        rintro e w10 ⟨rfl, hB10⟩
        replace R := R.go hB10
        clear HJ hB9
        replace c0 := (hB10.cell (p := ⟨w4.heap.size, 0, none⟩) hbs).trans c0
        replace c1 := (hB10.cell (p := ⟨w4.heap.size, 1, none⟩) hbs).trans c1
        replace c2 := (hB10.cell (p := ⟨w4.heap.size, 2, none⟩) hbs).trans c2
        replace c3 := (hB10.cell (p := ⟨w4.heap.size, 3, none⟩) hbs).trans c3
        replace c4 := (hB10.cell (p := ⟨w4.heap.size, 4, none⟩) hbs).trans c4
        replace c5 := (hB10.cell (p := ⟨w4.heap.size, 5, none⟩) hbs).trans c5
        replace c6 := (hB10.cell (p := ⟨w4.heap.size, 6, none⟩) hbs).trans c6
        replace c7 := (hB10.cell (p := ⟨w4.heap.size, 7, none⟩) hbs).trans c7
        clear hB10
        have res := R.res
        have r0 := Box.cell res 0 _ rfl
        have r1 := Box.cell res 1 _ rfl
        have r2 := Box.cell res 2 _ rfl
        have r3 := Box.cell res 3 _ rfl
        have r4 := Box.cell res 4 _ rfl
        have r5 := Box.cell res 5 _ rfl
        have r6 := Box.cell res 6 _ rfl
        have r7 := Box.cell res 7 _ rfl
        have f0 := World.ownsRow.frozenAt res 0
        have f1 := World.ownsRow.frozenAt res 1
        have f2 := World.ownsRow.frozenAt res 2
        have f3 := World.ownsRow.frozenAt res 3
        have f4 := World.ownsRow.frozenAt res 4
        have f5 := World.ownsRow.frozenAt res 5
        have f6 := World.ownsRow.frozenAt res 6
        have f7 := World.ownsRow.frozenAt res 7
        have HP8 := Lib.hid (Box.put8 res (.int .i64 0) (.int .i64 0) (.int .i64 0) (.int .i64 0) (.int .i64 0) (.int .i64 0) (.int .i64 0) (.string ⟨#[]⟩))
        go_wp2
        have hp := HP8.out
        have hGf := RP.fin R hp.2
        generalize (((((((w10.setCell ⟨w.heap.size, 0, none⟩ (.int .i64 0)).setCell ⟨w.heap.size, 1, none⟩ (.int .i64 0)).setCell ⟨w.heap.size, 2, none⟩ (.int .i64 0)).setCell ⟨w.heap.size, 3, none⟩ (.int .i64 0)).setCell ⟨w.heap.size, 4, none⟩ (.int .i64 0)).setCell ⟨w.heap.size, 5, none⟩ (.int .i64 0)).setCell ⟨w.heap.size, 6, none⟩ (.int .i64 0)).setCell ⟨w.heap.size, 7, none⟩ (.string ⟨#[]⟩) = Wf at hp hGf ⊢
        have z0 := hp.1.cell 0 _ rfl
        have z1 := hp.1.cell 1 _ rfl
        have z2 := hp.1.cell 2 _ rfl
        have z3 := hp.1.cell 3 _ rfl
        have z4 := hp.1.cell 4 _ rfl
        have z5 := hp.1.cell 5 _ rfl
        have z6 := hp.1.cell 6 _ rfl
        have z7 := hp.1.cell 7 _ rfl
        refine bodyPost_ret_by (v := .tuple #[.agg #[.int .i64 0, .int .i64 0, .int .i64 0, .int .i64 0, .int .i64 0, .int .i64 0, .int .i64 0, .string ⟨#[]⟩], .int .i64 6]) ?_ rfl ⟨by rw [hE.out]; rfl, hGf⟩
        simp [results, go_sem, z0, z1, z2, z3, z4, z5, z6, z7]
    by_cases k4 : m.kind = 4
    · have g2 : (m.kind == 2) = false := by simp; omega
      have g3 : (m.kind == 3) = false := by simp; omega
      have g4 : (m.kind == 4) = true := by simp; omega
      have hn0 : 0 ≤ m.number := by omega
      have hn1 : m.number ≤ 2000 := by omega
      have h3 : 3 < L.length := by omega
      have HD := Lib.hid (fun W => l01DecJ m.number hn0 hn1 W)
      rw [show numW L m = L.set 3 (decB m.number) from if_pos (by omega)] at hR0
      have hJl : (L.set 3 (decB m.number)).length = L.length := List.length_set
      have hszs : ∀ x ∈ L.set 3 (decB m.number), x.size ≤ 2000000 := fun x hx => by
        rcases List.mem_or_eq_of_mem_set hx with h | h
        · have := hsz x h; omega
        · have := decB_sz hn0 hn1; rw [h]; omega
      have HJ := Lib.hid (fun W (h : W.ownsRow w2.heap.size 9 1 (.slice (some ⟨g, 0, none⟩) L.length cp) L.length ((L.set 3 (decB m.number)).flatMap encS)) => hJl ▸ l01JoinC_any (some ⟨g, 0, none⟩) cp (L.set 3 (decB m.number)) W (by omega) (Rd.of_own encS_len (by decide) h) hszs)
      have hset := Lib.hid (set_enc L 3 (decB m.number))
      clear k4 hbd hnm
      by_cases hcmp : txtB m = jnS 32 (L.set 3 (decB m.number))
      · have hE := Lib.hid (show RR = (m, 0) by rw [hR0, hok, if_pos ⟨rfl, hcmp⟩])
        have hc : ((txtB m).toList == (jnC (L.set 3 (decB m.number))).toList) = true := by rw [ba_beq, decide_eq_true (show txtB m = jnC (L.set 3 (decB m.number)) from hcmp)]
        clear hR0 hcmp hok
        generalize txtB m = T at HX hc
        generalize jnC (L.set 3 (decB m.number)) = J at HJ hc
        have c0 := hA.cell 0 _ rfl
        have c1 := hA.cell 1 _ rfl
        have c2 := hA.cell 2 _ rfl
        have c3 := hA.cell 3 _ rfl
        have c4 := hA.cell 4 _ rfl
        have c5 := hA.cell 5 _ rfl
        have c6 := hA.cell 6 _ rfl
        have c7 := hA.cell 7 _ rfl
        generalize hdd : decB m.number = D at *
        clear hdd
        go_wp2_with fail
        refine (HD.out _).mono ?_
        rintro e w7 ⟨rfl, hB7⟩
        replace R := R.go hB7
        replace hA := hA.step hB7
        replace ow := own_below ow hB7
        clear hB7 HD c0 c1 c2 c3 c4 c5 c6 c7
        obtain ⟨v3, cv3, fv3⟩ := own_cell ow 3 (by omega)
        go_upto_region 7 with (fail)
        clear cv3 fv3
        have hst := ow.stored 3 (.string D)
        rw [hset.out] at hst
        have c0 := hA.cell 0 _ rfl
        have c1 := hA.cell 1 _ rfl
        have c2 := hA.cell 2 _ rfl
        have c3 := hA.cell 3 _ rfl
        have c4 := hA.cell 4 _ rfl
        have c5 := hA.cell 5 _ rfl
        have c6 := hA.cell 6 _ rfl
        have c7 := hA.cell 7 _ rfl
        have hbs : w4.heap.size < w7.heap.size := hA.size
        have hne4 : w4.heap.size ≠ g := by omega
        have hnew : w.heap.size ≠ g := by omega
        have res2 := Box.keep R.res hst.2 hnew
        have bel2 := R.below.grown hst.2 R.below.size (fun g' e => by cases e; omega)
        replace c0 := (gcell hst.2 (p := ⟨w4.heap.size, 0, none⟩) hbs (fun g' e => by cases e; exact hne4)).trans c0
        replace c1 := (gcell hst.2 (p := ⟨w4.heap.size, 1, none⟩) hbs (fun g' e => by cases e; exact hne4)).trans c1
        replace c2 := (gcell hst.2 (p := ⟨w4.heap.size, 2, none⟩) hbs (fun g' e => by cases e; exact hne4)).trans c2
        replace c3 := (gcell hst.2 (p := ⟨w4.heap.size, 3, none⟩) hbs (fun g' e => by cases e; exact hne4)).trans c3
        replace c4 := (gcell hst.2 (p := ⟨w4.heap.size, 4, none⟩) hbs (fun g' e => by cases e; exact hne4)).trans c4
        replace c5 := (gcell hst.2 (p := ⟨w4.heap.size, 5, none⟩) hbs (fun g' e => by cases e; exact hne4)).trans c5
        replace c6 := (gcell hst.2 (p := ⟨w4.heap.size, 6, none⟩) hbs (fun g' e => by cases e; exact hne4)).trans c6
        replace c7 := (gcell hst.2 (p := ⟨w4.heap.size, 7, none⟩) hbs (fun g' e => by cases e; exact hne4)).trans c7
        replace hbs := Nat.lt_of_lt_of_le hbs hst.2.size
        clear ow
        obtain ⟨ow, hgrw⟩ := hst
        generalize w7.setCell ⟨g, 3, none⟩ (.string D) = w8 at ow res2 bel2 hbs c0 c1 c2 c3 c4 c5 c6 c7 ⊢
        clear R hgrw hA
        have R : RP w w8 := ⟨res2, bel2⟩
        clear res2 bel2
        go_wp2_with fail
        refine (HX.out _).mono ?_
        rintro e w9 ⟨rfl, hB9⟩
        replace R := R.go hB9
        clear HX
        replace c0 := (hB9.cell (p := ⟨w4.heap.size, 0, none⟩) hbs).trans c0
        replace c1 := (hB9.cell (p := ⟨w4.heap.size, 1, none⟩) hbs).trans c1
        replace c2 := (hB9.cell (p := ⟨w4.heap.size, 2, none⟩) hbs).trans c2
        replace c3 := (hB9.cell (p := ⟨w4.heap.size, 3, none⟩) hbs).trans c3
        replace c4 := (hB9.cell (p := ⟨w4.heap.size, 4, none⟩) hbs).trans c4
        replace c5 := (hB9.cell (p := ⟨w4.heap.size, 5, none⟩) hbs).trans c5
        replace c6 := (hB9.cell (p := ⟨w4.heap.size, 6, none⟩) hbs).trans c6
        replace c7 := (hB9.cell (p := ⟨w4.heap.size, 7, none⟩) hbs).trans c7
        replace hbs := Nat.lt_of_lt_of_le hbs hB9.size
        go_wp2_with fail
        refine (HJ.out _ (own_below ow hB9)).mono ?_
        rintro e w10 ⟨rfl, hB10⟩
        replace R := R.go hB10
        clear HJ hB9
        replace c0 := (hB10.cell (p := ⟨w4.heap.size, 0, none⟩) hbs).trans c0
        replace c1 := (hB10.cell (p := ⟨w4.heap.size, 1, none⟩) hbs).trans c1
        replace c2 := (hB10.cell (p := ⟨w4.heap.size, 2, none⟩) hbs).trans c2
        replace c3 := (hB10.cell (p := ⟨w4.heap.size, 3, none⟩) hbs).trans c3
        replace c4 := (hB10.cell (p := ⟨w4.heap.size, 4, none⟩) hbs).trans c4
        replace c5 := (hB10.cell (p := ⟨w4.heap.size, 5, none⟩) hbs).trans c5
        replace c6 := (hB10.cell (p := ⟨w4.heap.size, 6, none⟩) hbs).trans c6
        replace c7 := (hB10.cell (p := ⟨w4.heap.size, 7, none⟩) hbs).trans c7
        clear hB10
        have res := R.res
        have r0 := Box.cell res 0 _ rfl
        have r1 := Box.cell res 1 _ rfl
        have r2 := Box.cell res 2 _ rfl
        have r3 := Box.cell res 3 _ rfl
        have r4 := Box.cell res 4 _ rfl
        have r5 := Box.cell res 5 _ rfl
        have r6 := Box.cell res 6 _ rfl
        have r7 := Box.cell res 7 _ rfl
        have f0 := World.ownsRow.frozenAt res 0
        have f1 := World.ownsRow.frozenAt res 1
        have f2 := World.ownsRow.frozenAt res 2
        have f3 := World.ownsRow.frozenAt res 3
        have f4 := World.ownsRow.frozenAt res 4
        have f5 := World.ownsRow.frozenAt res 5
        have f6 := World.ownsRow.frozenAt res 6
        have f7 := World.ownsRow.frozenAt res 7
        have HP8 := Lib.hid (Box.put8 res (.int .i64 m.kind) (.int .i64 m.number) (.int .i64 m.month) (.int .i64 m.feast) (.int .i64 m.relation) (.int .i64 m.weekday) (.int .i64 m.style) (.string m.king))
        go_wp2
        have hp := HP8.out
        have hGf := RP.fin R hp.2
        generalize (((((((w10.setCell ⟨w.heap.size, 0, none⟩ (.int .i64 m.kind)).setCell ⟨w.heap.size, 1, none⟩ (.int .i64 m.number)).setCell ⟨w.heap.size, 2, none⟩ (.int .i64 m.month)).setCell ⟨w.heap.size, 3, none⟩ (.int .i64 m.feast)).setCell ⟨w.heap.size, 4, none⟩ (.int .i64 m.relation)).setCell ⟨w.heap.size, 5, none⟩ (.int .i64 m.weekday)).setCell ⟨w.heap.size, 6, none⟩ (.int .i64 m.style)).setCell ⟨w.heap.size, 7, none⟩ (.string m.king) = Wf at hp hGf ⊢
        have z0 := hp.1.cell 0 _ rfl
        have z1 := hp.1.cell 1 _ rfl
        have z2 := hp.1.cell 2 _ rfl
        have z3 := hp.1.cell 3 _ rfl
        have z4 := hp.1.cell 4 _ rfl
        have z5 := hp.1.cell 5 _ rfl
        have z6 := hp.1.cell 6 _ rfl
        have z7 := hp.1.cell 7 _ rfl
        refine bodyPost_ret_by (v := .tuple #[.agg #[.int .i64 m.kind, .int .i64 m.number, .int .i64 m.month, .int .i64 m.feast, .int .i64 m.relation, .int .i64 m.weekday, .int .i64 m.style, .string m.king], .int .i64 0]) ?_ rfl ⟨by rw [hE.out]; rfl, hGf⟩
        simp [results, go_sem, z0, z1, z2, z3, z4, z5, z6, z7]
      · have hE := Lib.hid (show RR = (clZ, 6) by rw [hR0, hok, if_neg (fun h => hcmp h.2)])
        have hc : ((txtB m).toList == (jnC (L.set 3 (decB m.number))).toList) = false := by rw [ba_beq, decide_eq_false (show ¬ txtB m = jnC (L.set 3 (decB m.number)) from hcmp)]
        clear hR0 hcmp hok
        generalize txtB m = T at HX hc
        generalize jnC (L.set 3 (decB m.number)) = J at HJ hc
        have c0 := hA.cell 0 _ rfl
        have c1 := hA.cell 1 _ rfl
        have c2 := hA.cell 2 _ rfl
        have c3 := hA.cell 3 _ rfl
        have c4 := hA.cell 4 _ rfl
        have c5 := hA.cell 5 _ rfl
        have c6 := hA.cell 6 _ rfl
        have c7 := hA.cell 7 _ rfl
        generalize hdd : decB m.number = D at *
        clear hdd
        go_wp2_with fail
        refine (HD.out _).mono ?_
        rintro e w7 ⟨rfl, hB7⟩
        replace R := R.go hB7
        replace hA := hA.step hB7
        replace ow := own_below ow hB7
        clear hB7 HD c0 c1 c2 c3 c4 c5 c6 c7
        obtain ⟨v3, cv3, fv3⟩ := own_cell ow 3 (by omega)
        go_upto_region 7 with (fail)
        clear cv3 fv3
        have hst := ow.stored 3 (.string D)
        rw [hset.out] at hst
        have c0 := hA.cell 0 _ rfl
        have c1 := hA.cell 1 _ rfl
        have c2 := hA.cell 2 _ rfl
        have c3 := hA.cell 3 _ rfl
        have c4 := hA.cell 4 _ rfl
        have c5 := hA.cell 5 _ rfl
        have c6 := hA.cell 6 _ rfl
        have c7 := hA.cell 7 _ rfl
        have hbs : w4.heap.size < w7.heap.size := hA.size
        have hne4 : w4.heap.size ≠ g := by omega
        have hnew : w.heap.size ≠ g := by omega
        have res2 := Box.keep R.res hst.2 hnew
        have bel2 := R.below.grown hst.2 R.below.size (fun g' e => by cases e; omega)
        replace c0 := (gcell hst.2 (p := ⟨w4.heap.size, 0, none⟩) hbs (fun g' e => by cases e; exact hne4)).trans c0
        replace c1 := (gcell hst.2 (p := ⟨w4.heap.size, 1, none⟩) hbs (fun g' e => by cases e; exact hne4)).trans c1
        replace c2 := (gcell hst.2 (p := ⟨w4.heap.size, 2, none⟩) hbs (fun g' e => by cases e; exact hne4)).trans c2
        replace c3 := (gcell hst.2 (p := ⟨w4.heap.size, 3, none⟩) hbs (fun g' e => by cases e; exact hne4)).trans c3
        replace c4 := (gcell hst.2 (p := ⟨w4.heap.size, 4, none⟩) hbs (fun g' e => by cases e; exact hne4)).trans c4
        replace c5 := (gcell hst.2 (p := ⟨w4.heap.size, 5, none⟩) hbs (fun g' e => by cases e; exact hne4)).trans c5
        replace c6 := (gcell hst.2 (p := ⟨w4.heap.size, 6, none⟩) hbs (fun g' e => by cases e; exact hne4)).trans c6
        replace c7 := (gcell hst.2 (p := ⟨w4.heap.size, 7, none⟩) hbs (fun g' e => by cases e; exact hne4)).trans c7
        replace hbs := Nat.lt_of_lt_of_le hbs hst.2.size
        clear ow
        obtain ⟨ow, hgrw⟩ := hst
        generalize w7.setCell ⟨g, 3, none⟩ (.string D) = w8 at ow res2 bel2 hbs c0 c1 c2 c3 c4 c5 c6 c7 ⊢
        clear R hgrw hA
        have R : RP w w8 := ⟨res2, bel2⟩
        clear res2 bel2
        go_wp2_with fail
        refine (HX.out _).mono ?_
        rintro e w9 ⟨rfl, hB9⟩
        replace R := R.go hB9
        clear HX
        replace c0 := (hB9.cell (p := ⟨w4.heap.size, 0, none⟩) hbs).trans c0
        replace c1 := (hB9.cell (p := ⟨w4.heap.size, 1, none⟩) hbs).trans c1
        replace c2 := (hB9.cell (p := ⟨w4.heap.size, 2, none⟩) hbs).trans c2
        replace c3 := (hB9.cell (p := ⟨w4.heap.size, 3, none⟩) hbs).trans c3
        replace c4 := (hB9.cell (p := ⟨w4.heap.size, 4, none⟩) hbs).trans c4
        replace c5 := (hB9.cell (p := ⟨w4.heap.size, 5, none⟩) hbs).trans c5
        replace c6 := (hB9.cell (p := ⟨w4.heap.size, 6, none⟩) hbs).trans c6
        replace c7 := (hB9.cell (p := ⟨w4.heap.size, 7, none⟩) hbs).trans c7
        replace hbs := Nat.lt_of_lt_of_le hbs hB9.size
        go_wp2_with fail
        refine (HJ.out _ (own_below ow hB9)).mono ?_
        rintro e w10 ⟨rfl, hB10⟩
        replace R := R.go hB10
        clear HJ hB9
        replace c0 := (hB10.cell (p := ⟨w4.heap.size, 0, none⟩) hbs).trans c0
        replace c1 := (hB10.cell (p := ⟨w4.heap.size, 1, none⟩) hbs).trans c1
        replace c2 := (hB10.cell (p := ⟨w4.heap.size, 2, none⟩) hbs).trans c2
        replace c3 := (hB10.cell (p := ⟨w4.heap.size, 3, none⟩) hbs).trans c3
        replace c4 := (hB10.cell (p := ⟨w4.heap.size, 4, none⟩) hbs).trans c4
        replace c5 := (hB10.cell (p := ⟨w4.heap.size, 5, none⟩) hbs).trans c5
        replace c6 := (hB10.cell (p := ⟨w4.heap.size, 6, none⟩) hbs).trans c6
        replace c7 := (hB10.cell (p := ⟨w4.heap.size, 7, none⟩) hbs).trans c7
        clear hB10
        have res := R.res
        have r0 := Box.cell res 0 _ rfl
        have r1 := Box.cell res 1 _ rfl
        have r2 := Box.cell res 2 _ rfl
        have r3 := Box.cell res 3 _ rfl
        have r4 := Box.cell res 4 _ rfl
        have r5 := Box.cell res 5 _ rfl
        have r6 := Box.cell res 6 _ rfl
        have r7 := Box.cell res 7 _ rfl
        have f0 := World.ownsRow.frozenAt res 0
        have f1 := World.ownsRow.frozenAt res 1
        have f2 := World.ownsRow.frozenAt res 2
        have f3 := World.ownsRow.frozenAt res 3
        have f4 := World.ownsRow.frozenAt res 4
        have f5 := World.ownsRow.frozenAt res 5
        have f6 := World.ownsRow.frozenAt res 6
        have f7 := World.ownsRow.frozenAt res 7
        have HP8 := Lib.hid (Box.put8 res (.int .i64 0) (.int .i64 0) (.int .i64 0) (.int .i64 0) (.int .i64 0) (.int .i64 0) (.int .i64 0) (.string ⟨#[]⟩))
        go_wp2
        have hp := HP8.out
        have hGf := RP.fin R hp.2
        generalize (((((((w10.setCell ⟨w.heap.size, 0, none⟩ (.int .i64 0)).setCell ⟨w.heap.size, 1, none⟩ (.int .i64 0)).setCell ⟨w.heap.size, 2, none⟩ (.int .i64 0)).setCell ⟨w.heap.size, 3, none⟩ (.int .i64 0)).setCell ⟨w.heap.size, 4, none⟩ (.int .i64 0)).setCell ⟨w.heap.size, 5, none⟩ (.int .i64 0)).setCell ⟨w.heap.size, 6, none⟩ (.int .i64 0)).setCell ⟨w.heap.size, 7, none⟩ (.string ⟨#[]⟩) = Wf at hp hGf ⊢
        have z0 := hp.1.cell 0 _ rfl
        have z1 := hp.1.cell 1 _ rfl
        have z2 := hp.1.cell 2 _ rfl
        have z3 := hp.1.cell 3 _ rfl
        have z4 := hp.1.cell 4 _ rfl
        have z5 := hp.1.cell 5 _ rfl
        have z6 := hp.1.cell 6 _ rfl
        have z7 := hp.1.cell 7 _ rfl
        refine bodyPost_ret_by (v := .tuple #[.agg #[.int .i64 0, .int .i64 0, .int .i64 0, .int .i64 0, .int .i64 0, .int .i64 0, .int .i64 0, .string ⟨#[]⟩], .int .i64 6]) ?_ rfl ⟨by rw [hE.out]; rfl, hGf⟩
        simp [results, go_sem, z0, z1, z2, z3, z4, z5, z6, z7]
    have g2 : (m.kind == 2) = false := by simp; omega
    have g3 : (m.kind == 3) = false := by simp; omega
    have g4 : (m.kind == 4) = false := by simp; omega
    rw [show numW L m = L from if_neg (by omega)] at hR0
    have hJl : L.length = L.length := rfl
    have hszs : ∀ x ∈ L, x.size ≤ 2000000 := fun x hx => by have := hsz x hx; omega
    have HJ := Lib.hid (fun W (h : W.ownsRow w2.heap.size 9 1 (.slice (some ⟨g, 0, none⟩) L.length cp) L.length (L.flatMap encS)) => l01JoinC_any (some ⟨g, 0, none⟩) cp L W (by omega) (Rd.of_own encS_len (by decide) h) hszs)
    clear hJl hbd hnm
    have c0 := hA.cell 0 _ rfl
    have c1 := hA.cell 1 _ rfl
    have c2 := hA.cell 2 _ rfl
    have c3 := hA.cell 3 _ rfl
    have c4 := hA.cell 4 _ rfl
    have c5 := hA.cell 5 _ rfl
    have c6 := hA.cell 6 _ rfl
    have c7 := hA.cell 7 _ rfl
    have hbs : w4.heap.size < w6.heap.size := hA.size
    by_cases hcmp : txtB m = jnS 32 L
    · have hE := Lib.hid (show RR = (m, 0) by rw [hR0, hok, if_pos ⟨rfl, hcmp⟩])
      have hc : ((txtB m).toList == (jnC L).toList) = true := by rw [ba_beq, decide_eq_true (show txtB m = jnC L from hcmp)]
      clear hR0 hcmp hok
      generalize txtB m = T at HX hc
      generalize jnC L = J at HJ hc
      go_wp2_with fail
      refine (HX.out _).mono ?_
      rintro e w9 ⟨rfl, hB9⟩
      replace R := R.go hB9
      clear HX
      replace c0 := (hB9.cell (p := ⟨w4.heap.size, 0, none⟩) hbs).trans c0
      replace c1 := (hB9.cell (p := ⟨w4.heap.size, 1, none⟩) hbs).trans c1
      replace c2 := (hB9.cell (p := ⟨w4.heap.size, 2, none⟩) hbs).trans c2
      replace c3 := (hB9.cell (p := ⟨w4.heap.size, 3, none⟩) hbs).trans c3
      replace c4 := (hB9.cell (p := ⟨w4.heap.size, 4, none⟩) hbs).trans c4
      replace c5 := (hB9.cell (p := ⟨w4.heap.size, 5, none⟩) hbs).trans c5
      replace c6 := (hB9.cell (p := ⟨w4.heap.size, 6, none⟩) hbs).trans c6
      replace c7 := (hB9.cell (p := ⟨w4.heap.size, 7, none⟩) hbs).trans c7
      replace hbs := Nat.lt_of_lt_of_le hbs hB9.size
      go_wp2_with fail
      refine (HJ.out _ (own_below ow hB9)).mono ?_
      rintro e w10 ⟨rfl, hB10⟩
      replace R := R.go hB10
      clear HJ hB9
      replace c0 := (hB10.cell (p := ⟨w4.heap.size, 0, none⟩) hbs).trans c0
      replace c1 := (hB10.cell (p := ⟨w4.heap.size, 1, none⟩) hbs).trans c1
      replace c2 := (hB10.cell (p := ⟨w4.heap.size, 2, none⟩) hbs).trans c2
      replace c3 := (hB10.cell (p := ⟨w4.heap.size, 3, none⟩) hbs).trans c3
      replace c4 := (hB10.cell (p := ⟨w4.heap.size, 4, none⟩) hbs).trans c4
      replace c5 := (hB10.cell (p := ⟨w4.heap.size, 5, none⟩) hbs).trans c5
      replace c6 := (hB10.cell (p := ⟨w4.heap.size, 6, none⟩) hbs).trans c6
      replace c7 := (hB10.cell (p := ⟨w4.heap.size, 7, none⟩) hbs).trans c7
      clear hB10
      have res := R.res
      have r0 := Box.cell res 0 _ rfl
      have r1 := Box.cell res 1 _ rfl
      have r2 := Box.cell res 2 _ rfl
      have r3 := Box.cell res 3 _ rfl
      have r4 := Box.cell res 4 _ rfl
      have r5 := Box.cell res 5 _ rfl
      have r6 := Box.cell res 6 _ rfl
      have r7 := Box.cell res 7 _ rfl
      have f0 := World.ownsRow.frozenAt res 0
      have f1 := World.ownsRow.frozenAt res 1
      have f2 := World.ownsRow.frozenAt res 2
      have f3 := World.ownsRow.frozenAt res 3
      have f4 := World.ownsRow.frozenAt res 4
      have f5 := World.ownsRow.frozenAt res 5
      have f6 := World.ownsRow.frozenAt res 6
      have f7 := World.ownsRow.frozenAt res 7
      have HP8 := Lib.hid (Box.put8 res (.int .i64 m.kind) (.int .i64 m.number) (.int .i64 m.month) (.int .i64 m.feast) (.int .i64 m.relation) (.int .i64 m.weekday) (.int .i64 m.style) (.string m.king))
      go_wp2
      have hp := HP8.out
      have hGf := RP.fin R hp.2
      generalize (((((((w10.setCell ⟨w.heap.size, 0, none⟩ (.int .i64 m.kind)).setCell ⟨w.heap.size, 1, none⟩ (.int .i64 m.number)).setCell ⟨w.heap.size, 2, none⟩ (.int .i64 m.month)).setCell ⟨w.heap.size, 3, none⟩ (.int .i64 m.feast)).setCell ⟨w.heap.size, 4, none⟩ (.int .i64 m.relation)).setCell ⟨w.heap.size, 5, none⟩ (.int .i64 m.weekday)).setCell ⟨w.heap.size, 6, none⟩ (.int .i64 m.style)).setCell ⟨w.heap.size, 7, none⟩ (.string m.king) = Wf at hp hGf ⊢
      have z0 := hp.1.cell 0 _ rfl
      have z1 := hp.1.cell 1 _ rfl
      have z2 := hp.1.cell 2 _ rfl
      have z3 := hp.1.cell 3 _ rfl
      have z4 := hp.1.cell 4 _ rfl
      have z5 := hp.1.cell 5 _ rfl
      have z6 := hp.1.cell 6 _ rfl
      have z7 := hp.1.cell 7 _ rfl
      refine bodyPost_ret_by (v := .tuple #[.agg #[.int .i64 m.kind, .int .i64 m.number, .int .i64 m.month, .int .i64 m.feast, .int .i64 m.relation, .int .i64 m.weekday, .int .i64 m.style, .string m.king], .int .i64 0]) ?_ rfl ⟨by rw [hE.out]; rfl, hGf⟩
      simp [results, go_sem, z0, z1, z2, z3, z4, z5, z6, z7]
    · have hE := Lib.hid (show RR = (clZ, 6) by rw [hR0, hok, if_neg (fun h => hcmp h.2)])
      have hc : ((txtB m).toList == (jnC L).toList) = false := by rw [ba_beq, decide_eq_false (show ¬ txtB m = jnC L from hcmp)]
      clear hR0 hcmp hok
      generalize txtB m = T at HX hc
      generalize jnC L = J at HJ hc
      go_wp2_with fail
      refine (HX.out _).mono ?_
      rintro e w9 ⟨rfl, hB9⟩
      replace R := R.go hB9
      clear HX
      replace c0 := (hB9.cell (p := ⟨w4.heap.size, 0, none⟩) hbs).trans c0
      replace c1 := (hB9.cell (p := ⟨w4.heap.size, 1, none⟩) hbs).trans c1
      replace c2 := (hB9.cell (p := ⟨w4.heap.size, 2, none⟩) hbs).trans c2
      replace c3 := (hB9.cell (p := ⟨w4.heap.size, 3, none⟩) hbs).trans c3
      replace c4 := (hB9.cell (p := ⟨w4.heap.size, 4, none⟩) hbs).trans c4
      replace c5 := (hB9.cell (p := ⟨w4.heap.size, 5, none⟩) hbs).trans c5
      replace c6 := (hB9.cell (p := ⟨w4.heap.size, 6, none⟩) hbs).trans c6
      replace c7 := (hB9.cell (p := ⟨w4.heap.size, 7, none⟩) hbs).trans c7
      replace hbs := Nat.lt_of_lt_of_le hbs hB9.size
      go_wp2_with fail
      refine (HJ.out _ (own_below ow hB9)).mono ?_
      rintro e w10 ⟨rfl, hB10⟩
      replace R := R.go hB10
      clear HJ hB9
      replace c0 := (hB10.cell (p := ⟨w4.heap.size, 0, none⟩) hbs).trans c0
      replace c1 := (hB10.cell (p := ⟨w4.heap.size, 1, none⟩) hbs).trans c1
      replace c2 := (hB10.cell (p := ⟨w4.heap.size, 2, none⟩) hbs).trans c2
      replace c3 := (hB10.cell (p := ⟨w4.heap.size, 3, none⟩) hbs).trans c3
      replace c4 := (hB10.cell (p := ⟨w4.heap.size, 4, none⟩) hbs).trans c4
      replace c5 := (hB10.cell (p := ⟨w4.heap.size, 5, none⟩) hbs).trans c5
      replace c6 := (hB10.cell (p := ⟨w4.heap.size, 6, none⟩) hbs).trans c6
      replace c7 := (hB10.cell (p := ⟨w4.heap.size, 7, none⟩) hbs).trans c7
      clear hB10
      have res := R.res
      have r0 := Box.cell res 0 _ rfl
      have r1 := Box.cell res 1 _ rfl
      have r2 := Box.cell res 2 _ rfl
      have r3 := Box.cell res 3 _ rfl
      have r4 := Box.cell res 4 _ rfl
      have r5 := Box.cell res 5 _ rfl
      have r6 := Box.cell res 6 _ rfl
      have r7 := Box.cell res 7 _ rfl
      have f0 := World.ownsRow.frozenAt res 0
      have f1 := World.ownsRow.frozenAt res 1
      have f2 := World.ownsRow.frozenAt res 2
      have f3 := World.ownsRow.frozenAt res 3
      have f4 := World.ownsRow.frozenAt res 4
      have f5 := World.ownsRow.frozenAt res 5
      have f6 := World.ownsRow.frozenAt res 6
      have f7 := World.ownsRow.frozenAt res 7
      have HP8 := Lib.hid (Box.put8 res (.int .i64 0) (.int .i64 0) (.int .i64 0) (.int .i64 0) (.int .i64 0) (.int .i64 0) (.int .i64 0) (.string ⟨#[]⟩))
      go_wp2
      have hp := HP8.out
      have hGf := RP.fin R hp.2
      generalize (((((((w10.setCell ⟨w.heap.size, 0, none⟩ (.int .i64 0)).setCell ⟨w.heap.size, 1, none⟩ (.int .i64 0)).setCell ⟨w.heap.size, 2, none⟩ (.int .i64 0)).setCell ⟨w.heap.size, 3, none⟩ (.int .i64 0)).setCell ⟨w.heap.size, 4, none⟩ (.int .i64 0)).setCell ⟨w.heap.size, 5, none⟩ (.int .i64 0)).setCell ⟨w.heap.size, 6, none⟩ (.int .i64 0)).setCell ⟨w.heap.size, 7, none⟩ (.string ⟨#[]⟩) = Wf at hp hGf ⊢
      have z0 := hp.1.cell 0 _ rfl
      have z1 := hp.1.cell 1 _ rfl
      have z2 := hp.1.cell 2 _ rfl
      have z3 := hp.1.cell 3 _ rfl
      have z4 := hp.1.cell 4 _ rfl
      have z5 := hp.1.cell 5 _ rfl
      have z6 := hp.1.cell 6 _ rfl
      have z7 := hp.1.cell 7 _ rfl
      refine bodyPost_ret_by (v := .tuple #[.agg #[.int .i64 0, .int .i64 0, .int .i64 0, .int .i64 0, .int .i64 0, .int .i64 0, .int .i64 0, .string ⟨#[]⟩], .int .i64 6]) ?_ rfl ⟨by rw [hE.out]; rfl, hGf⟩
      simp [results, go_sem, z0, z1, z2, z3, z4, z5, z6, z7]
end

section
open Go.ChangeShapes Go.WideShapes Go.ChangeAt Go.RowKit Go.IntWalk

noncomputable def rdC (p : ByteArray) : Cl := readI rnB (wsB 32 p)
noncomputable def rdL (s : ByteArray) : List Cl := (wsB 44 s).map rdC
/-- A dating read from its text, and the code. -/
noncomputable def rdD (s : ByteArray) : List Cl × Int := if s = ⟨#[]⟩ then ([], 0) else if isDatingB (rdL s) then (rdL s, 0) else ([], 6)
theorem rdD_len (s : ByteArray) : (rdD s).1.length ≤ 8 := by
  unfold rdD
  split
  · simp
  · split
    · rename_i h
      unfold isDatingB at h
      simp only [Bool.and_eq_true, decide_eq_true_eq] at h
      exact h.2
    · simp
theorem one_cl (m : Cl) : ∀ u ∈ encCl m, u.oneCell' = true := fun u hu => by
  simp [encCl] at hu
  rcases hu with rfl | rfl | rfl | rfl | rfl | rfl | rfl | rfl <;> rfl
theorem take_cl {P : List ByteArray} {f : ByteArray → Cl} {k : Nat} {x : ByteArray} (h : P[k]? = some x) : ((P.map f).take (k + 1)).flatMap encCl = ((P.map f).take k).flatMap encCl ++ encCl (f x) := by
  have h2 : (P.map f)[k]? = some (f x) := by rw [List.getElem?_map, h]; rfl
  obtain ⟨hl, e⟩ := List.getElem?_eq_some_iff.1 h2
  rw [List.take_succ_eq_append_getElem hl, List.flatMap_append, e]
  simp
theorem hSC : 9 ≠ (31 : TypeId) := by decide
theorem rdR_ok {x : ByteArray} (h : okCl (rdC x) = true) : rdR x = (rdC x, 0) := if_pos h
theorem rdR_no {x : ByteArray} (h : okCl (rdC x) = false) : rdR x = (clZ, 6) := if_neg (fun e => by unfold rdC at h; rw [h] at e; cases e)
theorem dating_no {P : List ByteArray} {x : ByteArray} (hx : x ∈ P) (h : okCl (rdC x) = false) : isDatingB (P.map rdC) = false := by
  unfold isDatingB
  rw [Bool.and_eq_false_iff]
  left
  rw [List.all_eq_false]
  exact ⟨rdC x, List.mem_map.2 ⟨x, hx, rfl⟩, by rw [h]; decide⟩
theorem dating_long {P : List ByteArray} (h : 8 < P.length) : isDatingB (P.map rdC) = false := by
  unfold isDatingB
  rw [Bool.and_eq_false_iff]
  right
  simp; omega
theorem dating_yes {P : List ByteArray} (h : P.length ≤ 8) (ha : ∀ x ∈ P, okCl (rdC x) = true) : isDatingB (P.map rdC) = true := by
  unfold isDatingB
  simp only [Bool.and_eq_true, decide_eq_true_eq, List.all_eq_true, List.length_map]
  refine ⟨fun m hm => ?_, h⟩
  obtain ⟨x, hx, rfl⟩ := List.mem_map.1 hm
  exact ha x hx
/-- What ReadDating answers. -/
def RdDP (w : World) (R : List Cl × Int) (e : Ending) (w' : World) : Prop := ∃ b c, e = .returned (.tuple #[.slice b R.1.length c, .int .i64 R.2]) ∧ w'.ownsRow w.heap.size 31 8 (.slice b R.1.length c) R.1.length (R.1.flatMap encCl)
set_option maxRecDepth 100000 in
theorem implIsDating_big (a : Option Addr) (cap n : Nat) (w : World) (h : 8 < n) :
    Calls Tryz.prog 35 #[.slice a n cap] w fun e w' => e = .returned (.bool false) ∧ w' = w := by
  have h8 : ¬ (n : Int) ≤ 8 := by omega
  go_enter Tryz.func35, Tryz.ntmps35
  go_wp2
  go_ret
  exact ⟨rfl, rfl⟩
set_option maxRecDepth 100000 in
set_option maxHeartbeats 4000000 in
theorem implReadDating_any (s : ByteArray) (hs : s.size ≤ 1048576) (w : World) (hN : NumW w) :
    Calls Tryz.prog 8 #[.string s] w fun e w' => RdDP w (rdD s) e w' ∧ Below w.heap.size w w' := by
  have hq : rdD s = if s = ⟨#[]⟩ then ([], 0) else if isDatingB ((wsB 44 s).map rdC) then ((wsB 44 s).map rdC, 0) else ([], 6) := rfl
  have he := lit_beq s []
  by_cases h0 : s = ⟨#[]⟩
  · rw [if_pos h0] at hq
    rw [decide_eq_true h0] at he
    rw [hq]
    clear hq h0
    go_enter Tryz.func8, Tryz.ntmps8
    go_wp2
    go_ret2
    exact ⟨⟨none, 0, rfl, by simp, .inl ⟨rfl, rfl⟩⟩, Below.refl _ _⟩
  · rw [if_neg h0] at hq
    rw [decide_eq_false h0] at he
    have hln := wsB_len 44 s
    have hsz := wsB_part 44 s
    have HS := Lib.hid (fun W => split_ws s 44 W hs)
    obtain ⟨i0, hi, hz0, hz1, hz2⟩ := info_parts infoCl
    generalize rdD s = R at hq ⊢
    generalize wsB 44 s = P at hq hln hsz HS
    have HC : ∀ x ∈ P, ∀ W, NumW W → Calls Tryz.prog 40 #[.string x] W fun e w' => e = .returned (clV (rdC x)) ∧ Below W.heap.size W w' := fun x hx W h => readClause_any x (Nat.le_trans (hsz x hx) hs) W h
    have hkg : ∀ m ∈ P.map rdC, szCl m ≤ 1048576 := fun m hm => by
      obtain ⟨x, hx, rfl⟩ := List.mem_map.1 hm
      have h1 := hsz x hx
      have h2 := readI_king rnB x.size (wsB 32 x) (wsB_part 32 x)
      unfold szCl rdC
      omega
    have HD : P.length ≤ 8 → ∀ (g c : Nat) W, W.ownsRow w.heap.size 31 8 (.slice (some ⟨g, 0, none⟩) P.length c) P.length ((P.map rdC).flatMap encCl) → Calls Tryz.prog 35 #[.slice (some ⟨g, 0, none⟩) P.length c] W fun e w' => e = .returned (.bool (isDatingB (P.map rdC))) ∧ Below W.heap.size W w' := fun h8 g c W h => by
      have h1 := implIsDating_any (some ⟨g, 0, none⟩) c (P.map rdC) W (by rw [List.length_map]; omega) (Rd.of_own encCl_len (by decide) h) hkg
      rw [List.length_map] at h1
      exact h1
    have hlg := Lib.hid (fun h => dating_long (P := P) h)
    replace hkg := True.intro
    generalize rdC = f at hq HC HD hlg
    replace HC := Lib.hid HC
    replace HD := Lib.hid HD
    replace hq := Lib.hid hq
    have hBs : Below w.heap.size w (w.alloc (.cells #[] 31)) := (Below.refl _ w).alloc (Nat.le_refl _) _
    have howns := World.ownsRow_made w #[] 0 (Nat.le_refl _) (by decide) rfl (e := 31) (size := 8)
    clear h0
    go_enter Tryz.func8, Tryz.ntmps8
    go_wp2_with fail
    refine (HS.out _).mono ?_
    rintro e w1 ⟨g, rfl, wd, hB1⟩
    replace howns := own_below howns hB1
    have wdb := own_base wd hBs.size
    replace hBs := stepB hBs hB1 hBs.size
    clear hB1 HS wd
    go_wp2
    go_loopw [4, 13] (fun o i wr => ∃ (k og oc : Nat), k ≤ P.length ∧ i = .int .i64 k ∧ o = .slice (some ⟨og, 0, none⟩) k oc ∧ wr.ownsRow w.heap.size 31 8 (.slice (some ⟨og, 0, none⟩) k oc) k (((P.map f).take k).flatMap encCl) ∧ wr.ownsRow w.heap.size 9 1 (.slice (some ⟨g, 0, none⟩) P.length P.length) P.length (P.flatMap encS) ∧ Below w.heap.size w wr) (fun _ i _ => P.length - (intOf i).toNat)
    case atStart => exact ⟨0, _, _, Nat.zero_le _, rfl, rfl, howns, wdb, hBs⟩
    case round =>
      clear howns hBs wdb
      obtain ⟨k, og, oc, hk, rfl, rfl, ow, wd, hB⟩ := hrel
      by_cases hlt : k < P.length
      · have hk1 : (k : Int) < (P.length : Int) := by omega
        have v1 : IntKind.i64.wrap ((k : Int) + 1) = ((k + 1 : Nat) : Int) := by rw [IntKind.wrap_i64]; omega
        have hm := List.getElem?_eq_getElem hlt
        generalize P[k] = x at hm
        have c0 := own_str wd hm
        have hst := take_cl (f := f) hm
        have hC := HC.out x (List.mem_of_getElem? hm) wr (hN.below hB)
        generalize f x = m at hst hC
        unfold clV at hC
        replace hC := Lib.hid hC
        replace hst := Lib.hid hst
        clear hm
        go_wp2_with fail
        refine hC.out.mono ?_
        rintro e w3 ⟨rfl, hB3⟩
        replace ow := own_below ow hB3
        replace wd := own_below wd hB3
        replace hB := stepB hB hB3 hB.size
        clear hB3 hC c0
        have hown := ow
        have hz : Below w3.heap.size w3 (w3.alloc (.cells #[.int .i64 m.kind, .int .i64 m.number, .int .i64 m.month, .int .i64 m.feast, .int .i64 m.relation, .int .i64 m.weekday, .int .i64 m.style, .string m.king] 31)) := (Below.refl _ _).alloc (Nat.le_refl _) _
        replace ow := own_below ow hz
        replace wd := own_below wd hz
        replace hB := stepB hB hz hB.size
        have hap := own_apart wd ow hSC
        clear hz
        go_wp2_with (at_builtin; refine wpList_append_lst _ rfl _ _ 22 rfl w.heap.size 31 i0 (.agg #[.int .i64 0, .int .i64 0, .int .i64 0, .int .i64 0, .int .i64 0, .int .i64 0, .int .i64 0, .string ⟨#[]⟩]) 8 72 Tryz.underlying22 hi hz0 hz1 hz2 rfl (by decide) _ _ k (((P.map f).take k).flatMap encCl) rfl ow ⟨w3.heap.size, 0, none⟩ 1 1 (encCl m) rfl rfl (World.news_of_block (heap_alloc_new _ _)) (one_cl m) (by unfold maxLen; omega) (by omega) hB.size ?_)
        intro og2 oc2 W3 ow2 hgr hor
        rw [← hst.out] at ow2
        replace wd := wd.kept hgr (.inr (by simp [Value.ownBlock]; exact hap))
        replace hB := hB.grown hgr hB.size (fun g e => by cases e; exact (own_lt hown).1)
        clear hown hgr hor hap ow
        go_wp2
        go_roundw
        case rel => exact ⟨k + 1, og2, oc2, by omega, rfl, rfl, ow2, wd, hB⟩
        case measure => simp only [intOf]; omega
      · have hk1 : ¬ (k : Int) < (P.length : Int) := by omega
        obtain rfl : k = P.length := by omega
        rw [List.take_of_length_le (by rw [List.length_map]; exact Nat.le_refl _)] at ow
        by_cases h8 : P.length ≤ 8
        · have hD := HD.out h8 og oc wr ow
          cases hb : isDatingB (P.map f) with
          | true =>
            rw [hb] at hD
            have hq2 := Lib.hid (show R = (P.map f, 0) by rw [hq.out, hb]; rfl)
            replace hD := Lib.hid hD
            clear hb h8
            go_wp2_with fail
            refine hD.out.mono ?_
            rintro e w3 ⟨rfl, hB3⟩
            replace ow := own_below ow hB3
            go_wp2
            go_ret2
            rw [hq2.out]
            exact ⟨⟨some ⟨og, 0, none⟩, oc, by rw [List.length_map]; rfl, by rw [List.length_map]; exact ow⟩, stepB hB hB3 hB.size⟩
          | false =>
            rw [hb] at hD
            have hq2 := Lib.hid (show R = ([], 6) by rw [hq.out, hb]; rfl)
            replace hD := Lib.hid hD
            clear hb h8
            go_wp2_with fail
            refine hD.out.mono ?_
            rintro e w3 ⟨rfl, hB3⟩
            go_wp2
            go_ret2
            rw [hq2.out]
            exact ⟨⟨none, 0, rfl, by simp, .inl ⟨rfl, rfl⟩⟩, stepB hB hB3 hB.size⟩
        · have hq2 := Lib.hid (show R = ([], 6) by rw [hq.out, hlg.out (by omega)]; rfl)
          have hD := Lib.hid (implIsDating_big (some ⟨og, 0, none⟩) oc P.length wr (by omega))
          clear h8
          go_wp2_with fail
          refine hD.out.mono ?_
          rintro e w3 ⟨rfl, rfl⟩
          go_wp2
          go_ret2
          rw [hq2.out]
          exact ⟨⟨none, 0, rfl, by simp, .inl ⟨rfl, rfl⟩⟩, hB⟩
set_option maxRecDepth 100000 in
set_option maxHeartbeats 4000000 in
theorem specReadDating_any (s : ByteArray) (hs : s.size ≤ 1048576) (w : World) :
    Calls Tryz.prog 7 #[.string s] w fun e w' => RdDP w (rdD s) e w' ∧ Below w.heap.size w w' := by
  have hq : rdD s = if s = ⟨#[]⟩ then ([], 0) else if isDatingB ((wsB 44 s).map rdC) then ((wsB 44 s).map rdC, 0) else ([], 6) := rfl
  have he := lit_beq s []
  have hBs : Below w.heap.size w (w.alloc (.cells #[] 31)) := (Below.refl _ w).alloc (Nat.le_refl _) _
  by_cases h0 : s = ⟨#[]⟩
  · rw [if_pos h0] at hq
    rw [decide_eq_true h0] at he
    rw [hq]
    have howns := World.ownsRow_made w #[] 0 (Nat.le_refl _) (by decide) rfl (e := 31) (size := 8)
    clear hq h0
    go_enter Tryz.func7, Tryz.ntmps7
    go_wp2
    go_ret2
    exact ⟨⟨_, 0, rfl, howns⟩, hBs⟩
  · rw [if_neg h0] at hq
    rw [decide_eq_false h0] at he
    clear hBs
    have hln := wsB_len 44 s
    have hsz := wsB_part 44 s
    have HS := Lib.hid (fun W => show Calls Tryz.prog 38 #[.string s, .int .u8 44] W _ from l01Split_any s 44 W hs)
    obtain ⟨i0, hi, hz0, hz1, hz2⟩ := info_parts infoCl
    generalize rdD s = R at hq ⊢
    generalize wsB 44 s = P at hq hln hsz HS
    have HC : ∀ x ∈ P, ∀ W, Calls Tryz.prog 18 #[.string x] W fun e w' => e = .returned (.tuple #[clV (rdR x).1, .int .i64 (rdR x).2]) ∧ Below W.heap.size W w' := fun x hx W => specReadClause_any x (Nat.le_trans (hsz x hx) hs) W
    have hlg := Lib.hid (fun h => dating_long (P := P) h)
    have hno := Lib.hid (fun x hx h => dating_no (P := P) (x := x) hx h)
    have hys := Lib.hid (fun h h2 => dating_yes (P := P) h h2)
    have hr1 := Lib.hid (fun x h => rdR_ok (x := x) h)
    have hr0 := Lib.hid (fun x h => rdR_no (x := x) h)
    generalize rdC = f at hq hlg hno hys hr1 hr0
    replace HC := Lib.hid HC
    replace hq := Lib.hid hq
    clear h0 hsz
    go_enter Tryz.func7, Tryz.ntmps7
    go_wp2_with fail
    refine (HS.out _).mono ?_
    rintro e w1 ⟨g, cp, rfl, wd, hB1⟩
    have howns := World.ownsRow_made w1 #[] 0 hB1.size (by decide) rfl (base := w.heap.size) (e := 31) (size := 8)
    have hz : Below w1.heap.size w1 (w1.alloc (.cells #[] 31)) := (Below.refl _ w1).alloc (Nat.le_refl _) _
    replace wd := own_below wd hz
    have hBs := stepB hB1 hz hB1.size
    clear hB1 HS hz
    go_wp2
    go_loopw [5, 6] (fun o i wr => ∃ (k og oc : Nat), k ≤ P.length ∧ k ≤ 8 ∧ i = .int .i64 k ∧ o = .slice (some ⟨og, 0, none⟩) k oc ∧ wr.ownsRow w.heap.size 31 8 (.slice (some ⟨og, 0, none⟩) k oc) k (((P.map f).take k).flatMap encCl) ∧ wr.ownsRow w.heap.size 9 1 (.slice (some ⟨g, 0, none⟩) P.length cp) P.length (P.flatMap encS) ∧ Hid (∀ x ∈ P.take k, okCl (f x) = true) ∧ Below w.heap.size w wr) (fun _ i _ => P.length - (intOf i).toNat)
    case atStart => exact ⟨0, _, _, Nat.zero_le _, by omega, rfl, rfl, howns, wd, Lib.hid (fun x hx => by simp at hx), hBs⟩
    case round =>
      clear howns hBs wd
      obtain ⟨k, og, oc, hk, hk8, rfl, rfl, ow, wd, hall, hB⟩ := hrel
      by_cases hlt : k < P.length
      · have hk1 : (k : Int) < (P.length : Int) := by omega
        have v1 : IntKind.i64.wrap ((k : Int) + 1) = ((k + 1 : Nat) : Int) := by rw [IntKind.wrap_i64]; omega
        have hm := List.getElem?_eq_getElem hlt
        generalize P[k] = x at hm
        have c0 := own_str wd hm
        have hst := take_cl (f := f) hm
        have hC := HC.out x (List.mem_of_getElem? hm) wr
        cases hok : okCl (f x) with
        | false =>
          rw [hr0.out x hok] at hC
          have hq2 := Lib.hid (show R = ([], 6) by rw [hq.out, hno.out x (List.mem_of_getElem? hm) hok]; rfl)
          unfold clV clZ at hC
          replace hC := Lib.hid hC
          clear hm hst hok
          go_wp2_with fail
          refine hC.out.mono ?_
          rintro e w3 ⟨rfl, hB3⟩
          replace hB := stepB hB hB3 hB.size
          have hz := (Below.refl _ w3).alloc (Nat.le_refl _) (.cells #[.int .i64 0, .int .i64 0, .int .i64 0, .int .i64 0, .int .i64 0, .int .i64 0, .int .i64 0, .string ⟨#[]⟩] 31)
          go_wp2
          go_ret2
          rw [hq2.out]
          exact ⟨⟨none, 0, rfl, by simp, .inl ⟨rfl, rfl⟩⟩, stepB hB hz hB.size⟩
        | true =>
          rw [hr1.out x hok] at hC
          have hall2 := Lib.hid (show ∀ y ∈ P.take (k + 1), okCl (f y) = true from fun y hy => by
            obtain ⟨hl, e⟩ := List.getElem?_eq_some_iff.1 hm
            rw [List.take_succ_eq_append_getElem hl, e] at hy
            rcases List.mem_append.1 hy with hy | hy
            · exact hall.out y hy
            · rw [List.mem_singleton.1 hy]; exact hok)
          clear hm hall hok
          generalize f x = m at hst hC
          unfold clV at hC
          replace hC := Lib.hid hC
          replace hst := Lib.hid hst
          go_wp2_with fail
          refine hC.out.mono ?_
          rintro e w3 ⟨rfl, hB3⟩
          replace ow := own_below ow hB3
          replace wd := own_below wd hB3
          replace hB := stepB hB hB3 hB.size
          clear hB3 hC c0
          have hA := At.start w3 [.int .i64 m.kind, .int .i64 m.number, .int .i64 m.month, .int .i64 m.feast, .int .i64 m.relation, .int .i64 m.weekday, .int .i64 m.style, .string m.king] 31
          go_upto_region 9 with (fail)
          generalize hW : w3.alloc (.cells #[.int .i64 m.kind, .int .i64 m.number, .int .i64 m.month, .int .i64 m.feast, .int .i64 m.relation, .int .i64 m.weekday, .int .i64 m.style, .string m.king] 31) = w4 at hA ⊢
          clear hW
          replace ow := own_below ow hA.below
          replace wd := own_below wd hA.below
          replace hB := stepB hB hA.below hB.size
          by_cases h8 : k = 8
          · subst h8
            have hq2 := Lib.hid (show R = ([], 6) by rw [hq.out, hlg.out (by omega)]; rfl)
            go_wp2
            go_ret2
            rw [hq2.out]
            exact ⟨⟨none, 0, rfl, by simp, .inl ⟨rfl, rfl⟩⟩, hB⟩
          · have g8 : ((k : Int) == 8) = false := by simp; omega
            have c0 := hA.cell 0 _ rfl; have c1 := hA.cell 1 _ rfl; have c2 := hA.cell 2 _ rfl; have c3 := hA.cell 3 _ rfl; have c4 := hA.cell 4 _ rfl; have c5 := hA.cell 5 _ rfl; have c6 := hA.cell 6 _ rfl; have c7 := hA.cell 7 _ rfl
            clear hA
            have hown := ow
            have hz : Below w4.heap.size w4 (w4.alloc (.cells #[.int .i64 m.kind, .int .i64 m.number, .int .i64 m.month, .int .i64 m.feast, .int .i64 m.relation, .int .i64 m.weekday, .int .i64 m.style, .string m.king] 31)) := (Below.refl _ _).alloc (Nat.le_refl _) _
            replace ow := own_below ow hz
            replace wd := own_below wd hz
            replace hB := stepB hB hz hB.size
            have hap := own_apart wd ow hSC
            clear hz
            go_wp2_with (at_builtin; refine wpList_append_lst _ rfl _ _ 22 rfl w.heap.size 31 i0 (.agg #[.int .i64 0, .int .i64 0, .int .i64 0, .int .i64 0, .int .i64 0, .int .i64 0, .int .i64 0, .string ⟨#[]⟩]) 8 72 Tryz.underlying22 hi hz0 hz1 hz2 rfl (by decide) _ _ k (((P.map f).take k).flatMap encCl) rfl ow ⟨w4.heap.size, 0, none⟩ 1 1 (encCl m) rfl rfl (World.news_of_block (heap_alloc_new _ _)) (one_cl m) (by unfold maxLen; omega) (by omega) hB.size ?_)
            intro og2 oc2 W3 ow2 hgr hor
            rw [← hst.out] at ow2
            replace wd := wd.kept hgr (.inr (by simp [Value.ownBlock]; exact hap))
            replace hB := hB.grown hgr hB.size (fun g e => by cases e; exact (own_lt hown).1)
            clear hown hgr hor hap ow
            go_wp2
            go_roundw
            case rel => exact ⟨k + 1, og2, oc2, by omega, by omega, rfl, rfl, ow2, wd, hall2, hB⟩
            case measure => simp only [intOf]; omega
      · have hk1 : ¬ (k : Int) < (P.length : Int) := by omega
        obtain rfl : k = P.length := by omega
        have ha := hall.out
        rw [List.take_length] at ha
        rw [List.take_of_length_le (by rw [List.length_map]; exact Nat.le_refl _)] at ow
        have hq2 := Lib.hid (show R = (P.map f, 0) by rw [hq.out, hys.out hk8 ha]; rfl)
        clear ha hall
        go_wp2
        go_ret2
        rw [hq2.out]
        exact ⟨⟨some ⟨og, 0, none⟩, oc, by rw [List.length_map]; rfl, by rw [List.length_map]; exact ow⟩, hB⟩
end
end Go.Proofs.YteajkofgcmfaoaaGreatDoor
