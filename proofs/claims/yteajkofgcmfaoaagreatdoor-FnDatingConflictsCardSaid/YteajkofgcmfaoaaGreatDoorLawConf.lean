/- Walk: the law FnDatingConflicts. Printed by gen_cnf.py. -/
import Derived.Test.YteajkofgcmfaoaaGreatDoorDp
import Derived.Test.YteajkofgcmfaoaaGreatDoorDy
import Derived.Test.YteajkofgcmfaoaaGreatDoorCf
import Derived.Test.YteajkofgcmfaoaaGreatDoorCt
import Derived.Test.YteajkofgcmfaoaaGreatDoorAddQ
namespace Go.Proofs.YteajkofgcmfaoaaGreatDoor
open Go.ChangeShapes Go.WideShapes Go.ChangeAt Go.RowKit Go.IntWalk

theorem conf_dated {rs : List Rg} {f t : Int} {cs : List Cl} {l : List Int} (h : confR rs f t cs = (l, 0)) : datedB rs f t cs = true := by
  unfold confR at h
  split at h
  · assumption
  · simp at h
theorem atL_len (cs : List Cl) (l : List Int) : (atL cs l).length = l.length := by unfold atL; rw [List.length_map]
theorem atL_king {cs : List Cl} {l : List Int} (h : ∀ m ∈ cs, m.king.size ≤ 13) : ∀ m ∈ atL cs l, szCl m ≤ 1048576 := fun m hm => by
  unfold atL at hm
  obtain ⟨i, _, rfl⟩ := List.mem_map.1 hm
  unfold szCl
  rw [List.getD_eq_getElem?_getD]
  cases e : cs[i.toNat]? with
  | none => exact Nat.zero_le _
  | some m => have := h m (List.mem_of_getElem? e); show m.king.size ≤ _; omega
theorem clOnes (l : List Cl) : ∀ u ∈ l.flatMap encCl, u.oneCell' = true := fun u hu => by
  obtain ⟨m, _, hm⟩ := List.mem_flatMap.1 hu
  exact one_cl m u hm
theorem take_at {cls : List Cl} {l : List Int} {k j : Nat} {m : Cl} (h : l[k]? = some (j : Int)) (hm : cls[j]? = some m) : ((atL cls l).take (k + 1)).flatMap encCl = ((atL cls l).take k).flatMap encCl ++ encCl m := by
  have h2 : (atL cls l)[k]? = some m := by
    unfold atL
    rw [List.getElem?_map, h]
    show some (cls.getD (j : Int).toNat _) = _
    rw [Int.toNat_natCast, List.getD_eq_getElem?_getD, hm]
    rfl
  obtain ⟨hl, e⟩ := List.getElem?_eq_some_iff.1 h2
  rw [List.take_succ_eq_append_getElem hl, List.flatMap_append, e]
  simp
theorem erase_row (cls : List Cl) (l : List Int) (k : Nat) : atL cls (l.eraseIdx k) = (atL cls l).take k ++ (atL cls l).drop (k + 1) := by
  unfold atL
  rw [List.eraseIdx_eq_take_drop_succ, List.map_append, List.map_take, List.map_drop]
theorem erase_len {cls : List Cl} {l : List Int} {k : Nat} (h : k < l.length) : (atL cls (l.eraseIdx k)).length = l.length - 1 := by
  rw [atL_len, List.length_eraseIdx, if_pos h]
theorem dtx_yes {xs : List Cl} (h : isDatingB xs = true) : dtxR xs = (jnB (xs.map txtB), 0) := by unfold dtxR; rw [if_pos h]
theorem dtx_no {xs : List Cl} (h : isDatingB xs = false) : dtxR xs = (⟨#[]⟩, 1) := by unfold dtxR; rw [h]; rfl
set_option maxRecDepth 100000 in
set_option maxHeartbeats 8000000 in
theorem lawConf_any (cs : Option Addr) (cap : Nat) (bs : List Int) (w : World) (_hl : bs.length ≤ maxLen) (hx : Rd encB w cs bs) (hb : ∀ m ∈ bs, goodB m) (hN : NumW w) :
    Calls Tryz.prog 5 #[.slice cs bs.length cap] w fun e w' => e = .returned (.bool true) ∧ Below w.heap.size w w' := by
  have HBIG := Lib.hid (big_any cs cap bs.length w)
  by_cases hbig : 4096 < bs.length
  · have HBIG := Lib.hid ((show decide (4096 < bs.length) = true by simpa using hbig) ▸ HBIG.out)
    go_enter Tryz.func5, Tryz.ntmps5
    go_wp2_with fail
    refine HBIG.out.mono ?_
    rintro e w1 ⟨rfl, rfl⟩
    go_wp2
    go_ret
    exact ⟨rfl, Below.refl _ _⟩
  have HBIG := Lib.hid ((show decide (4096 < bs.length) = false by simpa using hbig) ▸ HBIG.out)
  have hl : bs.length ≤ 4096 := by omega
  have HR := Lib.hid (fun (t : ByteArray) (h : t.size ≤ 1048576) W (hB : Below w.heap.size w W) => implReadDating_any t h W (hN.below hB))
  have HS := Lib.hid (fun (t : ByteArray) (h : t.size ≤ 1048576) W => specReadDating_any t h W)
  have HT := Lib.hid (fun (a : Option Addr) (c : Nat) (xs : List Cl) (h1 : xs.length ≤ 1048576) (h3 : ∀ m ∈ xs, szCl m ≤ 1048576) W (h2 : Rd encCl W a xs) (hB : Below w.heap.size w W) => implDatingText_any a c xs W h1 h2 h3 (hN.below hB).tab)
  clear hN
  go_enter Tryz.func5, Tryz.ntmps5
  go_wp2_with fail
  refine HBIG.out.mono ?_
  rintro e w0 ⟨rfl, rfl⟩
  clear HBIG hbig
  go_wp2_with fail
  refine (drawConflict_any cs cap bs w hx hb hl).mono ?_
  rintro e W1 ⟨⟨g, c, g2, c2, rs, f, t, cls, rfl, hrl, hok, hfb, htb, hcl, hks, hown, hout⟩, hB⟩
  have hA := At.start W1 [.slice (some ⟨g, 0, none⟩) rs.length c, .int .i64 f, .int .i64 t] 43
  go_upto_region 4 with (fail)
  generalize hW : W1.alloc (.cells #[.slice (some ⟨g, 0, none⟩) rs.length c, .int .i64 f, .int .i64 t] 43) = W2 at hA ⊢
  clear hW
  have hB1 := hA.below
  replace hown := own_below hown hB1
  replace hout := own_below hout hB1
  replace hB := stepB hB hB1 hB.size
  clear hB1
  have hrk : ∀ m ∈ rs, m.king.size ≤ 1048576 := fun m hm => by have := (hok m hm).1; omega
  have hck : ∀ m ∈ cls, szCl m ≤ 1048576 := fun m hm => by have := hks m hm; unfold szCl; omega
  have HSI := Lib.hid (fun W (h0 : Rd encRg W (some ⟨g, 0, none⟩) rs) (h1 : Rd encCl W (some ⟨g2, 0, none⟩) cls) => implSmall_any (some ⟨g, 0, none⟩) (some ⟨g2, 0, none⟩) c c2 rs f t cls W (by omega) h0 hrk (by omega) h1 hck)
  have HSS := Lib.hid (fun W (h0 : Rd encRg W (some ⟨g, 0, none⟩) rs) (h1 : Rd encCl W (some ⟨g2, 0, none⟩) cls) => specSmall_any (some ⟨g, 0, none⟩) (some ⟨g2, 0, none⟩) c c2 rs f t cls W (by omega) h0 hrk (by omega) h1 hck)
  have HCN := Lib.hid (fun (a : Option Addr) (k : Nat) (zs : List Int) (hz : zs.length ≤ 1048576) W (h0 : Rd encRg W (some ⟨g, 0, none⟩) rs) (h1 : Rd encCl W a (atL cls zs)) => implCount_any (some ⟨g, 0, none⟩) a c k rs f t (atL cls zs) W (by omega) h0 hrk (by rw [atL_len]; exact hz) h1 (atL_king hks))
  have hlR := confR_len rs f t cls
  have hCR : ∃ CR, confR rs f t cls = CR := ⟨_, rfl⟩
  obtain ⟨⟨l, bad⟩, hCR⟩ := hCR
  rw [hCR] at HSI HSS hlR
  replace hCR := Lib.hid hCR
  simp only at HSI HSS hlR
  clear hrk hck
  have a0 := hA.cell 0 _ rfl
  have a1 := hA.cell 1 _ rfl
  have a2 := hA.cell 2 _ rfl
  go_wp2_with fail
  refine (HSI.out _ (Rd.of_own encRg_len (by decide) hown) (Rd.of_own encCl_len (by decide) hout)).mono ?_
  rintro e W3 ⟨bx, cx, rfl, xrow, hB1⟩
  replace hown := own_below hown hB1
  replace hout := own_below hout hB1
  replace hA := hA.step hB1
  replace hB := stepB hB hB1 hB.size
  clear hB1
  clear a0 a1 a2
  clear HSI
  have a0 := hA.cell 0 _ rfl
  have a1 := hA.cell 1 _ rfl
  have a2 := hA.cell 2 _ rfl
  go_wp2_with fail
  refine (HSS.out _ (Rd.of_own encRg_len (by decide) hown) (Rd.of_own encCl_len (by decide) hout)).mono ?_
  rintro e W4 ⟨bm, cm, rfl, mrow, hB1⟩
  replace hown := own_below hown hB1
  replace hout := own_below hout hB1
  replace xrow := own_below xrow hB1
  replace hA := hA.step hB1
  replace hB := stepB hB hB1 hB.size
  clear hB1
  clear a0 a1 a2
  clear HSS
  go_wp2_with fail
  refine (drawDating_any cs cap bs _ (hx.below hB) hb hl).mono ?_
  rintro e W5 ⟨⟨ga, ca, al, rfl, hal, hak, arow⟩, hB1⟩
  replace hown := own_below hown hB1
  replace hout := own_below hout hB1
  replace xrow := own_below xrow hB1
  replace mrow := own_below mrow hB1
  replace hA := hA.step hB1
  replace hB := stepB hB hB1 hB.size
  clear hB1
  have hack : ∀ m ∈ al, szCl m ≤ 1048576 := fun m hm => by have := hak m hm; unfold szCl; omega
  have hT := Lib.hid (fun W h1 h2 => HT.out (some ⟨ga, 0, none⟩) ca al (by omega) hack W h1 h2)
  have hTs := Lib.hid (fun W h1 => specDatingText_any (some ⟨ga, 0, none⟩) ca al W (by omega) h1 hack)
  have hID := Lib.hid (fun W h1 => implIsDating_any (some ⟨ga, 0, none⟩) ca al W (by omega) h1 hack)
  have hsm := dtx_small (xs := al)
  have hctx : (isDatingB al = true ∧ dtxR al = (jnB (al.map txtB), 0)) ∨ (isDatingB al = false ∧ dtxR al = (⟨#[]⟩, 1)) := by
    cases h : isDatingB al
    · exact .inr ⟨rfl, dtx_no h⟩
    · exact .inl ⟨rfl, dtx_yes h⟩
  generalize dtxR al = RR at hT hTs hsm hctx
  obtain ⟨T, one⟩ := RR
  simp only at hsm hT hTs
  replace hctx := Lib.hid hctx
  clear HT hack
  go_wp2_with fail
  refine (hT.out _ (Rd.of_own encCl_len (by decide) arow) hB).mono ?_
  rintro e W6 ⟨rfl, hB1⟩
  replace hown := own_below hown hB1
  replace hout := own_below hout hB1
  replace xrow := own_below xrow hB1
  replace mrow := own_below mrow hB1
  replace arow := own_below arow hB1
  replace hA := hA.step hB1
  replace hB := stepB hB hB1 hB.size
  clear hB1
  clear hT
  go_wp2_with fail
  refine (hTs.out _ (Rd.of_own encCl_len (by decide) arow)).mono ?_
  rintro e W7 ⟨rfl, hB1⟩
  replace hown := own_below hown hB1
  replace hout := own_below hout hB1
  replace xrow := own_below xrow hB1
  replace mrow := own_below mrow hB1
  replace arow := own_below arow hB1
  replace hA := hA.step hB1
  replace hB := stepB hB hB1 hB.size
  clear hB1
  clear hTs
  go_wp2_with fail
  refine (drawReadDating_any cs cap bs _ (hx.below hB) hb hl).mono ?_
  rintro e W8 ⟨⟨s, rfl, hss⟩, hB1⟩
  replace hown := own_below hown hB1
  replace hout := own_below hout hB1
  replace xrow := own_below xrow hB1
  replace mrow := own_below mrow hB1
  replace arow := own_below arow hB1
  replace hA := hA.step hB1
  replace hB := stepB hB hB1 hB.size
  clear hB1
  have hR := HR.out s hss
  have hS := HS.out s hss
  have hyl := rdD_len s
  generalize rdD s = RR at hR hS hyl
  obtain ⟨ys, three⟩ := RR
  simp only at hyl
  replace hR := Lib.hid hR
  replace hS := Lib.hid hS
  clear HS
  go_wp2_with fail
  refine (hR.out _ hB).mono ?_
  rintro e W9 ⟨⟨by_, cy, rfl, yrow⟩, hB1⟩
  replace hown := own_below hown hB1
  replace hout := own_below hout hB1
  replace xrow := own_below xrow hB1
  replace mrow := own_below mrow hB1
  replace arow := own_below arow hB1
  replace hA := hA.step hB1
  replace hB := stepB hB hB1 hB.size
  clear hB1
  clear hR
  simp only at yrow
  go_wp2_with fail
  refine (hS.out _).mono ?_
  rintro e W10 ⟨⟨bz, cz, rfl, zrow⟩, hB1⟩
  replace hown := own_below hown hB1
  replace hout := own_below hout hB1
  replace xrow := own_below xrow hB1
  replace mrow := own_below mrow hB1
  replace arow := own_below arow hB1
  replace yrow := own_below yrow hB1
  replace hA := hA.step hB1
  replace hB := stepB hB hB1 hB.size
  clear hB1
  clear hS
  simp only at zrow
  have q1 : (bad != bad) = false := by simp
  have q2 : (T.toList == T.toList) = true := by simp
  have q3 : (one != one) = false := by simp
  have q4 : (three != three) = false := by simp
  go_wp2_with fail
  refine (likeInts_self bx bm cx cm l _ (by omega) (Rd.of_own encI_len (by decide) xrow) (Rd.of_own encI_len (by decide) mrow)).mono ?_
  rintro e W11 ⟨rfl, hB1⟩
  replace hown := own_below hown hB1
  replace hout := own_below hout hB1
  replace xrow := own_below xrow hB1
  replace mrow := own_below mrow hB1
  replace arow := own_below arow hB1
  replace yrow := own_below yrow hB1
  replace zrow := own_below zrow hB1
  replace hA := hA.step hB1
  replace hB := stepB hB hB1 hB.size
  clear hB1
  go_wp2_with fail
  refine (likeClauses_self by_ bz cy cz ys _ (by omega) (Rd.of_own encCl_len (by decide) yrow) (Rd.of_own encCl_len (by decide) zrow)).mono ?_
  rintro e W12 ⟨rfl, hB1⟩
  replace hown := own_below hown hB1
  replace hout := own_below hout hB1
  replace xrow := own_below xrow hB1
  replace mrow := own_below mrow hB1
  replace arow := own_below arow hB1
  replace yrow := own_below yrow hB1
  replace zrow := own_below zrow hB1
  replace hA := hA.step hB1
  replace hB := stepB hB hB1 hB.size
  clear hB1
  clear yrow zrow hyl
  rcases hctx.out with ⟨hok2, hce⟩ | ⟨hok2, hce⟩
  · clear hctx
    have hT0 := Lib.hid (show T = jnB (al.map txtB) from congrArg Prod.fst hce)
    obtain rfl : one = 0 := congrArg Prod.snd hce
    replace hID := Lib.hid (fun W h1 => hok2 ▸ hID.out W h1)
    replace hok2 := Lib.hid hok2
    clear hce
    go_wp2_with fail
    refine (hID.out _ (Rd.of_own encCl_len (by decide) arow)).mono ?_
    rintro e W13 ⟨rfl, hB1⟩
    replace hown := own_below hown hB1
    replace hout := own_below hout hB1
    replace xrow := own_below xrow hB1
    replace mrow := own_below mrow hB1
    replace arow := own_below arow hB1
    replace hA := hA.step hB1
    replace hB := stepB hB hB1 hB.size
    clear hB1
    clear hID
    have hR := HR.out T (by omega)
    rw [show rdD T = (al, 0) by rw [hT0.out]; exact dating_back hok2.out] at hR
    replace hR := Lib.hid hR
    go_wp2_with fail
    refine (hR.out _ hB).mono ?_
    rintro e W14 ⟨⟨bk, ck, rfl, krow⟩, hB1⟩
    replace hown := own_below hown hB1
    replace hout := own_below hout hB1
    replace xrow := own_below xrow hB1
    replace mrow := own_below mrow hB1
    replace arow := own_below arow hB1
    replace hA := hA.step hB1
    replace hB := stepB hB hB1 hB.size
    clear hB1
    clear hR HR
    simp only at krow
    go_wp2_with fail
    refine (likeClauses_self bk (some ⟨ga, 0, none⟩) ck ca al _ (by omega) (Rd.of_own encCl_len (by decide) krow) (Rd.of_own encCl_len (by decide) arow)).mono ?_
    rintro e W15 ⟨rfl, hB1⟩
    replace hown := own_below hown hB1
    replace hout := own_below hout hB1
    replace xrow := own_below xrow hB1
    replace mrow := own_below mrow hB1
    replace arow := own_below arow hB1
    replace krow := own_below krow hB1
    replace hA := hA.step hB1
    replace hB := stepB hB hB1 hB.size
    clear hB1
    clear krow arow
    by_cases hbad : bad = 0
    · subst hbad
      obtain ⟨hL8, hLin, hC0, hCs⟩ := conf_law (conf_dated hCR.out) hCR.out
      obtain ⟨i0, hi, hz0, hz1, hz2⟩ := info_parts infoCl
      replace hLin := Lib.hid hLin
      replace hC0 := Lib.hid hC0
      replace hCs := Lib.hid hCs
      have howns := World.ownsRow_made W15 #[] 0 (Nat.le_refl _) (by decide) rfl (base := W15.heap.size) (e := 31) (size := 8)
      have hzs := belowA W15 (.cells #[] 31)
      clear mrow
      go_wp2
      go_loopw [21, 22] (fun o i wr => ∃ (k og oc : Nat), k ≤ l.length ∧ i = .int .i64 k ∧ o = .slice (some ⟨og, 0, none⟩) k oc ∧ wr.ownsRow W15.heap.size 31 8 (.slice (some ⟨og, 0, none⟩) k oc) k (((atL cls l).take k).flatMap encCl) ∧ Below W15.heap.size W15 wr) (fun _ i _ => l.length - (intOf i).toNat)
      case atStart => exact ⟨0, _, _, Nat.zero_le _, rfl, rfl, howns, hzs⟩
      case round =>
        clear howns hzs
        obtain ⟨n, og, oc, hk, rfl, rfl, ow, hBr⟩ := hrel
        by_cases hlt : n < l.length
        · have hk1 : (n : Int) < (l.length : Int) := by omega
          have v1 : IntKind.i64.wrap ((n : Int) + 1) = ((n + 1 : Nat) : Int) := by rw [IntKind.wrap_i64]; omega
          have hm := List.getElem?_eq_getElem hlt
          obtain ⟨j, hj, hjc⟩ : ∃ j : Nat, l[n] = (j : Int) ∧ j < cls.length := ⟨l[n].toNat, by have := hLin.out l[n] (List.getElem_mem hlt); omega, by have := hLin.out l[n] (List.getElem_mem hlt); omega⟩
          rw [hj] at hm
          have hm2 := List.getElem?_eq_getElem hjc
          generalize cls[j] = m at hm2
          obtain ⟨b1, o1, e1, -, d0⟩ := (Rd.of_own encI_len (by decide) (own_below xrow hBr)).i hm
          obtain ⟨b2, o2, e2, -, c0, c1, c2', c3, c4, c5, c6, c7⟩ := (Rd.of_own encCl_len (by decide) (own_below hout hBr)).cl hm2
          cases e1
          cases e2
          simp only [Nat.zero_add] at d0 c0 c1 c2' c3 c4 c5 c6 c7
          have hst := Lib.hid (take_at hm hm2)
          have hj1 : (j : Int) < (cls.length : Int) := by omega
          clear hm hm2 hj hcl
          have hown1 := ow
          have hz := belowA wr (.cells #[.int .i64 m.kind, .int .i64 m.number, .int .i64 m.month, .int .i64 m.feast, .int .i64 m.relation, .int .i64 m.weekday, .int .i64 m.style, .string m.king] 31)
          replace ow := own_below ow hz
          replace hBr := stepB hBr hz hBr.size
          clear hz
          go_wp2_with (at_builtin; refine wpList_append_lst _ rfl _ _ 22 rfl W15.heap.size 31 i0 (.agg #[.int .i64 0, .int .i64 0, .int .i64 0, .int .i64 0, .int .i64 0, .int .i64 0, .int .i64 0, .string ⟨#[]⟩]) 8 72 Tryz.underlying22 hi hz0 hz1 hz2 rfl (by decide) _ _ n (((atL cls l).take n).flatMap encCl) rfl ow ⟨wr.heap.size, 0, none⟩ 1 1 (encCl m) rfl rfl (World.news_of_block (heap_alloc_new _ _)) (one_cl m) (by unfold maxLen; omega) (by omega) hBr.size ?_)
          intro og2 oc2 W3 ow2 hgr hor
          rw [← hst.out] at ow2
          replace hBr := hBr.grown hgr hBr.size (fun g e => by cases e; exact (own_lt hown1).1)
          clear hown1 hgr hor ow
          go_wp2
          go_roundw
          case rel => exact ⟨n + 1, og2, oc2, by omega, rfl, rfl, ow2, hBr⟩
          case measure => simp only [intOf]; omega
        · have hk1 : ¬ (n : Int) < (l.length : Int) := by omega
          have hkl : n = l.length := by omega
          rw [List.take_of_length_le (by rw [atL_len]; omega)] at ow
          have hC := HCN.out (some ⟨og, 0, none⟩) oc l (by omega) wr (Rd.of_own encRg_len (by decide) (own_below hown hBr)) (Rd.of_own encCl_len (by decide) ow)
          rw [atL_len, ← hkl, hC0.out] at hC
          replace hC := Lib.hid hC
          have hn8 : n ≤ 8 := by omega
          replace hkl := Lib.hid hkl
          replace hown := own_below hown hBr
          replace hA := hA.step hBr
          replace hB := stepB hB hBr hB.size
          clear hout xrow hBr
          have a0 := hA.cell 0 _ rfl
          have a1 := hA.cell 1 _ rfl
          have a2 := hA.cell 2 _ rfl
          go_wp2_with fail
          refine hC.out.mono ?_
          rintro e Ws ⟨rfl, hB5⟩
          replace hown := own_below hown hB5
          replace ow := own_below ow hB5
          replace hA := hA.step hB5
          replace hB := stepB hB hB5 hB.size
          clear hB5 hC a0 a1 a2 hk hlt hk1 hLin hC0
          have q5 : ((0 : Int) != 0) = false := rfl
          go_wp2
          clear q5
          go_loopw [25] (fun i wr => ∃ k : Nat, k ≤ n ∧ i = .int .i64 k ∧ Below Ws.heap.size Ws wr) (fun i _ => n - (intOf i).toNat)
          case atStart => exact ⟨0, Nat.zero_le _, rfl, Below.refl _ _⟩
          case round =>
            obtain ⟨k, hk, rfl, hBr⟩ := hrel
            by_cases hlt : k < n
            · have hk1 : (k : Int) < (n : Int) := by omega
              have v1 : IntKind.i64.wrap ((k : Int) + 1) = ((k + 1 : Nat) : Int) := by rw [IntKind.wrap_i64]; omega
              obtain ⟨m, hcm, hm1⟩ := hCs.out k (by have := hkl.out; omega)
              have q6 : (m == 0) = false := by simp; omega
              replace ow := own_below ow hBr
              replace hown := own_below hown hBr
              replace hA := hA.step hBr
              have hcap := own_cap9 ow
              by_cases hoc : oc = k + 1
              · have hn1 := Lib.hid (show n = k + 1 by omega)
                subst hoc
                have hkn : ((k + 1 : Nat) : Int) ≤ (n : Int) := by omega
                have hkn1 : (k : Int) + 1 ≤ (n : Int) := by omega
                have hs1 : (k : Int) ≤ (k : Int) + 1 := by omega
                have hs2 : (0 : Int) ≤ (k : Int) + 1 := by omega
                have hkc : (k : Int) ≤ ((k + 1 : Nat) : Int) := by omega
                go_upto_region 31 with (fail)
                refine MAny.region (S := fun _ => True) (last := 10) (by kernel_rfl) ?_
                have hHeld : True := trivial
                have hzd : Below wr.heap.size wr wr.drew := (Below.refl _ wr).drew
                replace ow := own_below ow hzd
                replace hown := own_below hown hzd
                replace hA := hA.step hzd
                replace hBr := stepB hBr hzd hBr.size
                clear hzd
                generalize wr.drew = V0 at ow hown hA hBr ⊢
                refine MAny.take (i := 1) (v := ?_) rfl (by kernel_rfl) (by kernel_rfl) (by kernel_rfl) (fun _ _ _ h => h) (by kernel_rfl) (Or.inl ⟨by rfl, ?_⟩) (by assumption) ?_
                rotate_left
                · (intro w' hSw; (try dsimp only at hSw); go_simp; try (with_reducible rfl))
                try simp only [Act.put, List.setIfInBounds_toArray]
                refine MAny.take (i := 2) (v := ?_) rfl (by kernel_rfl) (by kernel_rfl) (by kernel_rfl) (fun _ _ _ h => h) (by kernel_rfl) (Or.inl ⟨by rfl, ?_⟩) (by assumption) ?_
                rotate_left
                · (intro w' hSw; (try dsimp only at hSw); go_simp; try (with_reducible rfl))
                try simp only [Act.put]
                refine MAny.take (i := 3) (v := ?_) rfl (by kernel_rfl) (by kernel_rfl) (by kernel_rfl) (fun _ _ _ h => h) (by kernel_rfl) (Or.inl ⟨by rfl, ?_⟩) (by assumption) ?_
                rotate_left
                · (intro w' hSw; (try dsimp only at hSw); go_simp; try (with_reducible rfl))
                try simp only [Act.put]
                refine MAny.take (i := 5) (v := ?_) rfl (by kernel_rfl) (by kernel_rfl) (by kernel_rfl) (fun _ _ _ h => h) (by kernel_rfl) (Or.inl ⟨by rfl, ?_⟩) (by assumption) ?_
                rotate_left
                · (intro w' hSw; (try dsimp only at hSw); go_simp; try (with_reducible rfl))
                try simp only [Act.put]
                refine MAny.take (i := 6) (v := ?_) rfl (by kernel_rfl) (by kernel_rfl) (by kernel_rfl) (fun _ _ _ h => h) (by kernel_rfl) (Or.inl ⟨by rfl, ?_⟩) (by assumption) ?_
                rotate_left
                · (intro w' hSw; (try dsimp only at hSw); go_simp; try (with_reducible rfl))
                try simp only [Act.put]
                refine MAny.take (i := 7) (v := ?_) rfl (by kernel_rfl) (by kernel_rfl) (by kernel_rfl) (fun _ _ _ h => h) (by kernel_rfl) (Or.inl ⟨by rfl, ?_⟩) (by assumption) ?_
                rotate_left
                · (intro w' hSw; (try dsimp only at hSw); go_simp; try (with_reducible rfl))
                try simp only [Act.put]
                refine MAny.take (i := 8) (v := ?_) rfl (by kernel_rfl) (by kernel_rfl) (by kernel_rfl) (fun _ _ _ h => h) (by kernel_rfl) (Or.inl ⟨by rfl, ?_⟩) (by assumption) ?_
                rotate_left
                · (intro w' hSw; (try dsimp only at hSw); go_simp; try (with_reducible rfl))
                try simp only [Act.put]
                refine MAny.ready (rs := [0]) (by kernel_rfl) (by simp) ?_
                refine MReady.cons rfl (fun K hK => ?_) MReady.nil
                go_simp
                have oe := World.ownsRow_made V0 #[] 0 (Nat.le_refl _) (by decide) rfl (base := V0.heap.size) (e := 31) (size := 8)
                have hN := belowA V0 (.cells #[] 31)
                generalize V0.alloc (.cells #[] 31) = Wa at oe hN ⊢
                refine hK.out _ _ (.inr trivial) ?_
                clear hK K
                refine MAny.ready (rs := [4]) (by kernel_rfl) (by simp) ?_
                refine MReady.cons rfl (fun K hK => ?_) MReady.nil
                refine step_append_any _ (by rfl) (.tmp 161) (.tmp 164) 22 (by rfl) V0.heap.size 31 i0 (.agg #[.int .i64 0, .int .i64 0, .int .i64 0, .int .i64 0, .int .i64 0, .int .i64 0, .int .i64 0, .string ⟨#[]⟩]) 8 72 Tryz.underlying22 hi hz0 hz1 hz2 rfl (by decide) _ _ 0 ([]) (by rfl) oe ⟨og, 0, none⟩ k (k + 1) (((atL cls l).take k).flatMap encCl) (by rfl) (by rw [length_flatMap_enc encCl 8 encCl_len, List.length_take, atL_len, Nat.min_eq_left (by have := hkl.out; omega)]) (rd_takeQ encCl_len (by decide) (Rd.of_own encCl_len (by decide) (own_below ow hN)) k) (clOnes ((atL cls l).take k)) (by unfold maxLen; omega) (by omega) hN.size ?_
                intro og2 oc2 Wb ow2 hgr hor
                replace hN := hN.grown hgr hN.size (fun g e => by cases e; exact (own_lt oe).1)
                clear hor hgr oe
                try simp only [Act.put, List.setIfInBounds_toArray]
                simp only [Nat.zero_add, List.nil_append] at ow2 ⊢
                refine hK.out _ _ (.inr trivial) ?_
                clear hK K
                refine MAny.ready (rs := [9]) (by kernel_rfl) (by simp) ?_
                refine MReady.cons rfl (fun K hK => ?_) MReady.nil
                refine step_append_any _ (by rfl) (.tmp 165) (.tmp 169) 22 (by rfl) V0.heap.size 31 i0 (.agg #[.int .i64 0, .int .i64 0, .int .i64 0, .int .i64 0, .int .i64 0, .int .i64 0, .int .i64 0, .string ⟨#[]⟩]) 8 72 Tryz.underlying22 hi hz0 hz1 hz2 rfl (by decide) _ _ k (((atL cls l).take k).flatMap encCl) (by rfl) ow2 ⟨og, 0, none⟩ 0 0 ([]) (by rfl) rfl (fun j u hu => by cases hu) (fun u hu => by cases hu) (by unfold maxLen; omega) (by omega) hN.size ?_
                intro og3 oc3 Wc ow3 hgr hor
                replace hN := hN.grown hgr hN.size (fun g e => by cases e; exact (own_lt ow2).1)
                clear hor hgr ow2
                try simp only [Act.put]
                simp only [Nat.add_zero, List.append_nil] at ow3 ⊢
                refine hK.out _ _ (.inr trivial) ?_
                clear hK K
                refine MAny.ready (rs := [10]) (by kernel_rfl) (by simp) ?_
                refine MReady.cons rfl (fun K hK => ?_) MReady.nil
                go_simp
                refine hK.out _ _ (.inl rfl) ?_
                clear hK K
                refine MAny.done (by kernel_rfl) ?_ _
                try simp only [List.getElem_toArray, List.getElem_cons_succ, List.getElem_cons_zero]
                have hle := erase_len (cls := cls) (show k < l.length by have := hkl.out; omega)
                have hro := erase_row cls l k
                rw [List.drop_eq_nil_of_le (by rw [atL_len, ← hkl.out, hn1.out]; exact Nat.le_refl _), List.append_nil] at hro
                rw [show l.length - 1 = k by have := hkl.out; have := hn1.out; omega] at hle
                rw [← hro] at ow3
                have hC := HCN.out (some ⟨og3, 0, none⟩) oc3 (l.eraseIdx k) (Nat.le_trans (List.length_eraseIdx_le l k) (by omega)) Wc (Rd.of_own encRg_len (by decide) (own_below hown hN)) (Rd.of_own encCl_len (by decide) ow3)
                rw [hle, hcm] at hC
                replace hC := Lib.hid hC
                replace hA := hA.step hN
                replace hBr := stepB hBr hN hBr.size
                clear hle hro hN ow3 hcm
                have a0 := hA.cell 0 _ rfl
                have a1 := hA.cell 1 _ rfl
                have a2 := hA.cell 2 _ rfl
                go_wp2_with fail
                refine hC.out.mono ?_
                rintro e Wd ⟨rfl, hB7⟩
                replace hBr := stepB hBr hB7 hBr.size
                clear hB7 hC a0 a1 a2
                go_wp2
                go_roundw
                case rel => exact ⟨k + 1, by omega, rfl, hBr⟩
                case measure => simp only [intOf]; omega
              · have hoc2 : (oc = k + 1) = False := eq_false hoc
                have hkn : ((k + 1 : Nat) : Int) ≤ (n : Int) := by omega
                have hkn1 : (k : Int) + 1 ≤ (n : Int) := by omega
                have hs2 : (0 : Int) ≤ (k : Int) + 1 := by omega
                have hkc : (k : Int) ≤ (oc : Int) := by omega
                go_upto_region 31 with (fail)
                refine MAny.region (S := fun _ => True) (last := 10) (by kernel_rfl) ?_
                have hHeld : True := trivial
                have hzd : Below wr.heap.size wr wr.drew := (Below.refl _ wr).drew
                replace ow := own_below ow hzd
                replace hown := own_below hown hzd
                replace hA := hA.step hzd
                replace hBr := stepB hBr hzd hBr.size
                clear hzd
                generalize wr.drew = V0 at ow hown hA hBr ⊢
                refine MAny.take (i := 1) (v := ?_) rfl (by kernel_rfl) (by kernel_rfl) (by kernel_rfl) (fun _ _ _ h => h) (by kernel_rfl) (Or.inl ⟨by rfl, ?_⟩) (by assumption) ?_
                rotate_left
                · (intro w' hSw; (try dsimp only at hSw); go_simp; try (with_reducible rfl))
                try simp only [Act.put, List.setIfInBounds_toArray]
                refine MAny.take (i := 2) (v := ?_) rfl (by kernel_rfl) (by kernel_rfl) (by kernel_rfl) (fun _ _ _ h => h) (by kernel_rfl) (Or.inl ⟨by rfl, ?_⟩) (by assumption) ?_
                rotate_left
                · (intro w' hSw; (try dsimp only at hSw); go_simp; try (with_reducible rfl))
                try simp only [Act.put]
                refine MAny.take (i := 3) (v := ?_) rfl (by kernel_rfl) (by kernel_rfl) (by kernel_rfl) (fun _ _ _ h => h) (by kernel_rfl) (Or.inl ⟨by rfl, ?_⟩) (by assumption) ?_
                rotate_left
                · (intro w' hSw; (try dsimp only at hSw); go_simp; try (with_reducible rfl))
                try simp only [Act.put]
                refine MAny.take (i := 5) (v := ?_) rfl (by kernel_rfl) (by kernel_rfl) (by kernel_rfl) (fun _ _ _ h => h) (by kernel_rfl) (Or.inl ⟨by rfl, ?_⟩) (by assumption) ?_
                rotate_left
                · (intro w' hSw; (try dsimp only at hSw); go_simp; try (with_reducible rfl))
                try simp only [Act.put]
                refine MAny.take (i := 6) (v := ?_) rfl (by kernel_rfl) (by kernel_rfl) (by kernel_rfl) (fun _ _ _ h => h) (by kernel_rfl) (Or.inl ⟨by rfl, ?_⟩) (by assumption) ?_
                rotate_left
                · (intro w' hSw; (try dsimp only at hSw); go_simp; try (with_reducible rfl))
                try simp only [Act.put]
                refine MAny.take (i := 7) (v := ?_) rfl (by kernel_rfl) (by kernel_rfl) (by kernel_rfl) (fun _ _ _ h => h) (by kernel_rfl) (Or.inl ⟨by rfl, ?_⟩) (by assumption) ?_
                rotate_left
                · (intro w' hSw; (try dsimp only at hSw); go_simp; try (with_reducible rfl))
                try simp only [Act.put]
                refine MAny.take (i := 8) (v := ?_) rfl (by kernel_rfl) (by kernel_rfl) (by kernel_rfl) (fun _ _ _ h => h) (by kernel_rfl) (Or.inl ⟨by rfl, ?_⟩) (by assumption) ?_
                rotate_left
                · (intro w' hSw; (try dsimp only at hSw); go_simp; try (with_reducible rfl))
                try simp only [Act.put]
                refine MAny.ready (rs := [0]) (by kernel_rfl) (by simp) ?_
                refine MReady.cons rfl (fun K hK => ?_) MReady.nil
                go_simp
                have oe := World.ownsRow_made V0 #[] 0 (Nat.le_refl _) (by decide) rfl (base := V0.heap.size) (e := 31) (size := 8)
                have hN := belowA V0 (.cells #[] 31)
                generalize V0.alloc (.cells #[] 31) = Wa at oe hN ⊢
                refine hK.out _ _ (.inr trivial) ?_
                clear hK K
                refine MAny.ready (rs := [4]) (by kernel_rfl) (by simp) ?_
                refine MReady.cons rfl (fun K hK => ?_) MReady.nil
                refine step_append_any _ (by rfl) (.tmp 161) (.tmp 164) 22 (by rfl) V0.heap.size 31 i0 (.agg #[.int .i64 0, .int .i64 0, .int .i64 0, .int .i64 0, .int .i64 0, .int .i64 0, .int .i64 0, .string ⟨#[]⟩]) 8 72 Tryz.underlying22 hi hz0 hz1 hz2 rfl (by decide) _ _ 0 ([]) (by rfl) oe ⟨og, 0, none⟩ k oc (((atL cls l).take k).flatMap encCl) (by rfl) (by rw [length_flatMap_enc encCl 8 encCl_len, List.length_take, atL_len, Nat.min_eq_left (by have := hkl.out; omega)]) (rd_takeQ encCl_len (by decide) (Rd.of_own encCl_len (by decide) (own_below ow hN)) k) (clOnes ((atL cls l).take k)) (by unfold maxLen; omega) (by omega) hN.size ?_
                intro og2 oc2 Wb ow2 hgr hor
                replace hN := hN.grown hgr hN.size (fun g e => by cases e; exact (own_lt oe).1)
                clear hor hgr oe
                try simp only [Act.put, List.setIfInBounds_toArray]
                simp only [Nat.zero_add, List.nil_append] at ow2 ⊢
                refine hK.out _ _ (.inr trivial) ?_
                clear hK K
                refine MAny.ready (rs := [9]) (by kernel_rfl) (by simp) ?_
                refine MReady.cons rfl (fun K hK => ?_) MReady.nil
                refine step_append_any _ (by rfl) (.tmp 165) (.tmp 169) 22 (by rfl) V0.heap.size 31 i0 (.agg #[.int .i64 0, .int .i64 0, .int .i64 0, .int .i64 0, .int .i64 0, .int .i64 0, .int .i64 0, .string ⟨#[]⟩]) 8 72 Tryz.underlying22 hi hz0 hz1 hz2 rfl (by decide) _ _ k (((atL cls l).take k).flatMap encCl) (by rfl) ow2 ⟨og, (k + 1) * 8, none⟩ (n - (k + 1)) (oc - (k + 1)) (((atL cls l).drop (k + 1)).flatMap encCl) (by rfl) (by rw [length_flatMap_enc encCl 8 encCl_len, List.length_drop, atL_len, ← hkl.out]) (rd_dropQ encCl_len (by decide) (Rd.of_own encCl_len (by decide) (own_below ow hN)) (k + 1)) (clOnes ((atL cls l).drop (k + 1))) (by unfold maxLen; omega) (by omega) hN.size ?_
                intro og3 oc3 Wc ow3 hgr hor
                replace hN := hN.grown hgr hN.size (fun g e => by cases e; exact (own_lt ow2).1)
                clear hor hgr ow2
                try simp only [Act.put]
                refine hK.out _ _ (.inr trivial) ?_
                clear hK K
                refine MAny.ready (rs := [10]) (by kernel_rfl) (by simp) ?_
                refine MReady.cons rfl (fun K hK => ?_) MReady.nil
                go_simp
                refine hK.out _ _ (.inl rfl) ?_
                clear hK K
                refine MAny.done (by kernel_rfl) ?_ _
                try simp only [List.getElem_toArray, List.getElem_cons_succ, List.getElem_cons_zero]
                have hle := erase_len (cls := cls) (show k < l.length by have := hkl.out; omega)
                have hro := erase_row cls l k
                rw [show l.length - 1 = k + (n - (k + 1)) by have := hkl.out; omega] at hle
                rw [← List.flatMap_append, ← hro] at ow3
                have hC := HCN.out (some ⟨og3, 0, none⟩) oc3 (l.eraseIdx k) (Nat.le_trans (List.length_eraseIdx_le l k) (by omega)) Wc (Rd.of_own encRg_len (by decide) (own_below hown hN)) (Rd.of_own encCl_len (by decide) ow3)
                rw [hle, hcm] at hC
                replace hC := Lib.hid hC
                replace hA := hA.step hN
                replace hBr := stepB hBr hN hBr.size
                clear hle hro hN ow3 hcm
                have a0 := hA.cell 0 _ rfl
                have a1 := hA.cell 1 _ rfl
                have a2 := hA.cell 2 _ rfl
                go_wp2_with fail
                refine hC.out.mono ?_
                rintro e Wd ⟨rfl, hB7⟩
                replace hBr := stepB hBr hB7 hBr.size
                clear hB7 hC a0 a1 a2
                go_wp2
                go_roundw
                case rel => exact ⟨k + 1, by omega, rfl, hBr⟩
                case measure => simp only [intOf]; omega
            · have hk1 : ¬ (k : Int) < (n : Int) := by omega
              replace hB := stepB hB hBr hB.size
              go_wp2
              go_ret
              exact ⟨rfl, hB⟩
    · have hbad1 : (bad != 0) = true := by simpa using hbad
      go_wp2
      go_ret
      exact ⟨rfl, hB⟩
  · clear hctx
    obtain rfl : one = 1 := congrArg Prod.snd hce
    replace hID := Lib.hid (fun W h1 => hok2 ▸ hID.out W h1)
    clear hce hok2 HR
    go_wp2_with fail
    refine (hID.out _ (Rd.of_own encCl_len (by decide) arow)).mono ?_
    rintro e W13 ⟨rfl, hB1⟩
    replace hown := own_below hown hB1
    replace hout := own_below hout hB1
    replace xrow := own_below xrow hB1
    replace mrow := own_below mrow hB1
    replace arow := own_below arow hB1
    replace hA := hA.step hB1
    replace hB := stepB hB hB1 hB.size
    clear hB1
    clear hID arow
    by_cases hbad : bad = 0
    · subst hbad
      obtain ⟨hL8, hLin, hC0, hCs⟩ := conf_law (conf_dated hCR.out) hCR.out
      obtain ⟨i0, hi, hz0, hz1, hz2⟩ := info_parts infoCl
      replace hLin := Lib.hid hLin
      replace hC0 := Lib.hid hC0
      replace hCs := Lib.hid hCs
      have howns := World.ownsRow_made W13 #[] 0 (Nat.le_refl _) (by decide) rfl (base := W13.heap.size) (e := 31) (size := 8)
      have hzs := belowA W13 (.cells #[] 31)
      clear mrow
      go_wp2
      go_loopw [21, 22] (fun o i wr => ∃ (k og oc : Nat), k ≤ l.length ∧ i = .int .i64 k ∧ o = .slice (some ⟨og, 0, none⟩) k oc ∧ wr.ownsRow W13.heap.size 31 8 (.slice (some ⟨og, 0, none⟩) k oc) k (((atL cls l).take k).flatMap encCl) ∧ Below W13.heap.size W13 wr) (fun _ i _ => l.length - (intOf i).toNat)
      case atStart => exact ⟨0, _, _, Nat.zero_le _, rfl, rfl, howns, hzs⟩
      case round =>
        clear howns hzs
        obtain ⟨n, og, oc, hk, rfl, rfl, ow, hBr⟩ := hrel
        by_cases hlt : n < l.length
        · have hk1 : (n : Int) < (l.length : Int) := by omega
          have v1 : IntKind.i64.wrap ((n : Int) + 1) = ((n + 1 : Nat) : Int) := by rw [IntKind.wrap_i64]; omega
          have hm := List.getElem?_eq_getElem hlt
          obtain ⟨j, hj, hjc⟩ : ∃ j : Nat, l[n] = (j : Int) ∧ j < cls.length := ⟨l[n].toNat, by have := hLin.out l[n] (List.getElem_mem hlt); omega, by have := hLin.out l[n] (List.getElem_mem hlt); omega⟩
          rw [hj] at hm
          have hm2 := List.getElem?_eq_getElem hjc
          generalize cls[j] = m at hm2
          obtain ⟨b1, o1, e1, -, d0⟩ := (Rd.of_own encI_len (by decide) (own_below xrow hBr)).i hm
          obtain ⟨b2, o2, e2, -, c0, c1, c2', c3, c4, c5, c6, c7⟩ := (Rd.of_own encCl_len (by decide) (own_below hout hBr)).cl hm2
          cases e1
          cases e2
          simp only [Nat.zero_add] at d0 c0 c1 c2' c3 c4 c5 c6 c7
          have hst := Lib.hid (take_at hm hm2)
          have hj1 : (j : Int) < (cls.length : Int) := by omega
          clear hm hm2 hj hcl
          have hown1 := ow
          have hz := belowA wr (.cells #[.int .i64 m.kind, .int .i64 m.number, .int .i64 m.month, .int .i64 m.feast, .int .i64 m.relation, .int .i64 m.weekday, .int .i64 m.style, .string m.king] 31)
          replace ow := own_below ow hz
          replace hBr := stepB hBr hz hBr.size
          clear hz
          go_wp2_with (at_builtin; refine wpList_append_lst _ rfl _ _ 22 rfl W13.heap.size 31 i0 (.agg #[.int .i64 0, .int .i64 0, .int .i64 0, .int .i64 0, .int .i64 0, .int .i64 0, .int .i64 0, .string ⟨#[]⟩]) 8 72 Tryz.underlying22 hi hz0 hz1 hz2 rfl (by decide) _ _ n (((atL cls l).take n).flatMap encCl) rfl ow ⟨wr.heap.size, 0, none⟩ 1 1 (encCl m) rfl rfl (World.news_of_block (heap_alloc_new _ _)) (one_cl m) (by unfold maxLen; omega) (by omega) hBr.size ?_)
          intro og2 oc2 W3 ow2 hgr hor
          rw [← hst.out] at ow2
          replace hBr := hBr.grown hgr hBr.size (fun g e => by cases e; exact (own_lt hown1).1)
          clear hown1 hgr hor ow
          go_wp2
          go_roundw
          case rel => exact ⟨n + 1, og2, oc2, by omega, rfl, rfl, ow2, hBr⟩
          case measure => simp only [intOf]; omega
        · have hk1 : ¬ (n : Int) < (l.length : Int) := by omega
          have hkl : n = l.length := by omega
          rw [List.take_of_length_le (by rw [atL_len]; omega)] at ow
          have hC := HCN.out (some ⟨og, 0, none⟩) oc l (by omega) wr (Rd.of_own encRg_len (by decide) (own_below hown hBr)) (Rd.of_own encCl_len (by decide) ow)
          rw [atL_len, ← hkl, hC0.out] at hC
          replace hC := Lib.hid hC
          have hn8 : n ≤ 8 := by omega
          replace hkl := Lib.hid hkl
          replace hown := own_below hown hBr
          replace hA := hA.step hBr
          replace hB := stepB hB hBr hB.size
          clear hout xrow hBr
          have a0 := hA.cell 0 _ rfl
          have a1 := hA.cell 1 _ rfl
          have a2 := hA.cell 2 _ rfl
          go_wp2_with fail
          refine hC.out.mono ?_
          rintro e Ws ⟨rfl, hB5⟩
          replace hown := own_below hown hB5
          replace ow := own_below ow hB5
          replace hA := hA.step hB5
          replace hB := stepB hB hB5 hB.size
          clear hB5 hC a0 a1 a2 hk hlt hk1 hLin hC0
          have q5 : ((0 : Int) != 0) = false := rfl
          go_wp2
          clear q5
          go_loopw [25] (fun i wr => ∃ k : Nat, k ≤ n ∧ i = .int .i64 k ∧ Below Ws.heap.size Ws wr) (fun i _ => n - (intOf i).toNat)
          case atStart => exact ⟨0, Nat.zero_le _, rfl, Below.refl _ _⟩
          case round =>
            obtain ⟨k, hk, rfl, hBr⟩ := hrel
            by_cases hlt : k < n
            · have hk1 : (k : Int) < (n : Int) := by omega
              have v1 : IntKind.i64.wrap ((k : Int) + 1) = ((k + 1 : Nat) : Int) := by rw [IntKind.wrap_i64]; omega
              obtain ⟨m, hcm, hm1⟩ := hCs.out k (by have := hkl.out; omega)
              have q6 : (m == 0) = false := by simp; omega
              replace ow := own_below ow hBr
              replace hown := own_below hown hBr
              replace hA := hA.step hBr
              have hcap := own_cap9 ow
              by_cases hoc : oc = k + 1
              · have hn1 := Lib.hid (show n = k + 1 by omega)
                subst hoc
                have hkn : ((k + 1 : Nat) : Int) ≤ (n : Int) := by omega
                have hkn1 : (k : Int) + 1 ≤ (n : Int) := by omega
                have hs1 : (k : Int) ≤ (k : Int) + 1 := by omega
                have hs2 : (0 : Int) ≤ (k : Int) + 1 := by omega
                have hkc : (k : Int) ≤ ((k + 1 : Nat) : Int) := by omega
                go_upto_region 31 with (fail)
                refine MAny.region (S := fun _ => True) (last := 10) (by kernel_rfl) ?_
                have hHeld : True := trivial
                have hzd : Below wr.heap.size wr wr.drew := (Below.refl _ wr).drew
                replace ow := own_below ow hzd
                replace hown := own_below hown hzd
                replace hA := hA.step hzd
                replace hBr := stepB hBr hzd hBr.size
                clear hzd
                generalize wr.drew = V0 at ow hown hA hBr ⊢
                refine MAny.take (i := 1) (v := ?_) rfl (by kernel_rfl) (by kernel_rfl) (by kernel_rfl) (fun _ _ _ h => h) (by kernel_rfl) (Or.inl ⟨by rfl, ?_⟩) (by assumption) ?_
                rotate_left
                · (intro w' hSw; (try dsimp only at hSw); go_simp; try (with_reducible rfl))
                try simp only [Act.put, List.setIfInBounds_toArray]
                refine MAny.take (i := 2) (v := ?_) rfl (by kernel_rfl) (by kernel_rfl) (by kernel_rfl) (fun _ _ _ h => h) (by kernel_rfl) (Or.inl ⟨by rfl, ?_⟩) (by assumption) ?_
                rotate_left
                · (intro w' hSw; (try dsimp only at hSw); go_simp; try (with_reducible rfl))
                try simp only [Act.put]
                refine MAny.take (i := 3) (v := ?_) rfl (by kernel_rfl) (by kernel_rfl) (by kernel_rfl) (fun _ _ _ h => h) (by kernel_rfl) (Or.inl ⟨by rfl, ?_⟩) (by assumption) ?_
                rotate_left
                · (intro w' hSw; (try dsimp only at hSw); go_simp; try (with_reducible rfl))
                try simp only [Act.put]
                refine MAny.take (i := 5) (v := ?_) rfl (by kernel_rfl) (by kernel_rfl) (by kernel_rfl) (fun _ _ _ h => h) (by kernel_rfl) (Or.inl ⟨by rfl, ?_⟩) (by assumption) ?_
                rotate_left
                · (intro w' hSw; (try dsimp only at hSw); go_simp; try (with_reducible rfl))
                try simp only [Act.put]
                refine MAny.take (i := 6) (v := ?_) rfl (by kernel_rfl) (by kernel_rfl) (by kernel_rfl) (fun _ _ _ h => h) (by kernel_rfl) (Or.inl ⟨by rfl, ?_⟩) (by assumption) ?_
                rotate_left
                · (intro w' hSw; (try dsimp only at hSw); go_simp; try (with_reducible rfl))
                try simp only [Act.put]
                refine MAny.take (i := 7) (v := ?_) rfl (by kernel_rfl) (by kernel_rfl) (by kernel_rfl) (fun _ _ _ h => h) (by kernel_rfl) (Or.inl ⟨by rfl, ?_⟩) (by assumption) ?_
                rotate_left
                · (intro w' hSw; (try dsimp only at hSw); go_simp; try (with_reducible rfl))
                try simp only [Act.put]
                refine MAny.take (i := 8) (v := ?_) rfl (by kernel_rfl) (by kernel_rfl) (by kernel_rfl) (fun _ _ _ h => h) (by kernel_rfl) (Or.inl ⟨by rfl, ?_⟩) (by assumption) ?_
                rotate_left
                · (intro w' hSw; (try dsimp only at hSw); go_simp; try (with_reducible rfl))
                try simp only [Act.put]
                refine MAny.ready (rs := [0]) (by kernel_rfl) (by simp) ?_
                refine MReady.cons rfl (fun K hK => ?_) MReady.nil
                go_simp
                have oe := World.ownsRow_made V0 #[] 0 (Nat.le_refl _) (by decide) rfl (base := V0.heap.size) (e := 31) (size := 8)
                have hN := belowA V0 (.cells #[] 31)
                generalize V0.alloc (.cells #[] 31) = Wa at oe hN ⊢
                refine hK.out _ _ (.inr trivial) ?_
                clear hK K
                refine MAny.ready (rs := [4]) (by kernel_rfl) (by simp) ?_
                refine MReady.cons rfl (fun K hK => ?_) MReady.nil
                refine step_append_any _ (by rfl) (.tmp 161) (.tmp 164) 22 (by rfl) V0.heap.size 31 i0 (.agg #[.int .i64 0, .int .i64 0, .int .i64 0, .int .i64 0, .int .i64 0, .int .i64 0, .int .i64 0, .string ⟨#[]⟩]) 8 72 Tryz.underlying22 hi hz0 hz1 hz2 rfl (by decide) _ _ 0 ([]) (by rfl) oe ⟨og, 0, none⟩ k (k + 1) (((atL cls l).take k).flatMap encCl) (by rfl) (by rw [length_flatMap_enc encCl 8 encCl_len, List.length_take, atL_len, Nat.min_eq_left (by have := hkl.out; omega)]) (rd_takeQ encCl_len (by decide) (Rd.of_own encCl_len (by decide) (own_below ow hN)) k) (clOnes ((atL cls l).take k)) (by unfold maxLen; omega) (by omega) hN.size ?_
                intro og2 oc2 Wb ow2 hgr hor
                replace hN := hN.grown hgr hN.size (fun g e => by cases e; exact (own_lt oe).1)
                clear hor hgr oe
                try simp only [Act.put, List.setIfInBounds_toArray]
                simp only [Nat.zero_add, List.nil_append] at ow2 ⊢
                refine hK.out _ _ (.inr trivial) ?_
                clear hK K
                refine MAny.ready (rs := [9]) (by kernel_rfl) (by simp) ?_
                refine MReady.cons rfl (fun K hK => ?_) MReady.nil
                refine step_append_any _ (by rfl) (.tmp 165) (.tmp 169) 22 (by rfl) V0.heap.size 31 i0 (.agg #[.int .i64 0, .int .i64 0, .int .i64 0, .int .i64 0, .int .i64 0, .int .i64 0, .int .i64 0, .string ⟨#[]⟩]) 8 72 Tryz.underlying22 hi hz0 hz1 hz2 rfl (by decide) _ _ k (((atL cls l).take k).flatMap encCl) (by rfl) ow2 ⟨og, 0, none⟩ 0 0 ([]) (by rfl) rfl (fun j u hu => by cases hu) (fun u hu => by cases hu) (by unfold maxLen; omega) (by omega) hN.size ?_
                intro og3 oc3 Wc ow3 hgr hor
                replace hN := hN.grown hgr hN.size (fun g e => by cases e; exact (own_lt ow2).1)
                clear hor hgr ow2
                try simp only [Act.put]
                simp only [Nat.add_zero, List.append_nil] at ow3 ⊢
                refine hK.out _ _ (.inr trivial) ?_
                clear hK K
                refine MAny.ready (rs := [10]) (by kernel_rfl) (by simp) ?_
                refine MReady.cons rfl (fun K hK => ?_) MReady.nil
                go_simp
                refine hK.out _ _ (.inl rfl) ?_
                clear hK K
                refine MAny.done (by kernel_rfl) ?_ _
                try simp only [List.getElem_toArray, List.getElem_cons_succ, List.getElem_cons_zero]
                have hle := erase_len (cls := cls) (show k < l.length by have := hkl.out; omega)
                have hro := erase_row cls l k
                rw [List.drop_eq_nil_of_le (by rw [atL_len, ← hkl.out, hn1.out]; exact Nat.le_refl _), List.append_nil] at hro
                rw [show l.length - 1 = k by have := hkl.out; have := hn1.out; omega] at hle
                rw [← hro] at ow3
                have hC := HCN.out (some ⟨og3, 0, none⟩) oc3 (l.eraseIdx k) (Nat.le_trans (List.length_eraseIdx_le l k) (by omega)) Wc (Rd.of_own encRg_len (by decide) (own_below hown hN)) (Rd.of_own encCl_len (by decide) ow3)
                rw [hle, hcm] at hC
                replace hC := Lib.hid hC
                replace hA := hA.step hN
                replace hBr := stepB hBr hN hBr.size
                clear hle hro hN ow3 hcm
                have a0 := hA.cell 0 _ rfl
                have a1 := hA.cell 1 _ rfl
                have a2 := hA.cell 2 _ rfl
                go_wp2_with fail
                refine hC.out.mono ?_
                rintro e Wd ⟨rfl, hB7⟩
                replace hBr := stepB hBr hB7 hBr.size
                clear hB7 hC a0 a1 a2
                go_wp2
                go_roundw
                case rel => exact ⟨k + 1, by omega, rfl, hBr⟩
                case measure => simp only [intOf]; omega
              · have hoc2 : (oc = k + 1) = False := eq_false hoc
                have hkn : ((k + 1 : Nat) : Int) ≤ (n : Int) := by omega
                have hkn1 : (k : Int) + 1 ≤ (n : Int) := by omega
                have hs2 : (0 : Int) ≤ (k : Int) + 1 := by omega
                have hkc : (k : Int) ≤ (oc : Int) := by omega
                go_upto_region 31 with (fail)
                refine MAny.region (S := fun _ => True) (last := 10) (by kernel_rfl) ?_
                have hHeld : True := trivial
                have hzd : Below wr.heap.size wr wr.drew := (Below.refl _ wr).drew
                replace ow := own_below ow hzd
                replace hown := own_below hown hzd
                replace hA := hA.step hzd
                replace hBr := stepB hBr hzd hBr.size
                clear hzd
                generalize wr.drew = V0 at ow hown hA hBr ⊢
                refine MAny.take (i := 1) (v := ?_) rfl (by kernel_rfl) (by kernel_rfl) (by kernel_rfl) (fun _ _ _ h => h) (by kernel_rfl) (Or.inl ⟨by rfl, ?_⟩) (by assumption) ?_
                rotate_left
                · (intro w' hSw; (try dsimp only at hSw); go_simp; try (with_reducible rfl))
                try simp only [Act.put, List.setIfInBounds_toArray]
                refine MAny.take (i := 2) (v := ?_) rfl (by kernel_rfl) (by kernel_rfl) (by kernel_rfl) (fun _ _ _ h => h) (by kernel_rfl) (Or.inl ⟨by rfl, ?_⟩) (by assumption) ?_
                rotate_left
                · (intro w' hSw; (try dsimp only at hSw); go_simp; try (with_reducible rfl))
                try simp only [Act.put]
                refine MAny.take (i := 3) (v := ?_) rfl (by kernel_rfl) (by kernel_rfl) (by kernel_rfl) (fun _ _ _ h => h) (by kernel_rfl) (Or.inl ⟨by rfl, ?_⟩) (by assumption) ?_
                rotate_left
                · (intro w' hSw; (try dsimp only at hSw); go_simp; try (with_reducible rfl))
                try simp only [Act.put]
                refine MAny.take (i := 5) (v := ?_) rfl (by kernel_rfl) (by kernel_rfl) (by kernel_rfl) (fun _ _ _ h => h) (by kernel_rfl) (Or.inl ⟨by rfl, ?_⟩) (by assumption) ?_
                rotate_left
                · (intro w' hSw; (try dsimp only at hSw); go_simp; try (with_reducible rfl))
                try simp only [Act.put]
                refine MAny.take (i := 6) (v := ?_) rfl (by kernel_rfl) (by kernel_rfl) (by kernel_rfl) (fun _ _ _ h => h) (by kernel_rfl) (Or.inl ⟨by rfl, ?_⟩) (by assumption) ?_
                rotate_left
                · (intro w' hSw; (try dsimp only at hSw); go_simp; try (with_reducible rfl))
                try simp only [Act.put]
                refine MAny.take (i := 7) (v := ?_) rfl (by kernel_rfl) (by kernel_rfl) (by kernel_rfl) (fun _ _ _ h => h) (by kernel_rfl) (Or.inl ⟨by rfl, ?_⟩) (by assumption) ?_
                rotate_left
                · (intro w' hSw; (try dsimp only at hSw); go_simp; try (with_reducible rfl))
                try simp only [Act.put]
                refine MAny.take (i := 8) (v := ?_) rfl (by kernel_rfl) (by kernel_rfl) (by kernel_rfl) (fun _ _ _ h => h) (by kernel_rfl) (Or.inl ⟨by rfl, ?_⟩) (by assumption) ?_
                rotate_left
                · (intro w' hSw; (try dsimp only at hSw); go_simp; try (with_reducible rfl))
                try simp only [Act.put]
                refine MAny.ready (rs := [0]) (by kernel_rfl) (by simp) ?_
                refine MReady.cons rfl (fun K hK => ?_) MReady.nil
                go_simp
                have oe := World.ownsRow_made V0 #[] 0 (Nat.le_refl _) (by decide) rfl (base := V0.heap.size) (e := 31) (size := 8)
                have hN := belowA V0 (.cells #[] 31)
                generalize V0.alloc (.cells #[] 31) = Wa at oe hN ⊢
                refine hK.out _ _ (.inr trivial) ?_
                clear hK K
                refine MAny.ready (rs := [4]) (by kernel_rfl) (by simp) ?_
                refine MReady.cons rfl (fun K hK => ?_) MReady.nil
                refine step_append_any _ (by rfl) (.tmp 161) (.tmp 164) 22 (by rfl) V0.heap.size 31 i0 (.agg #[.int .i64 0, .int .i64 0, .int .i64 0, .int .i64 0, .int .i64 0, .int .i64 0, .int .i64 0, .string ⟨#[]⟩]) 8 72 Tryz.underlying22 hi hz0 hz1 hz2 rfl (by decide) _ _ 0 ([]) (by rfl) oe ⟨og, 0, none⟩ k oc (((atL cls l).take k).flatMap encCl) (by rfl) (by rw [length_flatMap_enc encCl 8 encCl_len, List.length_take, atL_len, Nat.min_eq_left (by have := hkl.out; omega)]) (rd_takeQ encCl_len (by decide) (Rd.of_own encCl_len (by decide) (own_below ow hN)) k) (clOnes ((atL cls l).take k)) (by unfold maxLen; omega) (by omega) hN.size ?_
                intro og2 oc2 Wb ow2 hgr hor
                replace hN := hN.grown hgr hN.size (fun g e => by cases e; exact (own_lt oe).1)
                clear hor hgr oe
                try simp only [Act.put, List.setIfInBounds_toArray]
                simp only [Nat.zero_add, List.nil_append] at ow2 ⊢
                refine hK.out _ _ (.inr trivial) ?_
                clear hK K
                refine MAny.ready (rs := [9]) (by kernel_rfl) (by simp) ?_
                refine MReady.cons rfl (fun K hK => ?_) MReady.nil
                refine step_append_any _ (by rfl) (.tmp 165) (.tmp 169) 22 (by rfl) V0.heap.size 31 i0 (.agg #[.int .i64 0, .int .i64 0, .int .i64 0, .int .i64 0, .int .i64 0, .int .i64 0, .int .i64 0, .string ⟨#[]⟩]) 8 72 Tryz.underlying22 hi hz0 hz1 hz2 rfl (by decide) _ _ k (((atL cls l).take k).flatMap encCl) (by rfl) ow2 ⟨og, (k + 1) * 8, none⟩ (n - (k + 1)) (oc - (k + 1)) (((atL cls l).drop (k + 1)).flatMap encCl) (by rfl) (by rw [length_flatMap_enc encCl 8 encCl_len, List.length_drop, atL_len, ← hkl.out]) (rd_dropQ encCl_len (by decide) (Rd.of_own encCl_len (by decide) (own_below ow hN)) (k + 1)) (clOnes ((atL cls l).drop (k + 1))) (by unfold maxLen; omega) (by omega) hN.size ?_
                intro og3 oc3 Wc ow3 hgr hor
                replace hN := hN.grown hgr hN.size (fun g e => by cases e; exact (own_lt ow2).1)
                clear hor hgr ow2
                try simp only [Act.put]
                refine hK.out _ _ (.inr trivial) ?_
                clear hK K
                refine MAny.ready (rs := [10]) (by kernel_rfl) (by simp) ?_
                refine MReady.cons rfl (fun K hK => ?_) MReady.nil
                go_simp
                refine hK.out _ _ (.inl rfl) ?_
                clear hK K
                refine MAny.done (by kernel_rfl) ?_ _
                try simp only [List.getElem_toArray, List.getElem_cons_succ, List.getElem_cons_zero]
                have hle := erase_len (cls := cls) (show k < l.length by have := hkl.out; omega)
                have hro := erase_row cls l k
                rw [show l.length - 1 = k + (n - (k + 1)) by have := hkl.out; omega] at hle
                rw [← List.flatMap_append, ← hro] at ow3
                have hC := HCN.out (some ⟨og3, 0, none⟩) oc3 (l.eraseIdx k) (Nat.le_trans (List.length_eraseIdx_le l k) (by omega)) Wc (Rd.of_own encRg_len (by decide) (own_below hown hN)) (Rd.of_own encCl_len (by decide) ow3)
                rw [hle, hcm] at hC
                replace hC := Lib.hid hC
                replace hA := hA.step hN
                replace hBr := stepB hBr hN hBr.size
                clear hle hro hN ow3 hcm
                have a0 := hA.cell 0 _ rfl
                have a1 := hA.cell 1 _ rfl
                have a2 := hA.cell 2 _ rfl
                go_wp2_with fail
                refine hC.out.mono ?_
                rintro e Wd ⟨rfl, hB7⟩
                replace hBr := stepB hBr hB7 hBr.size
                clear hB7 hC a0 a1 a2
                go_wp2
                go_roundw
                case rel => exact ⟨k + 1, by omega, rfl, hBr⟩
                case measure => simp only [intOf]; omega
            · have hk1 : ¬ (k : Int) < (n : Int) := by omega
              replace hB := stepB hB hBr hB.size
              go_wp2
              go_ret
              exact ⟨rfl, hB⟩
    · have hbad1 : (bad != 0) = true := by simpa using hbad
      go_wp2
      go_ret
      exact ⟨rfl, hB⟩
end Go.Proofs.YteajkofgcmfaoaaGreatDoor
