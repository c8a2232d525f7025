/- Walk: the law FnDatings. Printed by gen_lawdat.py. -/
import Derived.Test.YtdbgnbohdplndaaGreatDoorDryB
import Derived.Test.YtdbgnbohdplndaaGreatDoorDatP
import Derived.Test.YtdbgnbohdplndaaGreatDoorSetI
import Derived.Test.YtdbgnbohdplndaaGreatDoorDice
import Derived.Deep.RegionHeldLaw
namespace Go.Proofs.YtdbgnbohdplndaaGreatDoor
open Go.ChangeShapes Go.WideShapes Go.ChangeAt Go.RowKit Go.IntWalk

set_option maxRecDepth 100000 in
set_option maxHeartbeats 8000000 in
theorem lawDatings_any (cs : Option Addr) (cap : Nat) (bs : List Int) (w : World) (_hl : bs.length ≤ maxLen) (hx : Rd encB w cs bs) (hb : ∀ m ∈ bs, goodB m) :
    Calls Tryz.prog 8 #[.slice cs bs.length cap] w fun e w' => e = .returned (.bool true) ∧ Below w.heap.size w w' := by
  have HBIG := Lib.hid (big_any cs cap bs.length w)
  by_cases hbig : 4096 < bs.length
  · have HBIG := Lib.hid ((show decide (4096 < bs.length) = true by simpa using hbig) ▸ HBIG.out)
    go_enter Tryz.func8, Tryz.ntmps8
    go_wp2_with fail
    refine HBIG.out.mono ?_
    rintro e w1 ⟨rfl, rfl⟩
    go_wp2
    go_ret
    exact ⟨rfl, Below.refl _ _⟩
  have HBIG := Lib.hid ((show decide (4096 < bs.length) = false by simpa using hbig) ▸ HBIG.out)
  have hl : bs.length ≤ 4096 := by omega
  go_enter Tryz.func8, Tryz.ntmps8
  go_wp2_with fail
  refine HBIG.out.mono ?_
  rintro e w0 ⟨rfl, rfl⟩
  go_wp2_with fail
  refine (drawFitting_any cs cap bs w hx hb hl).mono ?_
  rintro e w1 ⟨g, c, g2, c2, rs, f, t, cls, rfl, hrl, hok, hfb, htb, hcl, hks, hown, hout, hB⟩
  clear HBIG hbig
  have hs0 : ∀ m ∈ rs, m.king.size ≤ 1048576 := fun m hm => by have := (hok m hm).1; omega
  have hs1 : ∀ m ∈ cls, szCl m ≤ 1048576 := fun m hm => by have := hks m hm; unfold szCl; omega
  clear hok hks
  generalize hW : w1.alloc (.cells #[.slice (some ⟨g, 0, none⟩) rs.length c, .int .i64 f, .int .i64 t] 32) = W2
  have hB1 : Below w1.heap.size w1 W2 := by rw [← hW]; exact (Below.refl _ _).alloc (Nat.le_refl _) _
  have A0 : W2.cell? ⟨w1.heap.size, 0, none⟩ = some (.slice (some ⟨g, 0, none⟩) rs.length c) := by rw [← hW]; exact World.cell?_alloc_at _ _ _ _ rfl
  have A1 : W2.cell? ⟨w1.heap.size, 1, none⟩ = some (.int .i64 f) := by rw [← hW]; exact World.cell?_alloc_at _ _ _ _ rfl
  have A2 : W2.cell? ⟨w1.heap.size, 2, none⟩ = some (.int .i64 t) := by rw [← hW]; exact World.cell?_alloc_at _ _ _ _ rfl
  have hla : w1.heap.size < W2.heap.size := by rw [← hW]; simp
  have hown := own_below hown hB1
  have hout := own_below hout hB1
  have hB := stepB hB hB1 hB.size
  clear hB1
  go_wp2_with fail
  clear hW
  refine (implFitting_any _ _ _ _ rs f t cls _ (by omega) (Rd.of_own encRg_len (by decide) hown) hs0 (by omega) (Rd.of_own encCl_len (by decide) hout) hs1).mono ?_
  rintro e W3 ⟨bx, cx, rfl, ox, hB1⟩
  have ox := own_base ox hB.size
  have A0 := (hB1.cell (p := ⟨w1.heap.size, 0, none⟩) hla).trans A0
  have A1 := (hB1.cell (p := ⟨w1.heap.size, 1, none⟩) hla).trans A1
  have A2 := (hB1.cell (p := ⟨w1.heap.size, 2, none⟩) hla).trans A2
  have hla := Nat.lt_of_lt_of_le hla hB1.size
  have hown := own_below hown hB1
  have hout := own_below hout hB1
  have hB := stepB hB hB1 hB.size
  clear hB1
  go_wp2_with fail
  refine (specFitting_any _ _ _ _ rs f t cls _ (by omega) (Rd.of_own encRg_len (by decide) hown) hs0 (by omega) (Rd.of_own encCl_len (by decide) hout) hs1).mono ?_
  rintro e W4 ⟨bo, co, rfl, oo, hB1⟩
  have oo := own_base oo hB.size
  have A0 := (hB1.cell (p := ⟨w1.heap.size, 0, none⟩) hla).trans A0
  have A1 := (hB1.cell (p := ⟨w1.heap.size, 1, none⟩) hla).trans A1
  have A2 := (hB1.cell (p := ⟨w1.heap.size, 2, none⟩) hla).trans A2
  have hla := Nat.lt_of_lt_of_le hla hB1.size
  have hown := own_below hown hB1
  have hout := own_below hout hB1
  have ox := own_below ox hB1
  have hB := stepB hB hB1 hB.size
  clear hB1
  go_wp2_with fail
  refine (implCount_any _ _ _ _ rs f t cls _ (by omega) (Rd.of_own encRg_len (by decide) hown) hs0 (by omega) (Rd.of_own encCl_len (by decide) hout) hs1).mono ?_
  rintro e W5 ⟨rfl, hB1⟩
  have A0 := (hB1.cell (p := ⟨w1.heap.size, 0, none⟩) hla).trans A0
  have A1 := (hB1.cell (p := ⟨w1.heap.size, 1, none⟩) hla).trans A1
  have A2 := (hB1.cell (p := ⟨w1.heap.size, 2, none⟩) hla).trans A2
  have hla := Nat.lt_of_lt_of_le hla hB1.size
  have hown := own_below hown hB1
  have hout := own_below hout hB1
  have ox := own_below ox hB1
  have oo := own_below oo hB1
  have hB := stepB hB hB1 hB.size
  clear hB1
  go_wp2_with fail
  refine (specCount_any _ _ _ _ rs f t cls _ (by omega) (Rd.of_own encRg_len (by decide) hown) hs0 (by omega) (Rd.of_own encCl_len (by decide) hout) hs1).mono ?_
  rintro e W6 ⟨rfl, hB1⟩
  have A0 := (hB1.cell (p := ⟨w1.heap.size, 0, none⟩) hla).trans A0
  have A1 := (hB1.cell (p := ⟨w1.heap.size, 1, none⟩) hla).trans A1
  have A2 := (hB1.cell (p := ⟨w1.heap.size, 2, none⟩) hla).trans A2
  have hla := Nat.lt_of_lt_of_le hla hB1.size
  have hown := own_below hown hB1
  have hout := own_below hout hB1
  have ox := own_below ox hB1
  have oo := own_below oo hB1
  have hB := stepB hB hB1 hB.size
  clear hB1
  go_wp2_with fail
  refine (implFirst_any _ _ _ _ rs f t cls _ (by omega) (Rd.of_own encRg_len (by decide) hown) hs0 (by omega) (Rd.of_own encCl_len (by decide) hout) hs1).mono ?_
  rintro e W7 ⟨rfl, hB1⟩
  have A0 := (hB1.cell (p := ⟨w1.heap.size, 0, none⟩) hla).trans A0
  have A1 := (hB1.cell (p := ⟨w1.heap.size, 1, none⟩) hla).trans A1
  have A2 := (hB1.cell (p := ⟨w1.heap.size, 2, none⟩) hla).trans A2
  have hla := Nat.lt_of_lt_of_le hla hB1.size
  have hown := own_below hown hB1
  have hout := own_below hout hB1
  have ox := own_below ox hB1
  have oo := own_below oo hB1
  have hB := stepB hB hB1 hB.size
  clear hB1
  go_wp2_with fail
  refine (specFirst_any _ _ _ _ rs f t cls _ (by omega) (Rd.of_own encRg_len (by decide) hown) hs0 (by omega) (Rd.of_own encCl_len (by decide) hout) hs1).mono ?_
  rintro e W8 ⟨rfl, hB1⟩
  have A0 := (hB1.cell (p := ⟨w1.heap.size, 0, none⟩) hla).trans A0
  have A1 := (hB1.cell (p := ⟨w1.heap.size, 1, none⟩) hla).trans A1
  have A2 := (hB1.cell (p := ⟨w1.heap.size, 2, none⟩) hla).trans A2
  have hla := Nat.lt_of_lt_of_le hla hB1.size
  have hown := own_below hown hB1
  have hout := own_below hout hB1
  have ox := own_below ox hB1
  have oo := own_below oo hB1
  have hB := stepB hB hB1 hB.size
  clear hB1
  go_wp2_with fail
  refine (implBest_any _ _ _ _ rs f t cls _ (by omega) (Rd.of_own encRg_len (by decide) hown) hs0 (by omega) (Rd.of_own encCl_len (by decide) hout) hs1).mono ?_
  rintro e W9 ⟨rfl, hB1⟩
  have A0 := (hB1.cell (p := ⟨w1.heap.size, 0, none⟩) hla).trans A0
  have A1 := (hB1.cell (p := ⟨w1.heap.size, 1, none⟩) hla).trans A1
  have A2 := (hB1.cell (p := ⟨w1.heap.size, 2, none⟩) hla).trans A2
  have hla := Nat.lt_of_lt_of_le hla hB1.size
  have hown := own_below hown hB1
  have hout := own_below hout hB1
  have ox := own_below ox hB1
  have oo := own_below oo hB1
  have hB := stepB hB hB1 hB.size
  clear hB1
  go_wp2_with fail
  refine (specBest_any _ _ _ _ rs f t cls _ (by omega) (Rd.of_own encRg_len (by decide) hown) hs0 (by omega) (Rd.of_own encCl_len (by decide) hout) hs1).mono ?_
  rintro e W10 ⟨rfl, hB1⟩
  have A0 := (hB1.cell (p := ⟨w1.heap.size, 0, none⟩) hla).trans A0
  have A1 := (hB1.cell (p := ⟨w1.heap.size, 1, none⟩) hla).trans A1
  have A2 := (hB1.cell (p := ⟨w1.heap.size, 2, none⟩) hla).trans A2
  have hla := Nat.lt_of_lt_of_le hla hB1.size
  have hown := own_below hown hB1
  have hout := own_below hout hB1
  have ox := own_below ox hB1
  have oo := own_below oo hB1
  have hB := stepB hB hB1 hB.size
  clear hB1
  have hlen := fitR_len rs f t cls
  have q1 : ((fitR rs f t cls).2 != (fitR rs f t cls).2) = false := by simp
  have q2 : ((cntF rs f t cls).2 != (cntF rs f t cls).2) = false := by simp
  have q3 : ((cntF rs f t cls).1 != (cntF rs f t cls).1) = false := by simp
  have q4 : ((firstF rs f t cls).2 != (firstF rs f t cls).2) = false := by simp
  have q5 : ((firstF rs f t cls).1 != (firstF rs f t cls).1) = false := by simp
  have q6 : ((bestF rs f t cls).2.2 != (bestF rs f t cls).2.2) = false := by simp
  have q7 : ((bestF rs f t cls).1 != (bestF rs f t cls).1) = false := by simp
  have q8 : ((((bestF rs f t cls).2.1 : Nat) : Int) != ((bestF rs f t cls).2.1 : Nat)) = false := by simp
  have q9 : (isChanceryB rs f t != isChanceryB rs f t) = false := by simp
  have HLK := Lib.hid (fun W' (h : Below W10.heap.size W10 W') => likeSpans_self bx bo cx co (fitR rs f t cls).1 W' (by omega) ((Rd.of_own encSp_len (by decide) ox).below h) ((Rd.of_own encSp_len (by decide) oo).below h))
  have HCI := Lib.hid (fun W' (h : Below W10.heap.size W10 W') => implIsChancery_any (some ⟨g, 0, none⟩) c rs f t W' (by omega) ((Rd.of_own encRg_len (by decide) hown).below h) hs0)
  have HCS := Lib.hid (fun W' (h : Below W10.heap.size W10 W') => specIsChancery_any (some ⟨g, 0, none⟩) c rs f t W' (by omega) ((Rd.of_own encRg_len (by decide) hown).below h) hs0)
  have E0 := Later.cell A0 hla
  have E1 := Later.cell A1 hla
  have E2 := Later.cell A2 hla
  go_upto_region 12 with (fail)
  refine wp_region_later W10 (by kernel_rfl) (by kernel_rfl) ?_
  repeat (go_big_quiet_step (fail))
  go_big_quiet_step ((go_at_call 44; exact Later.call (Nat.le_refl _) (HLK.out _ (Later.prop _))))
  repeat (go_big_quiet_step (fail))
  go_big_quiet_step ((go_at_call 45; exact Later.call (Nat.le_refl _) (HCI.out _ (Later.prop _))))
  repeat (go_big_quiet_step (fail))
  go_big_quiet_step ((go_at_call 46; exact Later.call (Nat.le_refl _) (HCS.out _ (Later.prop _))))
  repeat (go_big_quiet_step (fail))
  refine wpQuiet_nil ?_
  intro z
  have hB1 := z.prop
  generalize z.val = W11 at hB1
  clear E0 E1 E2 HLK HCI HCS q1 q2 q3 q4 q5 q6 q7 q8 q9
  have A0 := (hB1.cell (p := ⟨w1.heap.size, 0, none⟩) hla).trans A0
  have A1 := (hB1.cell (p := ⟨w1.heap.size, 1, none⟩) hla).trans A1
  have A2 := (hB1.cell (p := ⟨w1.heap.size, 2, none⟩) hla).trans A2
  have hla := Nat.lt_of_lt_of_le hla hB1.size
  have hown := own_below hown hB1
  have hout := own_below hout hB1
  have ox := own_below ox hB1
  have hB := stepB hB hB1 hB.size
  clear hB1
  clear oo
  by_cases hd : datedB rs f t cls = true
  rotate_left
  · have h1 : bestF rs f t cls = (0, 0, 1) := by unfold bestF; rw [if_neg hd]
    have h2 : fitR rs f t cls = ([], 1) := by unfold fitR; rw [if_neg hd]
    have hfive : (bestF rs f t cls).2.2 = 1 := by rw [h1]
    have hbad : (fitR rs f t cls).2 = 1 := by rw [h2]
    rw [hfive, hbad]
    clear h1 h2 hfive hbad ox
    go_wp2
    go_ret
    exact ⟨rfl, hB⟩
  obtain ⟨b, l, hbe, hb0, hb1, hbl, hbz, hbf⟩ := best_first hd
  obtain ⟨_, _, h8, h0, hft, ht, htf⟩ := dated_facts hd
  have hbin : inB b f t = true := by simp [inB]; omega
  have hfr : failR rs f t cls b = (idxGo 0 (failL rs cls b), 0) := by unfold failR; rw [if_pos hd, if_pos hbin]
  have HFB := Lib.hid (fun W (h : Rd encRg W (some ⟨g, 0, none⟩) rs) (h' : Rd encCl W (some ⟨g2, 0, none⟩) cls) => hfr ▸ implFailing_any (some ⟨g, 0, none⟩) (some ⟨g2, 0, none⟩) c c2 rs f t cls b W (by omega) h hs0 (by omega) h' hs1)
  have hbl' : (idxGo 0 (failL rs cls b)).length = l := hbl.symm
  generalize idxGo 0 (failL rs cls b) = ib at HFB hbl'
  rw [hbe]
  have hcn : cntF rs f t cls = (cntSp (spRun (fitB rs cls) f (t - f + 1).toNat []), 0) := by unfold cntF; rw [if_pos hd]
  have hfi : fitR rs f t cls = limR (spRun (fitB rs cls) f (t - f + 1).toNat []) := by unfold fitR; rw [if_pos hd]
  obtain ⟨hset, hhas⟩ := run_facts (q := fitB rs cls) h0 hft ht
  have hin : inSp 0 730499 (spRun (fitB rs cls) f (t - f + 1).toNat []) := inSp_run _ (by intro s hs; cases hs) (by omega) (by omega)
  rw [hcn]
  rw [hfi] at ox ⊢
  generalize spRun (fitB rs cls) f (t - f + 1).toNat [] = xs at ox hset hhas hin ⊢
  clear hcn hfi hbe hbl hfr hbin hlen
  have HFD := Lib.hid (fun (d : Int) (hd1 : f ≤ d) (hd2 : d ≤ t) W (h : Rd encRg W (some ⟨g, 0, none⟩) rs) (h' : Rd encCl W (some ⟨g2, 0, none⟩) cls) => (show failR rs f t cls d = (idxGo 0 (failL rs cls d), 0) by unfold failR; rw [if_pos hd, if_pos (by simp [inB]; omega)]) ▸ implFailing_any (some ⟨g, 0, none⟩) (some ⟨g2, 0, none⟩) c c2 rs f t cls d W (by omega) h hs0 (by omega) h' hs1)
  clear hs0 hs1 hd
  generalize firstF rs f t cls = FF at hbz hbf ⊢
  obtain ⟨fv, fe⟩ := FF
  simp only at hbz hbf ⊢
  have HZ : Hid (((l : Int) = 0 ∧ fe = 0 ∧ b = fv) ∨ (¬ (l : Int) = 0 ∧ ¬ fe = 0)) := by
    by_cases hl0 : (l : Int) = 0
    · exact .inl ⟨hl0, hbz.1 hl0, hbf hl0⟩
    · exact .inr ⟨hl0, fun h => hl0 (hbz.2 h)⟩
  clear hbz hbf
  go_wp2_with fail
  refine (HFB.out _ (Rd.of_own encRg_len (by decide) hown) (Rd.of_own encCl_len (by decide) hout)).mono ?_
  rintro e WF ⟨bi, ci, rfl, _, hB1⟩
  clear HFB
  rw [hbl']
  clear hbl'
  have A0 := (hB1.cell (p := ⟨w1.heap.size, 0, none⟩) hla).trans A0
  have A1 := (hB1.cell (p := ⟨w1.heap.size, 1, none⟩) hla).trans A1
  have A2 := (hB1.cell (p := ⟨w1.heap.size, 2, none⟩) hla).trans A2
  have hla := Nat.lt_of_lt_of_le hla hB1.size
  have hown := own_below hown hB1
  have hout := own_below hout hB1
  have ox := own_below ox hB1
  have hB := stepB hB hB1 hB.size
  clear hB1
  have k1 : ((l : Int) != (l : Int)) = false := by simp
  rcases HZ.out with ⟨y1, y2, y3⟩ | ⟨y1, y2⟩
  · subst y2 y3
    have y1' : ((l : Int) == 0) = true := by simpa using y1
    have y4 : (b != b) = false := by simp
    clear HZ
    go_upto_region 18 with (fail)
    by_cases hlim : 300 < xs.length
    · have hL : limR xs = ([], 3) := by unfold limR; rw [if_pos hlim]
      rw [hL]
      clear hL ox
      go_wp2
      go_ret
      exact ⟨rfl, hB⟩
    have hL : limR xs = (xs, 0) := by unfold limR; rw [if_neg hlim]
    rw [hL] at ox ⊢
    have hx300 : xs.length ≤ 300 := by omega
    clear hL hlim
    simp only at ox ⊢
    go_wp2_with fail
    refine (countDaysC_any bx cx xs _ hx300 (Rd.of_own encSp_len (by decide) ox) hset hin).mono ?_
    rintro e W12 ⟨rfl, hB1⟩
    have A0 := (hB1.cell (p := ⟨w1.heap.size, 0, none⟩) hla).trans A0
    have A1 := (hB1.cell (p := ⟨w1.heap.size, 1, none⟩) hla).trans A1
    have A2 := (hB1.cell (p := ⟨w1.heap.size, 2, none⟩) hla).trans A2
    have hla := Nat.lt_of_lt_of_le hla hB1.size
    have hown := own_below hown hB1
    have hout := own_below hout hB1
    have ox := own_below ox hB1
    have hB := stepB hB hB1 hB.size
    clear hB1
    have v1 := i64_in (t - f) (by omega)
    have v2 := i64_in (t - f + 1) (by omega)
    have HRO := Lib.hid (roll_any cs cap bs 1201 W12.drew (by decide) (hx.below hB.drew) hb hl)
    have hownd := own_below hown (Below.refl _ W12).drew
    have houtd := own_below hout (Below.refl _ W12).drew
    have oxd := own_below ox (Below.refl _ W12).drew
    have hBd := hB.drew
    have hgl := (own_lt hownd).2
    have hgo := (own_lt houtd).2
    have hlad : w1.heap.size < W12.drew.heap.size := hla
    go_wp2_with fail
    go_region_held_law (fun w' => w'.cell? ⟨w1.heap.size, 1, none⟩ = some (.int .i64 f) ∧ w'.cell? ⟨w1.heap.size, 2, none⟩ = some (.int .i64 t)) (first | exact ⟨A1, A2⟩ | exact ⟨C1, C2⟩ | exact ⟨D1, D2⟩)
      (first
        | (go_at_call 39; refine HRO.out.mono ?_; rintro e wr ⟨p, rfl, hdr, hBr⟩; have hownr := own_below hownd hBr; have houtr := own_below houtd hBr; have oxr := own_below oxd hBr; have hBw := stepB hBd hBr hBd.size; have C0 := (hBr.cell (p := ⟨w1.heap.size, 0, none⟩) hlad).trans A0; have C1 := (hBr.cell (p := ⟨w1.heap.size, 1, none⟩) hlad).trans A1; have C2 := (hBr.cell (p := ⟨w1.heap.size, 2, none⟩) hlad).trans A2)
        | (go_at_call 40; refine (below_any cs cap bs p _ (t - f + 1) w _ (by omega) hx hb hl hBw hBd.size hdr).mono ?_; rintro e ws ⟨r, rfl, hr0, hr1, hBs, hGs⟩; have hpr := own_lt hdr.choose_spec.2.2; have hp1 : g ≠ p := (by omega); have hp2 : w1.heap.size ≠ p := (by omega); have hp3 : g2 ≠ p := (by omega); have hwr : w1.heap.size < wr.heap.size := Nat.lt_of_lt_of_le hlad hBr.size; have hown := own_apart2 hownr hGs hp1; have hout := own_apart2 houtr hGs hp3; have ox := own_keepV oxr hGs (fun y e e2 => by have h1 := (oxd.lt y e).2; injection e2 with e2; omega); have v3 := i64_in (f + r) (by omega); have D0 := (gcell hGs (p := ⟨w1.heap.size, 0, none⟩) hwr (fun g e => by cases e; exact hp2)).trans C0; have D1 := (gcell hGs (p := ⟨w1.heap.size, 1, none⟩) hwr (fun g e => by cases e; exact hp2)).trans C1; have D2 := (gcell hGs (p := ⟨w1.heap.size, 2, none⟩) hwr (fun g e => by cases e; exact hp2)).trans C2)
        | fail)
    have hla2 : w1.heap.size < ws.heap.size := Nat.lt_of_lt_of_le hwr hGs.size
    clear HRO hownd houtd oxd hBd hgl hgo hlad hBr hownr houtr oxr hBw hdr hpr hp1 hp2 hp3 hwr hGs C0 C1 C2 hB A0 A1 A2 hla
    have hdy1 : f ≤ f + r := by omega
    have hdy2 : f + r ≤ t := by omega
    have hda : dayB (f + r) = true := by simp [dayB, inB]; omega
    have hhd := hhas (f + r) hdy1 hdy2
    have HG := Lib.hid (fun W h h' => HFD.out (f + r) hdy1 hdy2 W h h')
    have hz := failN_zero (rs := rs) (cs := cls) (n := f + r)
    have hzl : failN rs cls (f + r) = (idxGo 0 (failL rs cls (f + r))).length := rfl
    rw [hzl] at hz
    generalize idxGo 0 (failL rs cls (f + r)) = iz at HG hz
    generalize f + r = day at *
    clear hzl HFD
    go_wp2_with fail
    refine (hasDayC_any bx cx xs day _ hx300 (Rd.of_own encSp_len (by decide) ox) hset hda).mono ?_
    rintro e wt ⟨rfl, hBt⟩
    have hown := own_below hown hBt
    have hout := own_below hout hBt
    have D0 := (hBt.cell (p := ⟨w1.heap.size, 0, none⟩) hla2).trans D0
    have D1 := (hBt.cell (p := ⟨w1.heap.size, 1, none⟩) hla2).trans D1
    have D2 := (hBt.cell (p := ⟨w1.heap.size, 2, none⟩) hla2).trans D2
    have hBs := stepB hBs hBt hBs.size
    clear hBt
    go_wp2_with fail
    refine (HG.out _ (Rd.of_own encRg_len (by decide) hown) (Rd.of_own encCl_len (by decide) hout)).mono ?_
    rintro e wu ⟨bi, ci, rfl, _, hBu⟩
    have hBs := stepB hBs hBu hBs.size
    clear HG hBu
    clear hhd
    have e1 : (cntSp xs == cntSp xs) = true := by simp
    generalize cntSp xs = CC at e1 ⊢
    cases hfd : fitB rs cls day
    · have hn0 : ((iz.length : Int) == 0) = false := by
        rw [hfd] at hz; simp at hz; simp; exact hz
      go_wp2
      go_ret
      exact ⟨rfl, hBs⟩
    · have hn0 : ((iz.length : Int) == 0) = true := by
        have h2 := hz.2 hfd
        rw [h2]; rfl
      go_wp2
      go_ret
      exact ⟨rfl, hBs⟩
  · have y1' : ((l : Int) == 0) = false := by simpa using y1
    have y2' : (fe == 0) = false := by simpa using y2
    clear HZ
    go_upto_region 18 with (fail)
    by_cases hlim : 300 < xs.length
    · have hL : limR xs = ([], 3) := by unfold limR; rw [if_pos hlim]
      rw [hL]
      clear hL ox
      go_wp2
      go_ret
      exact ⟨rfl, hB⟩
    have hL : limR xs = (xs, 0) := by unfold limR; rw [if_neg hlim]
    rw [hL] at ox ⊢
    have hx300 : xs.length ≤ 300 := by omega
    clear hL hlim
    simp only at ox ⊢
    go_wp2_with fail
    refine (countDaysC_any bx cx xs _ hx300 (Rd.of_own encSp_len (by decide) ox) hset hin).mono ?_
    rintro e W12 ⟨rfl, hB1⟩
    have A0 := (hB1.cell (p := ⟨w1.heap.size, 0, none⟩) hla).trans A0
    have A1 := (hB1.cell (p := ⟨w1.heap.size, 1, none⟩) hla).trans A1
    have A2 := (hB1.cell (p := ⟨w1.heap.size, 2, none⟩) hla).trans A2
    have hla := Nat.lt_of_lt_of_le hla hB1.size
    have hown := own_below hown hB1
    have hout := own_below hout hB1
    have ox := own_below ox hB1
    have hB := stepB hB hB1 hB.size
    clear hB1
    have v1 := i64_in (t - f) (by omega)
    have v2 := i64_in (t - f + 1) (by omega)
    have HRO := Lib.hid (roll_any cs cap bs 1201 W12.drew (by decide) (hx.below hB.drew) hb hl)
    have hownd := own_below hown (Below.refl _ W12).drew
    have houtd := own_below hout (Below.refl _ W12).drew
    have oxd := own_below ox (Below.refl _ W12).drew
    have hBd := hB.drew
    have hgl := (own_lt hownd).2
    have hgo := (own_lt houtd).2
    have hlad : w1.heap.size < W12.drew.heap.size := hla
    go_wp2_with fail
    go_region_held_law (fun w' => w'.cell? ⟨w1.heap.size, 1, none⟩ = some (.int .i64 f) ∧ w'.cell? ⟨w1.heap.size, 2, none⟩ = some (.int .i64 t)) (first | exact ⟨A1, A2⟩ | exact ⟨C1, C2⟩ | exact ⟨D1, D2⟩)
      (first
        | (go_at_call 39; refine HRO.out.mono ?_; rintro e wr ⟨p, rfl, hdr, hBr⟩; have hownr := own_below hownd hBr; have houtr := own_below houtd hBr; have oxr := own_below oxd hBr; have hBw := stepB hBd hBr hBd.size; have C0 := (hBr.cell (p := ⟨w1.heap.size, 0, none⟩) hlad).trans A0; have C1 := (hBr.cell (p := ⟨w1.heap.size, 1, none⟩) hlad).trans A1; have C2 := (hBr.cell (p := ⟨w1.heap.size, 2, none⟩) hlad).trans A2)
        | (go_at_call 40; refine (below_any cs cap bs p _ (t - f + 1) w _ (by omega) hx hb hl hBw hBd.size hdr).mono ?_; rintro e ws ⟨r, rfl, hr0, hr1, hBs, hGs⟩; have hpr := own_lt hdr.choose_spec.2.2; have hp1 : g ≠ p := (by omega); have hp2 : w1.heap.size ≠ p := (by omega); have hp3 : g2 ≠ p := (by omega); have hwr : w1.heap.size < wr.heap.size := Nat.lt_of_lt_of_le hlad hBr.size; have hown := own_apart2 hownr hGs hp1; have hout := own_apart2 houtr hGs hp3; have ox := own_keepV oxr hGs (fun y e e2 => by have h1 := (oxd.lt y e).2; injection e2 with e2; omega); have v3 := i64_in (f + r) (by omega); have D0 := (gcell hGs (p := ⟨w1.heap.size, 0, none⟩) hwr (fun g e => by cases e; exact hp2)).trans C0; have D1 := (gcell hGs (p := ⟨w1.heap.size, 1, none⟩) hwr (fun g e => by cases e; exact hp2)).trans C1; have D2 := (gcell hGs (p := ⟨w1.heap.size, 2, none⟩) hwr (fun g e => by cases e; exact hp2)).trans C2)
        | fail)
    have hla2 : w1.heap.size < ws.heap.size := Nat.lt_of_lt_of_le hwr hGs.size
    clear HRO hownd houtd oxd hBd hgl hgo hlad hBr hownr houtr oxr hBw hdr hpr hp1 hp2 hp3 hwr hGs C0 C1 C2 hB A0 A1 A2 hla
    have hdy1 : f ≤ f + r := by omega
    have hdy2 : f + r ≤ t := by omega
    have hda : dayB (f + r) = true := by simp [dayB, inB]; omega
    have hhd := hhas (f + r) hdy1 hdy2
    have HG := Lib.hid (fun W h h' => HFD.out (f + r) hdy1 hdy2 W h h')
    have hz := failN_zero (rs := rs) (cs := cls) (n := f + r)
    have hzl : failN rs cls (f + r) = (idxGo 0 (failL rs cls (f + r))).length := rfl
    rw [hzl] at hz
    generalize idxGo 0 (failL rs cls (f + r)) = iz at HG hz
    generalize f + r = day at *
    clear hzl HFD
    go_wp2_with fail
    refine (hasDayC_any bx cx xs day _ hx300 (Rd.of_own encSp_len (by decide) ox) hset hda).mono ?_
    rintro e wt ⟨rfl, hBt⟩
    have hown := own_below hown hBt
    have hout := own_below hout hBt
    have D0 := (hBt.cell (p := ⟨w1.heap.size, 0, none⟩) hla2).trans D0
    have D1 := (hBt.cell (p := ⟨w1.heap.size, 1, none⟩) hla2).trans D1
    have D2 := (hBt.cell (p := ⟨w1.heap.size, 2, none⟩) hla2).trans D2
    have hBs := stepB hBs hBt hBs.size
    clear hBt
    go_wp2_with fail
    refine (HG.out _ (Rd.of_own encRg_len (by decide) hown) (Rd.of_own encCl_len (by decide) hout)).mono ?_
    rintro e wu ⟨bi, ci, rfl, _, hBu⟩
    have hBs := stepB hBs hBu hBs.size
    clear HG hBu
    clear hhd
    have e1 : (cntSp xs == cntSp xs) = true := by simp
    generalize cntSp xs = CC at e1 ⊢
    cases hfd : fitB rs cls day
    · have hn0 : ((iz.length : Int) == 0) = false := by
        rw [hfd] at hz; simp at hz; simp; exact hz
      go_wp2
      go_ret
      exact ⟨rfl, hBs⟩
    · have hn0 : ((iz.length : Int) == 0) = true := by
        have h2 := hz.2 hfd
        rw [h2]; rfl
      go_wp2
      go_ret
      exact ⟨rfl, hBs⟩
end Go.Proofs.YtdbgnbohdplndaaGreatDoor
