/- Walks: the draws of the law FnItineraries. Printed by gen_dmu.py. -/
import Derived.Test.YtipdcgfdejmjfaaGreatDoorDrawL
import Derived.Test.YtipdcgfdejmjfaaGreatDoorDrB
import Derived.Test.YtipdcgfdejmjfaaGreatDoorItinS
import Derived.Test.YtipdcgfdejmjfaaGreatDoorAppAny
namespace Go.Proofs.YtipdcgfdejmjfaaGreatDoor
section
open Go.ChangeShapes Go.WideShapes Go.ChangeAt Go.RowKit Go.IntWalk

theorem own_wholeN {α : Type} {enc : α → List Value} {w : World} {base : Nat} {E : TypeId} {k g n cap : Nat} {xs : List α} (h : w.ownsRow base E k (.slice (some ⟨g, 0, none⟩) n cap) n (xs.flatMap enc)) : ∀ j u, (xs.flatMap enc)[j]? = some u → w.cell? (Addr.add ⟨g, 0, none⟩ j) = some u := by
  intro j u hu
  have hj := (List.getElem?_eq_some_iff.1 hu).1
  rw [h.1] at hj
  rw [Addr.add_lit, Nat.zero_add, h.cellAt _ hj]
  exact hu
theorem Box.news {B : Nat} {w : World} {T : TypeId} {g : Nat} {xs : List Value} (h : Box B w T g xs) : ∀ j u, xs[j]? = some u → w.cell? (Addr.add ⟨g, 0, none⟩ j) = some u := by
  intro j u hu
  rw [Addr.add_lit, Nat.zero_add]
  exact Box.cell h j u hu
theorem st_one1 (m : St) : ∀ u ∈ encSt m, u.oneCell' = true := fun u hu => by simp [encSt] at hu; rcases hu with rfl | rfl | rfl <;> rfl
theorem st_one (l : List St) : ∀ u ∈ l.flatMap encSt, u.oneCell' = true := fun u hu => by
  obtain ⟨m, _, hm⟩ := List.mem_flatMap.1 hu
  exact st_one1 m u hm
/-- A drawn land's rows: they lie in the blocks from B to C; the source p lies below. -/
structure LandK (B C p : Nat) (w : World) (a0 a1 : Option Addr) (c0 c1 : Nat) (ns : List ByteArray) (ws : List Wy) : Prop where
  n1 : ns.length ≤ 7
  n2 : ws.length ≤ 10
  n3 : ∀ m ∈ ns, m.size ≤ 7
  r0 : Own B C w 9 1 (.slice a0 ns.length c0) ns.length (ns.flatMap encS)
  r1 : Own B C w 125 3 (.slice a1 ws.length c1) ws.length (ws.flatMap encWy)
  hp : p < B
section
variable {B C p : Nat} {w w' : World} {a0 a1 : Option Addr} {c0 c1 : Nat} {ns : List ByteArray} {ws : List Wy}
theorem LandK.below (h : LandK B C p w a0 a1 c0 c1 ns ws) (hB : Below w.heap.size w w') : LandK B C p w' a0 a1 c0 c1 ns ws := ⟨h.n1, h.n2, h.n3, h.r0.below hB, h.r1.below hB, h.hp⟩
theorem LandK.kept {r : Option Nat} (h : LandK B C p w a0 a1 c0 c1 ns ws) (hG : w.grownBy w' r) (hr : ∀ g, r = some g → g < B ∨ C ≤ g) : LandK B C p w' a0 a1 c0 c1 ns ws := ⟨h.n1, h.n2, h.n3, h.r0.kept hG hr, h.r1.kept hG hr, h.hp⟩
theorem LandK.call (h : LandK B C p w a0 a1 c0 c1 ns ws) (hG : w.grownBy w' (some p)) : LandK B C p w' a0 a1 c0 c1 ns ws := h.kept hG (fun g e => by cases e; exact .inl h.hp)
theorem LandK.rd0 (h : LandK B C p w a0 a1 c0 c1 ns ws) : Rd encS w a0 ns := Rd.of_own encS_len (by decide) h.r0.row
theorem LandK.rd1 (h : LandK B C p w a0 a1 c0 c1 ns ws) : Rd encWy w a1 ws := Rd.of_own encWy_len (by decide) h.r1.row
theorem LandK.cap (h : LandK B C p w a0 a1 c0 c1 ns ws) : ns.length ≤ c0 ∧ c0 ≤ 9223372036854775807 := by
  rcases h.r0.row.2 with ⟨e, e2⟩ | ⟨g', cap', cur, e, _, _, h1, h2, _⟩
  · injection e with _ e3 e4
    omega
  · injection e with e1 e2 e3
    subst e3
    exact ⟨h1, h2⟩
end

set_option maxRecDepth 100000 in
set_option maxHeartbeats 8000000 in
theorem l15DrawFor_any (w0 : World) (cs : Option Addr) (cap : Nat) (bs : List Int) (p : Nat) (B C : Nat) (a0 a1 : Option Addr) (c0 c1 : Nat) (ns : List ByteArray) (ws : List Wy) (w : World) (hx : Rd encB w0 cs bs) (hb : ∀ m ∈ bs, goodB m) (hl : bs.length ≤ 4096) (hs : Src w0 cs cap bs p w) (hK : LandK B C p w a0 a1 c0 c1 ns ws) (_hC : C ≤ w.heap.size) :
    Calls Tryz.prog 81 #[.pointer (some ⟨p, 0, none⟩), .agg #[.slice a0 ns.length c0, .slice a1 ws.length c1]] w fun e w' => ∃ (g c : Nat) (sts : List St), e = .returned (.slice (some ⟨g, 0, none⟩) sts.length c) ∧ sts.length ≤ 5 ∧ w'.ownsRow w.heap.size 49 3 (.slice (some ⟨g, 0, none⟩) sts.length c) sts.length (sts.flatMap encSt) ∧ Src w0 cs cap bs p w' ∧ w.grownBy w' (some p) := by
  obtain ⟨i0, hi, hz0, hz1, hz2⟩ := info_parts infoSt
  have D := Drw.start hs
  have K0 := hK
  have loc := Box.new w 35 [.slice a0 ns.length c0, .slice a1 ws.length c1] w.heap.size (Nat.le_refl _) (by simp)
  have hBA := belowA w (.cells #[.slice a0 ns.length c0, .slice a1 ws.length c1] 35)
  have K0 := K0.below hBA
  have D := D.below hBA
  clear hBA
  have HN := Lib.hid (fun n W hn1 hn2 hs => l01Next_any w0 cs cap bs p n W hx hb hl hn1 hn2 hs)
  have HIT := Lib.hid (fun W a2 c2 (xs : List St) (hl2 : xs.length ≤ 1048576) (hK : LandK B C p W a0 a1 c0 c1 ns ws) (h2 : Rd encSt W a2 xs) => specIsItin_any a0 a1 a2 c0 c1 c2 ns ws xs W hK.cap.1 hK.cap.2 (by have := hK.n1; omega) hK.rd0 (fun m hm => by have := hK.n3 m hm; omega) (by have := hK.n2; omega) hK.rd1 hl2 h2)
  clear hs hK
  go_enter Tryz.func81, Tryz.ntmps81
  go_upto_region 1 with (fail)
  change Code.wp _ _ _ _ (w.alloc (.cells #[.slice a0 ns.length c0, .slice a1 ws.length c1] 35))
  generalize w.alloc (.cells #[.slice a0 ns.length c0, .slice a1 ws.length c1] 35) = w1 at loc K0 D ⊢
  have own : (w1.alloc (.cells #[] 49)).ownsRow w.heap.size 49 3 (.slice (some ⟨w1.heap.size, 0, none⟩) 0 0) 0 [] := World.ownsRow_made w1 #[] 0 D.size (by decide) rfl
  have hBA := belowA w1 (.cells #[] 49)
  replace loc := Box.below loc hBA
  replace K0 := K0.below hBA
  replace D := D.below hBA
  clear hBA
  go_upto_region 2 with (fail)
  change Code.wp _ _ _ _ (w1.alloc (.cells #[] 49))
  generalize w1.alloc (.cells #[] 49) = wA at loc own K0 D ⊢
  generalize w1.heap.size = wb at own ⊢
  go_wp2_with fail
  refine (HN.out 300 _ (by decide) (by decide) D.src).mono ?_
  rintro e w2 ⟨d0, rfl, hd0, hd1, hs, hG⟩
  replace loc := Box.keepA loc hG D.hp
  replace own := own_keepA own hG D.hp
  replace K0 := K0.call hG
  replace D := D.call hs hG
  clear hs hG
  go_wp2_with fail
  refine (HN.out 6 _ (by decide) (by decide) D.src).mono ?_
  rintro e w3 ⟨k0, rfl, hk0, hk1, hs, hG⟩
  replace loc := Box.keepA loc hG D.hp
  replace own := own_keepA own hG D.hp
  replace K0 := K0.call hG
  replace D := D.call hs hG
  clear hs hG
  obtain ⟨kk, rfl⟩ : ∃ k : Nat, k0 = k := ⟨k0.toNat, by omega⟩
  have hk5 : kk ≤ 5 := by omega
  have hd2 : 0 ≤ 420000 + d0 ∧ 420000 + d0 ≤ 420299 := by omega
  have v0 := i64_in (420000 + d0) (by omega)
  generalize 420000 + d0 = dd at hd2 v0 ⊢
  clear hd0 hd1 hk0 hk1
  go_wp2
  go_loopw [5, 6, 7] (fun o dy nn wr => ∃ (k : Nat) (d : Int) (g c : Nat) (sts : List St), k ≤ 5 ∧ nn = .int .i64 k ∧ dy = .int .i64 d ∧ (0 ≤ d ∧ d ≤ 420299 + (5 - k) * 100) ∧ o = .slice (some ⟨g, 0, none⟩) sts.length c ∧ sts.length + k ≤ 5 ∧ wr.ownsRow w.heap.size 49 3 (.slice (some ⟨g, 0, none⟩) sts.length c) sts.length (sts.flatMap encSt) ∧ Box w.heap.size wr 35 w.heap.size [.slice a0 ns.length c0, .slice a1 ws.length c1] ∧ LandK B C p wr a0 a1 c0 c1 ns ws ∧ Drw w0 cs cap bs p w wr) (fun _ _ nn _ => (intOf nn).toNat)
  case atStart => exact ⟨kk, dd, wb, 0, [], hk5, rfl, rfl, by omega, rfl, by simpa using hk5, own, loc, K0, D⟩
  case round =>
    clear own loc K0 D hk5 hd2 v0
    obtain ⟨k, d, g, c, sts, hk5, rfl, rfl, hd, rfl, hsl, own, loc, K0, D⟩ := hrel
    have m0 := Box.cell loc 0 _ rfl
    by_cases hk0 : k = 0
    · subst hk0
      go_wp2
      go_ret
      exact ⟨g, c, sts, rfl, by omega, own, D.src, D.gr⟩
    · have hk1 : (0 : Int) < (k : Int) := by omega
      by_cases hns : ns.length = 0
      · have hn1 : decide ((0 : Int) < (ns.length : Int)) = false := by simpa using hns
        go_wp2
        go_ret
        exact ⟨g, c, sts, rfl, by omega, own, D.src, D.gr⟩
      · have hn1 : (0 : Int) < (ns.length : Int) := by omega
        have hn7 := K0.n1
        go_wp2_with fail
        refine (HN.out ns.length _ (by omega) (by omega) D.src).mono ?_
        rintro e w4 ⟨pl, rfl, hp0, hp1, hs, hG⟩
        replace loc := Box.keepA loc hG D.hp
        replace own := own_keepA own hG D.hp
        replace K0 := K0.call hG
        replace D := D.call hs hG
        clear hs hG m0
        go_wp2_with fail
        refine (HN.out 20 _ (by decide) (by decide) D.src).mono ?_
        rintro e w5 ⟨r2, rfl, hr0, hr1, hs, hG⟩
        replace loc := Box.keepA loc hG D.hp
        replace own := own_keepA own hG D.hp
        replace K0 := K0.call hG
        replace D := D.call hs hG
        clear hs hG
        have v1 := i64_in (d + r2) (by omega)
        have xl := Box.new w5 49 [.int .i64 pl, .int .i64 d, .int .i64 (d + r2)] w.heap.size D.size (by simp)
        have hBA := belowA w5 (.cells #[.int .i64 pl, .int .i64 d, .int .i64 (d + r2)] 49)
        replace loc := Box.below loc hBA
        replace own := own_below own hBA
        replace K0 := K0.below hBA
        replace D := D.below hBA
        clear hBA
        go_upto_region 7 with (fail)
        change Code.wp _ _ _ _ (w5.alloc (.cells #[.int .i64 pl, .int .i64 d, .int .i64 (d + r2)] 49))
        change Box _ (w5.alloc (.cells #[.int .i64 pl, .int .i64 d, .int .i64 (d + r2)] 49)) _ _ _ at xl
        generalize w5.alloc (.cells #[.int .i64 pl, .int .i64 d, .int .i64 (d + r2)] 49) = w6 at xl loc own K0 D ⊢
        generalize w5.heap.size = lx at xl ⊢
        refine MAny.region (S := fun w' => w'.cell? ⟨lx, 0, none⟩ = some (.int .i64 pl) ∧ w'.cell? ⟨lx, 1, none⟩ = some (.int .i64 d) ∧ w'.cell? ⟨lx, 2, none⟩ = some (.int .i64 (d + r2))) (last := 6) (by kernel_rfl) ?_
        have hBA := (Below.refl w6.heap.size w6).drew
        replace loc := Box.below loc hBA
        replace xl := Box.below xl hBA
        replace own := own_below own hBA
        replace K0 := K0.below hBA
        replace D := D.below hBA
        clear hBA
        generalize w6.drew = V0 at xl loc own K0 D ⊢
        have hN := Below.refl V0.heap.size V0
        obtain ⟨N0, hN0⟩ : ∃ N0, V0.heap.size = N0 := ⟨_, rfl⟩
        have hNN : ∀ W, Below N0 V0 W → Below V0.heap.size V0 W := fun W h => by rw [hN0]; exact h
        rw [hN0] at hN
        have HNN := Lib.hid hNN
        clear hNN
        replace hN0 := Lib.hid hN0
        have HC : Hid (∀ W, Below N0 V0 W → W.cell? ⟨lx, 0, none⟩ = some (.int .i64 pl) ∧ W.cell? ⟨lx, 1, none⟩ = some (.int .i64 d) ∧ W.cell? ⟨lx, 2, none⟩ = some (.int .i64 (d + r2))) := fun W hB => ⟨((bcell (HNN.out W hB)).1 _ _ (own_lt xl).2).trans (Box.cell xl 0 _ rfl), ((bcell (HNN.out W hB)).1 _ _ (own_lt xl).2).trans (Box.cell xl 1 _ rfl), ((bcell (HNN.out W hB)).1 _ _ (own_lt xl).2).trans (Box.cell xl 2 _ rfl)⟩
        have HO : Hid (∀ W, Below N0 V0 W → W.ownsRow w.heap.size 49 3 (.slice (some ⟨g, 0, none⟩) sts.length c) sts.length (sts.flatMap encSt)) := fun W hB => own_below own (HNN.out W hB)
        have hHeld := HC.out _ hN
        refine MAny.take (i := 1) (v := ?_) rfl (by kernel_rfl) (by kernel_rfl) (by kernel_rfl) (fun _ _ _ h => h) (by kernel_rfl) (Or.inl ⟨by rfl, ?_⟩) (by assumption) ?_
        rotate_left
        · (intro w' hSw; (try dsimp only at hSw); go_simp; try (with_reducible rfl))
        try simp only [Act.put, List.setIfInBounds_toArray]
        refine MAny.take (i := 3) (v := ?_) rfl (by kernel_rfl) (by kernel_rfl) (by kernel_rfl) (fun _ _ _ h => h) (by kernel_rfl) (Or.inl ⟨by rfl, ?_⟩) (by assumption) ?_
        rotate_left
        · (intro w' hSw; (try dsimp only at hSw); go_simp; try (with_reducible rfl))
        try simp only [Act.put]
        refine MAny.ready (rs := [0, 4]) (by kernel_rfl) (by simp) ?_
        refine MReady.cons rfl (fun K hK => ?_) (MReady.cons rfl (fun K hK => ?_) MReady.nil)
        · go_simp
          have ow := World.ownsRow_made V0 #[] 0 (Nat.le_trans (Nat.le_of_eq hN0.out.symm) hN.size) (by decide) rfl (e := 49) (size := 3)
          have hz := belowA V0 (.cells #[] 49)
          replace hN := stepB hN hz (Nat.le_trans (Nat.le_of_eq hN0.out.symm) hN.size)
          clear hz
          generalize V0.alloc (.cells #[] 49) = Wa at ow hN ⊢
          generalize V0.heap.size = og at ow ⊢
          have hHeld := HC.out _ hN
          refine hK.out _ _ (.inr hHeld) ?_
          clear hK K
          refine MAny.ready (rs := [2, 4]) (by kernel_rfl) (by simp) ?_
          refine MReady.cons rfl (fun K hK => ?_) (MReady.cons rfl (fun K hK => ?_) MReady.nil)
          · refine step_append_any _ (by rfl) (.tmp 37) (.tmp 38) 36 (by rfl) N0 49 i0 (.agg #[.int .i64 0, .int .i64 0, .int .i64 0]) 3 24 Tryz.underlying36 hi hz0 hz1 hz2 rfl (by decide) _ _ 0 ([]) (by rfl) ow ⟨g, 0, none⟩ sts.length c (sts.flatMap encSt) (by rfl) (length_flatMap_enc encSt 3 encSt_len sts) (own_wholeN (HO.out _ hN)) (st_one sts) (by unfold maxLen; omega) (by omega) (Nat.le_trans (Nat.le_of_eq hN0.out.symm) hN.size) ?_
            intro og oc Wb ow2 hgr hor
            replace hN := hN.grown hgr (Nat.le_trans (Nat.le_of_eq hN0.out.symm) hN.size) (fun g e => by cases e; exact (own_lt ow).1)
            clear hor hgr
            replace ow := ow2
            clear ow2
            try simp only [Act.put, List.setIfInBounds_toArray]
            simp only [Nat.zero_add, List.nil_append] at ow ⊢
            have hHeld := HC.out _ hN
            refine hK.out _ _ (.inr hHeld) ?_
            clear hK K
            refine MAny.ready (rs := [4]) (by kernel_rfl) (by simp) ?_
            refine MReady.cons rfl (fun K hK => ?_) MReady.nil
            go_simp
            have xb := Box.new Wb 49 [.int .i64 pl, .int .i64 d, .int .i64 (d + r2)] N0 (Nat.le_trans (Nat.le_of_eq hN0.out.symm) hN.size) (by simp)
            have hz := belowA Wb (.cells #[.int .i64 pl, .int .i64 d, .int .i64 (d + r2)] 49)
            have hxe : Wb.heap.size ≠ og := Nat.ne_of_gt (own_lt ow).2
            replace ow := own_below ow hz
            replace hN := stepB hN hz (Nat.le_trans (Nat.le_of_eq hN0.out.symm) hN.size)
            clear hz
            change Box _ (Wb.alloc (.cells #[.int .i64 pl, .int .i64 d, .int .i64 (d + r2)] 49)) _ _ _ at xb
            generalize Wb.alloc (.cells #[.int .i64 pl, .int .i64 d, .int .i64 (d + r2)] 49) = Wc at xb hN ow ⊢
            generalize Wb.heap.size = xg at xb hxe ⊢
            have hHeld := HC.out _ hN
            refine hK.out _ _ (.inr hHeld) ?_
            clear hK K
            refine MAny.ready (rs := [5]) (by kernel_rfl) (by simp) ?_
            refine MReady.cons rfl (fun K hK => ?_) MReady.nil
            refine step_append_any _ (by rfl) (.tmp 39) (.tmp 41) 36 (by rfl) N0 49 i0 (.agg #[.int .i64 0, .int .i64 0, .int .i64 0]) 3 24 Tryz.underlying36 hi hz0 hz1 hz2 rfl (by decide) _ _ sts.length (sts.flatMap encSt) (by rfl) ow ⟨xg, 0, none⟩ 1 1 (encSt ⟨pl, d, d + r2⟩) (by rfl) rfl (Box.news xb) (st_one1 _) (by unfold maxLen; omega) (by omega) (Nat.le_trans (Nat.le_of_eq hN0.out.symm) hN.size) ?_
            intro og oc Wcb ow2 hgr hor
            have xl := (own_lt xb).2
            replace xb := Box.keep xb hgr hxe
            replace hxe : xg ≠ og := by rcases hor with e | e <;> omega
            clear xl
            replace hN := hN.grown hgr (Nat.le_trans (Nat.le_of_eq hN0.out.symm) hN.size) (fun g e => by cases e; exact (own_lt ow).1)
            clear hor hgr
            replace ow := ow2
            clear ow2
            try simp only [Act.put, List.setIfInBounds_toArray]
            have hHeld := HC.out _ hN
            refine hK.out _ _ (.inr hHeld) ?_
            clear hK K
            refine MAny.ready (rs := [6]) (by kernel_rfl) (by simp) ?_
            refine MReady.cons rfl (fun K hK => ?_) MReady.nil
            go_simp
            refine hK.out _ _ (.inl rfl) ?_
            clear hK K
            refine MAny.done (by kernel_rfl) ?_ _
            try simp only [List.getElem_toArray, List.getElem_cons_succ, List.getElem_cons_zero]
            have hN := HNN.out _ hN
            have ow := own_base ow (by rw [← hN0.out]; exact D.size)
            replace loc := Box.below loc hN
            replace xl := Box.below xl hN
            replace own := own_below own hN
            replace K0 := K0.below hN
            replace D := D.below hN
            have ow : Wcb.ownsRow w.heap.size 49 3 (.slice (some ⟨og, 0, none⟩) (sts.length + 1) oc) (sts.length + 1) ((sts ++ [(⟨pl, d, d + r2⟩ : St)]).flatMap encSt) := by rw [List.flatMap_append]; exact ow
            clear hN HC HO HNN hN0 hHeld hxe xb
            have x2 := Box.cell xl 2 _ rfl
            have b0 := Box.cell loc 0 _ rfl
            have b1 := Box.cell loc 1 _ rfl
            have HIT2 := Lib.hid (fun W hK h2 => HIT.out W (some ⟨og, 0, none⟩) oc (sts ++ [(⟨pl, d, d + r2⟩ : St)]) (by simp; omega) hK h2)
            have hl1 : (sts ++ [(⟨pl, d, d + r2⟩ : St)]).length = sts.length + 1 := by simp
            rw [hl1] at HIT2
            go_wp2_with fail
            refine (HIT2.out _ K0 (Rd.of_own encSt_len (by decide) ow)).mono ?_
            rintro e U1 ⟨rfl, hB1⟩
            clear HIT2 hl1 x2 b0 b1
            replace loc := Box.below loc hB1
            replace xl := Box.below xl hB1
            replace own := own_below own hB1
            replace ow := own_below ow hB1
            replace K0 := K0.below hB1
            replace D := D.below hB1
            clear hB1
            have x2 := Box.cell xl 2 _ rfl
            generalize isItinB ns ws (sts ++ [(⟨pl, d, d + r2⟩ : St)]) = bi
            cases bi
            · clear x2
              go_wp2_with fail
              refine (HN.out 20 _ (by decide) (by decide) D.src).mono ?_
              rintro e U2 ⟨r3, rfl, hr3, hr4, hs, hG⟩
              replace loc := Box.keepA loc hG D.hp
              replace xl := Box.keepA xl hG D.hp
              replace own := own_keepA own hG D.hp
              replace ow := own_keepA ow hG D.hp
              replace K0 := K0.call hG
              replace D := D.call hs hG
              clear hs hG
              have x2 := Box.cell xl 2 _ rfl
              by_cases h3 : r3 = 0
              · subst h3
                have v5 := i64_in (d + r2 + 1) (by omega)
                go_wp2_with fail
                refine (HN.out 25 _ (by decide) (by decide) D.src).mono ?_
                rintro e U3 ⟨r4, rfl, hq0, hq1, hs, hG⟩
                replace loc := Box.keepA loc hG D.hp
                replace xl := Box.keepA xl hG D.hp
                replace own := own_keepA own hG D.hp
                replace ow := own_keepA ow hG D.hp
                replace K0 := K0.call hG
                replace D := D.call hs hG
                clear hs hG
                have v6 := i64_in ((d + r2) + 1 + r4) (by omega)
                have v7 := i64_in ((k : Int) - 1) (by omega)
                have v8 : ((k - 1 : Nat) : Int) = (k : Int) - 1 := by omega
                go_wp2
                go_roundw
                case rel => exact ⟨k - 1, (d + r2) + 1 + r4, og, oc, sts ++ [⟨pl, d, d + r2⟩], by omega, by rw [v8], rfl, by omega, by simp, by simp; omega, by simpa using ow, loc, K0, D⟩
                case measure => simp [intOf]; omega
              · have h3' : (r3 == 0) = false := by simpa using h3
                have v5 := i64_in (d + 1) (by omega)
                clear x2
                go_wp2_with fail
                refine (HN.out 25 _ (by decide) (by decide) D.src).mono ?_
                rintro e U3 ⟨r4, rfl, hq0, hq1, hs, hG⟩
                replace loc := Box.keepA loc hG D.hp
                replace xl := Box.keepA xl hG D.hp
                replace own := own_keepA own hG D.hp
                replace ow := own_keepA ow hG D.hp
                replace K0 := K0.call hG
                replace D := D.call hs hG
                clear hs hG
                have v6 := i64_in (d + 1 + r4) (by omega)
                have v7 := i64_in ((k : Int) - 1) (by omega)
                have v8 : ((k - 1 : Nat) : Int) = (k : Int) - 1 := by omega
                go_wp2
                go_roundw
                case rel => exact ⟨k - 1, d + 1 + r4, g, c, sts, by omega, by rw [v8], rfl, by omega, rfl, by omega, own, loc, K0, D⟩
                case measure => simp [intOf]; omega
            · have v5 := i64_in (d + r2 + 1) (by omega)
              go_wp2_with fail
              refine (HN.out 25 _ (by decide) (by decide) D.src).mono ?_
              rintro e U3 ⟨r4, rfl, hq0, hq1, hs, hG⟩
              replace loc := Box.keepA loc hG D.hp
              replace xl := Box.keepA xl hG D.hp
              replace own := own_keepA own hG D.hp
              replace ow := own_keepA ow hG D.hp
              replace K0 := K0.call hG
              replace D := D.call hs hG
              clear hs hG
              have v6 := i64_in ((d + r2) + 1 + r4) (by omega)
              have v7 := i64_in ((k : Int) - 1) (by omega)
              have v8 : ((k - 1 : Nat) : Int) = (k : Int) - 1 := by omega
              go_wp2
              go_roundw
              case rel => exact ⟨k - 1, (d + r2) + 1 + r4, og, oc, sts ++ [⟨pl, d, d + r2⟩], by omega, by rw [v8], rfl, by omega, by simp, by simp; omega, by simpa using ow, loc, K0, D⟩
              case measure => simp [intOf]; omega
          · go_simp
            have xb := Box.new Wa 49 [.int .i64 pl, .int .i64 d, .int .i64 (d + r2)] N0 (Nat.le_trans (Nat.le_of_eq hN0.out.symm) hN.size) (by simp)
            have hz := belowA Wa (.cells #[.int .i64 pl, .int .i64 d, .int .i64 (d + r2)] 49)
            have hxe : Wa.heap.size ≠ og := Nat.ne_of_gt (own_lt ow).2
            replace ow := own_below ow hz
            replace hN := stepB hN hz (Nat.le_trans (Nat.le_of_eq hN0.out.symm) hN.size)
            clear hz
            change Box _ (Wa.alloc (.cells #[.int .i64 pl, .int .i64 d, .int .i64 (d + r2)] 49)) _ _ _ at xb
            generalize Wa.alloc (.cells #[.int .i64 pl, .int .i64 d, .int .i64 (d + r2)] 49) = Wb at xb hN ow ⊢
            generalize Wa.heap.size = xg at xb hxe ⊢
            have hHeld := HC.out _ hN
            refine hK.out _ _ (.inr hHeld) ?_
            clear hK K
            refine MAny.ready (rs := [2]) (by kernel_rfl) (by simp) ?_
            refine MReady.cons rfl (fun K hK => ?_) MReady.nil
            refine step_append_any _ (by rfl) (.tmp 37) (.tmp 38) 36 (by rfl) N0 49 i0 (.agg #[.int .i64 0, .int .i64 0, .int .i64 0]) 3 24 Tryz.underlying36 hi hz0 hz1 hz2 rfl (by decide) _ _ 0 ([]) (by rfl) ow ⟨g, 0, none⟩ sts.length c (sts.flatMap encSt) (by rfl) (length_flatMap_enc encSt 3 encSt_len sts) (own_wholeN (HO.out _ hN)) (st_one sts) (by unfold maxLen; omega) (by omega) (Nat.le_trans (Nat.le_of_eq hN0.out.symm) hN.size) ?_
            intro og oc Wc ow2 hgr hor
            have xl := (own_lt xb).2
            replace xb := Box.keep xb hgr hxe
            replace hxe : xg ≠ og := by rcases hor with e | e <;> omega
            clear xl
            replace hN := hN.grown hgr (Nat.le_trans (Nat.le_of_eq hN0.out.symm) hN.size) (fun g e => by cases e; exact (own_lt ow).1)
            clear hor hgr
            replace ow := ow2
            clear ow2
            try simp only [Act.put, List.setIfInBounds_toArray]
            simp only [Nat.zero_add, List.nil_append] at ow ⊢
            have hHeld := HC.out _ hN
            refine hK.out _ _ (.inr hHeld) ?_
            clear hK K
            refine MAny.ready (rs := [5]) (by kernel_rfl) (by simp) ?_
            refine MReady.cons rfl (fun K hK => ?_) MReady.nil
            refine step_append_any _ (by rfl) (.tmp 39) (.tmp 41) 36 (by rfl) N0 49 i0 (.agg #[.int .i64 0, .int .i64 0, .int .i64 0]) 3 24 Tryz.underlying36 hi hz0 hz1 hz2 rfl (by decide) _ _ sts.length (sts.flatMap encSt) (by rfl) ow ⟨xg, 0, none⟩ 1 1 (encSt ⟨pl, d, d + r2⟩) (by rfl) rfl (Box.news xb) (st_one1 _) (by unfold maxLen; omega) (by omega) (Nat.le_trans (Nat.le_of_eq hN0.out.symm) hN.size) ?_
            intro og oc Wcb ow2 hgr hor
            have xl := (own_lt xb).2
            replace xb := Box.keep xb hgr hxe
            replace hxe : xg ≠ og := by rcases hor with e | e <;> omega
            clear xl
            replace hN := hN.grown hgr (Nat.le_trans (Nat.le_of_eq hN0.out.symm) hN.size) (fun g e => by cases e; exact (own_lt ow).1)
            clear hor hgr
            replace ow := ow2
            clear ow2
            try simp only [Act.put]
            have hHeld := HC.out _ hN
            refine hK.out _ _ (.inr hHeld) ?_
            clear hK K
            refine MAny.ready (rs := [6]) (by kernel_rfl) (by simp) ?_
            refine MReady.cons rfl (fun K hK => ?_) MReady.nil
            go_simp
            refine hK.out _ _ (.inl rfl) ?_
            clear hK K
            refine MAny.done (by kernel_rfl) ?_ _
            try simp only [List.getElem_toArray, List.getElem_cons_succ, List.getElem_cons_zero]
            have hN := HNN.out _ hN
            have ow := own_base ow (by rw [← hN0.out]; exact D.size)
            replace loc := Box.below loc hN
            replace xl := Box.below xl hN
            replace own := own_below own hN
            replace K0 := K0.below hN
            replace D := D.below hN
            have ow : Wcb.ownsRow w.heap.size 49 3 (.slice (some ⟨og, 0, none⟩) (sts.length + 1) oc) (sts.length + 1) ((sts ++ [(⟨pl, d, d + r2⟩ : St)]).flatMap encSt) := by rw [List.flatMap_append]; exact ow
            clear hN HC HO HNN hN0 hHeld hxe xb
            have x2 := Box.cell xl 2 _ rfl
            have b0 := Box.cell loc 0 _ rfl
            have b1 := Box.cell loc 1 _ rfl
            have HIT2 := Lib.hid (fun W hK h2 => HIT.out W (some ⟨og, 0, none⟩) oc (sts ++ [(⟨pl, d, d + r2⟩ : St)]) (by simp; omega) hK h2)
            have hl1 : (sts ++ [(⟨pl, d, d + r2⟩ : St)]).length = sts.length + 1 := by simp
            rw [hl1] at HIT2
            go_wp2_with fail
            refine (HIT2.out _ K0 (Rd.of_own encSt_len (by decide) ow)).mono ?_
            rintro e U1 ⟨rfl, hB1⟩
            clear HIT2 hl1 x2 b0 b1
            replace loc := Box.below loc hB1
            replace xl := Box.below xl hB1
            replace own := own_below own hB1
            replace ow := own_below ow hB1
            replace K0 := K0.below hB1
            replace D := D.below hB1
            clear hB1
            have x2 := Box.cell xl 2 _ rfl
            generalize isItinB ns ws (sts ++ [(⟨pl, d, d + r2⟩ : St)]) = bi
            cases bi
            · clear x2
              go_wp2_with fail
              refine (HN.out 20 _ (by decide) (by decide) D.src).mono ?_
              rintro e U2 ⟨r3, rfl, hr3, hr4, hs, hG⟩
              replace loc := Box.keepA loc hG D.hp
              replace xl := Box.keepA xl hG D.hp
              replace own := own_keepA own hG D.hp
              replace ow := own_keepA ow hG D.hp
              replace K0 := K0.call hG
              replace D := D.call hs hG
              clear hs hG
              have x2 := Box.cell xl 2 _ rfl
              by_cases h3 : r3 = 0
              · subst h3
                have v5 := i64_in (d + r2 + 1) (by omega)
                go_wp2_with fail
                refine (HN.out 25 _ (by decide) (by decide) D.src).mono ?_
                rintro e U3 ⟨r4, rfl, hq0, hq1, hs, hG⟩
                replace loc := Box.keepA loc hG D.hp
                replace xl := Box.keepA xl hG D.hp
                replace own := own_keepA own hG D.hp
                replace ow := own_keepA ow hG D.hp
                replace K0 := K0.call hG
                replace D := D.call hs hG
                clear hs hG
                have v6 := i64_in ((d + r2) + 1 + r4) (by omega)
                have v7 := i64_in ((k : Int) - 1) (by omega)
                have v8 : ((k - 1 : Nat) : Int) = (k : Int) - 1 := by omega
                go_wp2
                go_roundw
                case rel => exact ⟨k - 1, (d + r2) + 1 + r4, og, oc, sts ++ [⟨pl, d, d + r2⟩], by omega, by rw [v8], rfl, by omega, by simp, by simp; omega, by simpa using ow, loc, K0, D⟩
                case measure => simp [intOf]; omega
              · have h3' : (r3 == 0) = false := by simpa using h3
                have v5 := i64_in (d + 1) (by omega)
                clear x2
                go_wp2_with fail
                refine (HN.out 25 _ (by decide) (by decide) D.src).mono ?_
                rintro e U3 ⟨r4, rfl, hq0, hq1, hs, hG⟩
                replace loc := Box.keepA loc hG D.hp
                replace xl := Box.keepA xl hG D.hp
                replace own := own_keepA own hG D.hp
                replace ow := own_keepA ow hG D.hp
                replace K0 := K0.call hG
                replace D := D.call hs hG
                clear hs hG
                have v6 := i64_in (d + 1 + r4) (by omega)
                have v7 := i64_in ((k : Int) - 1) (by omega)
                have v8 : ((k - 1 : Nat) : Int) = (k : Int) - 1 := by omega
                go_wp2
                go_roundw
                case rel => exact ⟨k - 1, d + 1 + r4, g, c, sts, by omega, by rw [v8], rfl, by omega, rfl, by omega, own, loc, K0, D⟩
                case measure => simp [intOf]; omega
            · have v5 := i64_in (d + r2 + 1) (by omega)
              go_wp2_with fail
              refine (HN.out 25 _ (by decide) (by decide) D.src).mono ?_
              rintro e U3 ⟨r4, rfl, hq0, hq1, hs, hG⟩
              replace loc := Box.keepA loc hG D.hp
              replace xl := Box.keepA xl hG D.hp
              replace own := own_keepA own hG D.hp
              replace ow := own_keepA ow hG D.hp
              replace K0 := K0.call hG
              replace D := D.call hs hG
              clear hs hG
              have v6 := i64_in ((d + r2) + 1 + r4) (by omega)
              have v7 := i64_in ((k : Int) - 1) (by omega)
              have v8 : ((k - 1 : Nat) : Int) = (k : Int) - 1 := by omega
              go_wp2
              go_roundw
              case rel => exact ⟨k - 1, (d + r2) + 1 + r4, og, oc, sts ++ [⟨pl, d, d + r2⟩], by omega, by rw [v8], rfl, by omega, by simp, by simp; omega, by simpa using ow, loc, K0, D⟩
              case measure => simp [intOf]; omega
        · go_simp
          have xb := Box.new V0 49 [.int .i64 pl, .int .i64 d, .int .i64 (d + r2)] N0 (Nat.le_trans (Nat.le_of_eq hN0.out.symm) hN.size) (by simp)
          have hz := belowA V0 (.cells #[.int .i64 pl, .int .i64 d, .int .i64 (d + r2)] 49)
          replace hN := stepB hN hz (Nat.le_trans (Nat.le_of_eq hN0.out.symm) hN.size)
          clear hz
          change Box _ (V0.alloc (.cells #[.int .i64 pl, .int .i64 d, .int .i64 (d + r2)] 49)) _ _ _ at xb
          generalize V0.alloc (.cells #[.int .i64 pl, .int .i64 d, .int .i64 (d + r2)] 49) = Wa at xb hN ⊢
          generalize V0.heap.size = xg at xb ⊢
          have hHeld := HC.out _ hN
          refine hK.out _ _ (.inr hHeld) ?_
          clear hK K
          refine MAny.ready (rs := [0]) (by kernel_rfl) (by simp) ?_
          refine MReady.cons rfl (fun K hK => ?_) MReady.nil
          go_simp
          have ow := World.ownsRow_made Wa #[] 0 (Nat.le_trans (Nat.le_of_eq hN0.out.symm) hN.size) (by decide) rfl (e := 49) (size := 3)
          have hz := belowA Wa (.cells #[] 49)
          have hxe : xg ≠ Wa.heap.size := Nat.ne_of_lt (own_lt xb).2
          replace xb := Box.below xb hz
          replace hN := stepB hN hz (Nat.le_trans (Nat.le_of_eq hN0.out.symm) hN.size)
          clear hz
          generalize Wa.alloc (.cells #[] 49) = Wb at ow hN xb ⊢
          generalize Wa.heap.size = og at ow hxe ⊢
          have hHeld := HC.out _ hN
          refine hK.out _ _ (.inr hHeld) ?_
          clear hK K
          refine MAny.ready (rs := [2]) (by kernel_rfl) (by simp) ?_
          refine MReady.cons rfl (fun K hK => ?_) MReady.nil
          refine step_append_any _ (by rfl) (.tmp 37) (.tmp 38) 36 (by rfl) N0 49 i0 (.agg #[.int .i64 0, .int .i64 0, .int .i64 0]) 3 24 Tryz.underlying36 hi hz0 hz1 hz2 rfl (by decide) _ _ 0 ([]) (by rfl) ow ⟨g, 0, none⟩ sts.length c (sts.flatMap encSt) (by rfl) (length_flatMap_enc encSt 3 encSt_len sts) (own_wholeN (HO.out _ hN)) (st_one sts) (by unfold maxLen; omega) (by omega) (Nat.le_trans (Nat.le_of_eq hN0.out.symm) hN.size) ?_
          intro og oc Wc ow2 hgr hor
          have xl := (own_lt xb).2
          replace xb := Box.keep xb hgr hxe
          replace hxe : xg ≠ og := by rcases hor with e | e <;> omega
          clear xl
          replace hN := hN.grown hgr (Nat.le_trans (Nat.le_of_eq hN0.out.symm) hN.size) (fun g e => by cases e; exact (own_lt ow).1)
          clear hor hgr
          replace ow := ow2
          clear ow2
          try simp only [Act.put, List.setIfInBounds_toArray]
          simp only [Nat.zero_add, List.nil_append] at ow ⊢
          have hHeld := HC.out _ hN
          refine hK.out _ _ (.inr hHeld) ?_
          clear hK K
          refine MAny.ready (rs := [5]) (by kernel_rfl) (by simp) ?_
          refine MReady.cons rfl (fun K hK => ?_) MReady.nil
          refine step_append_any _ (by rfl) (.tmp 39) (.tmp 41) 36 (by rfl) N0 49 i0 (.agg #[.int .i64 0, .int .i64 0, .int .i64 0]) 3 24 Tryz.underlying36 hi hz0 hz1 hz2 rfl (by decide) _ _ sts.length (sts.flatMap encSt) (by rfl) ow ⟨xg, 0, none⟩ 1 1 (encSt ⟨pl, d, d + r2⟩) (by rfl) rfl (Box.news xb) (st_one1 _) (by unfold maxLen; omega) (by omega) (Nat.le_trans (Nat.le_of_eq hN0.out.symm) hN.size) ?_
          intro og oc Wcb ow2 hgr hor
          have xl := (own_lt xb).2
          replace xb := Box.keep xb hgr hxe
          replace hxe : xg ≠ og := by rcases hor with e | e <;> omega
          clear xl
          replace hN := hN.grown hgr (Nat.le_trans (Nat.le_of_eq hN0.out.symm) hN.size) (fun g e => by cases e; exact (own_lt ow).1)
          clear hor hgr
          replace ow := ow2
          clear ow2
          try simp only [Act.put]
          have hHeld := HC.out _ hN
          refine hK.out _ _ (.inr hHeld) ?_
          clear hK K
          refine MAny.ready (rs := [6]) (by kernel_rfl) (by simp) ?_
          refine MReady.cons rfl (fun K hK => ?_) MReady.nil
          go_simp
          refine hK.out _ _ (.inl rfl) ?_
          clear hK K
          refine MAny.done (by kernel_rfl) ?_ _
          try simp only [List.getElem_toArray, List.getElem_cons_succ, List.getElem_cons_zero]
          have hN := HNN.out _ hN
          have ow := own_base ow (by rw [← hN0.out]; exact D.size)
          replace loc := Box.below loc hN
          replace xl := Box.below xl hN
          replace own := own_below own hN
          replace K0 := K0.below hN
          replace D := D.below hN
          have ow : Wcb.ownsRow w.heap.size 49 3 (.slice (some ⟨og, 0, none⟩) (sts.length + 1) oc) (sts.length + 1) ((sts ++ [(⟨pl, d, d + r2⟩ : St)]).flatMap encSt) := by rw [List.flatMap_append]; exact ow
          clear hN HC HO HNN hN0 hHeld hxe xb
          have x2 := Box.cell xl 2 _ rfl
          have b0 := Box.cell loc 0 _ rfl
          have b1 := Box.cell loc 1 _ rfl
          have HIT2 := Lib.hid (fun W hK h2 => HIT.out W (some ⟨og, 0, none⟩) oc (sts ++ [(⟨pl, d, d + r2⟩ : St)]) (by simp; omega) hK h2)
          have hl1 : (sts ++ [(⟨pl, d, d + r2⟩ : St)]).length = sts.length + 1 := by simp
          rw [hl1] at HIT2
          go_wp2_with fail
          refine (HIT2.out _ K0 (Rd.of_own encSt_len (by decide) ow)).mono ?_
          rintro e U1 ⟨rfl, hB1⟩
          clear HIT2 hl1 x2 b0 b1
          replace loc := Box.below loc hB1
          replace xl := Box.below xl hB1
          replace own := own_below own hB1
          replace ow := own_below ow hB1
          replace K0 := K0.below hB1
          replace D := D.below hB1
          clear hB1
          have x2 := Box.cell xl 2 _ rfl
          generalize isItinB ns ws (sts ++ [(⟨pl, d, d + r2⟩ : St)]) = bi
          cases bi
          · clear x2
            go_wp2_with fail
            refine (HN.out 20 _ (by decide) (by decide) D.src).mono ?_
            rintro e U2 ⟨r3, rfl, hr3, hr4, hs, hG⟩
            replace loc := Box.keepA loc hG D.hp
            replace xl := Box.keepA xl hG D.hp
            replace own := own_keepA own hG D.hp
            replace ow := own_keepA ow hG D.hp
            replace K0 := K0.call hG
            replace D := D.call hs hG
            clear hs hG
            have x2 := Box.cell xl 2 _ rfl
            by_cases h3 : r3 = 0
            · subst h3
              have v5 := i64_in (d + r2 + 1) (by omega)
              go_wp2_with fail
              refine (HN.out 25 _ (by decide) (by decide) D.src).mono ?_
              rintro e U3 ⟨r4, rfl, hq0, hq1, hs, hG⟩
              replace loc := Box.keepA loc hG D.hp
              replace xl := Box.keepA xl hG D.hp
              replace own := own_keepA own hG D.hp
              replace ow := own_keepA ow hG D.hp
              replace K0 := K0.call hG
              replace D := D.call hs hG
              clear hs hG
              have v6 := i64_in ((d + r2) + 1 + r4) (by omega)
              have v7 := i64_in ((k : Int) - 1) (by omega)
              have v8 : ((k - 1 : Nat) : Int) = (k : Int) - 1 := by omega
              go_wp2
              go_roundw
              case rel => exact ⟨k - 1, (d + r2) + 1 + r4, og, oc, sts ++ [⟨pl, d, d + r2⟩], by omega, by rw [v8], rfl, by omega, by simp, by simp; omega, by simpa using ow, loc, K0, D⟩
              case measure => simp [intOf]; omega
            · have h3' : (r3 == 0) = false := by simpa using h3
              have v5 := i64_in (d + 1) (by omega)
              clear x2
              go_wp2_with fail
              refine (HN.out 25 _ (by decide) (by decide) D.src).mono ?_
              rintro e U3 ⟨r4, rfl, hq0, hq1, hs, hG⟩
              replace loc := Box.keepA loc hG D.hp
              replace xl := Box.keepA xl hG D.hp
              replace own := own_keepA own hG D.hp
              replace ow := own_keepA ow hG D.hp
              replace K0 := K0.call hG
              replace D := D.call hs hG
              clear hs hG
              have v6 := i64_in (d + 1 + r4) (by omega)
              have v7 := i64_in ((k : Int) - 1) (by omega)
              have v8 : ((k - 1 : Nat) : Int) = (k : Int) - 1 := by omega
              go_wp2
              go_roundw
              case rel => exact ⟨k - 1, d + 1 + r4, g, c, sts, by omega, by rw [v8], rfl, by omega, rfl, by omega, own, loc, K0, D⟩
              case measure => simp [intOf]; omega
          · have v5 := i64_in (d + r2 + 1) (by omega)
            go_wp2_with fail
            refine (HN.out 25 _ (by decide) (by decide) D.src).mono ?_
            rintro e U3 ⟨r4, rfl, hq0, hq1, hs, hG⟩
            replace loc := Box.keepA loc hG D.hp
            replace xl := Box.keepA xl hG D.hp
            replace own := own_keepA own hG D.hp
            replace ow := own_keepA ow hG D.hp
            replace K0 := K0.call hG
            replace D := D.call hs hG
            clear hs hG
            have v6 := i64_in ((d + r2) + 1 + r4) (by omega)
            have v7 := i64_in ((k : Int) - 1) (by omega)
            have v8 : ((k - 1 : Nat) : Int) = (k : Int) - 1 := by omega
            go_wp2
            go_roundw
            case rel => exact ⟨k - 1, (d + r2) + 1 + r4, og, oc, sts ++ [⟨pl, d, d + r2⟩], by omega, by rw [v8], rfl, by omega, by simp, by simp; omega, by simpa using ow, loc, K0, D⟩
            case measure => simp [intOf]; omega
/-- A drawn land's rows in the blocks from B on. -/
structure LandD (B : Nat) (w : World) (a0 a1 : Option Addr) (c0 c1 : Nat) (ns : List ByteArray) (ws : List Wy) : Prop where
  n1 : ns.length ≤ 7
  n2 : ws.length ≤ 10
  n3 : ∀ m ∈ ns, m.size ≤ 7
  r0 : w.ownsRow B 9 1 (.slice a0 ns.length c0) ns.length (ns.flatMap encS)
  r1 : w.ownsRow B 125 3 (.slice a1 ws.length c1) ws.length (ws.flatMap encWy)
theorem LandD.below {B : Nat} {w w' : World} {a0 a1 : Option Addr} {c0 c1 : Nat} {ns : List ByteArray} {ws : List Wy} (h : LandD B w a0 a1 c0 c1 ns ws) (hB : Below w.heap.size w w') : LandD B w' a0 a1 c0 c1 ns ws := ⟨h.n1, h.n2, h.n3, own_below h.r0 hB, own_below h.r1 hB⟩
theorem LandD.base {B B' : Nat} {w : World} {a0 a1 : Option Addr} {c0 c1 : Nat} {ns : List ByteArray} {ws : List Wy} (h : LandD B w a0 a1 c0 c1 ns ws) (hB : B' ≤ B) : LandD B' w a0 a1 c0 c1 ns ws := ⟨h.n1, h.n2, h.n3, own_base h.r0 hB, own_base h.r1 hB⟩
theorem LandD.rd0 {B : Nat} {w : World} {a0 a1 : Option Addr} {c0 c1 : Nat} {ns : List ByteArray} {ws : List Wy} (h : LandD B w a0 a1 c0 c1 ns ws) : Rd encS w a0 ns := Rd.of_own encS_len (by decide) h.r0
theorem LandD.rd1 {B : Nat} {w : World} {a0 a1 : Option Addr} {c0 c1 : Nat} {ns : List ByteArray} {ws : List Wy} (h : LandD B w a0 a1 c0 c1 ns ws) : Rd encWy w a1 ws := Rd.of_own encWy_len (by decide) h.r1
theorem LandD.cap {B : Nat} {w : World} {a0 a1 : Option Addr} {c0 c1 : Nat} {ns : List ByteArray} {ws : List Wy} (h : LandD B w a0 a1 c0 c1 ns ws) : ns.length ≤ c0 ∧ c0 ≤ 9223372036854775807 := by
  rcases h.r0.2 with ⟨e, e2⟩ | ⟨g', cap', cur, e, _, _, h1, h2, _⟩
  · injection e with _ e3 e4
    omega
  · injection e with e1 e2 e3
    subst e3
    exact ⟨h1, h2⟩
theorem LandK.toD {B B' C p : Nat} {w : World} {a0 a1 : Option Addr} {c0 c1 : Nat} {ns : List ByteArray} {ws : List Wy} (h : LandK B C p w a0 a1 c0 c1 ns ws) (hB : B' ≤ B) : LandD B' w a0 a1 c0 c1 ns ws := ⟨h.n1, h.n2, h.n3, own_base h.r0.row hB, own_base h.r1.row hB⟩
theorem LandK.re {B B' C p : Nat} {w : World} {a0 a1 : Option Addr} {c0 c1 : Nat} {ns : List ByteArray} {ws : List Wy} (h : LandK B C p w a0 a1 c0 c1 ns ws) {q : Nat} (hB : B' ≤ B) (hq : q < B') : LandK B' w.heap.size q w a0 a1 c0 c1 ns ws :=
  ⟨h.n1, h.n2, h.n3, Own.of (own_base h.r0.row hB), Own.of (own_base h.r1.row hB), hq⟩
set_option maxRecDepth 100000 in
set_option maxHeartbeats 1000000 in
theorem l15DrawDay_any (w0 : World) (cs : Option Addr) (cap : Nat) (bs : List Int) (p : Nat) (w : World) (hx : Rd encB w0 cs bs) (hb : ∀ m ∈ bs, goodB m) (hl : bs.length ≤ 4096) (hs : Src w0 cs cap bs p w) :
    Calls Tryz.prog 38 #[.pointer (some ⟨p, 0, none⟩)] w fun e w' => ∃ r : Int, e = .returned (.int .i64 r) ∧ (-1 ≤ r ∧ r ≤ 730500) ∧ Src w0 cs cap bs p w' ∧ w.grownBy w' (some p) := by
  have D := Drw.start hs
  have HN := Lib.hid (fun n W hn1 hn2 hs => l01Next_any w0 cs cap bs p n W hx hb hl hn1 hn2 hs)
  have HDD := Lib.hid (fun W hs => l01DrawDay_any w0 cs cap bs p W hx hb hl hs)
  clear hs
  go_enter Tryz.func38, Tryz.ntmps38
  go_wp2_with fail
  refine (HN.out 24 _ (by decide) (by decide) D.src).mono ?_
  rintro e w1 ⟨r, rfl, hr0, hr1, hs, hG⟩
  replace D := D.call hs hG
  clear hs hG
  by_cases h0 : r = 0
  · subst h0
    go_wp2_with fail
    refine (HDD.out _ D.src).mono ?_
    rintro e w2 ⟨q, rfl, hq, hs, hG⟩
    replace D := D.call hs hG
    go_wp2
    go_ret
    exact ⟨_, rfl, hq, D.src, D.gr⟩
  · have h0' : (r == 0) = false := by simpa using h0
    go_wp2_with fail
    refine (HN.out 550 _ (by decide) (by decide) D.src).mono ?_
    rintro e w2 ⟨q, rfl, hq0, hq1, hs, hG⟩
    replace D := D.call hs hG
    have v1 := i64_in (420000 + q) (by omega)
    go_wp2
    go_ret
    exact ⟨_, rfl, by omega, D.src, D.gr⟩
set_option maxRecDepth 100000 in
set_option maxHeartbeats 8000000 in
theorem l15Draw_any (w0 : World) (cs : Option Addr) (cap : Nat) (bs : List Int) (p : Nat) (w : World) (hx : Rd encB w0 cs bs) (hb : ∀ m ∈ bs, goodB m) (hl : bs.length ≤ 4096) (hs : Src w0 cs cap bs p w) :
    Calls Tryz.prog 36 #[.pointer (some ⟨p, 0, none⟩)] w fun e w' => ∃ (a0 a1 : Option Addr) (c0 c1 : Nat) (ns : List ByteArray) (ws : List Wy) (g c : Nat) (sts : List St), e = .returned (.tuple #[.agg #[.slice a0 ns.length c0, .slice a1 ws.length c1], .slice (some ⟨g, 0, none⟩) sts.length c]) ∧ LandK w.heap.size w'.heap.size p w' a0 a1 c0 c1 ns ws ∧ sts.length ≤ 5 ∧ w'.ownsRow w.heap.size 49 3 (.slice (some ⟨g, 0, none⟩) sts.length c) sts.length (sts.flatMap encSt) ∧ Src w0 cs cap bs p w' ∧ w.grownBy w' (some p) := by
  have D := Drw.start hs
  have res := Box.new w 35 [.slice none 0 0, .slice none 0 0] w.heap.size (Nat.le_refl _) (by simp)
  replace D := D.below (belowA w (.cells #[.slice none 0 0, .slice none 0 0] 35))
  go_enter Tryz.func36, Tryz.ntmps36
  go_upto_region 1 with (fail)
  change Code.wp _ _ _ _ (w.alloc (.cells #[.slice none 0 0, .slice none 0 0] 35))
  have hs1 : w.heap.size < (w.alloc (.cells #[.slice none 0 0, .slice none 0 0] 35)).heap.size := by simp
  change Box _ (w.alloc (.cells #[.slice none 0 0, .slice none 0 0] 35)) _ _ _ at res
  generalize w.alloc (.cells #[.slice none 0 0, .slice none 0 0] 35) = w1 at res D hs1 ⊢
  go_wp2_with fail
  refine (l14Draw_any w0 cs cap bs p w1 hx hb hl D.src).mono ?_
  rintro e w2 ⟨a0, a1, c0, c1, ns, ws, rfl, hn1, hn2, hn3, hs2, hG, q0, q1⟩
  replace res := Box.keepA res hG D.hp
  have K0 : LandK w1.heap.size w2.heap.size p w2 a0 a1 c0 c1 ns ws := ⟨hn1, hn2, hn3, Own.of q0, Own.of q1, by have := D.hp; omega⟩
  replace D := D.call hs2 hG
  have hwl : w.heap.size ≠ w2.heap.size := by have := hG.size; omega
  clear hs2 hG q0 q1 hn1 hn2 hn3 hs
  have hC := Nat.le_refl w2.heap.size
  have loc := Box.new w2 35 [.slice a0 ns.length c0, .slice a1 ws.length c1] w.heap.size D.size (by simp)
  have hBA := belowA w2 (.cells #[.slice a0 ns.length c0, .slice a1 ws.length c1] 35)
  replace res := Box.below res hBA
  replace K0 := K0.below hBA
  replace D := D.below hBA
  replace hC := Nat.le_trans hC hBA.size
  clear hBA
  go_upto_region 2 with (fail)
  change Code.wp _ _ _ _ (w2.alloc (.cells #[.slice a0 ns.length c0, .slice a1 ws.length c1] 35))
  generalize w2.alloc (.cells #[.slice a0 ns.length c0, .slice a1 ws.length c1] 35) = w3 at res loc K0 D hC ⊢
  generalize hlb : w2.heap.size = lb at loc hwl K0 hC ⊢
  clear hlb
  refine MAny.region (S := fun w' => w'.cell? ⟨lb, 0, none⟩ = some (.slice a0 ns.length c0) ∧ w'.cell? ⟨lb, 1, none⟩ = some (.slice a1 ws.length c1)) (last := 5) (by kernel_rfl) ?_
  replace loc := Box.below loc (Below.refl _ w3).drew
  replace K0 := K0.below (Below.refl _ w3).drew
  replace D := D.below (Below.refl _ w3).drew
  replace res := Box.below res (Below.refl _ w3).drew
  have hC := Nat.le_trans hC (show w3.heap.size ≤ w3.drew.heap.size from Nat.le_refl _)
  generalize w3.drew = W0 at loc K0 D res hC ⊢
  have hW0 : w.heap.size < W0.heap.size := Nat.lt_of_le_of_ne (Nat.le_trans (own_lt res).1 (Nat.le_of_lt (own_lt res).2)) (Nat.ne_of_lt (own_lt res).2)
  have hHeld := And.intro (Box.cell loc 0 _ rfl) (Box.cell loc 1 _ rfl)
  refine MAny.take (i := 0) (v := ?_) rfl (by kernel_rfl) (by kernel_rfl) (by kernel_rfl) (fun _ _ _ h => h) (by kernel_rfl) (Or.inl ⟨by rfl, ?_⟩) (by assumption) ?_
  rotate_left
  · (intro w' hSw; (try dsimp only at hSw); go_simp; try (with_reducible rfl))
  try simp only [Act.put, List.setIfInBounds_toArray]
  refine MAny.take (i := 1) (v := ?_) rfl (by kernel_rfl) (by kernel_rfl) (by kernel_rfl) (fun _ _ _ h => h) (by kernel_rfl) (Or.inl ⟨by rfl, ?_⟩) (by assumption) ?_
  rotate_left
  · (intro w' hSw; (try dsimp only at hSw); go_simp; try (with_reducible rfl))
  try simp only [Act.put]
  refine MAny.take (i := 2) (v := ?_) rfl (by kernel_rfl) (by kernel_rfl) (by kernel_rfl) (fun _ _ _ h => h) (by kernel_rfl) (Or.inl ⟨by rfl, ?_⟩) (by assumption) ?_
  rotate_left
  · (intro w' hSw; (try dsimp only at hSw); go_simp; try (with_reducible rfl))
  try simp only [Act.put]
  refine MAny.ready (rs := [3]) (by kernel_rfl) (by simp) ?_
  refine MReady.cons rfl (fun K hK => ?_) MReady.nil
  go_simp
  go_wp2_with (go_at_call 81; refine (l15DrawFor_any w0 cs cap bs p w1.heap.size lb a0 a1 c0 c1 ns ws W0 hx hb hl D.src K0 hC).mono ?_; rintro e W1 ⟨g, c, sts, rfl, hsl, own, hs, hG⟩)
  replace res := Box.keepA res hG D.hp
  replace loc := Box.keepA loc hG D.hp
  replace K0 := K0.call hG
  replace D := D.call hs hG
  clear hs hG
  have hHeld := And.intro (Box.cell loc 0 _ rfl) (Box.cell loc 1 _ rfl)
  refine hK.out _ _ (.inr hHeld) ?_
  clear hK K
  have r0 := Box.cell res 0 _ rfl
  have f0 := World.ownsRow.frozenAt res 0
  have r1 := Box.cell res 1 _ rfl
  have f1 := World.ownsRow.frozenAt res 1
  have hp := Box.put2 res (.slice a0 ns.length c0) (.slice a1 ws.length c1)
  have y0 : ((W1.setCell ⟨w.heap.size, 0, none⟩ (.slice a0 ns.length c0)).cell? ⟨w.heap.size, 1, none⟩) = some (.slice none 0 0) := by have := Box.cell (Box.put (i := 0) (pre := []) (post := [.slice none 0 0]) res rfl (.slice a0 ns.length c0)).1 1 _ rfl; exact this
  have loc2 := Box.keep loc hp.2 (Ne.symm hwl)
  have hHeld2 := And.intro (Box.cell loc2 0 _ rfl) (Box.cell loc2 1 _ rfl)
  have z0 := Box.cell hp.1 0 _ rfl
  have z1 := Box.cell hp.1 1 _ rfl
  have hKP := (K0.kept hp.2 (fun g e => by cases e; exact .inl hs1)).re (Nat.le_of_lt hs1) D.hp
  have hD := D.store hp.2 (Nat.le_refl _)
  have own2 := own_base (own_keepA own hp.2 hW0) (Nat.le_of_lt hW0)
  have HF := Lib.hid (And.intro hKP (And.intro own2 (And.intro hD.src hD.gr)))
  clear hKP hD own2
  clear hp loc2
  refine MAny.ready (rs := [4]) (by kernel_rfl) (by simp) ?_
  refine MReady.cons rfl (fun K hK => ?_) MReady.nil
  go_simp
  refine hK.out _ _ (.inr hHeld2) ?_
  clear hK K
  refine MAny.ready (rs := [5]) (by kernel_rfl) (by simp) ?_
  refine MReady.cons rfl (fun K hK => ?_) MReady.nil
  go_simp
  refine hK.out _ _ (.inl rfl) ?_
  clear hK K
  refine MAny.done (by kernel_rfl) ?_ _
  try simp only [List.getElem_toArray, List.getElem_cons_succ, List.getElem_cons_zero]
  go_wp2
  refine bodyPost_ret_by (v := .tuple #[.agg #[.slice a0 ns.length c0, .slice a1 ws.length c1], .slice (some ⟨g, 0, none⟩) sts.length c]) ?_ rfl ?_
  · simp [results, go_sem, z0, z1]
  · exact ⟨a0, a1, c0, c1, ns, ws, g, c, sts, rfl, HF.out.1, hsl, HF.out.2.1, HF.out.2.2.1, HF.out.2.2.2⟩






























































































































































































































































































































































































































end

section
open Go.ChangeShapes Go.WideShapes Go.ChangeAt Go.RowKit Go.IntWalk

set_option maxRecDepth 100000 in
set_option maxHeartbeats 8000000 in
theorem drawCouldBe_any (cs : Option Addr) (cap : Nat) (bs : List Int) (w : World) (hx : Rd encB w cs bs) (hb : ∀ m ∈ bs, goodB m) (hl : bs.length ≤ 4096) :
    Calls Tryz.prog 11 #[.slice cs bs.length cap] w fun e w' => ∃ (a0 a1 : Option Addr) (c0 c1 : Nat) (ns : List ByteArray) (ws : List Wy) (g c : Nat) (sts : List St) (q z : Int), e = .returned (.tuple #[.agg #[.slice a0 ns.length c0, .slice a1 ws.length c1], .slice (some ⟨g, 0, none⟩) sts.length c, .int .i64 q, .int .i64 z]) ∧ LandD w.heap.size w' a0 a1 c0 c1 ns ws ∧ sts.length ≤ 5 ∧ (-1 ≤ z ∧ z ≤ 730500) ∧ w'.ownsRow w.heap.size 49 3 (.slice (some ⟨g, 0, none⟩) sts.length c) sts.length (sts.flatMap encSt) ∧ Below w.heap.size w w' := by
  have hr1 := Box.new w 35 [.slice none 0 0, .slice none 0 0] w.heap.size (Nat.le_refl _) (by simp)
  have hB1 := belowA w (.cells #[.slice none 0 0, .slice none 0 0] 35)
  have hs1 : w.heap.size < (w.alloc (.cells #[.slice none 0 0, .slice none 0 0] 35)).heap.size := by simp
  change Box _ (w.alloc (.cells #[.slice none 0 0, .slice none 0 0] 35)) _ _ _ at hr1
  generalize hW1 : w.alloc (.cells #[.slice none 0 0, .slice none 0 0] 35) = w1 at hr1 hB1 hs1
  have hrl := (Box.lt hr1).2
  have hx1 := hx.below hB1
  go_enter Tryz.func11, Tryz.ntmps11
  go_wp2_with fail
  clear hW1
  refine (l01From_any cs cap bs w1 hx1 hb).mono ?_
  rintro e w2 ⟨p, rfl, hs⟩
  have res := Box.below hr1 hs.base
  have hpl := hs.lt
  have hwp : w.heap.size ≠ p := by omega
  have hw2 : w.heap.size < w2.heap.size := by omega
  go_wp2_with fail
  refine (l15Draw_any w1 cs cap bs p w2 hx1 hb hl hs).mono ?_
  rintro e w3 ⟨a0, a1, c0, c1, ns, ws, g, c, sts, rfl, K0, hsl, own, hs3, hG⟩
  replace res := Box.keep res hG hwp
  have D : Drw w1 cs cap bs p w2 w3 := ⟨hs3, hG, hpl.2⟩
  replace K0 : LandK w2.heap.size w3.heap.size p w3 a0 a1 c0 c1 ns ws := K0
  clear hs3 hG hr1 hs
  have loc := Box.new w3 35 [.slice a0 ns.length c0, .slice a1 ws.length c1] w2.heap.size D.size (by simp)
  have hwl : w.heap.size ≠ w3.heap.size := by have := D.size; omega
  have hC := Nat.le_refl w3.heap.size
  have hBA := belowA w3 (.cells #[.slice a0 ns.length c0, .slice a1 ws.length c1] 35)
  replace res := Box.below res hBA
  replace own := own_below own hBA
  replace K0 := K0.below hBA
  replace D := D.below hBA
  replace hC := Nat.le_trans hC hBA.size
  clear hBA
  go_upto_region 3 with (fail)
  change Code.wp _ _ _ _ (w3.alloc (.cells #[.slice a0 ns.length c0, .slice a1 ws.length c1] 35))
  generalize w3.alloc (.cells #[.slice a0 ns.length c0, .slice a1 ws.length c1] 35) = w4 at res loc own K0 D hC ⊢
  generalize hlb : w3.heap.size = lb at loc hwl K0 hC ⊢
  clear hlb
  refine MAny.region (S := fun w' => w'.cell? ⟨lb, 0, none⟩ = some (.slice a0 ns.length c0) ∧ w'.cell? ⟨lb, 1, none⟩ = some (.slice a1 ws.length c1)) (last := 10) (by kernel_rfl) ?_
  replace loc := Box.below loc (Below.refl _ w4).drew
  replace K0 := K0.below (Below.refl _ w4).drew
  replace D := D.below (Below.refl _ w4).drew
  replace res := Box.below res (Below.refl _ w4).drew
  replace own := own_below own (Below.refl _ w4).drew
  have hC := Nat.le_trans hC (show w4.heap.size ≤ w4.drew.heap.size from Nat.le_refl _)
  generalize w4.drew = W0 at loc K0 D res hC own ⊢
  have hHeld := And.intro (Box.cell loc 0 _ rfl) (Box.cell loc 1 _ rfl)
  refine MAny.take (i := 0) (v := ?_) rfl (by kernel_rfl) (by kernel_rfl) (by kernel_rfl) (fun _ _ _ h => h) (by kernel_rfl) (Or.inl ⟨by rfl, ?_⟩) (by assumption) ?_
  rotate_left
  · (intro w' hSw; (try dsimp only at hSw); go_simp; try (with_reducible rfl))
  try simp only [Act.put, List.setIfInBounds_toArray]
  refine MAny.take (i := 1) (v := ?_) rfl (by kernel_rfl) (by kernel_rfl) (by kernel_rfl) (fun _ _ _ h => h) (by kernel_rfl) (Or.inl ⟨by rfl, ?_⟩) (by assumption) ?_
  rotate_left
  · (intro w' hSw; (try dsimp only at hSw); go_simp; try (with_reducible rfl))
  try simp only [Act.put]
  refine MAny.take (i := 2) (v := ?_) rfl (by kernel_rfl) (by kernel_rfl) (by kernel_rfl) (fun _ _ _ h => h) (by kernel_rfl) (Or.inl ⟨by rfl, ?_⟩) (by assumption) ?_
  rotate_left
  · (intro w' hSw; (try dsimp only at hSw); go_simp; try (with_reducible rfl))
  try simp only [Act.put]
  refine MAny.take (i := 3) (v := ?_) rfl (by kernel_rfl) (by kernel_rfl) (by kernel_rfl) (fun _ _ _ h => h) (by kernel_rfl) (Or.inl ⟨by rfl, ?_⟩) (by assumption) ?_
  rotate_left
  · (intro w' hSw; (try dsimp only at hSw); go_simp; try (with_reducible rfl))
  try simp only [Act.put]
  refine MAny.take (i := 5) (v := ?_) rfl (by kernel_rfl) (by kernel_rfl) (by kernel_rfl) (fun _ _ _ h => h) (by kernel_rfl) (Or.inl ⟨by rfl, ?_⟩) (by assumption) ?_
  rotate_left
  · (intro w' hSw; (try dsimp only at hSw); go_simp; try (with_reducible rfl))
  try simp only [Act.put]
  refine MAny.ready (rs := [4]) (by kernel_rfl) (by simp) ?_
  refine MReady.cons rfl (fun K hK => ?_) MReady.nil
  go_simp
  go_wp2_with (go_at_call 37; refine (l14DrawPlace_any w1 cs cap bs p a0 a1 ns.length ws.length c0 c1 W0 hx1 hb hl D.src (by have := K0.n1; omega)).mono ?_; rintro e W1 ⟨q, rfl, hs, hG⟩)
  replace res := Box.keep res hG hwp
  replace loc := Box.keepA loc hG D.hp
  replace own := own_keepA own hG (by have := D.hp; have := D.size; omega)
  replace K0 := K0.call hG
  replace D := D.call hs hG
  clear hs hG
  have hHeld := And.intro (Box.cell loc 0 _ rfl) (Box.cell loc 1 _ rfl)
  refine hK.out _ _ (.inr hHeld) ?_
  clear hK K
  refine MAny.ready (rs := [6]) (by kernel_rfl) (by simp) ?_
  refine MReady.cons rfl (fun K hK => ?_) MReady.nil
  go_simp
  go_wp2_with (go_at_call 38; refine (l15DrawDay_any w1 cs cap bs p W1 hx1 hb hl D.src).mono ?_; rintro e W2 ⟨z, rfl, hz, hs, hG⟩)
  replace res := Box.keep res hG hwp
  replace loc := Box.keepA loc hG D.hp
  replace own := own_keepA own hG (by have := D.hp; have := D.size; omega)
  replace K0 := K0.call hG
  replace D := D.call hs hG
  clear hs hG
  have hHeld := And.intro (Box.cell loc 0 _ rfl) (Box.cell loc 1 _ rfl)
  refine hK.out _ _ (.inr hHeld) ?_
  clear hK K
  have r0 := Box.cell res 0 _ rfl
  have f0 := World.ownsRow.frozenAt res 0
  have r1 := Box.cell res 1 _ rfl
  have f1 := World.ownsRow.frozenAt res 1
  have hp := Box.put2 res (.slice a0 ns.length c0) (.slice a1 ws.length c1)
  have y0 : ((W2.setCell ⟨w.heap.size, 0, none⟩ (.slice a0 ns.length c0)).cell? ⟨w.heap.size, 1, none⟩) = some (.slice none 0 0) := by have := Box.cell (Box.put (i := 0) (pre := []) (post := [.slice none 0 0]) res rfl (.slice a0 ns.length c0)).1 1 _ rfl; exact this
  have loc2 := Box.keep loc hp.2 (Ne.symm hwl)
  have hHeld2 := And.intro (Box.cell loc2 0 _ rfl) (Box.cell loc2 1 _ rfl)
  have z0 := Box.cell hp.1 0 _ rfl
  have z1 := Box.cell hp.1 1 _ rfl
  have hKP := (K0.kept hp.2 (fun g e => by cases e; exact .inl hw2)).toD (Nat.le_of_lt hw2)
  have own1 := own_base (own_keepA own hp.2 hw2) (Nat.le_of_lt hw2)
  have hBW := (stepB hB1 D.base hB1.size).grown hp.2 (stepB hB1 D.base hB1.size).size (fun g e => by cases e; exact Nat.le_refl _)
  have HF := Lib.hid (And.intro hKP (And.intro own1 hBW))
  clear hKP own1 hBW
  clear hp loc2
  refine MAny.ready (rs := [7]) (by kernel_rfl) (by simp) ?_
  refine MReady.cons rfl (fun K hK => ?_) MReady.nil
  go_simp
  refine hK.out _ _ (.inr hHeld2) ?_
  clear hK K
  refine MAny.ready (rs := [8]) (by kernel_rfl) (by simp) ?_
  refine MReady.cons rfl (fun K hK => ?_) MReady.nil
  go_simp
  refine hK.out _ _ (.inr hHeld2) ?_
  clear hK K
  refine MAny.ready (rs := [9]) (by kernel_rfl) (by simp) ?_
  refine MReady.cons rfl (fun K hK => ?_) MReady.nil
  go_simp
  refine hK.out _ _ (.inr hHeld2) ?_
  clear hK K
  refine MAny.ready (rs := [10]) (by kernel_rfl) (by simp) ?_
  refine MReady.cons rfl (fun K hK => ?_) MReady.nil
  go_simp
  refine hK.out _ _ (.inl rfl) ?_
  clear hK K
  refine MAny.done (by kernel_rfl) ?_ _
  try simp only [List.getElem_toArray, List.getElem_cons_succ, List.getElem_cons_zero]
  go_wp2
  refine bodyPost_ret_by (v := .tuple #[.agg #[.slice a0 ns.length c0, .slice a1 ws.length c1], .slice (some ⟨g, 0, none⟩) sts.length c, .int .i64 q, .int .i64 z]) ?_ rfl ?_
  · simp [results, go_sem, z0, z1]
  · exact ⟨a0, a1, c0, c1, ns, ws, g, c, sts, _, z, rfl, HF.out.1, hsl, hz, HF.out.2.1, HF.out.2.2⟩
set_option maxRecDepth 100000 in
set_option maxHeartbeats 8000000 in
theorem drawPlaceOn_any (cs : Option Addr) (cap : Nat) (bs : List Int) (w : World) (hx : Rd encB w cs bs) (hb : ∀ m ∈ bs, goodB m) (hl : bs.length ≤ 4096) :
    Calls Tryz.prog 14 #[.slice cs bs.length cap] w fun e w' => ∃ (a0 a1 : Option Addr) (c0 c1 : Nat) (ns : List ByteArray) (ws : List Wy) (g c : Nat) (sts : List St) (z : Int), e = .returned (.tuple #[.agg #[.slice a0 ns.length c0, .slice a1 ws.length c1], .slice (some ⟨g, 0, none⟩) sts.length c, .int .i64 z]) ∧ LandD w.heap.size w' a0 a1 c0 c1 ns ws ∧ sts.length ≤ 5 ∧ (-1 ≤ z ∧ z ≤ 730500) ∧ w'.ownsRow w.heap.size 49 3 (.slice (some ⟨g, 0, none⟩) sts.length c) sts.length (sts.flatMap encSt) ∧ Below w.heap.size w w' := by
  have hr1 := Box.new w 35 [.slice none 0 0, .slice none 0 0] w.heap.size (Nat.le_refl _) (by simp)
  have hB1 := belowA w (.cells #[.slice none 0 0, .slice none 0 0] 35)
  have hs1 : w.heap.size < (w.alloc (.cells #[.slice none 0 0, .slice none 0 0] 35)).heap.size := by simp
  change Box _ (w.alloc (.cells #[.slice none 0 0, .slice none 0 0] 35)) _ _ _ at hr1
  generalize hW1 : w.alloc (.cells #[.slice none 0 0, .slice none 0 0] 35) = w1 at hr1 hB1 hs1
  have hrl := (Box.lt hr1).2
  have hx1 := hx.below hB1
  go_enter Tryz.func14, Tryz.ntmps14
  go_wp2_with fail
  clear hW1
  refine (l01From_any cs cap bs w1 hx1 hb).mono ?_
  rintro e w2 ⟨p, rfl, hs⟩
  have res := Box.below hr1 hs.base
  have hpl := hs.lt
  have hwp : w.heap.size ≠ p := by omega
  have hw2 : w.heap.size < w2.heap.size := by omega
  go_wp2_with fail
  refine (l15Draw_any w1 cs cap bs p w2 hx1 hb hl hs).mono ?_
  rintro e w3 ⟨a0, a1, c0, c1, ns, ws, g, c, sts, rfl, K0, hsl, own, hs3, hG⟩
  replace res := Box.keep res hG hwp
  have D : Drw w1 cs cap bs p w2 w3 := ⟨hs3, hG, hpl.2⟩
  replace K0 : LandK w2.heap.size w3.heap.size p w3 a0 a1 c0 c1 ns ws := K0
  clear hs3 hG hr1 hs
  have loc := Box.new w3 35 [.slice a0 ns.length c0, .slice a1 ws.length c1] w2.heap.size D.size (by simp)
  have hwl : w.heap.size ≠ w3.heap.size := by have := D.size; omega
  have hC := Nat.le_refl w3.heap.size
  have hBA := belowA w3 (.cells #[.slice a0 ns.length c0, .slice a1 ws.length c1] 35)
  replace res := Box.below res hBA
  replace own := own_below own hBA
  replace K0 := K0.below hBA
  replace D := D.below hBA
  replace hC := Nat.le_trans hC hBA.size
  clear hBA
  go_upto_region 3 with (fail)
  change Code.wp _ _ _ _ (w3.alloc (.cells #[.slice a0 ns.length c0, .slice a1 ws.length c1] 35))
  generalize w3.alloc (.cells #[.slice a0 ns.length c0, .slice a1 ws.length c1] 35) = w4 at res loc own K0 D hC ⊢
  generalize hlb : w3.heap.size = lb at loc hwl K0 hC ⊢
  clear hlb
  refine MAny.region (S := fun w' => w'.cell? ⟨lb, 0, none⟩ = some (.slice a0 ns.length c0) ∧ w'.cell? ⟨lb, 1, none⟩ = some (.slice a1 ws.length c1)) (last := 6) (by kernel_rfl) ?_
  replace loc := Box.below loc (Below.refl _ w4).drew
  replace K0 := K0.below (Below.refl _ w4).drew
  replace D := D.below (Below.refl _ w4).drew
  replace res := Box.below res (Below.refl _ w4).drew
  replace own := own_below own (Below.refl _ w4).drew
  have hC := Nat.le_trans hC (show w4.heap.size ≤ w4.drew.heap.size from Nat.le_refl _)
  generalize w4.drew = W0 at loc K0 D res hC own ⊢
  have hHeld := And.intro (Box.cell loc 0 _ rfl) (Box.cell loc 1 _ rfl)
  refine MAny.take (i := 0) (v := ?_) rfl (by kernel_rfl) (by kernel_rfl) (by kernel_rfl) (fun _ _ _ h => h) (by kernel_rfl) (Or.inl ⟨by rfl, ?_⟩) (by assumption) ?_
  rotate_left
  · (intro w' hSw; (try dsimp only at hSw); go_simp; try (with_reducible rfl))
  try simp only [Act.put, List.setIfInBounds_toArray]
  refine MAny.take (i := 1) (v := ?_) rfl (by kernel_rfl) (by kernel_rfl) (by kernel_rfl) (fun _ _ _ h => h) (by kernel_rfl) (Or.inl ⟨by rfl, ?_⟩) (by assumption) ?_
  rotate_left
  · (intro w' hSw; (try dsimp only at hSw); go_simp; try (with_reducible rfl))
  try simp only [Act.put]
  refine MAny.take (i := 2) (v := ?_) rfl (by kernel_rfl) (by kernel_rfl) (by kernel_rfl) (fun _ _ _ h => h) (by kernel_rfl) (Or.inl ⟨by rfl, ?_⟩) (by assumption) ?_
  rotate_left
  · (intro w' hSw; (try dsimp only at hSw); go_simp; try (with_reducible rfl))
  try simp only [Act.put]
  refine MAny.ready (rs := [3]) (by kernel_rfl) (by simp) ?_
  refine MReady.cons rfl (fun K hK => ?_) MReady.nil
  go_simp
  go_wp2_with (go_at_call 38; refine (l15DrawDay_any w1 cs cap bs p W0 hx1 hb hl D.src).mono ?_; rintro e W1 ⟨z, rfl, hz, hs, hG⟩)
  replace res := Box.keep res hG hwp
  replace loc := Box.keepA loc hG D.hp
  replace own := own_keepA own hG (by have := D.hp; have := D.size; omega)
  replace K0 := K0.call hG
  replace D := D.call hs hG
  clear hs hG
  have hHeld := And.intro (Box.cell loc 0 _ rfl) (Box.cell loc 1 _ rfl)
  refine hK.out _ _ (.inr hHeld) ?_
  clear hK K
  have r0 := Box.cell res 0 _ rfl
  have f0 := World.ownsRow.frozenAt res 0
  have r1 := Box.cell res 1 _ rfl
  have f1 := World.ownsRow.frozenAt res 1
  have hp := Box.put2 res (.slice a0 ns.length c0) (.slice a1 ws.length c1)
  have y0 : ((W1.setCell ⟨w.heap.size, 0, none⟩ (.slice a0 ns.length c0)).cell? ⟨w.heap.size, 1, none⟩) = some (.slice none 0 0) := by have := Box.cell (Box.put (i := 0) (pre := []) (post := [.slice none 0 0]) res rfl (.slice a0 ns.length c0)).1 1 _ rfl; exact this
  have loc2 := Box.keep loc hp.2 (Ne.symm hwl)
  have hHeld2 := And.intro (Box.cell loc2 0 _ rfl) (Box.cell loc2 1 _ rfl)
  have z0 := Box.cell hp.1 0 _ rfl
  have z1 := Box.cell hp.1 1 _ rfl
  have hKP := (K0.kept hp.2 (fun g e => by cases e; exact .inl hw2)).toD (Nat.le_of_lt hw2)
  have own1 := own_base (own_keepA own hp.2 hw2) (Nat.le_of_lt hw2)
  have hBW := (stepB hB1 D.base hB1.size).grown hp.2 (stepB hB1 D.base hB1.size).size (fun g e => by cases e; exact Nat.le_refl _)
  have HF := Lib.hid (And.intro hKP (And.intro own1 hBW))
  clear hKP own1 hBW
  clear hp loc2
  refine MAny.ready (rs := [4]) (by kernel_rfl) (by simp) ?_
  refine MReady.cons rfl (fun K hK => ?_) MReady.nil
  go_simp
  refine hK.out _ _ (.inr hHeld2) ?_
  clear hK K
  refine MAny.ready (rs := [5]) (by kernel_rfl) (by simp) ?_
  refine MReady.cons rfl (fun K hK => ?_) MReady.nil
  go_simp
  refine hK.out _ _ (.inr hHeld2) ?_
  clear hK K
  refine MAny.ready (rs := [6]) (by kernel_rfl) (by simp) ?_
  refine MReady.cons rfl (fun K hK => ?_) MReady.nil
  go_simp
  refine hK.out _ _ (.inl rfl) ?_
  clear hK K
  refine MAny.done (by kernel_rfl) ?_ _
  try simp only [List.getElem_toArray, List.getElem_cons_succ, List.getElem_cons_zero]
  go_wp2
  refine bodyPost_ret_by (v := .tuple #[.agg #[.slice a0 ns.length c0, .slice a1 ws.length c1], .slice (some ⟨g, 0, none⟩) sts.length c, .int .i64 z]) ?_ rfl ?_
  · simp [results, go_sem, z0, z1]
  · exact ⟨a0, a1, c0, c1, ns, ws, g, c, sts, z, rfl, HF.out.1, hsl, hz, HF.out.2.1, HF.out.2.2⟩
set_option maxRecDepth 100000 in
set_option maxHeartbeats 8000000 in
theorem drawAddStay_any (cs : Option Addr) (cap : Nat) (bs : List Int) (w : World) (hx : Rd encB w cs bs) (hb : ∀ m ∈ bs, goodB m) (hl : bs.length ≤ 4096) :
    Calls Tryz.prog 19 #[.slice cs bs.length cap] w fun e w' => ∃ (a0 a1 : Option Addr) (c0 c1 : Nat) (ns : List ByteArray) (ws : List Wy) (g c : Nat) (sts : List St) (s : St), e = .returned (.tuple #[.agg #[.slice a0 ns.length c0, .slice a1 ws.length c1], .slice (some ⟨g, 0, none⟩) sts.length c, .agg #[.int .i64 s.place, .int .i64 s.fr, .int .i64 s.to]]) ∧ LandD w.heap.size w' a0 a1 c0 c1 ns ws ∧ sts.length ≤ 5 ∧ w'.ownsRow w.heap.size 49 3 (.slice (some ⟨g, 0, none⟩) sts.length c) sts.length (sts.flatMap encSt) ∧ Below w.heap.size w w' := by
  have hr1 := Box.new w 35 [.slice none 0 0, .slice none 0 0] w.heap.size (Nat.le_refl _) (by simp)
  have hq1 := Box.new (w.alloc (.cells #[.slice none 0 0, .slice none 0 0] 35)) 49 [.int .i64 0, .int .i64 0, .int .i64 0] w.heap.size (by simp) (by simp)
  have hr1 := Box.below hr1 (belowA (w.alloc (.cells #[.slice none 0 0, .slice none 0 0] 35)) (.cells #[.int .i64 0, .int .i64 0, .int .i64 0] 49))
  have hB1 : Below w.heap.size w ((w.alloc (.cells #[.slice none 0 0, .slice none 0 0] 35)).alloc (.cells #[.int .i64 0, .int .i64 0, .int .i64 0] 49)) := ((Below.refl _ w).alloc (Nat.le_refl _) _).alloc (by simp) _
  have hs1 : w.heap.size + 1 < ((w.alloc (.cells #[.slice none 0 0, .slice none 0 0] 35)).alloc (.cells #[.int .i64 0, .int .i64 0, .int .i64 0] 49)).heap.size := by simp
  change Box _ ((w.alloc (.cells #[.slice none 0 0, .slice none 0 0] 35)).alloc (.cells #[.int .i64 0, .int .i64 0, .int .i64 0] 49)) _ _ _ at hr1 hq1
  rw [show (w.alloc (.cells #[.slice none 0 0, .slice none 0 0] 35)).heap.size = w.heap.size + 1 by simp] at hq1
  generalize hW1 : (w.alloc (.cells #[.slice none 0 0, .slice none 0 0] 35)).alloc (.cells #[.int .i64 0, .int .i64 0, .int .i64 0] 49) = w1 at hr1 hq1 hB1 hs1
  have hx1 := hx.below hB1

  go_enter Tryz.func19, Tryz.ntmps19
  go_wp2_with fail
  clear hW1
  refine (l01From_any cs cap bs w1 hx1 hb).mono ?_
  rintro e w2 ⟨p, rfl, hs⟩
  have HN := Lib.hid (fun n W hn1 hn2 hs => l01Next_any w1 cs cap bs p n W hx1 hb hl hn1 hn2 hs)
  have HP := Lib.hid (fun a ca xs W hs hxs h1 h2 => l01Pick_any w1 cs cap bs p a ca xs W hx1 hb hl hs hxs h1 h2)
  have res := Box.below hr1 hs.base
  have rst := Box.below hq1 hs.base
  have hpl := hs.lt
  have hwp : w.heap.size ≠ p := by omega
  have hwq : w.heap.size + 1 ≠ p := by omega
  have hw2 : w.heap.size < w2.heap.size := by omega
  have hw3 : w.heap.size + 1 < w2.heap.size := by omega
  go_wp2_with fail
  refine (l15Draw_any w1 cs cap bs p w2 hx1 hb hl hs).mono ?_
  rintro e w3 ⟨a0, a1, c0, c1, ns, ws, g, c, sts, rfl, K0, hsl, own, hs3, hG⟩
  replace res := Box.keep res hG hwp
  replace rst := Box.keep rst hG hwq
  have D : Drw w1 cs cap bs p w2 w3 := ⟨hs3, hG, hpl.2⟩
  replace K0 : LandK w2.heap.size w3.heap.size p w3 a0 a1 c0 c1 ns ws := K0
  clear hs3 hG hr1 hq1 hs
  have loc := Box.new w3 35 [.slice a0 ns.length c0, .slice a1 ws.length c1] w2.heap.size D.size (by simp)
  have hwl : w.heap.size ≠ w3.heap.size := by have := D.size; omega
  have hC := Nat.le_refl w3.heap.size
  have hBA := belowA w3 (.cells #[.slice a0 ns.length c0, .slice a1 ws.length c1] 35)
  replace res := Box.below res hBA
  replace rst := Box.below rst hBA
  replace own := own_below own hBA
  replace K0 := K0.below hBA
  replace D := D.below hBA
  replace hC := Nat.le_trans hC hBA.size
  clear hBA
  go_upto_region 3 with (fail)
  change Code.wp _ _ _ _ (w3.alloc (.cells #[.slice a0 ns.length c0, .slice a1 ws.length c1] 35))
  generalize w3.alloc (.cells #[.slice a0 ns.length c0, .slice a1 ws.length c1] 35) = w4 at res rst loc own K0 D hC ⊢
  generalize hlb : w3.heap.size = lb at loc hwl K0 hC ⊢
  clear hlb
  go_wp2_with fail
  refine (l15DrawDay_any w1 cs cap bs p w4 hx1 hb hl D.src).mono ?_
  rintro e w5 ⟨d, rfl, hd, hs, hG⟩
  replace hC := Nat.le_trans hC hG.size
  replace res := Box.keep res hG hwp
  replace rst := Box.keep rst hG hwq
  replace loc := Box.keepA loc hG D.hp
  replace own := own_keepA own hG (by have := D.hp; have := D.size; omega)
  replace K0 := K0.call hG
  replace D := D.call hs hG
  clear hs hG
  go_wp2_with fail
  refine (HN.out 30 _ (by decide) (by decide) D.src).mono ?_
  rintro e w6 ⟨r, rfl, hr0, hr1, hs, hG⟩
  replace hC := Nat.le_trans hC hG.size
  replace res := Box.keep res hG hwp
  replace rst := Box.keep rst hG hwq
  replace loc := Box.keepA loc hG D.hp
  replace own := own_keepA own hG (by have := D.hp; have := D.size; omega)
  replace K0 := K0.call hG
  replace D := D.call hs hG
  clear hs hG
  by_cases h0 : r = 0
  · subst h0
    have v1 := i64_in (d - 1) (by omega)
    go_upto_region 5 with (fail)
    refine MAny.region (S := fun w' => w'.cell? ⟨lb, 0, none⟩ = some (.slice a0 ns.length c0) ∧ w'.cell? ⟨lb, 1, none⟩ = some (.slice a1 ws.length c1)) (last := 11) (by kernel_rfl) ?_
    replace loc := Box.below loc (Below.refl _ w6).drew
    replace K0 := K0.below (Below.refl _ w6).drew
    replace D := D.below (Below.refl _ w6).drew
    replace res := Box.below res (Below.refl _ w6).drew
    replace own := own_below own (Below.refl _ w6).drew
    replace rst := Box.below rst (Below.refl _ w6).drew
    have hC := Nat.le_trans hC (show w6.heap.size ≤ w6.drew.heap.size from Nat.le_refl _)
    generalize w6.drew = W0 at loc K0 D res hC own rst ⊢
    have hHeld := And.intro (Box.cell loc 0 _ rfl) (Box.cell loc 1 _ rfl)
    refine MAny.take (i := 0) (v := ?_) rfl (by kernel_rfl) (by kernel_rfl) (by kernel_rfl) (fun _ _ _ h => h) (by kernel_rfl) (Or.inl ⟨by rfl, ?_⟩) (by assumption) ?_
    rotate_left
    · (intro w' hSw; (try dsimp only at hSw); go_simp; try (with_reducible rfl))
    try simp only [Act.put, List.setIfInBounds_toArray]
    refine MAny.take (i := 1) (v := ?_) rfl (by kernel_rfl) (by kernel_rfl) (by kernel_rfl) (fun _ _ _ h => h) (by kernel_rfl) (Or.inl ⟨by rfl, ?_⟩) (by assumption) ?_
    rotate_left
    · (intro w' hSw; (try dsimp only at hSw); go_simp; try (with_reducible rfl))
    try simp only [Act.put]
    refine MAny.take (i := 2) (v := ?_) rfl (by kernel_rfl) (by kernel_rfl) (by kernel_rfl) (fun _ _ _ h => h) (by kernel_rfl) (Or.inl ⟨by rfl, ?_⟩) (by assumption) ?_
    rotate_left
    · (intro w' hSw; (try dsimp only at hSw); go_simp; try (with_reducible rfl))
    try simp only [Act.put]
    refine MAny.take (i := 3) (v := ?_) rfl (by kernel_rfl) (by kernel_rfl) (by kernel_rfl) (fun _ _ _ h => h) (by kernel_rfl) (Or.inl ⟨by rfl, ?_⟩) (by assumption) ?_
    rotate_left
    · (intro w' hSw; (try dsimp only at hSw); go_simp; try (with_reducible rfl))
    try simp only [Act.put]
    refine MAny.take (i := 5) (v := ?_) rfl (by kernel_rfl) (by kernel_rfl) (by kernel_rfl) (fun _ _ _ h => h) (by kernel_rfl) (Or.inl ⟨by rfl, ?_⟩) (by assumption) ?_
    rotate_left
    · (intro w' hSw; (try dsimp only at hSw); go_simp; try (with_reducible rfl))
    try simp only [Act.put]
    refine MAny.take (i := 6) (v := ?_) rfl (by kernel_rfl) (by kernel_rfl) (by kernel_rfl) (fun _ _ _ h => h) (by kernel_rfl) (Or.inl ⟨by rfl, ?_⟩) (by assumption) ?_
    rotate_left
    · (intro w' hSw; (try dsimp only at hSw); go_simp; try (with_reducible rfl))
    try simp only [Act.put]
    refine MAny.take (i := 7) (v := ?_) rfl (by kernel_rfl) (by kernel_rfl) (by kernel_rfl) (fun _ _ _ h => h) (by kernel_rfl) (Or.inl ⟨by rfl, ?_⟩) (by assumption) ?_
    rotate_left
    · (intro w' hSw; (try dsimp only at hSw); go_simp; try (with_reducible rfl))
    try simp only [Act.put]
    refine MAny.ready (rs := [4]) (by kernel_rfl) (by simp) ?_
    refine MReady.cons rfl (fun K hK => ?_) MReady.nil
    go_simp
    go_wp2_with (go_at_call 37; refine (l14DrawPlace_any w1 cs cap bs p a0 a1 ns.length ws.length c0 c1 W0 hx1 hb hl D.src (by have := K0.n1; omega)).mono ?_; rintro e W1 ⟨q, rfl, hs, hG⟩)
    replace res := Box.keep res hG hwp
    replace loc := Box.keepA loc hG D.hp
    replace own := own_keepA own hG (by have := D.hp; have := D.size; omega)
    replace rst := Box.keep rst hG hwq
    replace K0 := K0.call hG
    replace D := D.call hs hG
    clear hs hG
    have hHeld := And.intro (Box.cell loc 0 _ rfl) (Box.cell loc 1 _ rfl)
    refine hK.out _ _ (.inr hHeld) ?_
    clear hK K
    refine MAny.take (i := 8) (v := ?_) rfl (by kernel_rfl) (by kernel_rfl) (by kernel_rfl) (fun _ _ _ h => h) (by kernel_rfl) (Or.inl ⟨by rfl, ?_⟩) (by assumption) ?_
    rotate_left
    · (intro w' hSw; (try dsimp only at hSw); go_simp; try (with_reducible rfl))
    try simp only [Act.put, List.setIfInBounds_toArray]
    have r0 := Box.cell res 0 _ rfl
    have f0 := World.ownsRow.frozenAt res 0
    have r1 := Box.cell res 1 _ rfl
    have f1 := World.ownsRow.frozenAt res 1
    have hp := Box.put2 res (.slice a0 ns.length c0) (.slice a1 ws.length c1)
    have y0 : ((W1.setCell ⟨w.heap.size, 0, none⟩ (.slice a0 ns.length c0)).cell? ⟨w.heap.size, 1, none⟩) = some (.slice none 0 0) := by have := Box.cell (Box.put (i := 0) (pre := []) (post := [.slice none 0 0]) res rfl (.slice a0 ns.length c0)).1 1 _ rfl; exact this
    have loc2 := Box.keep loc hp.2 (Ne.symm hwl)
    have hHeld2 := And.intro (Box.cell loc2 0 _ rfl) (Box.cell loc2 1 _ rfl)
    have rs2 := Box.keep rst hp.2 (show w.heap.size + 1 ≠ w.heap.size by omega)
    obtain ⟨W9, hW9⟩ : ∃ W9, (W1.setCell ⟨w.heap.size, 0, none⟩ (.slice a0 ns.length c0)).setCell ⟨w.heap.size, 1, none⟩ (.slice a1 ws.length c1) = W9 := ⟨_, rfl⟩
    rw [hW9] at rs2 hp hHeld2
    refine MAny.ready (rs := [9]) (by kernel_rfl) (by simp) ?_
    refine MReady.cons rfl (fun K hK => ?_) MReady.nil
    go_simp
    refine hK.out _ _ (.inr hHeld2) ?_
    clear hK K
    refine MAny.ready (rs := [10]) (by kernel_rfl) (by simp) ?_
    refine MReady.cons rfl (fun K hK => ?_) MReady.nil
    go_simp
    refine hK.out _ _ (.inr hHeld2) ?_
    clear hK K
    clear hW9 y0 r0 r1 f0 f1 loc2
    have t0 := Box.cell rs2 0 _ rfl
    have t1 := Box.cell rs2 1 _ rfl
    have t2 := Box.cell rs2 2 _ rfl
    have g0 := World.ownsRow.frozenAt rs2 0
    have g1 := World.ownsRow.frozenAt rs2 1
    have g2 := World.ownsRow.frozenAt rs2 2
    have hq := Lib.hid (Box.put3 rs2 (.int .i64 q) (.int .i64 d) (.int .i64 (d - 1)))
    refine MAny.ready (rs := [11]) (by kernel_rfl) (by simp) ?_
    refine MReady.cons rfl (fun K hK => ?_) MReady.nil
    go_simp
    refine hK.out _ _ (.inl rfl) ?_
    clear hK K
    refine MAny.done (by kernel_rfl) ?_ _
    try simp only [List.getElem_toArray, List.getElem_cons_succ, List.getElem_cons_zero]
    replace hq := hq.out
    have ld2 := Box.keep hp.1 hq.2 (show w.heap.size ≠ w.heap.size + 1 by omega)
    have z0 := Box.cell ld2 0 _ rfl
    have z1 := Box.cell ld2 1 _ rfl
    have z2 := Box.cell hq.1 0 _ rfl
    have z3 := Box.cell hq.1 1 _ rfl
    have z4 := Box.cell hq.1 2 _ rfl
    have hKP := ((K0.kept hp.2 (fun g e => by cases e; exact .inl hw2)).kept hq.2 (fun g e => by cases e; exact .inl hw3)).toD (Nat.le_of_lt hw2)
    have own1 := own_base (own_keepA (own_keepA own hp.2 hw2) hq.2 hw3) (Nat.le_of_lt hw2)
    have hBW := ((stepB hB1 D.base hB1.size).grown hp.2 (stepB hB1 D.base hB1.size).size (fun g e => by cases e; exact Nat.le_refl _)).grown hq.2 (Nat.le_trans (stepB hB1 D.base hB1.size).size hp.2.size) (fun g e => by cases e; omega)
    have HF := Lib.hid (And.intro hKP (And.intro own1 hBW))
    clear hKP own1 hBW hp hq ld2
    go_wp2
    refine bodyPost_ret_by (v := .tuple #[.agg #[.slice a0 ns.length c0, .slice a1 ws.length c1], .slice (some ⟨g, 0, none⟩) sts.length c, .agg #[.int .i64 q, .int .i64 d, .int .i64 (d - 1)]]) ?_ rfl ?_
    · simp [results, go_sem, z0, z1, z2, z3, z4]
    · exact ⟨a0, a1, c0, c1, ns, ws, g, c, sts, ⟨q, d, d - 1⟩, rfl, HF.out.1, hsl, HF.out.2.1, HF.out.2.2⟩
  · have h0' : (r == 0) = false := by simpa using h0
    go_upto_region 6 with (fail)
    refine MAny.region (S := fun w' => w'.cell? ⟨lb, 0, none⟩ = some (.slice a0 ns.length c0) ∧ w'.cell? ⟨lb, 1, none⟩ = some (.slice a1 ws.length c1)) (last := 16) (by kernel_rfl) ?_
    replace loc := Box.below loc (Below.refl _ w6).drew
    replace K0 := K0.below (Below.refl _ w6).drew
    replace D := D.below (Below.refl _ w6).drew
    replace res := Box.below res (Below.refl _ w6).drew
    replace own := own_below own (Below.refl _ w6).drew
    replace rst := Box.below rst (Below.refl _ w6).drew
    have hC := Nat.le_trans hC (show w6.heap.size ≤ w6.drew.heap.size from Nat.le_refl _)
    generalize w6.drew = W0 at loc K0 D res hC own rst ⊢
    have hHeld := And.intro (Box.cell loc 0 _ rfl) (Box.cell loc 1 _ rfl)
    refine MAny.take (i := 0) (v := ?_) rfl (by kernel_rfl) (by kernel_rfl) (by kernel_rfl) (fun _ _ _ h => h) (by kernel_rfl) (Or.inl ⟨by rfl, ?_⟩) (by assumption) ?_
    rotate_left
    · (intro w' hSw; (try dsimp only at hSw); go_simp; try (with_reducible rfl))
    try simp only [Act.put, List.setIfInBounds_toArray]
    refine MAny.take (i := 1) (v := ?_) rfl (by kernel_rfl) (by kernel_rfl) (by kernel_rfl) (fun _ _ _ h => h) (by kernel_rfl) (Or.inl ⟨by rfl, ?_⟩) (by assumption) ?_
    rotate_left
    · (intro w' hSw; (try dsimp only at hSw); go_simp; try (with_reducible rfl))
    try simp only [Act.put]
    refine MAny.take (i := 2) (v := ?_) rfl (by kernel_rfl) (by kernel_rfl) (by kernel_rfl) (fun _ _ _ h => h) (by kernel_rfl) (Or.inl ⟨by rfl, ?_⟩) (by assumption) ?_
    rotate_left
    · (intro w' hSw; (try dsimp only at hSw); go_simp; try (with_reducible rfl))
    try simp only [Act.put]
    refine MAny.take (i := 3) (v := ?_) rfl (by kernel_rfl) (by kernel_rfl) (by kernel_rfl) (fun _ _ _ h => h) (by kernel_rfl) (Or.inl ⟨by rfl, ?_⟩) (by assumption) ?_
    rotate_left
    · (intro w' hSw; (try dsimp only at hSw); go_simp; try (with_reducible rfl))
    try simp only [Act.put]
    refine MAny.take (i := 5) (v := ?_) rfl (by kernel_rfl) (by kernel_rfl) (by kernel_rfl) (fun _ _ _ h => h) (by kernel_rfl) (Or.inl ⟨by rfl, ?_⟩) (by assumption) ?_
    rotate_left
    · (intro w' hSw; (try dsimp only at hSw); go_simp; try (with_reducible rfl))
    try simp only [Act.put]
    refine MAny.take (i := 6) (v := ?_) rfl (by kernel_rfl) (by kernel_rfl) (by kernel_rfl) (fun _ _ _ h => h) (by kernel_rfl) (Or.inl ⟨by rfl, ?_⟩) (by assumption) ?_
    rotate_left
    · (intro w' hSw; (try dsimp only at hSw); go_simp; try (with_reducible rfl))
    try simp only [Act.put]
    refine MAny.take (i := 7) (v := ?_) rfl (by kernel_rfl) (by kernel_rfl) (by kernel_rfl) (fun _ _ _ h => h) (by kernel_rfl) (Or.inl ⟨by rfl, ?_⟩) (by assumption) ?_
    rotate_left
    · (intro w' hSw; (try dsimp only at hSw); go_simp; try (with_reducible rfl))
    try simp only [Act.put]
    refine MAny.take (i := 8) (v := ?_) rfl (by kernel_rfl) (by kernel_rfl) (by kernel_rfl) (fun _ _ _ h => h) (by kernel_rfl) (Or.inl ⟨by rfl, ?_⟩) (by assumption) ?_
    rotate_left
    · (intro w' hSw; (try dsimp only at hSw); go_simp; try (with_reducible rfl))
    try simp only [Act.put]
    refine MAny.ready (rs := [4, 9]) (by kernel_rfl) (by simp) ?_
    refine MReady.cons rfl (fun K hK => ?_) (MReady.cons rfl (fun K hK => ?_) MReady.nil)
    · go_simp
      go_wp2_with (go_at_call 37; refine (l14DrawPlace_any w1 cs cap bs p a0 a1 ns.length ws.length c0 c1 W0 hx1 hb hl D.src (by have := K0.n1; omega)).mono ?_; rintro e W1 ⟨q, rfl, hs, hG⟩)
      replace res := Box.keep res hG hwp
      replace loc := Box.keepA loc hG D.hp
      replace own := own_keepA own hG (by have := D.hp; have := D.size; omega)
      replace rst := Box.keep rst hG hwq
      replace K0 := K0.call hG
      replace D := D.call hs hG
      clear hs hG
      have hHeld := And.intro (Box.cell loc 0 _ rfl) (Box.cell loc 1 _ rfl)
      refine hK.out _ _ (.inr hHeld) ?_
      clear hK K
      refine MAny.ready (rs := [9]) (by kernel_rfl) (by simp) ?_
      refine MReady.cons rfl (fun K hK => ?_) MReady.nil
      go_simp
      have hrd := rd_lit (w := W1) (c := #[.int .i64 1, .int .i64 5]) (xs := [1, 5]) (p := p) rfl D.src.lt.2
      have hBA := belowA W1 (.cells #[.int .i64 1, .int .i64 5] 2)
      replace res := Box.below res hBA
      replace rst := Box.below rst hBA
      replace loc := Box.below loc hBA
      replace own := own_below own hBA
      replace K0 := K0.below hBA
      replace D := D.below hBA
      clear hBA
      generalize hAL : W1.alloc (.cells #[.int .i64 1, .int .i64 5] 2) = W2 at hrd res rst loc own K0 D ⊢
      generalize W1.heap.size = xg at hrd ⊢
      clear hAL
      have hHeld := And.intro (Box.cell loc 0 _ rfl) (Box.cell loc 1 _ rfl)
      refine hK.out _ _ (.inr hHeld) ?_
      clear hK K
      refine MAny.ready (rs := [10]) (by kernel_rfl) (by simp) ?_
      refine MReady.cons rfl (fun K hK => ?_) MReady.nil
      go_simp
      go_wp2_with (go_at_call 55; refine (HP.out _ 2 [1, 5] _ D.src hrd (by simp) (by simp)).mono ?_; rintro e U1 ⟨v, rfl, hv, hs, hG⟩)
      replace res := Box.keep res hG hwp
      replace loc := Box.keepA loc hG D.hp
      replace own := own_keepA own hG (by have := D.hp; have := D.size; omega)
      replace rst := Box.keep rst hG hwq
      replace K0 := K0.call hG
      replace D := D.call hs hG
      clear hs hG
      have hHeld := And.intro (Box.cell loc 0 _ rfl) (Box.cell loc 1 _ rfl)
      refine hK.out _ _ (.inr hHeld) ?_
      clear hK K
      have hv2 : 1 ≤ v ∧ v ≤ 5 := by simp at hv; omega
      clear hv hrd
      refine MAny.ready (rs := [11]) (by kernel_rfl) (by simp) ?_
      refine MReady.cons rfl (fun K hK => ?_) MReady.nil
      go_simp
      go_wp2_with (go_at_call 54; refine (HN.out v U1 (by omega) (by omega) D.src).mono ?_; rintro e U2 ⟨u, rfl, hu0, hu1, hs, hG⟩)
      replace res := Box.keep res hG hwp
      replace loc := Box.keepA loc hG D.hp
      replace own := own_keepA own hG (by have := D.hp; have := D.size; omega)
      replace rst := Box.keep rst hG hwq
      replace K0 := K0.call hG
      replace D := D.call hs hG
      clear hs hG
      have hHeld := And.intro (Box.cell loc 0 _ rfl) (Box.cell loc 1 _ rfl)
      refine hK.out _ _ (.inr hHeld) ?_
      clear hK K
      have v1 := i64_in (d + u) (by omega)
      refine MAny.take (i := 12) (v := ?_) rfl (by kernel_rfl) (by kernel_rfl) (by kernel_rfl) (fun _ _ _ h => h) (by kernel_rfl) (Or.inl ⟨by rfl, ?_⟩) (by assumption) ?_
      rotate_left
      · (intro w' hSw; (try dsimp only at hSw); go_simp; try (with_reducible rfl))
      try simp only [Act.put, List.setIfInBounds_toArray]
      refine MAny.take (i := 13) (v := ?_) rfl (by kernel_rfl) (by kernel_rfl) (by kernel_rfl) (fun _ _ _ h => h) (by kernel_rfl) (Or.inl ⟨by rfl, ?_⟩) (by assumption) ?_
      rotate_left
      · (intro w' hSw; (try dsimp only at hSw); go_simp; try (with_reducible rfl))
      try simp only [Act.put]
      have r0 := Box.cell res 0 _ rfl
      have f0 := World.ownsRow.frozenAt res 0
      have r1 := Box.cell res 1 _ rfl
      have f1 := World.ownsRow.frozenAt res 1
      have hp := Box.put2 res (.slice a0 ns.length c0) (.slice a1 ws.length c1)
      have y0 : ((U2.setCell ⟨w.heap.size, 0, none⟩ (.slice a0 ns.length c0)).cell? ⟨w.heap.size, 1, none⟩) = some (.slice none 0 0) := by have := Box.cell (Box.put (i := 0) (pre := []) (post := [.slice none 0 0]) res rfl (.slice a0 ns.length c0)).1 1 _ rfl; exact this
      have loc2 := Box.keep loc hp.2 (Ne.symm hwl)
      have hHeld2 := And.intro (Box.cell loc2 0 _ rfl) (Box.cell loc2 1 _ rfl)
      have rs2 := Box.keep rst hp.2 (show w.heap.size + 1 ≠ w.heap.size by omega)
      obtain ⟨W9, hW9⟩ : ∃ W9, (U2.setCell ⟨w.heap.size, 0, none⟩ (.slice a0 ns.length c0)).setCell ⟨w.heap.size, 1, none⟩ (.slice a1 ws.length c1) = W9 := ⟨_, rfl⟩
      rw [hW9] at rs2 hp hHeld2
      refine MAny.ready (rs := [14]) (by kernel_rfl) (by simp) ?_
      refine MReady.cons rfl (fun K hK => ?_) MReady.nil
      go_simp
      refine hK.out _ _ (.inr hHeld2) ?_
      clear hK K
      refine MAny.ready (rs := [15]) (by kernel_rfl) (by simp) ?_
      refine MReady.cons rfl (fun K hK => ?_) MReady.nil
      go_simp
      refine hK.out _ _ (.inr hHeld2) ?_
      clear hK K
      clear hW9 y0 r0 r1 f0 f1 loc2
      have t0 := Box.cell rs2 0 _ rfl
      have t1 := Box.cell rs2 1 _ rfl
      have t2 := Box.cell rs2 2 _ rfl
      have g0 := World.ownsRow.frozenAt rs2 0
      have g1 := World.ownsRow.frozenAt rs2 1
      have g2 := World.ownsRow.frozenAt rs2 2
      have hq := Lib.hid (Box.put3 rs2 (.int .i64 q) (.int .i64 d) (.int .i64 (d + u)))
      refine MAny.ready (rs := [16]) (by kernel_rfl) (by simp) ?_
      refine MReady.cons rfl (fun K hK => ?_) MReady.nil
      go_simp
      refine hK.out _ _ (.inl rfl) ?_
      clear hK K
      refine MAny.done (by kernel_rfl) ?_ _
      try simp only [List.getElem_toArray, List.getElem_cons_succ, List.getElem_cons_zero]
      replace hq := hq.out
      have ld2 := Box.keep hp.1 hq.2 (show w.heap.size ≠ w.heap.size + 1 by omega)
      have z0 := Box.cell ld2 0 _ rfl
      have z1 := Box.cell ld2 1 _ rfl
      have z2 := Box.cell hq.1 0 _ rfl
      have z3 := Box.cell hq.1 1 _ rfl
      have z4 := Box.cell hq.1 2 _ rfl
      have hKP := ((K0.kept hp.2 (fun g e => by cases e; exact .inl hw2)).kept hq.2 (fun g e => by cases e; exact .inl hw3)).toD (Nat.le_of_lt hw2)
      have own1 := own_base (own_keepA (own_keepA own hp.2 hw2) hq.2 hw3) (Nat.le_of_lt hw2)
      have hBW := ((stepB hB1 D.base hB1.size).grown hp.2 (stepB hB1 D.base hB1.size).size (fun g e => by cases e; exact Nat.le_refl _)).grown hq.2 (Nat.le_trans (stepB hB1 D.base hB1.size).size hp.2.size) (fun g e => by cases e; omega)
      have HF := Lib.hid (And.intro hKP (And.intro own1 hBW))
      clear hKP own1 hBW hp hq ld2
      go_wp2
      refine bodyPost_ret_by (v := .tuple #[.agg #[.slice a0 ns.length c0, .slice a1 ws.length c1], .slice (some ⟨g, 0, none⟩) sts.length c, .agg #[.int .i64 q, .int .i64 d, .int .i64 (d + u)]]) ?_ rfl ?_
      · simp [results, go_sem, z0, z1, z2, z3, z4]
      · exact ⟨a0, a1, c0, c1, ns, ws, g, c, sts, ⟨q, d, d + u⟩, rfl, HF.out.1, hsl, HF.out.2.1, HF.out.2.2⟩
    · go_simp
      have hrd := rd_lit (w := W0) (c := #[.int .i64 1, .int .i64 5]) (xs := [1, 5]) (p := p) rfl D.src.lt.2
      have hBA := belowA W0 (.cells #[.int .i64 1, .int .i64 5] 2)
      replace res := Box.below res hBA
      replace rst := Box.below rst hBA
      replace loc := Box.below loc hBA
      replace own := own_below own hBA
      replace K0 := K0.below hBA
      replace D := D.below hBA
      clear hBA
      generalize hAL : W0.alloc (.cells #[.int .i64 1, .int .i64 5] 2) = W1 at hrd res rst loc own K0 D ⊢
      generalize W0.heap.size = xg at hrd ⊢
      clear hAL
      have hHeld := And.intro (Box.cell loc 0 _ rfl) (Box.cell loc 1 _ rfl)
      refine hK.out _ _ (.inr hHeld) ?_
      clear hK K
      refine MAny.ready (rs := [4]) (by kernel_rfl) (by simp) ?_
      refine MReady.cons rfl (fun K hK => ?_) MReady.nil
      go_simp
      go_wp2_with (go_at_call 37; refine (l14DrawPlace_any w1 cs cap bs p a0 a1 ns.length ws.length c0 c1 W1 hx1 hb hl D.src (by have := K0.n1; omega)).mono ?_; rintro e W2 ⟨q, rfl, hs, hG⟩)
      replace res := Box.keep res hG hwp
      replace loc := Box.keepA loc hG D.hp
      replace own := own_keepA own hG (by have := D.hp; have := D.size; omega)
      replace rst := Box.keep rst hG hwq
      replace hrd := fun W h => hrd W (gT hG h)
      replace K0 := K0.call hG
      replace D := D.call hs hG
      clear hs hG
      have hHeld := And.intro (Box.cell loc 0 _ rfl) (Box.cell loc 1 _ rfl)
      refine hK.out _ _ (.inr hHeld) ?_
      clear hK K
      refine MAny.ready (rs := [10]) (by kernel_rfl) (by simp) ?_
      refine MReady.cons rfl (fun K hK => ?_) MReady.nil
      go_simp
      go_wp2_with (go_at_call 55; refine (HP.out _ 2 [1, 5] _ D.src hrd (by simp) (by simp)).mono ?_; rintro e U1 ⟨v, rfl, hv, hs, hG⟩)
      replace res := Box.keep res hG hwp
      replace loc := Box.keepA loc hG D.hp
      replace own := own_keepA own hG (by have := D.hp; have := D.size; omega)
      replace rst := Box.keep rst hG hwq
      replace K0 := K0.call hG
      replace D := D.call hs hG
      clear hs hG
      have hHeld := And.intro (Box.cell loc 0 _ rfl) (Box.cell loc 1 _ rfl)
      refine hK.out _ _ (.inr hHeld) ?_
      clear hK K
      have hv2 : 1 ≤ v ∧ v ≤ 5 := by simp at hv; omega
      clear hv hrd
      refine MAny.ready (rs := [11]) (by kernel_rfl) (by simp) ?_
      refine MReady.cons rfl (fun K hK => ?_) MReady.nil
      go_simp
      go_wp2_with (go_at_call 54; refine (HN.out v U1 (by omega) (by omega) D.src).mono ?_; rintro e U2 ⟨u, rfl, hu0, hu1, hs, hG⟩)
      replace res := Box.keep res hG hwp
      replace loc := Box.keepA loc hG D.hp
      replace own := own_keepA own hG (by have := D.hp; have := D.size; omega)
      replace rst := Box.keep rst hG hwq
      replace K0 := K0.call hG
      replace D := D.call hs hG
      clear hs hG
      have hHeld := And.intro (Box.cell loc 0 _ rfl) (Box.cell loc 1 _ rfl)
      refine hK.out _ _ (.inr hHeld) ?_
      clear hK K
      have v1 := i64_in (d + u) (by omega)
      refine MAny.take (i := 12) (v := ?_) rfl (by kernel_rfl) (by kernel_rfl) (by kernel_rfl) (fun _ _ _ h => h) (by kernel_rfl) (Or.inl ⟨by rfl, ?_⟩) (by assumption) ?_
      rotate_left
      · (intro w' hSw; (try dsimp only at hSw); go_simp; try (with_reducible rfl))
      try simp only [Act.put, List.setIfInBounds_toArray]
      refine MAny.take (i := 13) (v := ?_) rfl (by kernel_rfl) (by kernel_rfl) (by kernel_rfl) (fun _ _ _ h => h) (by kernel_rfl) (Or.inl ⟨by rfl, ?_⟩) (by assumption) ?_
      rotate_left
      · (intro w' hSw; (try dsimp only at hSw); go_simp; try (with_reducible rfl))
      try simp only [Act.put]
      have r0 := Box.cell res 0 _ rfl
      have f0 := World.ownsRow.frozenAt res 0
      have r1 := Box.cell res 1 _ rfl
      have f1 := World.ownsRow.frozenAt res 1
      have hp := Box.put2 res (.slice a0 ns.length c0) (.slice a1 ws.length c1)
      have y0 : ((U2.setCell ⟨w.heap.size, 0, none⟩ (.slice a0 ns.length c0)).cell? ⟨w.heap.size, 1, none⟩) = some (.slice none 0 0) := by have := Box.cell (Box.put (i := 0) (pre := []) (post := [.slice none 0 0]) res rfl (.slice a0 ns.length c0)).1 1 _ rfl; exact this
      have loc2 := Box.keep loc hp.2 (Ne.symm hwl)
      have hHeld2 := And.intro (Box.cell loc2 0 _ rfl) (Box.cell loc2 1 _ rfl)
      have rs2 := Box.keep rst hp.2 (show w.heap.size + 1 ≠ w.heap.size by omega)
      obtain ⟨W9, hW9⟩ : ∃ W9, (U2.setCell ⟨w.heap.size, 0, none⟩ (.slice a0 ns.length c0)).setCell ⟨w.heap.size, 1, none⟩ (.slice a1 ws.length c1) = W9 := ⟨_, rfl⟩
      rw [hW9] at rs2 hp hHeld2
      refine MAny.ready (rs := [14]) (by kernel_rfl) (by simp) ?_
      refine MReady.cons rfl (fun K hK => ?_) MReady.nil
      go_simp
      refine hK.out _ _ (.inr hHeld2) ?_
      clear hK K
      refine MAny.ready (rs := [15]) (by kernel_rfl) (by simp) ?_
      refine MReady.cons rfl (fun K hK => ?_) MReady.nil
      go_simp
      refine hK.out _ _ (.inr hHeld2) ?_
      clear hK K
      clear hW9 y0 r0 r1 f0 f1 loc2
      have t0 := Box.cell rs2 0 _ rfl
      have t1 := Box.cell rs2 1 _ rfl
      have t2 := Box.cell rs2 2 _ rfl
      have g0 := World.ownsRow.frozenAt rs2 0
      have g1 := World.ownsRow.frozenAt rs2 1
      have g2 := World.ownsRow.frozenAt rs2 2
      have hq := Lib.hid (Box.put3 rs2 (.int .i64 q) (.int .i64 d) (.int .i64 (d + u)))
      refine MAny.ready (rs := [16]) (by kernel_rfl) (by simp) ?_
      refine MReady.cons rfl (fun K hK => ?_) MReady.nil
      go_simp
      refine hK.out _ _ (.inl rfl) ?_
      clear hK K
      refine MAny.done (by kernel_rfl) ?_ _
      try simp only [List.getElem_toArray, List.getElem_cons_succ, List.getElem_cons_zero]
      replace hq := hq.out
      have ld2 := Box.keep hp.1 hq.2 (show w.heap.size ≠ w.heap.size + 1 by omega)
      have z0 := Box.cell ld2 0 _ rfl
      have z1 := Box.cell ld2 1 _ rfl
      have z2 := Box.cell hq.1 0 _ rfl
      have z3 := Box.cell hq.1 1 _ rfl
      have z4 := Box.cell hq.1 2 _ rfl
      have hKP := ((K0.kept hp.2 (fun g e => by cases e; exact .inl hw2)).kept hq.2 (fun g e => by cases e; exact .inl hw3)).toD (Nat.le_of_lt hw2)
      have own1 := own_base (own_keepA (own_keepA own hp.2 hw2) hq.2 hw3) (Nat.le_of_lt hw2)
      have hBW := ((stepB hB1 D.base hB1.size).grown hp.2 (stepB hB1 D.base hB1.size).size (fun g e => by cases e; exact Nat.le_refl _)).grown hq.2 (Nat.le_trans (stepB hB1 D.base hB1.size).size hp.2.size) (fun g e => by cases e; omega)
      have HF := Lib.hid (And.intro hKP (And.intro own1 hBW))
      clear hKP own1 hBW hp hq ld2
      go_wp2
      refine bodyPost_ret_by (v := .tuple #[.agg #[.slice a0 ns.length c0, .slice a1 ws.length c1], .slice (some ⟨g, 0, none⟩) sts.length c, .agg #[.int .i64 q, .int .i64 d, .int .i64 (d + u)]]) ?_ rfl ?_
      · simp [results, go_sem, z0, z1, z2, z3, z4]
      · exact ⟨a0, a1, c0, c1, ns, ws, g, c, sts, ⟨q, d, d + u⟩, rfl, HF.out.1, hsl, HF.out.2.1, HF.out.2.2⟩
end
end Go.Proofs.YtipdcgfdejmjfaaGreatDoor
