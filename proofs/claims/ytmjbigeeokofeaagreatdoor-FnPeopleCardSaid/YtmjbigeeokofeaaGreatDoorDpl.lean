/- Walks: people, offices and days are drawn. Printed by gen_dpl.py. -/
import Derived.Test.YtmjbigeeokofeaaGreatDoorDwt
namespace Go.Proofs.YtmjbigeeokofeaaGreatDoor
open Go.ChangeShapes Go.WideShapes Go.ChangeAt Go.RowKit Go.IntWalk

set_option maxRecDepth 100000 in
set_option maxHeartbeats 8000000 in
theorem drawVacantDays_any (cs : Option Addr) (cap : Nat) (bs : List Int) (w : World) (hx : Rd encB w cs bs) (hb : ∀ m ∈ bs, goodB m) (hl : bs.length ≤ 4096) :
    Calls Tryz.prog 19 #[.slice cs bs.length cap] w fun e w' => ∃ (g g2 c c2 : Nat) (ps : List Ps) (ts : List Tm) (o : ByteArray), e = .returned (.tuple #[.agg #[.slice (some ⟨g, 0, none⟩) ps.length c, .slice (some ⟨g2, 0, none⟩) ts.length c2], .string o]) ∧ PplD w.heap.size w' g g2 c c2 ps ts ∧ o.size ≤ 13 ∧ Below w.heap.size w w' := by
  have hr1 := Box.new w 48 [.slice none 0 0, .slice none 0 0] w.heap.size (Nat.le_refl _) (by simp)
  have hB1 := belowA w (.cells #[.slice none 0 0, .slice none 0 0] 48)
  generalize hW1 : w.alloc (.cells [.slice none 0 0, .slice none 0 0].toArray 48) = w1 at hr1
  have hW1' : w.alloc (.cells #[.slice none 0 0, .slice none 0 0] 48) = w1 := hW1
  rw [hW1'] at hB1
  have hrl := (Box.lt hr1).2
  have hx1 := hx.below hB1
  go_enter Tryz.func19, Tryz.ntmps19
  go_wp2_with fail

  clear hW1 hW1'
  refine (l01From_any cs cap bs w1 hx1 hb).mono ?_
  rintro e w2 ⟨p, rfl, hs⟩
  have res := Box.below hr1 hs.base
  have hpl := hs.lt
  have hwp : w.heap.size ≠ p := by omega
  have hw2 : w.heap.size ≤ w2.heap.size := by omega
  go_wp2_with fail
  refine (l13Draw_any w1 cs cap bs p w2 hx1 hb hl hs).mono ?_
  rintro e w3 ⟨g, g2, c, c2, ps, ts, rfl, K, hs3, hG⟩
  have res := Box.keep res hG hwp
  have D : Drw w1 cs cap bs p w2 w3 := ⟨hs3, hG, hpl.2⟩
  have K0 : PplK w2.heap.size p w3 g g2 c c2 ps ts := ⟨K, hpl.2⟩
  clear K hs3 hG hr1 hs
  have HO := Lib.hid (fun W hs => l13DrawOffice_any w1 cs cap bs p W hx1 hb hl hs)
  go_wp2_with fail
  refine (HO.out _ D.src).mono ?_
  rintro e w4 ⟨o, rfl, ho13, hs, hG⟩
  have res := Box.keep res hG hwp
  have K0 := K0.call hG
  have D := D.call hs hG
  clear hs hG
  have r0 := Box.cell res 0 _ rfl
  have f0 := World.ownsRow.frozenAt res 0
  have r1 := Box.cell res 1 _ rfl
  have f1 := World.ownsRow.frozenAt res 1
  have HP2 := Lib.hid (Box.put2 res (.slice (some ⟨g, 0, none⟩) ps.length c) (.slice (some ⟨g2, 0, none⟩) ts.length c2))
  go_wp2
  have hp := HP2.out
  have hKP := K0.1.keep hp.2 (fun e => by injection e with e; have := K0.1.lt; omega) (fun e => by injection e with e; have := K0.1.lt; omega)
  have hBW := (stepB hB1 D.base hB1.size).grown hp.2 (stepB hB1 D.base hB1.size).size (fun g e => by cases e; exact Nat.le_refl _)
  have z0 := Box.cell hp.1 0 _ rfl
  have z1 := Box.cell hp.1 1 _ rfl
  refine bodyPost_ret_by (v := .tuple #[.agg #[.slice (some ⟨g, 0, none⟩) ps.length c, .slice (some ⟨g2, 0, none⟩) ts.length c2], .string o]) ?_ rfl ?_
  · simp [results, go_sem, z0, z1]
  · exact ⟨g, g2, c, c2, ps, ts, o, rfl, hKP.base hw2, ho13, hBW⟩
set_option maxRecDepth 100000 in
set_option maxHeartbeats 8000000 in
theorem drawLivingOn_any (cs : Option Addr) (cap : Nat) (bs : List Int) (w : World) (hx : Rd encB w cs bs) (hb : ∀ m ∈ bs, goodB m) (hl : bs.length ≤ 4096) :
    Calls Tryz.prog 27 #[.slice cs bs.length cap] w fun e w' => ∃ (g g2 c c2 : Nat) (ps : List Ps) (ts : List Tm) (n : Int), e = .returned (.tuple #[.agg #[.slice (some ⟨g, 0, none⟩) ps.length c, .slice (some ⟨g2, 0, none⟩) ts.length c2], .int .i64 n]) ∧ PplD w.heap.size w' g g2 c c2 ps ts ∧ Below w.heap.size w w' := by
  have hr1 := Box.new w 48 [.slice none 0 0, .slice none 0 0] w.heap.size (Nat.le_refl _) (by simp)
  have hB1 := belowA w (.cells #[.slice none 0 0, .slice none 0 0] 48)
  generalize hW1 : w.alloc (.cells [.slice none 0 0, .slice none 0 0].toArray 48) = w1 at hr1
  have hW1' : w.alloc (.cells #[.slice none 0 0, .slice none 0 0] 48) = w1 := hW1
  rw [hW1'] at hB1
  have hrl := (Box.lt hr1).2
  have hx1 := hx.below hB1
  go_enter Tryz.func27, Tryz.ntmps27
  go_wp2_with fail

  clear hW1 hW1'
  refine (l01From_any cs cap bs w1 hx1 hb).mono ?_
  rintro e w2 ⟨p, rfl, hs⟩
  have res := Box.below hr1 hs.base
  have hpl := hs.lt
  have hwp : w.heap.size ≠ p := by omega
  have hw2 : w.heap.size ≤ w2.heap.size := by omega
  go_wp2_with fail
  refine (l13Draw_any w1 cs cap bs p w2 hx1 hb hl hs).mono ?_
  rintro e w3 ⟨g, g2, c, c2, ps, ts, rfl, K, hs3, hG⟩
  have res := Box.keep res hG hwp
  have D : Drw w1 cs cap bs p w2 w3 := ⟨hs3, hG, hpl.2⟩
  have K0 : PplK w2.heap.size p w3 g g2 c c2 ps ts := ⟨K, hpl.2⟩
  clear K hs3 hG hr1 hs
  have HD := Lib.hid (fun W hs => l07DrawDay_any w1 cs cap bs p W hx1 hb hl hs)
  go_wp2_with fail
  refine (HD.out _ D.src).mono ?_
  rintro e w4 ⟨n, rfl, hn, hs, hG⟩
  have res := Box.keep res hG hwp
  have K0 := K0.call hG
  have D := D.call hs hG
  clear hs hG
  have r0 := Box.cell res 0 _ rfl
  have f0 := World.ownsRow.frozenAt res 0
  have r1 := Box.cell res 1 _ rfl
  have f1 := World.ownsRow.frozenAt res 1
  have HP2 := Lib.hid (Box.put2 res (.slice (some ⟨g, 0, none⟩) ps.length c) (.slice (some ⟨g2, 0, none⟩) ts.length c2))
  go_wp2
  have hp := HP2.out
  have hKP := K0.1.keep hp.2 (fun e => by injection e with e; have := K0.1.lt; omega) (fun e => by injection e with e; have := K0.1.lt; omega)
  have hBW := (stepB hB1 D.base hB1.size).grown hp.2 (stepB hB1 D.base hB1.size).size (fun g e => by cases e; exact Nat.le_refl _)
  have z0 := Box.cell hp.1 0 _ rfl
  have z1 := Box.cell hp.1 1 _ rfl
  refine bodyPost_ret_by (v := .tuple #[.agg #[.slice (some ⟨g, 0, none⟩) ps.length c, .slice (some ⟨g2, 0, none⟩) ts.length c2], .int .i64 n]) ?_ rfl ?_
  · simp [results, go_sem, z0, z1]
  · exact ⟨g, g2, c, c2, ps, ts, n, rfl, hKP.base hw2, hBW⟩
set_option maxRecDepth 100000 in
set_option maxHeartbeats 8000000 in
theorem drawOfficeDays_any (cs : Option Addr) (cap : Nat) (bs : List Int) (w : World) (hx : Rd encB w cs bs) (hb : ∀ m ∈ bs, goodB m) (hl : bs.length ≤ 4096) :
    Calls Tryz.prog 30 #[.slice cs bs.length cap] w fun e w' => ∃ (g g2 c c2 : Nat) (ps : List Ps) (ts : List Tm) (o nm : ByteArray), e = .returned (.tuple #[.agg #[.slice (some ⟨g, 0, none⟩) ps.length c, .slice (some ⟨g2, 0, none⟩) ts.length c2], .string o, .string nm]) ∧ PplD w.heap.size w' g g2 c c2 ps ts ∧ o.size ≤ 13 ∧ nm.size ≤ 13 ∧ Below w.heap.size w w' := by
  have hr1 := Box.new w 48 [.slice none 0 0, .slice none 0 0] w.heap.size (Nat.le_refl _) (by simp)
  have hB1 := belowA w (.cells #[.slice none 0 0, .slice none 0 0] 48)
  generalize hW1 : w.alloc (.cells [.slice none 0 0, .slice none 0 0].toArray 48) = w1 at hr1
  have hW1' : w.alloc (.cells #[.slice none 0 0, .slice none 0 0] 48) = w1 := hW1
  rw [hW1'] at hB1
  have hrl := (Box.lt hr1).2
  have hx1 := hx.below hB1
  go_enter Tryz.func30, Tryz.ntmps30
  go_wp2_with fail

  clear hW1 hW1'
  refine (l01From_any cs cap bs w1 hx1 hb).mono ?_
  rintro e w2 ⟨p, rfl, hs⟩
  have res := Box.below hr1 hs.base
  have hpl := hs.lt
  have hwp : w.heap.size ≠ p := by omega
  have hw2 : w.heap.size ≤ w2.heap.size := by omega
  go_wp2_with fail
  refine (l13Draw_any w1 cs cap bs p w2 hx1 hb hl hs).mono ?_
  rintro e w3 ⟨g, g2, c, c2, ps, ts, rfl, K, hs3, hG⟩
  have res := Box.keep res hG hwp
  have D : Drw w1 cs cap bs p w2 w3 := ⟨hs3, hG, hpl.2⟩
  have K0 : PplK w2.heap.size p w3 g g2 c c2 ps ts := ⟨K, hpl.2⟩
  clear K hs3 hG hr1 hs
  have loc := Box.new w3 48 [.slice (some ⟨g, 0, none⟩) ps.length c, .slice (some ⟨g2, 0, none⟩) ts.length c2] w2.heap.size D.size (by simp)
  have hwl : w.heap.size ≠ w3.heap.size := by have := D.size; omega
  have hBA := belowA w3 (.cells #[.slice (some ⟨g, 0, none⟩) ps.length c, .slice (some ⟨g2, 0, none⟩) ts.length c2] 48)
  have res := Box.below res hBA
  have K0 := K0.below hBA
  have D := D.below hBA
  clear hBA
  go_upto_region 3 with (fail)
  change Code.wp _ _ _ _ (w3.alloc (.cells #[.slice (some ⟨g, 0, none⟩) ps.length c, .slice (some ⟨g2, 0, none⟩) ts.length c2] 48))
  generalize w3.alloc (.cells #[.slice (some ⟨g, 0, none⟩) ps.length c, .slice (some ⟨g2, 0, none⟩) ts.length c2] 48) = w4 at res loc K0 D ⊢
  generalize w3.heap.size = lb at loc hwl ⊢
  have HO := Lib.hid (fun W hs => l13DrawOffice_any w1 cs cap bs p W hx1 hb hl hs)
  have HM := Lib.hid (fun W hs hK => l13DrawName_any w1 cs cap bs p w2.heap.size g g2 c c2 ps ts W hx1 hb hl hs hK)
  refine MAny.region (S := fun w' => w'.cell? ⟨lb, 0, none⟩ = some (.slice (some ⟨g, 0, none⟩) ps.length c) ∧ w'.cell? ⟨lb, 1, none⟩ = some (.slice (some ⟨g2, 0, none⟩) ts.length c2)) (last := 8) (by kernel_rfl) ?_
  have loc := Box.below loc (Below.refl _ w4).drew
  have K0 := K0.below (Below.refl _ w4).drew
  have D := D.below (Below.refl _ w4).drew
  have res := Box.below res (Below.refl _ w4).drew
  generalize w4.drew = W0 at loc K0 D res ⊢
  have hHeld := And.intro (Box.cell loc 0 _ rfl) (Box.cell loc 1 _ rfl)
  refine MAny.take (i := 0) (v := ?_) rfl (by kernel_rfl) (by kernel_rfl) (by kernel_rfl) (fun _ _ _ h => h) (by kernel_rfl) (Or.inl ⟨by rfl, ?_⟩) (by assumption) ?_
  rotate_left
  · (intro w' hSw; (try dsimp only at hSw); go_simp; try (with_reducible rfl))
  try simp only [Act.put, List.setIfInBounds_toArray]
  refine MAny.take (i := 1) (v := ?_) rfl (by kernel_rfl) (by kernel_rfl) (by kernel_rfl) (fun _ _ _ h => h) (by kernel_rfl) (Or.inl ⟨by rfl, ?_⟩) (by assumption) ?_
  rotate_left
  · (intro w' hSw; (try dsimp only at hSw); go_simp; try (with_reducible rfl))
  try simp only [Act.put]
  refine MAny.take (i := 3) (v := ?_) rfl (by kernel_rfl) (by kernel_rfl) (by kernel_rfl) (fun _ _ _ h => h) (by kernel_rfl) (Or.inl ⟨by rfl, ?_⟩) (by assumption) ?_
  rotate_left
  · (intro w' hSw; (try dsimp only at hSw); go_simp; try (with_reducible rfl))
  try simp only [Act.put]
  refine MAny.take (i := 4) (v := ?_) rfl (by kernel_rfl) (by kernel_rfl) (by kernel_rfl) (fun _ _ _ h => h) (by kernel_rfl) (Or.inl ⟨by rfl, ?_⟩) (by assumption) ?_
  rotate_left
  · (intro w' hSw; (try dsimp only at hSw); go_simp; try (with_reducible rfl))
  try simp only [Act.put]
  refine MAny.ready (rs := [2]) (by kernel_rfl) (by simp) ?_
  refine MReady.cons rfl (fun K hK => ?_) MReady.nil
  go_simp
  go_wp2_with (go_at_call 74; refine (HO.out W0 D.src).mono ?_; rintro e W1 ⟨o, rfl, ho13, hs, hG⟩)
  have res := Box.keep res hG hwp
  have loc := Box.keepA loc hG D.hp
  have K0 := K0.call hG
  have D := D.call hs hG
  clear hs hG
  have hHeld := And.intro (Box.cell loc 0 _ rfl) (Box.cell loc 1 _ rfl)
  refine hK.out _ _ (.inr hHeld) ?_
  clear hK K
  refine MAny.ready (rs := [5]) (by kernel_rfl) (by simp) ?_
  refine MReady.cons rfl (fun K hK => ?_) MReady.nil
  go_simp
  go_wp2_with (go_at_call 92; refine (HM.out W1 D.src K0).mono ?_; rintro e W2 ⟨nm, rfl, hnm13, hs, hG⟩)
  have res := Box.keep res hG hwp
  have loc := Box.keepA loc hG D.hp
  have K0 := K0.call hG
  have D := D.call hs hG
  clear hs hG
  have hHeld := And.intro (Box.cell loc 0 _ rfl) (Box.cell loc 1 _ rfl)
  refine hK.out _ _ (.inr hHeld) ?_
  clear hK K
  have r0 := Box.cell res 0 _ rfl
  have f0 := World.ownsRow.frozenAt res 0
  have r1 := Box.cell res 1 _ rfl
  have f1 := World.ownsRow.frozenAt res 1
  have hp := Box.put2 res (.slice (some ⟨g, 0, none⟩) ps.length c) (.slice (some ⟨g2, 0, none⟩) ts.length c2)
  have y0 : ((W2.setCell ⟨w.heap.size, 0, none⟩ (.slice (some ⟨g, 0, none⟩) ps.length c)).cell? ⟨w.heap.size, 1, none⟩) = some (.slice none 0 0) := by have := Box.cell (Box.put (i := 0) (pre := []) (post := [.slice none 0 0]) res rfl (.slice (some ⟨g, 0, none⟩) ps.length c)).1 1 _ rfl; exact this
  have loc2 := Box.keep loc hp.2 (Ne.symm hwl)
  have hHeld2 := And.intro (Box.cell loc2 0 _ rfl) (Box.cell loc2 1 _ rfl)
  have z0 := Box.cell hp.1 0 _ rfl
  have z1 := Box.cell hp.1 1 _ rfl
  have hKP := K0.1.keep hp.2 (fun e => by injection e with e; have := K0.1.lt; omega) (fun e => by injection e with e; have := K0.1.lt; omega)
  have hBW : Below w.heap.size w ((W2.setCell ⟨w.heap.size, 0, none⟩ (.slice (some ⟨g, 0, none⟩) ps.length c)).setCell ⟨w.heap.size, 1, none⟩ (.slice (some ⟨g2, 0, none⟩) ts.length c2)) := (stepB hB1 D.base hB1.size).grown hp.2 (stepB hB1 D.base hB1.size).size (fun g e => by cases e; exact Nat.le_refl _)
  have HF := Lib.hid (And.intro hKP hBW)
  clear hp hKP hBW loc2
  refine MAny.ready (rs := [6]) (by kernel_rfl) (by simp) ?_
  refine MReady.cons rfl (fun K hK => ?_) MReady.nil
  go_simp
  refine hK.out _ _ (.inr hHeld2) ?_
  clear hK K
  refine MAny.ready (rs := [7]) (by kernel_rfl) (by simp) ?_
  refine MReady.cons rfl (fun K hK => ?_) MReady.nil
  go_simp
  refine hK.out _ _ (.inr hHeld2) ?_
  clear hK K
  refine MAny.ready (rs := [8]) (by kernel_rfl) (by simp) ?_
  refine MReady.cons rfl (fun K hK => ?_) MReady.nil
  go_simp
  refine hK.out _ _ (.inl rfl) ?_
  clear hK K
  refine MAny.done (by kernel_rfl) ?_ _
  try simp only [List.getElem_toArray, List.getElem_cons_succ, List.getElem_cons_zero]
  go_wp2
  refine bodyPost_ret_by (v := .tuple #[.agg #[.slice (some ⟨g, 0, none⟩) ps.length c, .slice (some ⟨g2, 0, none⟩) ts.length c2], .string o, .string nm]) ?_ rfl ?_
  · simp [results, go_sem, z0, z1]
  · exact ⟨g, g2, c, c2, ps, ts, o, nm, rfl, HF.out.1.base hw2, ho13, hnm13, HF.out.2⟩
set_option maxRecDepth 100000 in
set_option maxHeartbeats 8000000 in
theorem drawHoldersOn_any (cs : Option Addr) (cap : Nat) (bs : List Int) (w : World) (hx : Rd encB w cs bs) (hb : ∀ m ∈ bs, goodB m) (hl : bs.length ≤ 4096) :
    Calls Tryz.prog 24 #[.slice cs bs.length cap] w fun e w' => ∃ (g g2 c c2 : Nat) (ps : List Ps) (ts : List Tm) (o : ByteArray) (n : Int), e = .returned (.tuple #[.agg #[.slice (some ⟨g, 0, none⟩) ps.length c, .slice (some ⟨g2, 0, none⟩) ts.length c2], .string o, .int .i64 n]) ∧ PplD w.heap.size w' g g2 c c2 ps ts ∧ o.size ≤ 13 ∧ Below w.heap.size w w' := by
  have hr1 := Box.new w 48 [.slice none 0 0, .slice none 0 0] w.heap.size (Nat.le_refl _) (by simp)
  have hB1 := belowA w (.cells #[.slice none 0 0, .slice none 0 0] 48)
  generalize hW1 : w.alloc (.cells [.slice none 0 0, .slice none 0 0].toArray 48) = w1 at hr1
  have hW1' : w.alloc (.cells #[.slice none 0 0, .slice none 0 0] 48) = w1 := hW1
  rw [hW1'] at hB1
  have hrl := (Box.lt hr1).2
  have hx1 := hx.below hB1
  go_enter Tryz.func24, Tryz.ntmps24
  go_wp2_with fail

  clear hW1 hW1'
  refine (l01From_any cs cap bs w1 hx1 hb).mono ?_
  rintro e w2 ⟨p, rfl, hs⟩
  have res := Box.below hr1 hs.base
  have hpl := hs.lt
  have hwp : w.heap.size ≠ p := by omega
  have hw2 : w.heap.size ≤ w2.heap.size := by omega
  go_wp2_with fail
  refine (l13Draw_any w1 cs cap bs p w2 hx1 hb hl hs).mono ?_
  rintro e w3 ⟨g, g2, c, c2, ps, ts, rfl, K, hs3, hG⟩
  have res := Box.keep res hG hwp
  have D : Drw w1 cs cap bs p w2 w3 := ⟨hs3, hG, hpl.2⟩
  have K0 : PplK w2.heap.size p w3 g g2 c c2 ps ts := ⟨K, hpl.2⟩
  clear K hs3 hG hr1 hs
  have loc := Box.new w3 48 [.slice (some ⟨g, 0, none⟩) ps.length c, .slice (some ⟨g2, 0, none⟩) ts.length c2] w2.heap.size D.size (by simp)
  have hwl : w.heap.size ≠ w3.heap.size := by have := D.size; omega
  have hBA := belowA w3 (.cells #[.slice (some ⟨g, 0, none⟩) ps.length c, .slice (some ⟨g2, 0, none⟩) ts.length c2] 48)
  have res := Box.below res hBA
  have K0 := K0.below hBA
  have D := D.below hBA
  clear hBA
  go_upto_region 3 with (fail)
  change Code.wp _ _ _ _ (w3.alloc (.cells #[.slice (some ⟨g, 0, none⟩) ps.length c, .slice (some ⟨g2, 0, none⟩) ts.length c2] 48))
  generalize w3.alloc (.cells #[.slice (some ⟨g, 0, none⟩) ps.length c, .slice (some ⟨g2, 0, none⟩) ts.length c2] 48) = w4 at res loc K0 D ⊢
  generalize w3.heap.size = lb at loc hwl ⊢
  have HO := Lib.hid (fun W hs => l13DrawOffice_any w1 cs cap bs p W hx1 hb hl hs)
  have HD := Lib.hid (fun W hs => l07DrawDay_any w1 cs cap bs p W hx1 hb hl hs)
  have HN := Lib.hid (fun n W hn1 hn2 hs => l01Next_any w1 cs cap bs p n W hx1 hb hl hn1 hn2 hs)
  have HP := Lib.hid (fun a ca xs W hs hxs h1 h2 => l01Pick_any w1 cs cap bs p a ca xs W hx1 hb hl hs hxs h1 h2)
  have m1 := Box.cell loc 1 _ rfl
  by_cases ht0 : ts = []
  · subst ht0
    go_upto_region 6 with (fail)
    clear m1
    refine MAny.region (S := fun w' => w'.cell? ⟨lb, 0, none⟩ = some (.slice (some ⟨g, 0, none⟩) ps.length c) ∧ w'.cell? ⟨lb, 1, none⟩ = some (.slice (some ⟨g2, 0, none⟩) ([] : List Tm).length c2)) (last := 7) (by kernel_rfl) ?_
    have loc := Box.below loc (Below.refl _ w4).drew
    have K0 := K0.below (Below.refl _ w4).drew
    have D := D.below (Below.refl _ w4).drew
    have res := Box.below res (Below.refl _ w4).drew
    generalize w4.drew = W0 at loc K0 D res ⊢
    have hHeld := And.intro (Box.cell loc 0 _ rfl) (Box.cell loc 1 _ rfl)
    refine MAny.take (i := 0) (v := ?_) rfl (by kernel_rfl) (by kernel_rfl) (by kernel_rfl) (fun _ _ _ h => h) (by kernel_rfl) (Or.inl ⟨by rfl, ?_⟩) (by assumption) ?_
    rotate_left
    · (intro w' hSw; (try dsimp only at hSw); go_simp; try (with_reducible rfl))
    try simp only [Act.put, List.setIfInBounds_toArray]
    refine MAny.take (i := 1) (v := ?_) rfl (by kernel_rfl) (by kernel_rfl) (by kernel_rfl) (fun _ _ _ h => h) (by kernel_rfl) (Or.inl ⟨by rfl, ?_⟩) (by assumption) ?_
    rotate_left
    · (intro w' hSw; (try dsimp only at hSw); go_simp; try (with_reducible rfl))
    try simp only [Act.put]
    refine MAny.take (i := 3) (v := ?_) rfl (by kernel_rfl) (by kernel_rfl) (by kernel_rfl) (fun _ _ _ h => h) (by kernel_rfl) (Or.inl ⟨by rfl, ?_⟩) (by assumption) ?_
    rotate_left
    · (intro w' hSw; (try dsimp only at hSw); go_simp; try (with_reducible rfl))
    try simp only [Act.put]
    refine MAny.ready (rs := [2]) (by kernel_rfl) (by simp) ?_
    refine MReady.cons rfl (fun K hK => ?_) MReady.nil
    go_simp
    go_wp2_with (go_at_call 74; refine (HO.out W0 D.src).mono ?_; rintro e W1 ⟨o, rfl, ho13, hs, hG⟩)
    have res := Box.keep res hG hwp
    have loc := Box.keepA loc hG D.hp
    have K0 := K0.call hG
    have D := D.call hs hG
    clear hs hG
    have hHeld := And.intro (Box.cell loc 0 _ rfl) (Box.cell loc 1 _ rfl)
    refine hK.out _ _ (.inr hHeld) ?_
    clear hK K
    refine MAny.ready (rs := [4]) (by kernel_rfl) (by simp) ?_
    refine MReady.cons rfl (fun K hK => ?_) MReady.nil
    go_simp
    go_wp2_with (go_at_call 85; refine (HD.out W1 D.src).mono ?_; rintro e W2 ⟨n, rfl, hn, hs, hG⟩)
    have res := Box.keep res hG hwp
    have loc := Box.keepA loc hG D.hp
    have K0 := K0.call hG
    have D := D.call hs hG
    clear hs hG
    have hHeld := And.intro (Box.cell loc 0 _ rfl) (Box.cell loc 1 _ rfl)
    refine hK.out _ _ (.inr hHeld) ?_
    clear hK K
    have r0 := Box.cell res 0 _ rfl
    have f0 := World.ownsRow.frozenAt res 0
    have r1 := Box.cell res 1 _ rfl
    have f1 := World.ownsRow.frozenAt res 1
    have hp := Box.put2 res (.slice (some ⟨g, 0, none⟩) ps.length c) (.slice (some ⟨g2, 0, none⟩) ([] : List Tm).length c2)
    have y0 : ((W2.setCell ⟨w.heap.size, 0, none⟩ (.slice (some ⟨g, 0, none⟩) ps.length c)).cell? ⟨w.heap.size, 1, none⟩) = some (.slice none 0 0) := by have := Box.cell (Box.put (i := 0) (pre := []) (post := [.slice none 0 0]) res rfl (.slice (some ⟨g, 0, none⟩) ps.length c)).1 1 _ rfl; exact this
    have loc2 := Box.keep loc hp.2 (Ne.symm hwl)
    have hHeld2 := And.intro (Box.cell loc2 0 _ rfl) (Box.cell loc2 1 _ rfl)
    have z0 := Box.cell hp.1 0 _ rfl
    have z1 := Box.cell hp.1 1 _ rfl
    have hKP := K0.1.keep hp.2 (fun e => by injection e with e; have := K0.1.lt; omega) (fun e => by injection e with e; have := K0.1.lt; omega)
    have hBW : Below w.heap.size w ((W2.setCell ⟨w.heap.size, 0, none⟩ (.slice (some ⟨g, 0, none⟩) ps.length c)).setCell ⟨w.heap.size, 1, none⟩ (.slice (some ⟨g2, 0, none⟩) ([] : List Tm).length c2)) := (stepB hB1 D.base hB1.size).grown hp.2 (stepB hB1 D.base hB1.size).size (fun g e => by cases e; exact Nat.le_refl _)
    have HF := Lib.hid (And.intro hKP hBW)
    clear hp hKP hBW loc2
    refine MAny.ready (rs := [5]) (by kernel_rfl) (by simp) ?_
    refine MReady.cons rfl (fun K hK => ?_) MReady.nil
    go_simp
    refine hK.out _ _ (.inr hHeld2) ?_
    clear hK K
    refine MAny.ready (rs := [6]) (by kernel_rfl) (by simp) ?_
    refine MReady.cons rfl (fun K hK => ?_) MReady.nil
    go_simp
    refine hK.out _ _ (.inr hHeld2) ?_
    clear hK K
    refine MAny.ready (rs := [7]) (by kernel_rfl) (by simp) ?_
    refine MReady.cons rfl (fun K hK => ?_) MReady.nil
    go_simp
    refine hK.out _ _ (.inl rfl) ?_
    clear hK K
    refine MAny.done (by kernel_rfl) ?_ _
    try simp only [List.getElem_toArray, List.getElem_cons_succ, List.getElem_cons_zero]
    go_wp2
    refine bodyPost_ret_by (v := .tuple #[.agg #[.slice (some ⟨g, 0, none⟩) ps.length c, .slice (some ⟨g2, 0, none⟩) ([] : List Tm).length c2], .string o, .int .i64 n]) ?_ rfl ?_
    · simp only [List.length_nil] at z0 z1
      simp [results, go_sem, z0, z1]
    · exact ⟨g, g2, c, c2, ps, [], o, n, rfl, HF.out.1.base hw2, ho13, HF.out.2⟩
  · have ht1 : 0 < ts.length := List.length_pos_iff.2 ht0
    have ht2 : (0 : Int) < (ts.length : Int) := by omega
    have htl := K0.1.2.1
    go_wp2_with fail
    refine (HN.out 2 _ (by decide) (by decide) D.src).mono ?_
    rintro e w5 ⟨r, rfl, hr0, hr1, hs, hG⟩
    have res := Box.keep res hG hwp
    have loc := Box.keepA loc hG D.hp
    have K0 := K0.call hG
    have D := D.call hs hG
    clear hs hG
    by_cases h0 : r = 0
    · subst h0
      go_upto_region 4 with (fail)
      clear m1
      refine MAny.region (S := fun w' => w'.cell? ⟨lb, 1, none⟩ = some (.slice (some ⟨g2, 0, none⟩) ts.length c2) ∧ ∀ i m, ts[i]? = some m → w'.cell? ⟨g2, i * 4, none⟩ = some (.string m.office) ∧ w'.cell? ⟨g2, i * 4 + 1, none⟩ = some (.string m.person) ∧ w'.cell? ⟨g2, i * 4 + 2, none⟩ = some (.int .i64 m.fr) ∧ w'.cell? ⟨g2, i * 4 + 3, none⟩ = some (.int .i64 m.to)) (last := 10) (by kernel_rfl) ?_
      have loc := Box.below loc (Below.refl _ w5).drew
      have K0 := K0.below (Below.refl _ w5).drew
      have D := D.below (Below.refl _ w5).drew
      have res := Box.below res (Below.refl _ w5).drew
      generalize w5.drew = W0 at loc K0 D res ⊢
      have hHeld := And.intro (Box.cell loc 1 _ rfl) K0.ts
      refine MAny.take (i := 0) (v := ?_) rfl (by kernel_rfl) (by kernel_rfl) (by kernel_rfl) (fun _ _ _ h => h) (by kernel_rfl) (Or.inl ⟨by rfl, ?_⟩) (by assumption) ?_
      rotate_left
      · (intro w' hSw; (try dsimp only at hSw); go_simp; try (with_reducible rfl))
      try simp only [Act.put, List.setIfInBounds_toArray]
      refine MAny.take (i := 1) (v := ?_) rfl (by kernel_rfl) (by kernel_rfl) (by kernel_rfl) (fun _ _ _ h => h) (by kernel_rfl) (Or.inl ⟨by rfl, ?_⟩) (by assumption) ?_
      rotate_left
      · (intro w' hSw; (try dsimp only at hSw); go_simp; try (with_reducible rfl))
      try simp only [Act.put]
      refine MAny.take (i := 2) (v := ?_) rfl (by kernel_rfl) (by kernel_rfl) (by kernel_rfl) (fun _ _ _ h => h) (by kernel_rfl) (Or.inl ⟨by rfl, ?_⟩) (by assumption) ?_
      rotate_left
      · (intro w' hSw; (try dsimp only at hSw); go_simp; try (with_reducible rfl))
      try simp only [Act.put]
      refine MAny.take (i := 3) (v := ?_) rfl (by kernel_rfl) (by kernel_rfl) (by kernel_rfl) (fun _ _ _ h => h) (by kernel_rfl) (Or.inl ⟨by rfl, ?_⟩) (by assumption) ?_
      rotate_left
      · (intro w' hSw; (try dsimp only at hSw); go_simp; try (with_reducible rfl))
      try simp only [Act.put]
      refine MAny.take (i := 4) (v := ?_) rfl (by kernel_rfl) (by kernel_rfl) (by kernel_rfl) (fun _ _ _ h => h) (by kernel_rfl) (Or.inl ⟨by rfl, ?_⟩) (by assumption) ?_
      rotate_left
      · (intro w' hSw; (try dsimp only at hSw); go_simp; try (with_reducible rfl))
      try simp only [Act.put]
      refine MAny.take (i := 5) (v := ?_) rfl (by kernel_rfl) (by kernel_rfl) (by kernel_rfl) (fun _ _ _ h => h) (by kernel_rfl) (Or.inl ⟨by rfl, ?_⟩) (by assumption) ?_
      rotate_left
      · (intro w' hSw; (try dsimp only at hSw); go_simp; try (with_reducible rfl))
      try simp only [Act.put]
      refine MAny.ready (rs := [6, 9]) (by kernel_rfl) (by simp) ?_
      refine MReady.cons rfl (fun K hK => ?_) (MReady.cons rfl (fun K hK => ?_) MReady.nil)
      · go_simp
        go_wp2_with (go_at_call 62; refine (HN.out ts.length W0 (by omega) (by omega) D.src).mono ?_; rintro e Wa ⟨q, rfl, hq0, hq1, hs, hG⟩)
        have res := Box.keep res hG hwp
        have loc := Box.keepA loc hG D.hp
        have K0 := K0.call hG
        have D := D.call hs hG
        clear hs hG
        obtain ⟨j, rfl⟩ : ∃ j : Nat, q = j := ⟨q.toNat, by omega⟩
        have hj : j < ts.length := by omega
        have hj1 : (j : Int) < (ts.length : Int) := by omega
        obtain ⟨m, hm⟩ : ∃ m, ts[j]? = some m := ⟨_, List.getElem?_eq_getElem hj⟩
        have hmo := K0.1.2.2.2.1 m (List.mem_of_getElem? hm)
        clear hq0 hq1
        have hHeld := And.intro (Box.cell loc 1 _ rfl) K0.ts
        refine hK.out _ _ (.inr hHeld) ?_
        clear hK K
        refine MAny.take (i := 7) (v := ?_) rfl (by kernel_rfl) (by kernel_rfl) (by kernel_rfl) (fun _ _ _ h => h) (by kernel_rfl) (Or.inl ⟨by rfl, ?_⟩) (by assumption) ?_
        rotate_left
        · (intro w' hSw; (try dsimp only at hSw); go_simp; try (with_reducible rfl))
        try simp only [Act.put, List.setIfInBounds_toArray]
        refine MAny.take (i := 8) (v := ?_) rfl (by kernel_rfl) (by kernel_rfl) (by kernel_rfl) (fun _ _ _ h => h) (by kernel_rfl) (Or.inl ⟨by rfl, ?_⟩) (by assumption) ?_
        rotate_left
        · (intro w' hSw; (try dsimp only at hSw); obtain ⟨e0, e1, e2, e3⟩ := hSw.2 j m hm; clear hSw; go_simp; try (with_reducible rfl))
        try simp only [Act.put]
        refine MAny.ready (rs := [9]) (by kernel_rfl) (by simp) ?_
        refine MReady.cons rfl (fun K hK => ?_) MReady.nil
        go_simp
        have yb := Box.new Wa 105 [.string ⟨#[]⟩, .string ⟨#[]⟩, .int .i64 0, .int .i64 0] w2.heap.size D.size (by simp)
        have hyg : Wa.heap.size ≠ g ∧ Wa.heap.size ≠ g2 := by have := K0.1.lt; omega
        have hyl : Wa.heap.size ≠ lb := by have := (Box.lt loc).2; omega
        have hBA := belowA Wa (.cells #[.string ⟨#[]⟩, .string ⟨#[]⟩, .int .i64 0, .int .i64 0] 105)
        have res := Box.below res hBA
        have loc := Box.below loc hBA
        have K0 := K0.below hBA
        have D := D.below hBA
        clear hBA
        generalize hWW : Wa.alloc (.cells #[.string ⟨#[]⟩, .string ⟨#[]⟩, .int .i64 0, .int .i64 0] 105) = Wb at yb loc K0 D res ⊢
        clear hWW
        generalize Wa.heap.size = yg at yb hyg hyl ⊢
        have hHeld := And.intro (Box.cell loc 1 _ rfl) K0.ts
        refine hK.out _ _ (.inr hHeld) ?_
        clear hK K
        have y0 := Box.cell yb 0 _ rfl
        have f0 := World.ownsRow.frozenAt yb 0
        have y1 := Box.cell yb 1 _ rfl
        have f1 := World.ownsRow.frozenAt yb 1
        have y2 := Box.cell yb 2 _ rfl
        have f2 := World.ownsRow.frozenAt yb 2
        have y3 := Box.cell yb 3 _ rfl
        have f3 := World.ownsRow.frozenAt yb 3
        have HP4 := Lib.hid (boxPut4 yb (.string m.office) (.string m.person) (.int .i64 m.fr) (.int .i64 m.to))
        refine MAny.ready (rs := [10]) (by kernel_rfl) (by simp) ?_
        refine MReady.cons rfl (fun K hK => ?_) MReady.nil
        go_simp
        refine hK.out _ _ (.inl rfl) ?_
        clear hK K
        refine MAny.done (by kernel_rfl) ?_ _
        try simp only [List.getElem_toArray, List.getElem_cons_succ, List.getElem_cons_zero]
        have hp := HP4.out
        have hwy : w.heap.size ≠ yg := by have := (Box.lt yb).1; omega
        have res := Box.keep res hp.2 hwy
        have loc := Box.keep loc hp.2 (Ne.symm hyl)
        have K0 := K0.store hp.2 hyg.1 hyg.2
        have D := D.store hp.2 (Box.lt yb).1
        have yb := hp.1
        clear hp HP4 hHeld y0 y1 y2 y3 f0 f1 f2 f3
        generalize (((Wb.setCell ⟨yg, 0, none⟩ (.string m.office)).setCell ⟨yg, 1, none⟩ (.string m.person)).setCell ⟨yg, 2, none⟩ (.int .i64 m.fr)).setCell ⟨yg, 3, none⟩ (.int .i64 m.to) = Wf at res loc K0 D yb ⊢
        obtain ⟨ho13, hp13, hf0, hf1, ht3, ht4⟩ := hmo
        have v1 := i64_in (m.fr - 1) (by omega)
        have v2 := i64_in (m.to + 1) (by omega)
        go_upto_region 5 with (fail)
        refine MAny.region (S := fun w' => w'.cell? ⟨lb, 0, none⟩ = some (.slice (some ⟨g, 0, none⟩) ps.length c) ∧ w'.cell? ⟨lb, 1, none⟩ = some (.slice (some ⟨g2, 0, none⟩) ts.length c2) ∧ w'.cell? ⟨yg, 0, none⟩ = some (.string m.office) ∧ w'.cell? ⟨yg, 2, none⟩ = some (.int .i64 m.fr) ∧ w'.cell? ⟨yg, 3, none⟩ = some (.int .i64 m.to)) (last := 18) (by kernel_rfl) ?_
        have loc := Box.below loc (Below.refl _ Wf).drew
        have K0 := K0.below (Below.refl _ Wf).drew
        have yb := Box.below yb (Below.refl _ Wf).drew
        have D := D.below (Below.refl _ Wf).drew
        have res := Box.below res (Below.refl _ Wf).drew
        generalize Wf.drew = W0 at loc K0 yb D res ⊢
        have hHeld := And.intro (Box.cell loc 0 _ rfl) (And.intro (Box.cell loc 1 _ rfl) (And.intro (Box.cell yb 0 _ rfl) (And.intro (Box.cell yb 2 _ rfl) (Box.cell yb 3 _ rfl))))
        refine MAny.take (i := 0) (v := ?_) rfl (by kernel_rfl) (by kernel_rfl) (by kernel_rfl) (fun _ _ _ h => h) (by kernel_rfl) (Or.inl ⟨by rfl, ?_⟩) (by assumption) ?_
        rotate_left
        · (intro w' hSw; (try dsimp only at hSw); go_simp; try (with_reducible rfl))
        try simp only [Act.put, List.setIfInBounds_toArray]
        refine MAny.take (i := 1) (v := ?_) rfl (by kernel_rfl) (by kernel_rfl) (by kernel_rfl) (fun _ _ _ h => h) (by kernel_rfl) (Or.inl ⟨by rfl, ?_⟩) (by assumption) ?_
        rotate_left
        · (intro w' hSw; (try dsimp only at hSw); go_simp; try (with_reducible rfl))
        try simp only [Act.put]
        refine MAny.take (i := 2) (v := ?_) rfl (by kernel_rfl) (by kernel_rfl) (by kernel_rfl) (fun _ _ _ h => h) (by kernel_rfl) (Or.inl ⟨by rfl, ?_⟩) (by assumption) ?_
        rotate_left
        · (intro w' hSw; (try dsimp only at hSw); go_simp; try (with_reducible rfl))
        try simp only [Act.put]
        refine MAny.take (i := 3) (v := ?_) rfl (by kernel_rfl) (by kernel_rfl) (by kernel_rfl) (fun _ _ _ h => h) (by kernel_rfl) (Or.inl ⟨by rfl, ?_⟩) (by assumption) ?_
        rotate_left
        · (intro w' hSw; (try dsimp only at hSw); go_simp; try (with_reducible rfl))
        try simp only [Act.put]
        refine MAny.take (i := 4) (v := ?_) rfl (by kernel_rfl) (by kernel_rfl) (by kernel_rfl) (fun _ _ _ h => h) (by kernel_rfl) (Or.inl ⟨by rfl, ?_⟩) (by assumption) ?_
        rotate_left
        · (intro w' hSw; (try dsimp only at hSw); go_simp; try (with_reducible rfl))
        try simp only [Act.put]
        refine MAny.take (i := 5) (v := ?_) rfl (by kernel_rfl) (by kernel_rfl) (by kernel_rfl) (fun _ _ _ h => h) (by kernel_rfl) (Or.inl ⟨by rfl, ?_⟩) (by assumption) ?_
        rotate_left
        · (intro w' hSw; (try dsimp only at hSw); go_simp; try (with_reducible rfl))
        try simp only [Act.put]
        refine MAny.take (i := 6) (v := ?_) rfl (by kernel_rfl) (by kernel_rfl) (by kernel_rfl) (fun _ _ _ h => h) (by kernel_rfl) (Or.inl ⟨by rfl, ?_⟩) (by assumption) ?_
        rotate_left
        · (intro w' hSw; (try dsimp only at hSw); go_simp; try (with_reducible rfl))
        try simp only [Act.put]
        refine MAny.take (i := 7) (v := ?_) rfl (by kernel_rfl) (by kernel_rfl) (by kernel_rfl) (fun _ _ _ h => h) (by kernel_rfl) (Or.inl ⟨by rfl, ?_⟩) (by assumption) ?_
        rotate_left
        · (intro w' hSw; (try dsimp only at hSw); go_simp; try (with_reducible rfl))
        try simp only [Act.put]
        refine MAny.take (i := 8) (v := ?_) rfl (by kernel_rfl) (by kernel_rfl) (by kernel_rfl) (fun _ _ _ h => h) (by kernel_rfl) (Or.inl ⟨by rfl, ?_⟩) (by assumption) ?_
        rotate_left
        · (intro w' hSw; (try dsimp only at hSw); go_simp; try (with_reducible rfl))
        try simp only [Act.put]
        refine MAny.take (i := 9) (v := ?_) rfl (by kernel_rfl) (by kernel_rfl) (by kernel_rfl) (fun _ _ _ h => h) (by kernel_rfl) (Or.inl ⟨by rfl, ?_⟩) (by assumption) ?_
        rotate_left
        · (intro w' hSw; (try dsimp only at hSw); go_simp; try (with_reducible rfl))
        try simp only [Act.put]
        refine MAny.take (i := 10) (v := ?_) rfl (by kernel_rfl) (by kernel_rfl) (by kernel_rfl) (fun _ _ _ h => h) (by kernel_rfl) (Or.inl ⟨by rfl, ?_⟩) (by assumption) ?_
        rotate_left
        · (intro w' hSw; (try dsimp only at hSw); go_simp; try (with_reducible rfl))
        try simp only [Act.put]
        refine MAny.take (i := 11) (v := ?_) rfl (by kernel_rfl) (by kernel_rfl) (by kernel_rfl) (fun _ _ _ h => h) (by kernel_rfl) (Or.inl ⟨by rfl, ?_⟩) (by assumption) ?_
        rotate_left
        · (intro w' hSw; (try dsimp only at hSw); go_simp; try (with_reducible rfl))
        try simp only [Act.put]
        refine MAny.take (i := 12) (v := ?_) rfl (by kernel_rfl) (by kernel_rfl) (by kernel_rfl) (fun _ _ _ h => h) (by kernel_rfl) (Or.inl ⟨by rfl, ?_⟩) (by assumption) ?_
        rotate_left
        · (intro w' hSw; (try dsimp only at hSw); go_simp; try (with_reducible rfl))
        try simp only [Act.put]
        refine MAny.take (i := 13) (v := ?_) rfl (by kernel_rfl) (by kernel_rfl) (by kernel_rfl) (fun _ _ _ h => h) (by kernel_rfl) (Or.inl ⟨by rfl, ?_⟩) (by assumption) ?_
        rotate_left
        · (intro w' hSw; (try dsimp only at hSw); go_simp; try (with_reducible rfl))
        try simp only [Act.put]
        refine MAny.ready (rs := [14]) (by kernel_rfl) (by simp) ?_
        refine MReady.cons rfl (fun K hK => ?_) MReady.nil
        go_simp
        have hrd := rd_lit (w := W0) (c := #[.int .i64 m.fr, .int .i64 m.to, .int .i64 (m.fr - 1), .int .i64 (m.to + 1)]) (xs := [m.fr, m.to, m.fr - 1, m.to + 1]) (p := p) rfl D.src.lt.2
        have hBA := belowA W0 (.cells #[.int .i64 m.fr, .int .i64 m.to, .int .i64 (m.fr - 1), .int .i64 (m.to + 1)] 2)
        have res := Box.below res hBA
        have loc := Box.below loc hBA
        have K0 := K0.below hBA
        have yb := Box.below yb hBA
        have D := D.below hBA
        clear hBA
        have hHeld := And.intro (Box.cell loc 0 _ rfl) (And.intro (Box.cell loc 1 _ rfl) (And.intro (Box.cell yb 0 _ rfl) (And.intro (Box.cell yb 2 _ rfl) (Box.cell yb 3 _ rfl))))
        refine hK.out _ _ (.inr hHeld) ?_
        clear hK K
        refine MAny.ready (rs := [15]) (by kernel_rfl) (by simp) ?_
        refine MReady.cons rfl (fun K hK => ?_) MReady.nil
        go_simp
        go_wp2_with (go_at_call 84; refine (HP.out _ 4 [m.fr, m.to, m.fr - 1, m.to + 1] _ D.src hrd (by simp) (by simp)).mono ?_; rintro e W2 ⟨n, rfl, _, hs, hG⟩)
        have res := Box.keep res hG hwp
        have loc := Box.keepA loc hG D.hp
        have K0 := K0.call hG
        have yb := Box.keepA yb hG D.hp
        have D := D.call hs hG
        clear hs hG
        have hHeld := And.intro (Box.cell loc 0 _ rfl) (And.intro (Box.cell loc 1 _ rfl) (And.intro (Box.cell yb 0 _ rfl) (And.intro (Box.cell yb 2 _ rfl) (Box.cell yb 3 _ rfl))))
        refine hK.out _ _ (.inr hHeld) ?_
        clear hK K
        have r0 := Box.cell res 0 _ rfl
        have f0 := World.ownsRow.frozenAt res 0
        have r1 := Box.cell res 1 _ rfl
        have f1 := World.ownsRow.frozenAt res 1
        have hp := Box.put2 res (.slice (some ⟨g, 0, none⟩) ps.length c) (.slice (some ⟨g2, 0, none⟩) ts.length c2)
        have y0 : ((W2.setCell ⟨w.heap.size, 0, none⟩ (.slice (some ⟨g, 0, none⟩) ps.length c)).cell? ⟨w.heap.size, 1, none⟩) = some (.slice none 0 0) := by have := Box.cell (Box.put (i := 0) (pre := []) (post := [.slice none 0 0]) res rfl (.slice (some ⟨g, 0, none⟩) ps.length c)).1 1 _ rfl; exact this
        have loc2 := Box.keep loc hp.2 (Ne.symm hwl)
        have yb2 := Box.keep yb hp.2 (Ne.symm hwy)
        have hHeld2 := And.intro (Box.cell loc2 0 _ rfl) (And.intro (Box.cell loc2 1 _ rfl) (And.intro (Box.cell yb2 0 _ rfl) (And.intro (Box.cell yb2 2 _ rfl) (Box.cell yb2 3 _ rfl))))
        have z0 := Box.cell hp.1 0 _ rfl
        have z1 := Box.cell hp.1 1 _ rfl
        have hKP := K0.1.keep hp.2 (fun e => by injection e with e; have := K0.1.lt; omega) (fun e => by injection e with e; have := K0.1.lt; omega)
        have hBW : Below w.heap.size w ((W2.setCell ⟨w.heap.size, 0, none⟩ (.slice (some ⟨g, 0, none⟩) ps.length c)).setCell ⟨w.heap.size, 1, none⟩ (.slice (some ⟨g2, 0, none⟩) ts.length c2)) := (stepB hB1 D.base hB1.size).grown hp.2 (stepB hB1 D.base hB1.size).size (fun g e => by cases e; exact Nat.le_refl _)
        have HF := Lib.hid (And.intro hKP hBW)
        clear hp hKP hBW loc2 yb2
        refine MAny.ready (rs := [16]) (by kernel_rfl) (by simp) ?_
        refine MReady.cons rfl (fun K hK => ?_) MReady.nil
        go_simp
        refine hK.out _ _ (.inr hHeld2) ?_
        clear hK K
        refine MAny.ready (rs := [17]) (by kernel_rfl) (by simp) ?_
        refine MReady.cons rfl (fun K hK => ?_) MReady.nil
        go_simp
        refine hK.out _ _ (.inr hHeld2) ?_
        clear hK K
        refine MAny.ready (rs := [18]) (by kernel_rfl) (by simp) ?_
        refine MReady.cons rfl (fun K hK => ?_) MReady.nil
        go_simp
        refine hK.out _ _ (.inl rfl) ?_
        clear hK K
        refine MAny.done (by kernel_rfl) ?_ _
        try simp only [List.getElem_toArray, List.getElem_cons_succ, List.getElem_cons_zero]
        go_wp2
        refine bodyPost_ret_by (v := .tuple #[.agg #[.slice (some ⟨g, 0, none⟩) ps.length c, .slice (some ⟨g2, 0, none⟩) ts.length c2], .string m.office, .int .i64 n]) ?_ rfl ?_
        · simp [results, go_sem, z0, z1]
        · exact ⟨g, g2, c, c2, ps, ts, m.office, n, rfl, HF.out.1.base hw2, ho13, HF.out.2⟩
      · go_simp
        have yb := Box.new W0 105 [.string ⟨#[]⟩, .string ⟨#[]⟩, .int .i64 0, .int .i64 0] w2.heap.size D.size (by simp)
        have hyg : W0.heap.size ≠ g ∧ W0.heap.size ≠ g2 := by have := K0.1.lt; omega
        have hyl : W0.heap.size ≠ lb := by have := (Box.lt loc).2; omega
        have hBA := belowA W0 (.cells #[.string ⟨#[]⟩, .string ⟨#[]⟩, .int .i64 0, .int .i64 0] 105)
        have res := Box.below res hBA
        have loc := Box.below loc hBA
        have K0 := K0.below hBA
        have D := D.below hBA
        clear hBA
        generalize hWW : W0.alloc (.cells #[.string ⟨#[]⟩, .string ⟨#[]⟩, .int .i64 0, .int .i64 0] 105) = Wa at yb loc K0 D res ⊢
        clear hWW
        generalize W0.heap.size = yg at yb hyg hyl ⊢
        have hHeld := And.intro (Box.cell loc 1 _ rfl) K0.ts
        refine hK.out _ _ (.inr hHeld) ?_
        clear hK K
        refine MAny.ready (rs := [6]) (by kernel_rfl) (by simp) ?_
        refine MReady.cons rfl (fun K hK => ?_) MReady.nil
        go_simp
        go_wp2_with (go_at_call 62; refine (HN.out ts.length Wa (by omega) (by omega) D.src).mono ?_; rintro e Wb ⟨q, rfl, hq0, hq1, hs, hG⟩)
        have res := Box.keep res hG hwp
        have loc := Box.keepA loc hG D.hp
        have K0 := K0.call hG
        have yb := Box.keepA yb hG D.hp
        have D := D.call hs hG
        clear hs hG
        obtain ⟨j, rfl⟩ : ∃ j : Nat, q = j := ⟨q.toNat, by omega⟩
        have hj : j < ts.length := by omega
        have hj1 : (j : Int) < (ts.length : Int) := by omega
        obtain ⟨m, hm⟩ : ∃ m, ts[j]? = some m := ⟨_, List.getElem?_eq_getElem hj⟩
        have hmo := K0.1.2.2.2.1 m (List.mem_of_getElem? hm)
        clear hq0 hq1
        have hHeld := And.intro (Box.cell loc 1 _ rfl) K0.ts
        refine hK.out _ _ (.inr hHeld) ?_
        clear hK K
        refine MAny.take (i := 7) (v := ?_) rfl (by kernel_rfl) (by kernel_rfl) (by kernel_rfl) (fun _ _ _ h => h) (by kernel_rfl) (Or.inl ⟨by rfl, ?_⟩) (by assumption) ?_
        rotate_left
        · (intro w' hSw; (try dsimp only at hSw); go_simp; try (with_reducible rfl))
        try simp only [Act.put, List.setIfInBounds_toArray]
        refine MAny.take (i := 8) (v := ?_) rfl (by kernel_rfl) (by kernel_rfl) (by kernel_rfl) (fun _ _ _ h => h) (by kernel_rfl) (Or.inl ⟨by rfl, ?_⟩) (by assumption) ?_
        rotate_left
        · (intro w' hSw; (try dsimp only at hSw); obtain ⟨e0, e1, e2, e3⟩ := hSw.2 j m hm; clear hSw; go_simp; try (with_reducible rfl))
        try simp only [Act.put]
        have y0 := Box.cell yb 0 _ rfl
        have f0 := World.ownsRow.frozenAt yb 0
        have y1 := Box.cell yb 1 _ rfl
        have f1 := World.ownsRow.frozenAt yb 1
        have y2 := Box.cell yb 2 _ rfl
        have f2 := World.ownsRow.frozenAt yb 2
        have y3 := Box.cell yb 3 _ rfl
        have f3 := World.ownsRow.frozenAt yb 3
        have HP4 := Lib.hid (boxPut4 yb (.string m.office) (.string m.person) (.int .i64 m.fr) (.int .i64 m.to))
        refine MAny.ready (rs := [10]) (by kernel_rfl) (by simp) ?_
        refine MReady.cons rfl (fun K hK => ?_) MReady.nil
        go_simp
        refine hK.out _ _ (.inl rfl) ?_
        clear hK K
        refine MAny.done (by kernel_rfl) ?_ _
        try simp only [List.getElem_toArray, List.getElem_cons_succ, List.getElem_cons_zero]
        have hp := HP4.out
        have hwy : w.heap.size ≠ yg := by have := (Box.lt yb).1; omega
        have res := Box.keep res hp.2 hwy
        have loc := Box.keep loc hp.2 (Ne.symm hyl)
        have K0 := K0.store hp.2 hyg.1 hyg.2
        have D := D.store hp.2 (Box.lt yb).1
        have yb := hp.1
        clear hp HP4 hHeld y0 y1 y2 y3 f0 f1 f2 f3
        generalize (((Wb.setCell ⟨yg, 0, none⟩ (.string m.office)).setCell ⟨yg, 1, none⟩ (.string m.person)).setCell ⟨yg, 2, none⟩ (.int .i64 m.fr)).setCell ⟨yg, 3, none⟩ (.int .i64 m.to) = Wf at res loc K0 D yb ⊢
        obtain ⟨ho13, hp13, hf0, hf1, ht3, ht4⟩ := hmo
        have v1 := i64_in (m.fr - 1) (by omega)
        have v2 := i64_in (m.to + 1) (by omega)
        go_upto_region 5 with (fail)
        refine MAny.region (S := fun w' => w'.cell? ⟨lb, 0, none⟩ = some (.slice (some ⟨g, 0, none⟩) ps.length c) ∧ w'.cell? ⟨lb, 1, none⟩ = some (.slice (some ⟨g2, 0, none⟩) ts.length c2) ∧ w'.cell? ⟨yg, 0, none⟩ = some (.string m.office) ∧ w'.cell? ⟨yg, 2, none⟩ = some (.int .i64 m.fr) ∧ w'.cell? ⟨yg, 3, none⟩ = some (.int .i64 m.to)) (last := 18) (by kernel_rfl) ?_
        have loc := Box.below loc (Below.refl _ Wf).drew
        have K0 := K0.below (Below.refl _ Wf).drew
        have yb := Box.below yb (Below.refl _ Wf).drew
        have D := D.below (Below.refl _ Wf).drew
        have res := Box.below res (Below.refl _ Wf).drew
        generalize Wf.drew = W0 at loc K0 yb D res ⊢
        have hHeld := And.intro (Box.cell loc 0 _ rfl) (And.intro (Box.cell loc 1 _ rfl) (And.intro (Box.cell yb 0 _ rfl) (And.intro (Box.cell yb 2 _ rfl) (Box.cell yb 3 _ rfl))))
        refine MAny.take (i := 0) (v := ?_) rfl (by kernel_rfl) (by kernel_rfl) (by kernel_rfl) (fun _ _ _ h => h) (by kernel_rfl) (Or.inl ⟨by rfl, ?_⟩) (by assumption) ?_
        rotate_left
        · (intro w' hSw; (try dsimp only at hSw); go_simp; try (with_reducible rfl))
        try simp only [Act.put, List.setIfInBounds_toArray]
        refine MAny.take (i := 1) (v := ?_) rfl (by kernel_rfl) (by kernel_rfl) (by kernel_rfl) (fun _ _ _ h => h) (by kernel_rfl) (Or.inl ⟨by rfl, ?_⟩) (by assumption) ?_
        rotate_left
        · (intro w' hSw; (try dsimp only at hSw); go_simp; try (with_reducible rfl))
        try simp only [Act.put]
        refine MAny.take (i := 2) (v := ?_) rfl (by kernel_rfl) (by kernel_rfl) (by kernel_rfl) (fun _ _ _ h => h) (by kernel_rfl) (Or.inl ⟨by rfl, ?_⟩) (by assumption) ?_
        rotate_left
        · (intro w' hSw; (try dsimp only at hSw); go_simp; try (with_reducible rfl))
        try simp only [Act.put]
        refine MAny.take (i := 3) (v := ?_) rfl (by kernel_rfl) (by kernel_rfl) (by kernel_rfl) (fun _ _ _ h => h) (by kernel_rfl) (Or.inl ⟨by rfl, ?_⟩) (by assumption) ?_
        rotate_left
        · (intro w' hSw; (try dsimp only at hSw); go_simp; try (with_reducible rfl))
        try simp only [Act.put]
        refine MAny.take (i := 4) (v := ?_) rfl (by kernel_rfl) (by kernel_rfl) (by kernel_rfl) (fun _ _ _ h => h) (by kernel_rfl) (Or.inl ⟨by rfl, ?_⟩) (by assumption) ?_
        rotate_left
        · (intro w' hSw; (try dsimp only at hSw); go_simp; try (with_reducible rfl))
        try simp only [Act.put]
        refine MAny.take (i := 5) (v := ?_) rfl (by kernel_rfl) (by kernel_rfl) (by kernel_rfl) (fun _ _ _ h => h) (by kernel_rfl) (Or.inl ⟨by rfl, ?_⟩) (by assumption) ?_
        rotate_left
        · (intro w' hSw; (try dsimp only at hSw); go_simp; try (with_reducible rfl))
        try simp only [Act.put]
        refine MAny.take (i := 6) (v := ?_) rfl (by kernel_rfl) (by kernel_rfl) (by kernel_rfl) (fun _ _ _ h => h) (by kernel_rfl) (Or.inl ⟨by rfl, ?_⟩) (by assumption) ?_
        rotate_left
        · (intro w' hSw; (try dsimp only at hSw); go_simp; try (with_reducible rfl))
        try simp only [Act.put]
        refine MAny.take (i := 7) (v := ?_) rfl (by kernel_rfl) (by kernel_rfl) (by kernel_rfl) (fun _ _ _ h => h) (by kernel_rfl) (Or.inl ⟨by rfl, ?_⟩) (by assumption) ?_
        rotate_left
        · (intro w' hSw; (try dsimp only at hSw); go_simp; try (with_reducible rfl))
        try simp only [Act.put]
        refine MAny.take (i := 8) (v := ?_) rfl (by kernel_rfl) (by kernel_rfl) (by kernel_rfl) (fun _ _ _ h => h) (by kernel_rfl) (Or.inl ⟨by rfl, ?_⟩) (by assumption) ?_
        rotate_left
        · (intro w' hSw; (try dsimp only at hSw); go_simp; try (with_reducible rfl))
        try simp only [Act.put]
        refine MAny.take (i := 9) (v := ?_) rfl (by kernel_rfl) (by kernel_rfl) (by kernel_rfl) (fun _ _ _ h => h) (by kernel_rfl) (Or.inl ⟨by rfl, ?_⟩) (by assumption) ?_
        rotate_left
        · (intro w' hSw; (try dsimp only at hSw); go_simp; try (with_reducible rfl))
        try simp only [Act.put]
        refine MAny.take (i := 10) (v := ?_) rfl (by kernel_rfl) (by kernel_rfl) (by kernel_rfl) (fun _ _ _ h => h) (by kernel_rfl) (Or.inl ⟨by rfl, ?_⟩) (by assumption) ?_
        rotate_left
        · (intro w' hSw; (try dsimp only at hSw); go_simp; try (with_reducible rfl))
        try simp only [Act.put]
        refine MAny.take (i := 11) (v := ?_) rfl (by kernel_rfl) (by kernel_rfl) (by kernel_rfl) (fun _ _ _ h => h) (by kernel_rfl) (Or.inl ⟨by rfl, ?_⟩) (by assumption) ?_
        rotate_left
        · (intro w' hSw; (try dsimp only at hSw); go_simp; try (with_reducible rfl))
        try simp only [Act.put]
        refine MAny.take (i := 12) (v := ?_) rfl (by kernel_rfl) (by kernel_rfl) (by kernel_rfl) (fun _ _ _ h => h) (by kernel_rfl) (Or.inl ⟨by rfl, ?_⟩) (by assumption) ?_
        rotate_left
        · (intro w' hSw; (try dsimp only at hSw); go_simp; try (with_reducible rfl))
        try simp only [Act.put]
        refine MAny.take (i := 13) (v := ?_) rfl (by kernel_rfl) (by kernel_rfl) (by kernel_rfl) (fun _ _ _ h => h) (by kernel_rfl) (Or.inl ⟨by rfl, ?_⟩) (by assumption) ?_
        rotate_left
        · (intro w' hSw; (try dsimp only at hSw); go_simp; try (with_reducible rfl))
        try simp only [Act.put]
        refine MAny.ready (rs := [14]) (by kernel_rfl) (by simp) ?_
        refine MReady.cons rfl (fun K hK => ?_) MReady.nil
        go_simp
        have hrd := rd_lit (w := W0) (c := #[.int .i64 m.fr, .int .i64 m.to, .int .i64 (m.fr - 1), .int .i64 (m.to + 1)]) (xs := [m.fr, m.to, m.fr - 1, m.to + 1]) (p := p) rfl D.src.lt.2
        have hBA := belowA W0 (.cells #[.int .i64 m.fr, .int .i64 m.to, .int .i64 (m.fr - 1), .int .i64 (m.to + 1)] 2)
        have res := Box.below res hBA
        have loc := Box.below loc hBA
        have K0 := K0.below hBA
        have yb := Box.below yb hBA
        have D := D.below hBA
        clear hBA
        have hHeld := And.intro (Box.cell loc 0 _ rfl) (And.intro (Box.cell loc 1 _ rfl) (And.intro (Box.cell yb 0 _ rfl) (And.intro (Box.cell yb 2 _ rfl) (Box.cell yb 3 _ rfl))))
        refine hK.out _ _ (.inr hHeld) ?_
        clear hK K
        refine MAny.ready (rs := [15]) (by kernel_rfl) (by simp) ?_
        refine MReady.cons rfl (fun K hK => ?_) MReady.nil
        go_simp
        go_wp2_with (go_at_call 84; refine (HP.out _ 4 [m.fr, m.to, m.fr - 1, m.to + 1] _ D.src hrd (by simp) (by simp)).mono ?_; rintro e W2 ⟨n, rfl, _, hs, hG⟩)
        have res := Box.keep res hG hwp
        have loc := Box.keepA loc hG D.hp
        have K0 := K0.call hG
        have yb := Box.keepA yb hG D.hp
        have D := D.call hs hG
        clear hs hG
        have hHeld := And.intro (Box.cell loc 0 _ rfl) (And.intro (Box.cell loc 1 _ rfl) (And.intro (Box.cell yb 0 _ rfl) (And.intro (Box.cell yb 2 _ rfl) (Box.cell yb 3 _ rfl))))
        refine hK.out _ _ (.inr hHeld) ?_
        clear hK K
        have r0 := Box.cell res 0 _ rfl
        have f0 := World.ownsRow.frozenAt res 0
        have r1 := Box.cell res 1 _ rfl
        have f1 := World.ownsRow.frozenAt res 1
        have hp := Box.put2 res (.slice (some ⟨g, 0, none⟩) ps.length c) (.slice (some ⟨g2, 0, none⟩) ts.length c2)
        have y0 : ((W2.setCell ⟨w.heap.size, 0, none⟩ (.slice (some ⟨g, 0, none⟩) ps.length c)).cell? ⟨w.heap.size, 1, none⟩) = some (.slice none 0 0) := by have := Box.cell (Box.put (i := 0) (pre := []) (post := [.slice none 0 0]) res rfl (.slice (some ⟨g, 0, none⟩) ps.length c)).1 1 _ rfl; exact this
        have loc2 := Box.keep loc hp.2 (Ne.symm hwl)
        have yb2 := Box.keep yb hp.2 (Ne.symm hwy)
        have hHeld2 := And.intro (Box.cell loc2 0 _ rfl) (And.intro (Box.cell loc2 1 _ rfl) (And.intro (Box.cell yb2 0 _ rfl) (And.intro (Box.cell yb2 2 _ rfl) (Box.cell yb2 3 _ rfl))))
        have z0 := Box.cell hp.1 0 _ rfl
        have z1 := Box.cell hp.1 1 _ rfl
        have hKP := K0.1.keep hp.2 (fun e => by injection e with e; have := K0.1.lt; omega) (fun e => by injection e with e; have := K0.1.lt; omega)
        have hBW : Below w.heap.size w ((W2.setCell ⟨w.heap.size, 0, none⟩ (.slice (some ⟨g, 0, none⟩) ps.length c)).setCell ⟨w.heap.size, 1, none⟩ (.slice (some ⟨g2, 0, none⟩) ts.length c2)) := (stepB hB1 D.base hB1.size).grown hp.2 (stepB hB1 D.base hB1.size).size (fun g e => by cases e; exact Nat.le_refl _)
        have HF := Lib.hid (And.intro hKP hBW)
        clear hp hKP hBW loc2 yb2
        refine MAny.ready (rs := [16]) (by kernel_rfl) (by simp) ?_
        refine MReady.cons rfl (fun K hK => ?_) MReady.nil
        go_simp
        refine hK.out _ _ (.inr hHeld2) ?_
        clear hK K
        refine MAny.ready (rs := [17]) (by kernel_rfl) (by simp) ?_
        refine MReady.cons rfl (fun K hK => ?_) MReady.nil
        go_simp
        refine hK.out _ _ (.inr hHeld2) ?_
        clear hK K
        refine MAny.ready (rs := [18]) (by kernel_rfl) (by simp) ?_
        refine MReady.cons rfl (fun K hK => ?_) MReady.nil
        go_simp
        refine hK.out _ _ (.inl rfl) ?_
        clear hK K
        refine MAny.done (by kernel_rfl) ?_ _
        try simp only [List.getElem_toArray, List.getElem_cons_succ, List.getElem_cons_zero]
        go_wp2
        refine bodyPost_ret_by (v := .tuple #[.agg #[.slice (some ⟨g, 0, none⟩) ps.length c, .slice (some ⟨g2, 0, none⟩) ts.length c2], .string m.office, .int .i64 n]) ?_ rfl ?_
        · simp [results, go_sem, z0, z1]
        · exact ⟨g, g2, c, c2, ps, ts, m.office, n, rfl, HF.out.1.base hw2, ho13, HF.out.2⟩
    · have h0' : (r == 0) = false := by simpa using h0
      go_upto_region 6 with (fail)
      clear m1
      refine MAny.region (S := fun w' => w'.cell? ⟨lb, 0, none⟩ = some (.slice (some ⟨g, 0, none⟩) ps.length c) ∧ w'.cell? ⟨lb, 1, none⟩ = some (.slice (some ⟨g2, 0, none⟩) ts.length c2)) (last := 7) (by kernel_rfl) ?_
      have loc := Box.below loc (Below.refl _ w5).drew
      have K0 := K0.below (Below.refl _ w5).drew
      have D := D.below (Below.refl _ w5).drew
      have res := Box.below res (Below.refl _ w5).drew
      generalize w5.drew = W0 at loc K0 D res ⊢
      have hHeld := And.intro (Box.cell loc 0 _ rfl) (Box.cell loc 1 _ rfl)
      refine MAny.take (i := 0) (v := ?_) rfl (by kernel_rfl) (by kernel_rfl) (by kernel_rfl) (fun _ _ _ h => h) (by kernel_rfl) (Or.inl ⟨by rfl, ?_⟩) (by assumption) ?_
      rotate_left
      · (intro w' hSw; (try dsimp only at hSw); go_simp; try (with_reducible rfl))
      try simp only [Act.put, List.setIfInBounds_toArray]
      refine MAny.take (i := 1) (v := ?_) rfl (by kernel_rfl) (by kernel_rfl) (by kernel_rfl) (fun _ _ _ h => h) (by kernel_rfl) (Or.inl ⟨by rfl, ?_⟩) (by assumption) ?_
      rotate_left
      · (intro w' hSw; (try dsimp only at hSw); go_simp; try (with_reducible rfl))
      try simp only [Act.put]
      refine MAny.take (i := 3) (v := ?_) rfl (by kernel_rfl) (by kernel_rfl) (by kernel_rfl) (fun _ _ _ h => h) (by kernel_rfl) (Or.inl ⟨by rfl, ?_⟩) (by assumption) ?_
      rotate_left
      · (intro w' hSw; (try dsimp only at hSw); go_simp; try (with_reducible rfl))
      try simp only [Act.put]
      refine MAny.ready (rs := [2]) (by kernel_rfl) (by simp) ?_
      refine MReady.cons rfl (fun K hK => ?_) MReady.nil
      go_simp
      go_wp2_with (go_at_call 74; refine (HO.out W0 D.src).mono ?_; rintro e W1 ⟨o, rfl, ho13, hs, hG⟩)
      have res := Box.keep res hG hwp
      have loc := Box.keepA loc hG D.hp
      have K0 := K0.call hG
      have D := D.call hs hG
      clear hs hG
      have hHeld := And.intro (Box.cell loc 0 _ rfl) (Box.cell loc 1 _ rfl)
      refine hK.out _ _ (.inr hHeld) ?_
      clear hK K
      refine MAny.ready (rs := [4]) (by kernel_rfl) (by simp) ?_
      refine MReady.cons rfl (fun K hK => ?_) MReady.nil
      go_simp
      go_wp2_with (go_at_call 85; refine (HD.out W1 D.src).mono ?_; rintro e W2 ⟨n, rfl, hn, hs, hG⟩)
      have res := Box.keep res hG hwp
      have loc := Box.keepA loc hG D.hp
      have K0 := K0.call hG
      have D := D.call hs hG
      clear hs hG
      have hHeld := And.intro (Box.cell loc 0 _ rfl) (Box.cell loc 1 _ rfl)
      refine hK.out _ _ (.inr hHeld) ?_
      clear hK K
      have r0 := Box.cell res 0 _ rfl
      have f0 := World.ownsRow.frozenAt res 0
      have r1 := Box.cell res 1 _ rfl
      have f1 := World.ownsRow.frozenAt res 1
      have hp := Box.put2 res (.slice (some ⟨g, 0, none⟩) ps.length c) (.slice (some ⟨g2, 0, none⟩) ts.length c2)
      have y0 : ((W2.setCell ⟨w.heap.size, 0, none⟩ (.slice (some ⟨g, 0, none⟩) ps.length c)).cell? ⟨w.heap.size, 1, none⟩) = some (.slice none 0 0) := by have := Box.cell (Box.put (i := 0) (pre := []) (post := [.slice none 0 0]) res rfl (.slice (some ⟨g, 0, none⟩) ps.length c)).1 1 _ rfl; exact this
      have loc2 := Box.keep loc hp.2 (Ne.symm hwl)
      have hHeld2 := And.intro (Box.cell loc2 0 _ rfl) (Box.cell loc2 1 _ rfl)
      have z0 := Box.cell hp.1 0 _ rfl
      have z1 := Box.cell hp.1 1 _ rfl
      have hKP := K0.1.keep hp.2 (fun e => by injection e with e; have := K0.1.lt; omega) (fun e => by injection e with e; have := K0.1.lt; omega)
      have hBW : Below w.heap.size w ((W2.setCell ⟨w.heap.size, 0, none⟩ (.slice (some ⟨g, 0, none⟩) ps.length c)).setCell ⟨w.heap.size, 1, none⟩ (.slice (some ⟨g2, 0, none⟩) ts.length c2)) := (stepB hB1 D.base hB1.size).grown hp.2 (stepB hB1 D.base hB1.size).size (fun g e => by cases e; exact Nat.le_refl _)
      have HF := Lib.hid (And.intro hKP hBW)
      clear hp hKP hBW loc2
      refine MAny.ready (rs := [5]) (by kernel_rfl) (by simp) ?_
      refine MReady.cons rfl (fun K hK => ?_) MReady.nil
      go_simp
      refine hK.out _ _ (.inr hHeld2) ?_
      clear hK K
      refine MAny.ready (rs := [6]) (by kernel_rfl) (by simp) ?_
      refine MReady.cons rfl (fun K hK => ?_) MReady.nil
      go_simp
      refine hK.out _ _ (.inr hHeld2) ?_
      clear hK K
      refine MAny.ready (rs := [7]) (by kernel_rfl) (by simp) ?_
      refine MReady.cons rfl (fun K hK => ?_) MReady.nil
      go_simp
      refine hK.out _ _ (.inl rfl) ?_
      clear hK K
      refine MAny.done (by kernel_rfl) ?_ _
      try simp only [List.getElem_toArray, List.getElem_cons_succ, List.getElem_cons_zero]
      go_wp2
      refine bodyPost_ret_by (v := .tuple #[.agg #[.slice (some ⟨g, 0, none⟩) ps.length c, .slice (some ⟨g2, 0, none⟩) ts.length c2], .string o, .int .i64 n]) ?_ rfl ?_
      · simp [results, go_sem, z0, z1]
      · exact ⟨g, g2, c, c2, ps, ts, o, n, rfl, HF.out.1.base hw2, ho13, HF.out.2⟩
end Go.Proofs.YtmjbigeeokofeaaGreatDoor
