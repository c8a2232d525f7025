/- Walk: a chancery and a dating with a conflict are drawn (DrawSmallestConflict). Printed by gen_cff.py. -/
import Derived.Test.YteajkofgcmfaoaaGreatDoorDr1
import Derived.Test.YteajkofgcmfaoaaGreatDoorCh
import Derived.Test.YteajkofgcmfaoaaGreatDoorAppAny
namespace Go.Proofs.YteajkofgcmfaoaaGreatDoor
section
open Go.ChangeShapes Go.WideShapes Go.ChangeAt Go.RowKit Go.IntWalk

set_option maxRecDepth 100000 in
set_option maxHeartbeats 8000000 in
theorem l12DrawChancery_any (w0 : World) (cs : Option Addr) (cap : Nat) (bs : List Int) (p : Nat) (w : World) (hx : Rd encB w0 cs bs) (hb : ∀ m ∈ bs, goodB m) (hl : bs.length ≤ 4096) (hs : Src w0 cs cap bs p w) :
    Calls Tryz.prog 120 #[.pointer (some ⟨p, 0, none⟩)] w fun e w' => ∃ (g c : Nat) (rs : List Rg) (f t : Int), e = .returned (.agg #[.slice (some ⟨g, 0, none⟩) rs.length c, .int .i64 f, .int .i64 t]) ∧ rs.length ≤ 31 ∧ (∀ m ∈ rs, okD m) ∧ (420000 ≤ f ∧ f ≤ 425000) ∧ (419999 ≤ t ∧ t ≤ 450000) ∧ w'.ownsRow w.heap.size 115 3 (.slice (some ⟨g, 0, none⟩) rs.length c) rs.length (rs.flatMap encRg) ∧ Src w0 cs cap bs p w' ∧ w.grownBy w' (some p) := by
  have D := Drw.start hs
  have res := Box.new w 43 [.slice none 0 0, .int .i64 0, .int .i64 0] w.heap.size (Nat.le_refl _) (by simp)
  have D := D.below (belowA w (.cells #[.slice none 0 0, .int .i64 0, .int .i64 0] 43))
  have HN := Lib.hid (fun n W hn1 hn2 hs => l01Next_any w0 cs cap bs p n W hx hb hl hn1 hn2 hs)
  have HP := Lib.hid (fun a ca xs W hs hxs h1 h2 => l01Pick_any w0 cs cap bs p a ca xs W hx hb hl hs hxs h1 h2)
  go_enter Tryz.func120, Tryz.ntmps120
  go_wp2_with fail
  have res0lt := res.lt.2
  refine (l07Draw_any w0 cs cap bs p _ hx hb hl D.src).mono ?_
  rintro e w1 ⟨g, c, rs, rfl, hrl, hok, hown, hs2, hG⟩
  have hgr : g ≠ w.heap.size := by have := (own_lt hown).1; omega
  have hown := own_base hown D.size
  have res := Box.keepA res hG D.hp
  have D := D.call hs2 hG
  clear hs2 hG hs res0lt
  go_wp2_with fail
  refine (HN.out 5000 _ (by decide) (by decide) D.src).mono ?_
  rintro e w2 ⟨q, rfl, hq0, hq1, hs, hG⟩
  have res := Box.keepA res hG D.hp
  have hown := own_keepA hown hG D.hp
  have D := D.call hs hG
  clear hs hG
  have v1 := i64_in (420000 + q) (by omega)
  have v2 := i64_in (420000 + q + 100) (by omega)
  have loc := Box.new w2 43 [.slice (some ⟨g, 0, none⟩) rs.length c, .int .i64 (420000 + q), .int .i64 0] w.heap.size D.size (by simp)
  have hlr : w2.heap.size ≠ w.heap.size := by have := res.lt; omega
  have hlg : g ≠ w2.heap.size := by have := (own_lt hown).2; omega
  have hlp : w2.heap.size ≠ p := by have := D.src.lt; omega
  have res := Box.below res (belowA w2 (.cells #[.slice (some ⟨g, 0, none⟩) rs.length c, .int .i64 (420000 + q), .int .i64 0] 43))
  have hown := own_below hown (belowA w2 (.cells #[.slice (some ⟨g, 0, none⟩) rs.length c, .int .i64 (420000 + q), .int .i64 0] 43))
  have D := D.below (belowA w2 (.cells #[.slice (some ⟨g, 0, none⟩) rs.length c, .int .i64 (420000 + q), .int .i64 0] 43))
  go_upto_region 2 with (fail)
  generalize w2.alloc (.cells #[.slice (some ⟨g, 0, none⟩) rs.length c, .int .i64 (420000 + q), .int .i64 0] 43) = wb at res hown D loc ⊢
  generalize w2.heap.size = lb at loc hlr hlg hlp ⊢
  have res := Box.below res (Below.refl _ wb).drew
  have hown := own_below hown (Below.refl _ wb).drew
  have D := D.below (Below.refl _ wb).drew
  have loc := Box.below loc (Below.refl _ wb).drew
  refine MAny.region (S := fun w' => w'.cell? ⟨lb, 1, none⟩ = some (.int .i64 (420000 + q))) (last := 7) (by kernel_rfl) ?_
  generalize wb.drew = wd at res hown D loc ⊢
  have hHeld := Box.cell loc 1 _ rfl
  refine MAny.take (i := 0) (v := ?_) rfl (by kernel_rfl) (by kernel_rfl) (by kernel_rfl) (fun _ _ _ h => h) (by kernel_rfl) (Or.inl ⟨by rfl, ?_⟩) (by assumption) ?_
  rotate_left
  · (intro w' hSw; (try dsimp only at hSw); go_simp; try (with_reducible rfl))
  try simp only [Act.put, List.setIfInBounds_toArray]
  refine MAny.take (i := 1) (v := ?_) rfl (by kernel_rfl) (by kernel_rfl) (by kernel_rfl) (fun _ _ _ h => h) (by kernel_rfl) (Or.inl ⟨by rfl, ?_⟩) (by assumption) ?_
  rotate_left
  · (intro w' hSw; (try dsimp only at hSw); go_simp; try (with_reducible rfl))
  try simp only [Act.put]
  refine MAny.take (i := 2) (v := ?_) rfl (by kernel_rfl) (by kernel_rfl) (by kernel_rfl) (fun _ _ _ h => h) (by kernel_rfl) (Or.inl ⟨by rfl, ?_⟩) (by assumption) ?_
  rotate_left
  · (intro w' hSw; (try dsimp only at hSw); go_simp; try (with_reducible rfl))
  try simp only [Act.put]
  refine MAny.take (i := 3) (v := ?_) rfl (by kernel_rfl) (by kernel_rfl) (by kernel_rfl) (fun _ _ _ h => h) (by kernel_rfl) (Or.inl ⟨by rfl, ?_⟩) (by assumption) ?_
  rotate_left
  · (intro w' hSw; (try dsimp only at hSw); go_simp; try (with_reducible rfl))
  try simp only [Act.put]
  refine MAny.ready (rs := [4]) (by kernel_rfl) (by simp) ?_
  refine MReady.cons rfl (fun K hK => ?_) MReady.nil
  go_simp
  go_wp2_with (go_at_call 47; refine (HN.out 2500 wd (by decide) (by decide) D.src).mono ?_; rintro e w3 ⟨u, rfl, hu0, hu1, hs, hG⟩)
  have res := Box.keepA res hG D.hp
  have hown := own_keepA hown hG D.hp
  have loc := Box.keepA loc hG D.hp
  have D := D.call hs hG
  clear hs hG hHeld
  have hHeld := Box.cell loc 1 _ rfl
  have v3 := i64_in (420000 + q + 100 + u) (by omega)
  refine hK.out _ _ (.inr hHeld) ?_
  clear hK K
  refine MAny.take (i := 5) (v := ?_) rfl (by kernel_rfl) (by kernel_rfl) (by kernel_rfl) (fun _ _ _ h => h) (by kernel_rfl) (Or.inl ⟨by rfl, ?_⟩) (by assumption) ?_
  rotate_left
  · (intro w' hSw; (try dsimp only at hSw); go_simp; try (with_reducible rfl))
  try simp only [Act.put]
  refine MAny.take (i := 6) (v := ?_) rfl (by kernel_rfl) (by kernel_rfl) (by kernel_rfl) (fun _ _ _ h => h) (by kernel_rfl) (Or.inl ⟨by rfl, ?_⟩) (by assumption) ?_
  rotate_left
  · (intro w' hSw; (try dsimp only at hSw); go_simp; try (with_reducible rfl))
  try simp only [Act.put]
  have l2 := Box.cell loc 2 _ rfl
  have g2 := World.ownsRow.frozenAt loc 2
  have HL := Lib.hid (Box.put (i := 2) (pre := [.slice (some ⟨g, 0, none⟩) rs.length c, .int .i64 (420000 + q)]) (post := []) loc rfl (.int .i64 (420000 + q + 100 + u)))
  refine MAny.ready (rs := [7]) (by kernel_rfl) (by simp) ?_
  refine MReady.cons rfl (fun K hK => ?_) MReady.nil
  go_simp
  refine hK.out _ _ (.inl rfl) ?_
  clear hK K hHeld
  refine MAny.done (by kernel_rfl) ?_ _
  try simp only [List.getElem_toArray, List.getElem_cons_succ, List.getElem_cons_zero]
  have hl2 := HL.out
  have res := Box.keep res hl2.2 (Ne.symm hlr)
  have hown := own_apart2 hown hl2.2 hlg
  have D := D.store hl2.2 hl2.1.lt.1
  have loc := hl2.1
  clear l2 g2 hl2 HL
  generalize w3.setCell ⟨lb, 2, none⟩ (.int .i64 (420000 + q + 100 + u)) = wf at res hown D loc ⊢
  go_wp2_with fail
  refine (HN.out 40 _ (by decide) (by decide) D.src).mono ?_
  rintro e w5 ⟨x, rfl, hx0, hx1, hs, hG⟩
  have res := Box.keepA res hG D.hp
  have loc := Box.keepA loc hG D.hp
  have hown := own_keepA hown hG D.hp
  have D := D.call hs hG
  clear hs hG
  by_cases h0 : x = 0
  · subst h0
    have m1 := Box.cell loc 1 _ rfl
    have v4 := i64_in (420000 + q - 1) (by omega)
    have v5 := i64_in (420000 + q + 20000) (by omega)
    have v6 := i64_in (420000 + q + 20000 + 1) (by omega)
    go_wp2_with fail
    have hrd := rd_lit (w := w5) (c := #[.int .i64 (420000 + q - 1), .int .i64 (420000 + q), .int .i64 (420000 + q + 20000 + 1)]) (xs := [420000 + q - 1, 420000 + q, 420000 + q + 20000 + 1]) (p := p) rfl D.src.lt.2
    have res := Box.below res (belowA w5 (.cells #[.int .i64 (420000 + q - 1), .int .i64 (420000 + q), .int .i64 (420000 + q + 20000 + 1)] 2))
    have loc := Box.below loc (belowA w5 (.cells #[.int .i64 (420000 + q - 1), .int .i64 (420000 + q), .int .i64 (420000 + q + 20000 + 1)] 2))
    have hown := own_below hown (belowA w5 (.cells #[.int .i64 (420000 + q - 1), .int .i64 (420000 + q), .int .i64 (420000 + q + 20000 + 1)] 2))
    have D := D.below (belowA w5 (.cells #[.int .i64 (420000 + q - 1), .int .i64 (420000 + q), .int .i64 (420000 + q + 20000 + 1)] 2))
    refine (HP.out _ 3 [420000 + q - 1, 420000 + q, 420000 + q + 20000 + 1] _ D.src hrd (by simp) (by simp)).mono ?_
    rintro e w6 ⟨y, rfl, hy, hs, hG⟩
    have res := Box.keepA res hG D.hp
    have loc := Box.keepA loc hG D.hp
    have hown := own_keepA hown hG D.hp
    have D := D.call hs hG
    clear hs hG
    clear hrd
    have hy2 : 419999 ≤ y ∧ y ≤ 450000 := by simp at hy; omega
    clear hy m1
    have m2 := Box.cell loc 2 _ rfl
    have g2 := World.ownsRow.frozenAt loc 2
    have HL := Lib.hid (Box.put (i := 2) (pre := [.slice (some ⟨g, 0, none⟩) rs.length c, .int .i64 (420000 + q)]) (post := []) loc rfl (.int .i64 y))
    go_upto_region 5 with (fail)
    have hl2 := HL.out
    have res := Box.keep res hl2.2 (Ne.symm hlr)
    have hown := own_apart2 hown hl2.2 hlg
    have D := D.store hl2.2 hl2.1.lt.1
    have loc := hl2.1
    clear m2 g2 hl2 HL
    generalize w6.setCell ⟨lb, 2, none⟩ (.int .i64 y) = WW at res D loc hown ⊢
    have m0 := Box.cell loc 0 _ rfl
    have m1 := Box.cell loc 1 _ rfl
    have m2 := Box.cell loc 2 _ rfl
    have r0 := Box.cell res 0 _ rfl
    have r1 := Box.cell res 1 _ rfl
    have r2 := Box.cell res 2 _ rfl
    have f0 := World.ownsRow.frozenAt res 0
    have f1 := World.ownsRow.frozenAt res 1
    have f2 := World.ownsRow.frozenAt res 2
    have HP3 := Lib.hid (Box.put3 res (.slice (some ⟨g, 0, none⟩) rs.length c) (.int .i64 (420000 + q)) (.int .i64 y))
    go_wp2
    have hp := HP3.out
    have D := D.store hp.2 (Nat.le_refl _)
    have hown := own_apart2 hown hp.2 hgr
    generalize ((WW.setCell ⟨w.heap.size, 0, none⟩ (.slice (some ⟨g, 0, none⟩) rs.length c)).setCell ⟨w.heap.size, 1, none⟩ (.int .i64 (420000 + q))).setCell ⟨w.heap.size, 2, none⟩ (.int .i64 y) = Wf at hp D hown ⊢
    have z0 := hp.1.cell 0 _ rfl
    have z1 := hp.1.cell 1 _ rfl
    have z2 := hp.1.cell 2 _ rfl
    refine bodyPost_ret_by (v := .agg #[.slice (some ⟨g, 0, none⟩) rs.length c, .int .i64 (420000 + q), .int .i64 y]) ?_ rfl ⟨g, c, rs, (420000 + q), y, rfl, hrl, hok, by omega, by omega, hown, D.src, D.gr⟩
    simp [results, go_sem, z0, z1, z2]
  · have h0' : (x == 0) = false := by simpa using h0
    have m0 := Box.cell loc 0 _ rfl
    have m1 := Box.cell loc 1 _ rfl
    have m2 := Box.cell loc 2 _ rfl
    have r0 := Box.cell res 0 _ rfl
    have r1 := Box.cell res 1 _ rfl
    have r2 := Box.cell res 2 _ rfl
    have f0 := World.ownsRow.frozenAt res 0
    have f1 := World.ownsRow.frozenAt res 1
    have f2 := World.ownsRow.frozenAt res 2
    have HP3 := Lib.hid (Box.put3 res (.slice (some ⟨g, 0, none⟩) rs.length c) (.int .i64 (420000 + q)) (.int .i64 (420000 + q + 100 + u)))
    go_wp2
    have hp := HP3.out
    have D := D.store hp.2 (Nat.le_refl _)
    have hown := own_apart2 hown hp.2 hgr
    generalize ((w5.setCell ⟨w.heap.size, 0, none⟩ (.slice (some ⟨g, 0, none⟩) rs.length c)).setCell ⟨w.heap.size, 1, none⟩ (.int .i64 (420000 + q))).setCell ⟨w.heap.size, 2, none⟩ (.int .i64 (420000 + q + 100 + u)) = Wf at hp D hown ⊢
    have z0 := hp.1.cell 0 _ rfl
    have z1 := hp.1.cell 1 _ rfl
    have z2 := hp.1.cell 2 _ rfl
    refine bodyPost_ret_by (v := .agg #[.slice (some ⟨g, 0, none⟩) rs.length c, .int .i64 (420000 + q), .int .i64 (420000 + q + 100 + u)]) ?_ rfl ⟨g, c, rs, (420000 + q), (420000 + q + 100 + u), rfl, hrl, hok, by omega, by omega, hown, D.src, D.gr⟩
    simp [results, go_sem, z0, z1, z2]
end

section
open Go.ChangeShapes Go.WideShapes Go.ChangeAt Go.RowKit Go.IntWalk

theorem apartV {B1 B2 : Nat} {E1 E2 : TypeId} {k1 k2 n1 n2 : Nat} {v1 v2 : Value} {xs1 xs2 : List Value} {w : World} (h1 : w.ownsRow B1 E1 k1 v1 n1 xs1) (h2 : w.ownsRow B2 E2 k2 v2 n2 xs2) (hE : E1 ≠ E2) : ∀ g, v1.ownBlock = some g → v2.ownBlock ≠ some g := by
  intro g e1 e2
  rcases h1.2 with ⟨rfl, _⟩ | ⟨g1, c1, cur1, rfl, _, hh1, _⟩
  · cases e1
  · rcases h2.2 with ⟨rfl, _⟩ | ⟨g2, c2, cur2, rfl, _, hh2, _⟩
    · cases e2
    · injection e1 with e1
      injection e2 with e2
      subst e1
      subst e2
      rw [hh1] at hh2
      injection hh2 with hh2
      injection hh2 with _ hh2
      exact hE hh2
theorem made_cl (N : Nat) (h : N = 8 ∨ N = 9) : (madeCells (Value.agg #[.int .i64 0, .int .i64 0, .int .i64 0, .int .i64 0, .int .i64 0, .int .i64 0, .int .i64 0, .string ⟨#[]⟩]).cells (N * 8)).toList = (List.replicate N (⟨0, 0, 0, 0, 0, 0, 0, ⟨#[]⟩⟩ : Cl)).flatMap encCl := by
  rcases h with rfl | rfl <;> kernel_rfl
/-- What stands while a dating is drawn. -/
structure DyS (w0 : World) (cs : Option Addr) (cap : Nat) (bs : List Int) (p : Nat) (w : World) (lb g c : Nat) (rs : List Rg) (f t : Int) (V : Value) (cls : List Cl) (W : World) : Prop where
  drw : Drw w0 cs cap bs p w W
  res : Box w.heap.size W 43 w.heap.size [.slice none 0 0, .int .i64 0, .int .i64 0]
  loc : Box w.heap.size W 43 lb [.slice (some ⟨g, 0, none⟩) rs.length c, .int .i64 f, .int .i64 t]
  rgs : W.ownsRow w.heap.size 115 3 (.slice (some ⟨g, 0, none⟩) rs.length c) rs.length (rs.flatMap encRg)
  out : W.ownsRow w.heap.size 31 8 V cls.length (cls.flatMap encCl)
  hlr : lb ≠ w.heap.size
section
variable {w0 : World} {cs : Option Addr} {cap : Nat} {bs : List Int} {p : Nat} {w : World} {lb g c : Nat} {rs : List Rg} {f t : Int} {V : Value} {cls : List Cl} {W W' : World}
theorem DyS.below (h : DyS w0 cs cap bs p w lb g c rs f t V cls W) (hB : Below W.heap.size W W') : DyS w0 cs cap bs p w lb g c rs f t V cls W' :=
  ⟨h.drw.below hB, Box.below h.res hB, Box.below h.loc hB, own_below h.rgs hB, own_below h.out hB, h.hlr⟩
theorem DyS.call (h : DyS w0 cs cap bs p w lb g c rs f t V cls W) (hs : Src w0 cs cap bs p W') (hG : W.grownBy W' (some p)) : DyS w0 cs cap bs p w lb g c rs f t V cls W' :=
  ⟨h.drw.call hs hG, Box.keepA h.res hG h.drw.hp, Box.keepA h.loc hG h.drw.hp, own_keepA h.rgs hG h.drw.hp, own_keepA h.out hG h.drw.hp, h.hlr⟩
/-- More clauses. -/
theorem DyS.more {V' : Value} {cls' : List Cl} (h : DyS w0 cs cap bs p w lb g c rs f t V cls W) (hG : W.grownBy W' V.ownBlock) (hw : W'.ownsRow w.heap.size 31 8 V' cls'.length (cls'.flatMap encCl)) : DyS w0 cs cap bs p w lb g c rs f t V' cls' W' :=
  ⟨h.drw.grown hG (fun y e => (h.out.lt y e).1), own_keepV h.res hG (fun y e e2 => apartV h.res h.out (by decide) y e e2), own_keepV h.loc hG (fun y e e2 => apartV h.loc h.out (by decide) y e e2), own_keepV h.rgs hG (fun y e e2 => apartV h.rgs h.out (by decide) y e e2), hw, h.hlr⟩
theorem DyS.fresh {V' : Value} {cls' : List Cl} (h : DyS w0 cs cap bs p w lb g c rs f t V cls W) (hG : W.grownBy W' none) (hw : W'.ownsRow w.heap.size 31 8 V' cls'.length (cls'.flatMap encCl)) : DyS w0 cs cap bs p w lb g c rs f t V' cls' W' :=
  have hB : Below W.heap.size W W' := ⟨hG.os, hG.tape, hG.output, hG.size, fun j hj => hG.block j hj (by simp)⟩
  ⟨h.drw.below hB, Box.below h.res hB, Box.below h.loc hB, own_below h.rgs hB, hw, h.hlr⟩
/-- A clause's own box is written. -/
theorem DyS.put {x : Nat} {xs : List Value} (h : DyS w0 cs cap bs p w lb g c rs f t V cls W) (hx : Box w.heap.size W 31 x xs) (hG : W.grownBy W' (some x)) (hne : ∀ y, V.ownBlock = some y → y ≠ x) : DyS w0 cs cap bs p w lb g c rs f t V cls W' :=
  ⟨h.drw.store hG hx.lt.1, own_keepV h.res hG (fun y e e2 => apartV h.res hx (by decide) y e e2), own_keepV h.loc hG (fun y e e2 => apartV h.loc hx (by decide) y e e2), own_keepV h.rgs hG (fun y e e2 => apartV h.rgs hx (by decide) y e e2), own_keepV h.out hG (fun y e e2 => by injection e2 with e2; exact hne y e e2.symm), h.hlr⟩
theorem DyS.fin (h : DyS w0 cs cap bs p w lb g c rs f t V cls W) (a b d : Value) : Box w.heap.size (((W.setCell ⟨w.heap.size, 0, none⟩ a).setCell ⟨w.heap.size, 1, none⟩ b).setCell ⟨w.heap.size, 2, none⟩ d) 43 w.heap.size [a, b, d] ∧
    Drw w0 cs cap bs p w (((W.setCell ⟨w.heap.size, 0, none⟩ a).setCell ⟨w.heap.size, 1, none⟩ b).setCell ⟨w.heap.size, 2, none⟩ d) ∧
    (((W.setCell ⟨w.heap.size, 0, none⟩ a).setCell ⟨w.heap.size, 1, none⟩ b).setCell ⟨w.heap.size, 2, none⟩ d).ownsRow w.heap.size 115 3 (.slice (some ⟨g, 0, none⟩) rs.length c) rs.length (rs.flatMap encRg) ∧
    (((W.setCell ⟨w.heap.size, 0, none⟩ a).setCell ⟨w.heap.size, 1, none⟩ b).setCell ⟨w.heap.size, 2, none⟩ d).ownsRow w.heap.size 31 8 V cls.length (cls.flatMap encCl) := by
  have hp := Box.put3 h.res a b d
  exact ⟨hp.1, h.drw.store hp.2 (Nat.le_refl _), own_keepV h.rgs hp.2 (fun y e e2 => apartV h.res h.rgs (by decide) w.heap.size rfl (e.trans e2.symm)), own_keepV h.out hp.2 (fun y e e2 => apartV h.res h.out (by decide) w.heap.size rfl (e.trans e2.symm))⟩
end

set_option maxRecDepth 100000 in
set_option maxHeartbeats 8000000 in
theorem l12Draw_any (w0 : World) (cs : Option Addr) (cap : Nat) (bs : List Int) (p : Nat) (w : World) (hx : Rd encB w0 cs bs) (hb : ∀ m ∈ bs, goodB m) (hl : bs.length ≤ 4096) (hs : Src w0 cs cap bs p w) :
    Calls Tryz.prog 65 #[.pointer (some ⟨p, 0, none⟩)] w fun e w' => ∃ (g c g2 c2 : Nat) (rs : List Rg) (f t : Int) (cls : List Cl), e = .returned (.tuple #[.agg #[.slice (some ⟨g, 0, none⟩) rs.length c, .int .i64 f, .int .i64 t], .slice (some ⟨g2, 0, none⟩) cls.length c2]) ∧ rs.length ≤ 31 ∧ (∀ m ∈ rs, okD m) ∧ (420000 ≤ f ∧ f ≤ 425000) ∧ (419999 ≤ t ∧ t ≤ 450000) ∧ cls.length ≤ 9 ∧ (∀ m ∈ cls, m.king.size ≤ 13) ∧ w'.ownsRow w.heap.size 115 3 (.slice (some ⟨g, 0, none⟩) rs.length c) rs.length (rs.flatMap encRg) ∧ w'.ownsRow w.heap.size 31 8 (.slice (some ⟨g2, 0, none⟩) cls.length c2) cls.length (cls.flatMap encCl) ∧ Src w0 cs cap bs p w' ∧ w.grownBy w' (some p) := by
  obtain ⟨i0, hi, hz0, hz1, hz2⟩ := info_parts infoCl
  have D := Drw.start hs
  have res := Box.new w 43 [.slice none 0 0, .int .i64 0, .int .i64 0] w.heap.size (Nat.le_refl _) (by simp)
  have D := D.below (belowA w (.cells #[.slice none 0 0, .int .i64 0, .int .i64 0] 43))
  have HN := Lib.hid (fun n W hn1 hn2 hs => l01Next_any w0 cs cap bs p n W hx hb hl hn1 hn2 hs)
  have HF := Lib.hid (fun a ca rs n W hs hlr hrd hfr hkg hn0 hn => l11DrawOf_any w0 cs cap bs p a ca rs n W hx hb hl hs hlr hrd hfr hkg hn0 hn)
  go_enter Tryz.func65, Tryz.ntmps65
  go_wp2_with fail
  refine (l12DrawChancery_any w0 cs cap bs p _ hx hb hl D.src).mono ?_
  rintro e w1 ⟨g, c, rs, f, t, rfl, hrl, hok, hfb, htb, hown, hs2, hG⟩
  have hown := own_base hown D.size
  have res := Box.keepA res hG D.hp
  have D := D.call hs2 hG
  clear hs2 hG hs
  have loc := Box.new w1 43 [.slice (some ⟨g, 0, none⟩) rs.length c, .int .i64 f, .int .i64 t] w.heap.size D.size (by simp)
  have hlr : w1.heap.size ≠ w.heap.size := by have := res.lt; omega
  have res := Box.below res (belowA w1 (.cells #[.slice (some ⟨g, 0, none⟩) rs.length c, .int .i64 f, .int .i64 t] 43))
  have hown := own_below hown (belowA w1 (.cells #[.slice (some ⟨g, 0, none⟩) rs.length c, .int .i64 f, .int .i64 t] 43))
  have D := D.below (belowA w1 (.cells #[.slice (some ⟨g, 0, none⟩) rs.length c, .int .i64 f, .int .i64 t] 43))
  go_upto_region 2 with (fail)
  generalize w1.alloc (.cells #[.slice (some ⟨g, 0, none⟩) rs.length c, .int .i64 f, .int .i64 t] 43) = w2 at res hown D loc ⊢
  generalize w1.heap.size = lb at loc hlr ⊢
  have out : (w2.alloc (.cells #[] 31)).ownsRow w.heap.size 31 8 (.slice (some ⟨w2.heap.size, 0, none⟩) 0 0) 0 [] := World.ownsRow_made w2 #[] 0 D.size (by decide) rfl
  have Y : DyS w0 cs cap bs p w lb g c rs f t (.slice (some ⟨w2.heap.size, 0, none⟩) 0 0) [] (w2.alloc (.cells #[] 31)) := ⟨D.below (belowA _ _), Box.below res (belowA _ _), Box.below loc (belowA _ _), own_below hown (belowA _ _), out, hlr⟩
  clear D res loc hown out hlr
  go_upto_region 3 with (fail)
  generalize w2.alloc (.cells #[] 31) = w3 at Y ⊢
  generalize w2.heap.size = g2 at Y ⊢
  have l0 := Box.cell Y.loc 0 _ rfl
  have l1 := Box.cell Y.loc 1 _ rfl
  have l2 := Box.cell Y.loc 2 _ rfl
  go_wp2_with fail
  refine (specIsChancery_any _ c rs f t _ (by omega) (Rd.of_own encRg_len (by decide) Y.rgs) (fun m hm => by have := (hok m hm).1; omega)).mono ?_
  rintro e w4 ⟨rfl, hB4⟩
  have Y := Y.below hB4
  clear hB4 l0 l1 l2
  cases hv : isChanceryB rs f t
  · have l0 := Box.cell Y.loc 0 _ rfl
    have l1 := Box.cell Y.loc 1 _ rfl
    have l2 := Box.cell Y.loc 2 _ rfl
    have r0 := Box.cell Y.res 0 _ rfl
    have r1 := Box.cell Y.res 1 _ rfl
    have r2 := Box.cell Y.res 2 _ rfl
    have f0 := World.ownsRow.frozenAt Y.res 0
    have f1 := World.ownsRow.frozenAt Y.res 1
    have f2 := World.ownsRow.frozenAt Y.res 2
    have HY := Lib.hid (Y.fin (.slice (some ⟨g, 0, none⟩) rs.length c) (.int .i64 f) (.int .i64 t))
    go_wp2
    obtain ⟨hp, D, hrg, hout⟩ := HY.out
    generalize ((w4.setCell ⟨w.heap.size, 0, none⟩ (.slice (some ⟨g, 0, none⟩) rs.length c)).setCell ⟨w.heap.size, 1, none⟩ (.int .i64 f)).setCell ⟨w.heap.size, 2, none⟩ (.int .i64 t) = Wf at hp D hrg hout ⊢
    have z0 := hp.cell 0 _ rfl
    have z1 := hp.cell 1 _ rfl
    have z2 := hp.cell 2 _ rfl
    refine bodyPost_ret_by (v := .tuple #[.agg #[.slice (some ⟨g, 0, none⟩) rs.length c, .int .i64 f, .int .i64 t], .slice (some ⟨g2, 0, none⟩) 0 0]) ?_ rfl ⟨g, c, g2, 0, rs, f, t, [], rfl, hrl, hok, hfb, htb, by simp, by simp, hrg, hout, D.src, D.gr⟩
    simp [results, go_sem, z0, z1, z2]
  · have hcf : (∀ r ∈ rs, 0 ≤ r.fr) ∧ f ≤ t := by
      unfold isChanceryB at hv
      simp only [Bool.and_eq_true, decide_eq_true_eq] at hv
      exact ⟨reigns_fr0 (by simp only [hv]), by omega⟩
    obtain ⟨hfr, hft⟩ := hcf
    clear hv
    have v1 := i64_in (t - f) (by omega)
    have v2 := i64_in (t - f + 1) (by omega)
    have Y := Y.below (Below.refl _ w4).drew
    go_wp2_with fail
    refine MAny.region (S := fun w' => w'.cell? ⟨lb, 1, none⟩ = some (.int .i64 f) ∧ w'.cell? ⟨lb, 2, none⟩ = some (.int .i64 t)) (last := 11) (by kernel_rfl) ?_
    generalize w4.drew = wd at Y ⊢
    have hHeld := And.intro (Box.cell Y.loc 1 _ rfl) (Box.cell Y.loc 2 _ rfl)
    refine MAny.take (i := 0) (v := ?_) rfl (by kernel_rfl) (by kernel_rfl) (by kernel_rfl) (fun _ _ _ h => h) (by kernel_rfl) (Or.inl ⟨by rfl, ?_⟩) (by assumption) ?_
    rotate_left
    · (intro w' hSw; (try dsimp only at hSw); go_simp; try (with_reducible rfl))
    try simp only [Act.put, List.setIfInBounds_toArray]
    refine MAny.take (i := 1) (v := ?_) rfl (by kernel_rfl) (by kernel_rfl) (by kernel_rfl) (fun _ _ _ h => h) (by kernel_rfl) (Or.inl ⟨by rfl, ?_⟩) (by assumption) ?_
    rotate_left
    · (intro w' hSw; (try dsimp only at hSw); go_simp; try (with_reducible rfl))
    try simp only [Act.put]
    refine MAny.take (i := 2) (v := ?_) rfl (by kernel_rfl) (by kernel_rfl) (by kernel_rfl) (fun _ _ _ h => h) (by kernel_rfl) (Or.inl ⟨by rfl, ?_⟩) (by assumption) ?_
    rotate_left
    · (intro w' hSw; (try dsimp only at hSw); go_simp; try (with_reducible rfl))
    try simp only [Act.put]
    refine MAny.take (i := 3) (v := ?_) rfl (by kernel_rfl) (by kernel_rfl) (by kernel_rfl) (fun _ _ _ h => h) (by kernel_rfl) (Or.inl ⟨by rfl, ?_⟩) (by assumption) ?_
    rotate_left
    · (intro w' hSw; (try dsimp only at hSw); go_simp; try (with_reducible rfl))
    try simp only [Act.put]
    refine MAny.take (i := 4) (v := ?_) rfl (by kernel_rfl) (by kernel_rfl) (by kernel_rfl) (fun _ _ _ h => h) (by kernel_rfl) (Or.inl ⟨by rfl, ?_⟩) (by assumption) ?_
    rotate_left
    · (intro w' hSw; (try dsimp only at hSw); go_simp; try (with_reducible rfl))
    try simp only [Act.put]
    refine MAny.take (i := 5) (v := ?_) rfl (by kernel_rfl) (by kernel_rfl) (by kernel_rfl) (fun _ _ _ h => h) (by kernel_rfl) (Or.inl ⟨by rfl, ?_⟩) (by assumption) ?_
    rotate_left
    · (intro w' hSw; (try dsimp only at hSw); go_simp; try (with_reducible rfl))
    try simp only [Act.put]
    refine MAny.take (i := 6) (v := ?_) rfl (by kernel_rfl) (by kernel_rfl) (by kernel_rfl) (fun _ _ _ h => h) (by kernel_rfl) (Or.inl ⟨by rfl, ?_⟩) (by assumption) ?_
    rotate_left
    · (intro w' hSw; (try dsimp only at hSw); go_simp; try (with_reducible rfl))
    try simp only [Act.put]
    refine MAny.take (i := 7) (v := ?_) rfl (by kernel_rfl) (by kernel_rfl) (by kernel_rfl) (fun _ _ _ h => h) (by kernel_rfl) (Or.inl ⟨by rfl, ?_⟩) (by assumption) ?_
    rotate_left
    · (intro w' hSw; (try dsimp only at hSw); go_simp; try (with_reducible rfl))
    try simp only [Act.put]
    refine MAny.take (i := 8) (v := ?_) rfl (by kernel_rfl) (by kernel_rfl) (by kernel_rfl) (fun _ _ _ h => h) (by kernel_rfl) (Or.inl ⟨by rfl, ?_⟩) (by assumption) ?_
    rotate_left
    · (intro w' hSw; (try dsimp only at hSw); go_simp; try (with_reducible rfl))
    try simp only [Act.put]
    refine MAny.ready (rs := [9]) (by kernel_rfl) (by simp) ?_
    refine MReady.cons rfl (fun K hK => ?_) MReady.nil
    go_simp
    go_wp2_with (go_at_call 47; refine (HN.out (t - f + 1) wd (by omega) (by omega) Y.drw.src).mono ?_; rintro e w5 ⟨u, rfl, hu0, hu1, hs, hG⟩)
    have Y := Y.call hs hG
    clear hs hG hHeld
    have hHeld := And.intro (Box.cell Y.loc 1 _ rfl) (Box.cell Y.loc 2 _ rfl)
    have v3 := i64_in (f + u) (by omega)
    refine hK.out _ _ (.inr hHeld) ?_
    clear hK K
    refine MAny.take (i := 10) (v := ?_) rfl (by kernel_rfl) (by kernel_rfl) (by kernel_rfl) (fun _ _ _ h => h) (by kernel_rfl) (Or.inl ⟨by rfl, ?_⟩) (by assumption) ?_
    rotate_left
    · (intro w' hSw; (try dsimp only at hSw); go_simp; try (with_reducible rfl))
    try simp only [Act.put]
    refine MAny.ready (rs := [11]) (by kernel_rfl) (by simp) ?_
    refine MReady.cons rfl (fun K hK => ?_) MReady.nil
    go_simp
    refine hK.out _ _ (.inl rfl) ?_
    clear hK K hHeld
    refine MAny.done (by kernel_rfl) ?_ _
    try simp only [List.getElem_toArray, List.getElem_cons_succ, List.getElem_cons_zero]
    have hday : 0 ≤ f + u ∧ f + u ≤ 730499 := by omega
    generalize f + u = day at hday ⊢
    clear v3 hu0 hu1
    go_wp2_with fail
    refine (HN.out 5 _ (by decide) (by decide) Y.drw.src).mono ?_
    rintro e w6 ⟨r, rfl, hr0, hr1, hs, hG⟩
    have Y := Y.call hs hG
    clear hs hG
    obtain ⟨k, rfl⟩ : ∃ k : Nat, r = k := ⟨r.toNat, by omega⟩
    have hk : k ≤ 4 := by omega
    clear hr0 hr1
    go_wp2
    go_loopw [5, 7] (fun s i wr => ∃ (k g2 c2 : Nat) (cls : List Cl), i = .int .i64 k ∧ cls.length + k ≤ 4 ∧ s = .slice (some ⟨g2, 0, none⟩) cls.length c2 ∧ (∀ m ∈ cls, m.king.size ≤ 13) ∧ DyS w0 cs cap bs p w lb g c rs f t (.slice (some ⟨g2, 0, none⟩) cls.length c2) cls wr) (fun _ i _ => (intOf i).toNat)
    case atStart => exact ⟨k, _, _, [], rfl, by simpa using hk, rfl, by simp, Y⟩
    case round =>
      clear Y hk
      obtain ⟨k, g2, c2, cls, rfl, hlen, rfl, hks, Y⟩ := hrel
      by_cases hk : k = 0
      · subst hk
        go_wp2_with fail
        refine (HN.out 60 _ (by decide) (by decide) Y.drw.src).mono ?_
        rintro e w7 ⟨x, rfl, hx0, hx1, hs, hG⟩
        have Y := Y.call hs hG
        clear hs hG
        by_cases x0 : x = 0
        · subst x0
          go_wp2_with (at_builtin; refine wpList_append_own _ rfl _ _ 22 rfl w.heap.size 31 i0 (.agg #[.int .i64 0, .int .i64 0, .int .i64 0, .int .i64 0, .int .i64 0, .int .i64 0, .int .i64 0, .string ⟨#[]⟩]) 8 72 Tryz.underlying22 hi hz0 hz1 hz2 rfl (by decide) _ _ _ rfl (Y.out.alloc _) ⟨w7.heap.size, 0, none⟩ 1 1 [.int .i64 6, .int .i64 0, .int .i64 0, .int .i64 0, .int .i64 0, .int .i64 0, .int .i64 0, .string ⟨#[]⟩] rfl rfl (World.news_of_block (heap_alloc_new _ _)) ?c2 ?c3 ?c4 ?c5 ?_)
          case c2 => intro u hu; simp at hu; first | (rcases hu with rfl | rfl | rfl | rfl | rfl | rfl | rfl | rfl <;> rfl) | (rcases hu with rfl | rfl | rfl <;> rfl)
          case c3 => unfold maxLen; omega
          case c4 => omega
          case c5 => have := Y.drw.size; simp; omega
          intro v' w9 hown' hgr _
          obtain ⟨g3, c3, rfl⟩ := formJ hown' (by omega)
          have Y2 := (Y.below (belowA w7 (.cells #[.int .i64 6, .int .i64 0, .int .i64 0, .int .i64 0, .int .i64 0, .int .i64 0, .int .i64 0, .string ⟨#[]⟩] 31))).more (cls' := cls ++ [(⟨6, 0, 0, 0, 0, 0, 0, ⟨#[]⟩⟩ : Cl)]) hgr (by rw [List.length_append, List.flatMap_append]; exact hown')
          have hlc : (cls ++ [(⟨6, 0, 0, 0, 0, 0, 0, ⟨#[]⟩⟩ : Cl)]).length = cls.length + 1 := by simp
          have hks2 : ∀ m ∈ cls ++ [(⟨6, 0, 0, 0, 0, 0, 0, ⟨#[]⟩⟩ : Cl)], m.king.size ≤ 13 := fun m hm => by
            rcases List.mem_append.1 hm with hm | hm
            · exact hks m hm
            · simp at hm; subst hm; exact king0
          clear hgr hown' Y hks
          generalize cls ++ [(⟨6, 0, 0, 0, 0, 0, 0, ⟨#[]⟩⟩ : Cl)] = cls2 at Y2 hlc hks2
          have Y := Y2
          clear Y2
          have hlc := Lib.hid hlc
          have l0 := Box.cell Y.loc 0 _ rfl
          have l1 := Box.cell Y.loc 1 _ rfl
          have l2 := Box.cell Y.loc 2 _ rfl
          have r0 := Box.cell Y.res 0 _ rfl
          have r1 := Box.cell Y.res 1 _ rfl
          have r2 := Box.cell Y.res 2 _ rfl
          have f0 := World.ownsRow.frozenAt Y.res 0
          have f1 := World.ownsRow.frozenAt Y.res 1
          have f2 := World.ownsRow.frozenAt Y.res 2
          have HY := Lib.hid (Y.fin (.slice (some ⟨g, 0, none⟩) rs.length c) (.int .i64 f) (.int .i64 t))
          go_wp2
          obtain ⟨hp, D, hrg, hout⟩ := HY.out
          generalize ((w9.setCell ⟨w.heap.size, 0, none⟩ (.slice (some ⟨g, 0, none⟩) rs.length c)).setCell ⟨w.heap.size, 1, none⟩ (.int .i64 f)).setCell ⟨w.heap.size, 2, none⟩ (.int .i64 t) = Wf at hp D hrg hout ⊢
          have z0 := hp.cell 0 _ rfl
          have z1 := hp.cell 1 _ rfl
          have z2 := hp.cell 2 _ rfl
          refine bodyPost_ret_by (v := .tuple #[.agg #[.slice (some ⟨g, 0, none⟩) rs.length c, .int .i64 f, .int .i64 t], .slice (some ⟨g3, 0, none⟩) (cls.length + 1) c3]) ?_ rfl ⟨g, c, g3, c3, rs, f, t, cls2, (by rw [hlc.out]), hrl, hok, hfb, htb, (by have := hlc.out; omega), hks2, hrg, (by rw [hlc.out]; rw [hlc.out] at hout; exact hout), D.src, D.gr⟩
          simp [results, go_sem, z0, z1, z2]
        · have x0' : (x == 0) = false := by simpa using x0
          by_cases x1 : x = 1
          · subst x1
            go_wp2_with fail
            refine (HN.out 2 _ (by decide) (by decide) Y.drw.src).mono ?_
            rintro e w8 ⟨q, rfl, hq0, hq1, hs, hG⟩
            have Y := Y.call hs hG
            clear hs hG
            have v4 := i64_in (8 + q) (by omega)
            obtain ⟨N, hN⟩ : ∃ N : Nat, 8 + q = N := ⟨(8 + q).toNat, by omega⟩
            have hN9 : N ≤ 9 := by omega
            rw [hN] at v4
            go_wp2_with (at_make; refine wpList_make_full _ rfl _ _ 22 rfl w.heap.size 31 i0 _ 8 Tryz.underlying22 hi hz0 hz1 _ _ _ _ N rfl rfl rfl rfl (by rw [hz2]; omega) (by unfold maxLen; omega) Y.drw.size ?_; intro w9 hown hgr)
            rw [made_cl N (by omega)] at hown
            have hrl2 : (List.replicate N (⟨0, 0, 0, 0, 0, 0, 0, ⟨#[]⟩⟩ : Cl)).length = N := by simp
            have Y := Y.fresh (cls' := List.replicate N (⟨0, 0, 0, 0, 0, 0, 0, ⟨#[]⟩⟩ : Cl)) hgr (by rw [hrl2]; exact hown)
            have hk3 : ∀ m ∈ List.replicate N (⟨0, 0, 0, 0, 0, 0, 0, ⟨#[]⟩⟩ : Cl), m.king.size ≤ 13 := fun m hm => by rw [(List.mem_replicate.1 hm).2]; exact king0
            generalize List.replicate N (⟨0, 0, 0, 0, 0, 0, 0, ⟨#[]⟩⟩ : Cl) = cl4 at Y hrl2 hk3
            clear hown hgr hks
            generalize w8.heap.size = g4 at Y ⊢
            go_wp2
            go_loopw [9] (fun i wr => ∃ (k : Nat) (cls : List Cl), i = .int .i64 k ∧ k ≤ N ∧ cls.length = N ∧ (∀ m ∈ cls, m.king.size ≤ 13) ∧ DyS w0 cs cap bs p w lb g c rs f t (.slice (some ⟨g4, 0, none⟩) N N) cls wr) (fun i _ => N - (intOf i).toNat)
            case atStart => exact ⟨0, cl4, rfl, Nat.zero_le _, hrl2, hk3, Y⟩
            case round =>
              clear Y hrl2 hk3
              obtain ⟨k, cls, rfl, hk, hcl, hks, Y⟩ := hrel
              by_cases hlt : k < N
              · have hlt' : (k : Int) < (N : Int) := by omega
                have hO : wr.ownsRow w.heap.size 31 8 (.slice (some ⟨g4, 0, none⟩) N N) N (cls.flatMap encCl) := by have h := Y.out; rw [hcl] at h; exact h
                obtain ⟨x0, d0, f0⟩ := own_cell hO (k * 8) (by omega)
                obtain ⟨x1, d1, f1⟩ := own_cell hO (k * 8 + 1) (by omega)
                obtain ⟨x2, d2, f2⟩ := own_cell hO (k * 8 + 2) (by omega)
                obtain ⟨x3, d3, f3⟩ := own_cell hO (k * 8 + 3) (by omega)
                obtain ⟨x4, d4, f4⟩ := own_cell hO (k * 8 + 4) (by omega)
                obtain ⟨x5, d5, f5⟩ := own_cell hO (k * 8 + 5) (by omega)
                obtain ⟨x6, d6, f6⟩ := own_cell hO (k * 8 + 6) (by omega)
                obtain ⟨x7, d7, f7⟩ := own_cell hO (k * 8 + 7) (by omega)
                obtain ⟨pre, x, post, rfl, hpl⟩ : ∃ pre x post, cls = pre ++ x :: post ∧ pre.length = k := ⟨cls.take k, cls[k]'(by omega), cls.drop (k + 1), by rw [← List.drop_eq_getElem_cons, List.take_append_drop], by simp; omega⟩
                have hput := own_putRow encCl_len hO hpl.symm (⟨5, 0, 0, 0, 0, (k : Int) % 7, 0, ⟨#[]⟩⟩ : Cl)
                have hcl2 : (pre ++ (⟨5, 0, 0, 0, 0, (k : Int) % 7, 0, ⟨#[]⟩⟩ : Cl) :: post).length = N := by simpa using hcl
                have HY := Lib.hid (Y.more (V' := .slice (some ⟨g4, 0, none⟩) N N) hput.2 (by rw [hcl2]; exact hput.1))
                have hcl2 := Lib.hid hcl2
                clear hput hpl
                go_wp2
                go_roundw
                case rel => exact ⟨k + 1, pre ++ (⟨5, 0, 0, 0, 0, (k : Int) % 7, 0, ⟨#[]⟩⟩ : Cl) :: post, by go_num, by omega, hcl2.out, fun m hm => by
                  rcases List.mem_append.1 hm with hm | hm
                  · exact hks m (List.mem_append.2 (.inl hm))
                  · rcases List.mem_cons.1 hm with rfl | hm
                    · exact king0
                    · exact hks m (List.mem_append.2 (.inr (List.mem_cons.2 (.inr hm)))), HY.out⟩
                case measure => simp [intOf]; omega
              · obtain rfl : k = N := by omega
                have hO : wr.ownsRow w.heap.size 31 8 (.slice (some ⟨g4, 0, none⟩) k k) cls.length (cls.flatMap encCl) := Y.out
                have l0 := Box.cell Y.loc 0 _ rfl
                have l1 := Box.cell Y.loc 1 _ rfl
                have l2 := Box.cell Y.loc 2 _ rfl
                have r0 := Box.cell Y.res 0 _ rfl
                have r1 := Box.cell Y.res 1 _ rfl
                have r2 := Box.cell Y.res 2 _ rfl
                have f0 := World.ownsRow.frozenAt Y.res 0
                have f1 := World.ownsRow.frozenAt Y.res 1
                have f2 := World.ownsRow.frozenAt Y.res 2
                have HY := Lib.hid (Y.fin (.slice (some ⟨g, 0, none⟩) rs.length c) (.int .i64 f) (.int .i64 t))
                go_wp2
                obtain ⟨hp, D, hrg, hout⟩ := HY.out
                generalize ((wr.setCell ⟨w.heap.size, 0, none⟩ (.slice (some ⟨g, 0, none⟩) rs.length c)).setCell ⟨w.heap.size, 1, none⟩ (.int .i64 f)).setCell ⟨w.heap.size, 2, none⟩ (.int .i64 t) = Wf at hp D hrg hout ⊢
                have z0 := hp.cell 0 _ rfl
                have z1 := hp.cell 1 _ rfl
                have z2 := hp.cell 2 _ rfl
                refine bodyPost_ret_by (v := .tuple #[.agg #[.slice (some ⟨g, 0, none⟩) rs.length c, .int .i64 f, .int .i64 t], .slice (some ⟨g4, 0, none⟩) k k]) ?_ rfl ⟨g, c, g4, k, rs, f, t, cls, (by rw [hcl]), hrl, hok, hfb, htb, by omega, hks, hrg, (by rw [hcl] at hout ⊢; exact hout), D.src, D.gr⟩
                simp [results, go_sem, z0, z1, z2]
          · have x1' : (x == 1) = false := by simpa using x1
            have l0 := Box.cell Y.loc 0 _ rfl
            have l1 := Box.cell Y.loc 1 _ rfl
            have l2 := Box.cell Y.loc 2 _ rfl
            have r0 := Box.cell Y.res 0 _ rfl
            have r1 := Box.cell Y.res 1 _ rfl
            have r2 := Box.cell Y.res 2 _ rfl
            have f0 := World.ownsRow.frozenAt Y.res 0
            have f1 := World.ownsRow.frozenAt Y.res 1
            have f2 := World.ownsRow.frozenAt Y.res 2
            have HY := Lib.hid (Y.fin (.slice (some ⟨g, 0, none⟩) rs.length c) (.int .i64 f) (.int .i64 t))
            go_wp2
            obtain ⟨hp, D, hrg, hout⟩ := HY.out
            generalize ((w7.setCell ⟨w.heap.size, 0, none⟩ (.slice (some ⟨g, 0, none⟩) rs.length c)).setCell ⟨w.heap.size, 1, none⟩ (.int .i64 f)).setCell ⟨w.heap.size, 2, none⟩ (.int .i64 t) = Wf at hp D hrg hout ⊢
            have z0 := hp.cell 0 _ rfl
            have z1 := hp.cell 1 _ rfl
            have z2 := hp.cell 2 _ rfl
            refine bodyPost_ret_by (v := .tuple #[.agg #[.slice (some ⟨g, 0, none⟩) rs.length c, .int .i64 f, .int .i64 t], .slice (some ⟨g2, 0, none⟩) (cls).length c2]) ?_ rfl ⟨g, c, g2, c2, rs, f, t, cls, rfl, hrl, hok, hfb, htb, by omega, hks, hrg, hout, D.src, D.gr⟩
            simp [results, go_sem, z0, z1, z2]
      · have hk1 : (0 : Int) < (k : Int) := by omega
        have v4 := i64_in ((k : Int) - 1) (by omega)
        have v5 : ((k - 1 : Nat) : Int) = (k : Int) - 1 := by omega
        have l0 := Box.cell Y.loc 0 _ rfl
        go_wp2_with fail
        refine (HF.out _ c rs day _ Y.drw.src (by omega) (fun W hW => Rd.of_own encRg_len (by decide) (own_keepA Y.rgs hW Y.drw.hp)) hfr (fun m h => (hok m h).1) hday.1 hday.2).mono ?_
        rintro e w7 ⟨m, rfl, hmk, hs, hG⟩
        have Y := Y.call hs hG
        clear hs hG l0
        have xb := Box.new w7 31 [.int .i64 m.kind, .int .i64 m.number, .int .i64 m.month, .int .i64 m.feast, .int .i64 m.relation, .int .i64 m.weekday, .int .i64 m.style, .string m.king] w.heap.size Y.drw.size (by simp)
        have hxo : g2 ≠ w7.heap.size := by have := (own_lt Y.out).2; omega
        have Y := Y.below (belowA w7 (.cells #[.int .i64 m.kind, .int .i64 m.number, .int .i64 m.month, .int .i64 m.feast, .int .i64 m.relation, .int .i64 m.weekday, .int .i64 m.style, .string m.king] 31))
        go_upto_region 10 with (fail)
        generalize w7.alloc (.cells #[.int .i64 m.kind, .int .i64 m.number, .int .i64 m.month, .int .i64 m.feast, .int .i64 m.relation, .int .i64 m.weekday, .int .i64 m.style, .string m.king] 31) = w8 at Y xb ⊢
        generalize w7.heap.size = xg at xb hxo ⊢
        go_wp2_with fail
        refine (HN.out 5 _ (by decide) (by decide) Y.drw.src).mono ?_
        rintro e w8a ⟨z, rfl, hz0', hz1', hs, hG⟩
        have xb := Box.keepA xb hG Y.drw.hp
        have Y := Y.call hs hG
        clear hs hG
        by_cases z0 : z = 0
        · subst z0
          have Y := Y.below (Below.refl _ w8a).drew
          have xb := Box.below xb (Below.refl _ w8a).drew
          go_wp2_with fail
          refine MAny.region (S := fun w' => w'.cell? ⟨lb, 0, none⟩ = some (.slice (some ⟨g, 0, none⟩) rs.length c) ∧ w'.cell? ⟨lb, 1, none⟩ = some (.int .i64 f) ∧ w'.cell? ⟨lb, 2, none⟩ = some (.int .i64 t)) (last := 15) (by kernel_rfl) ?_
          generalize w8a.drew = wd2 at Y xb ⊢
          have hHeld := And.intro (Box.cell Y.loc 0 _ rfl) (And.intro (Box.cell Y.loc 1 _ rfl) (Box.cell Y.loc 2 _ rfl))
          refine MAny.take (i := 0) (v := ?_) rfl (by kernel_rfl) (by kernel_rfl) (by kernel_rfl) (fun _ _ _ h => h) (by kernel_rfl) (Or.inl ⟨by rfl, ?_⟩) (by assumption) ?_
          rotate_left
          · (intro w' hSw; (try dsimp only at hSw); go_simp; try (with_reducible rfl))
          try simp only [Act.put, List.setIfInBounds_toArray]
          refine MAny.take (i := 1) (v := ?_) rfl (by kernel_rfl) (by kernel_rfl) (by kernel_rfl) (fun _ _ _ h => h) (by kernel_rfl) (Or.inl ⟨by rfl, ?_⟩) (by assumption) ?_
          rotate_left
          · (intro w' hSw; (try dsimp only at hSw); go_simp; try (with_reducible rfl))
          try simp only [Act.put]
          refine MAny.take (i := 2) (v := ?_) rfl (by kernel_rfl) (by kernel_rfl) (by kernel_rfl) (fun _ _ _ h => h) (by kernel_rfl) (Or.inl ⟨by rfl, ?_⟩) (by assumption) ?_
          rotate_left
          · (intro w' hSw; (try dsimp only at hSw); go_simp; try (with_reducible rfl))
          try simp only [Act.put]
          refine MAny.take (i := 3) (v := ?_) rfl (by kernel_rfl) (by kernel_rfl) (by kernel_rfl) (fun _ _ _ h => h) (by kernel_rfl) (Or.inl ⟨by rfl, ?_⟩) (by assumption) ?_
          rotate_left
          · (intro w' hSw; (try dsimp only at hSw); go_simp; try (with_reducible rfl))
          try simp only [Act.put]
          refine MAny.take (i := 4) (v := ?_) rfl (by kernel_rfl) (by kernel_rfl) (by kernel_rfl) (fun _ _ _ h => h) (by kernel_rfl) (Or.inl ⟨by rfl, ?_⟩) (by assumption) ?_
          rotate_left
          · (intro w' hSw; (try dsimp only at hSw); go_simp; try (with_reducible rfl))
          try simp only [Act.put]
          refine MAny.take (i := 5) (v := ?_) rfl (by kernel_rfl) (by kernel_rfl) (by kernel_rfl) (fun _ _ _ h => h) (by kernel_rfl) (Or.inl ⟨by rfl, ?_⟩) (by assumption) ?_
          rotate_left
          · (intro w' hSw; (try dsimp only at hSw); go_simp; try (with_reducible rfl))
          try simp only [Act.put]
          refine MAny.take (i := 6) (v := ?_) rfl (by kernel_rfl) (by kernel_rfl) (by kernel_rfl) (fun _ _ _ h => h) (by kernel_rfl) (Or.inl ⟨by rfl, ?_⟩) (by assumption) ?_
          rotate_left
          · (intro w' hSw; (try dsimp only at hSw); go_simp; try (with_reducible rfl))
          try simp only [Act.put]
          refine MAny.take (i := 7) (v := ?_) rfl (by kernel_rfl) (by kernel_rfl) (by kernel_rfl) (fun _ _ _ h => h) (by kernel_rfl) (Or.inl ⟨by rfl, ?_⟩) (by assumption) ?_
          rotate_left
          · (intro w' hSw; (try dsimp only at hSw); go_simp; try (with_reducible rfl))
          try simp only [Act.put]
          refine MAny.take (i := 8) (v := ?_) rfl (by kernel_rfl) (by kernel_rfl) (by kernel_rfl) (fun _ _ _ h => h) (by kernel_rfl) (Or.inl ⟨by rfl, ?_⟩) (by assumption) ?_
          rotate_left
          · (intro w' hSw; (try dsimp only at hSw); go_simp; try (with_reducible rfl))
          try simp only [Act.put]
          refine MAny.take (i := 9) (v := ?_) rfl (by kernel_rfl) (by kernel_rfl) (by kernel_rfl) (fun _ _ _ h => h) (by kernel_rfl) (Or.inl ⟨by rfl, ?_⟩) (by assumption) ?_
          rotate_left
          · (intro w' hSw; (try dsimp only at hSw); go_simp; try (with_reducible rfl))
          try simp only [Act.put]
          refine MAny.take (i := 10) (v := ?_) rfl (by kernel_rfl) (by kernel_rfl) (by kernel_rfl) (fun _ _ _ h => h) (by kernel_rfl) (Or.inl ⟨by rfl, ?_⟩) (by assumption) ?_
          rotate_left
          · (intro w' hSw; (try dsimp only at hSw); go_simp; try (with_reducible rfl))
          try simp only [Act.put]
          refine MAny.take (i := 11) (v := ?_) rfl (by kernel_rfl) (by kernel_rfl) (by kernel_rfl) (fun _ _ _ h => h) (by kernel_rfl) (Or.inl ⟨by rfl, ?_⟩) (by assumption) ?_
          rotate_left
          · (intro w' hSw; (try dsimp only at hSw); go_simp; try (with_reducible rfl))
          try simp only [Act.put]
          refine MAny.ready (rs := [12]) (by kernel_rfl) (by simp) ?_
          refine MReady.cons rfl (fun K hK => ?_) MReady.nil
          go_simp
          go_wp2_with (go_at_call 47; refine (HN.out (t - f + 1) wd2 (by omega) (by omega) Y.drw.src).mono ?_; rintro e w8b ⟨u, rfl, hu0, hu1, hs, hG⟩)
          have xb := Box.keepA xb hG Y.drw.hp
          have Y := Y.call hs hG
          clear hs hG hHeld
          have hHeld := And.intro (Box.cell Y.loc 0 _ rfl) (And.intro (Box.cell Y.loc 1 _ rfl) (Box.cell Y.loc 2 _ rfl))
          have v6 := i64_in (f + u) (by omega)
          refine hK.out _ _ (.inr hHeld) ?_
          clear hK K
          refine MAny.take (i := 13) (v := ?_) rfl (by kernel_rfl) (by kernel_rfl) (by kernel_rfl) (fun _ _ _ h => h) (by kernel_rfl) (Or.inl ⟨by rfl, ?_⟩) (by assumption) ?_
          rotate_left
          · (intro w' hSw; (try dsimp only at hSw); go_simp; try (with_reducible rfl))
          try simp only [Act.put]
          refine MAny.ready (rs := [14]) (by kernel_rfl) (by simp) ?_
          refine MReady.cons rfl (fun K hK => ?_) MReady.nil
          go_simp
          go_wp2_with (go_at_call 67; refine (HF.out _ c rs (f + u) w8b Y.drw.src (by omega) (fun W hW => Rd.of_own encRg_len (by decide) (own_keepA Y.rgs hW Y.drw.hp)) hfr (fun m h => (hok m h).1) (by omega) (by omega)).mono ?_; rintro e w8c ⟨m', rfl, hmk', hs, hG⟩)
          have xb := Box.keepA xb hG Y.drw.hp
          have Y := Y.call hs hG
          clear hs hG hHeld
          have hHeld := And.intro (Box.cell Y.loc 0 _ rfl) (And.intro (Box.cell Y.loc 1 _ rfl) (Box.cell Y.loc 2 _ rfl))
          refine hK.out _ _ (.inr hHeld) ?_
          clear hK K
          have r0 := Box.cell xb 0 _ rfl
          have r1 := Box.cell xb 1 _ rfl
          have r2 := Box.cell xb 2 _ rfl
          have r3 := Box.cell xb 3 _ rfl
          have r4 := Box.cell xb 4 _ rfl
          have r5 := Box.cell xb 5 _ rfl
          have r6 := Box.cell xb 6 _ rfl
          have r7 := Box.cell xb 7 _ rfl
          have f0 := World.ownsRow.frozenAt xb 0
          have f1 := World.ownsRow.frozenAt xb 1
          have f2 := World.ownsRow.frozenAt xb 2
          have f3 := World.ownsRow.frozenAt xb 3
          have f4 := World.ownsRow.frozenAt xb 4
          have f5 := World.ownsRow.frozenAt xb 5
          have f6 := World.ownsRow.frozenAt xb 6
          have f7 := World.ownsRow.frozenAt xb 7
          have HP8 := Lib.hid (Box.put8 xb (.int .i64 m'.kind) (.int .i64 m'.number) (.int .i64 m'.month) (.int .i64 m'.feast) (.int .i64 m'.relation) (.int .i64 m'.weekday) (.int .i64 m'.style) (.string m'.king))
          refine MAny.ready (rs := [15]) (by kernel_rfl) (by simp) ?_
          refine MReady.cons rfl (fun K hK => ?_) MReady.nil
          go_simp
          refine hK.out _ _ (.inl rfl) ?_
          clear hK K hHeld
          refine MAny.done (by kernel_rfl) ?_ _
          try simp only [List.getElem_toArray, List.getElem_cons_succ, List.getElem_cons_zero]
          have hp := HP8.out
          have Y := Y.put xb hp.2 (fun y e => by simp only [Value.ownBlock, Option.some.injEq] at e; omega)
          have xb := hp.1
          clear HP8 hp r0 r1 r2 r3 r4 r5 r6 r7 f0 f1 f2 f3 f4 f5 f6 f7 v6 hu0 hu1
          generalize (((((((w8c.setCell ⟨xg, 0, none⟩ (.int .i64 m'.kind)).setCell ⟨xg, 1, none⟩ (.int .i64 m'.number)).setCell ⟨xg, 2, none⟩ (.int .i64 m'.month)).setCell ⟨xg, 3, none⟩ (.int .i64 m'.feast)).setCell ⟨xg, 4, none⟩ (.int .i64 m'.relation)).setCell ⟨xg, 5, none⟩ (.int .i64 m'.weekday)).setCell ⟨xg, 6, none⟩ (.int .i64 m'.style)).setCell ⟨xg, 7, none⟩ (.string m'.king) = w8d at Y xb ⊢
          have m0 := Box.cell xb 0 _ rfl
          have m1 := Box.cell xb 1 _ rfl
          have m2 := Box.cell xb 2 _ rfl
          have m3 := Box.cell xb 3 _ rfl
          have m4 := Box.cell xb 4 _ rfl
          have m5 := Box.cell xb 5 _ rfl
          have m6 := Box.cell xb 6 _ rfl
          have m7 := Box.cell xb 7 _ rfl
          go_wp2_with (at_builtin; refine wpList_append_own _ rfl _ _ 22 rfl w.heap.size 31 i0 (.agg #[.int .i64 0, .int .i64 0, .int .i64 0, .int .i64 0, .int .i64 0, .int .i64 0, .int .i64 0, .string ⟨#[]⟩]) 8 72 Tryz.underlying22 hi hz0 hz1 hz2 rfl (by decide) _ _ _ rfl (Y.out.alloc _) ⟨w8d.heap.size, 0, none⟩ 1 1 [.int .i64 m'.kind, .int .i64 m'.number, .int .i64 m'.month, .int .i64 m'.feast, .int .i64 m'.relation, .int .i64 m'.weekday, .int .i64 m'.style, .string m'.king] rfl rfl (World.news_of_block (heap_alloc_new _ _)) ?c2 ?c3 ?c4 ?c5 ?_)
          case c2 => intro u hu; simp at hu; first | (rcases hu with rfl | rfl | rfl | rfl | rfl | rfl | rfl | rfl <;> rfl) | (rcases hu with rfl | rfl | rfl <;> rfl)
          case c3 => unfold maxLen; omega
          case c4 => omega
          case c5 => have := Y.drw.size; simp; omega
          intro v' w9 hown' hgr _
          obtain ⟨g3, c3, rfl⟩ := formJ hown' (by omega)
          have Y2 := (Y.below (belowA w8d (.cells #[.int .i64 m'.kind, .int .i64 m'.number, .int .i64 m'.month, .int .i64 m'.feast, .int .i64 m'.relation, .int .i64 m'.weekday, .int .i64 m'.style, .string m'.king] 31))).more (cls' := cls ++ [m']) hgr (by rw [List.length_append, List.flatMap_append]; exact hown')
          have hlc : (cls ++ [m']).length = cls.length + 1 := by simp
          have hks2 : ∀ x ∈ cls ++ [m'], x.king.size ≤ 13 := fun x hx => by
            rcases List.mem_append.1 hx with hx | hx
            · exact hks x hx
            · simp at hx; subst hx; exact hmk'
          clear hgr hown' Y hks m0 m1 m2 m3 m4 m5 m6 m7 xb
          go_wp2
          go_roundw
          case rel => exact ⟨k - 1, g3, c3, cls ++ [m'], by rw [v5], by omega, by rw [hlc], hks2, by rw [hlc]; exact Y2⟩
          case measure => simp [intOf]; omega
        · have z0' : (z == 0) = false := by simpa using z0
          have m0 := Box.cell xb 0 _ rfl
          have m1 := Box.cell xb 1 _ rfl
          have m2 := Box.cell xb 2 _ rfl
          have m3 := Box.cell xb 3 _ rfl
          have m4 := Box.cell xb 4 _ rfl
          have m5 := Box.cell xb 5 _ rfl
          have m6 := Box.cell xb 6 _ rfl
          have m7 := Box.cell xb 7 _ rfl
          go_wp2_with (at_builtin; refine wpList_append_own _ rfl _ _ 22 rfl w.heap.size 31 i0 (.agg #[.int .i64 0, .int .i64 0, .int .i64 0, .int .i64 0, .int .i64 0, .int .i64 0, .int .i64 0, .string ⟨#[]⟩]) 8 72 Tryz.underlying22 hi hz0 hz1 hz2 rfl (by decide) _ _ _ rfl (Y.out.alloc _) ⟨w8a.heap.size, 0, none⟩ 1 1 [.int .i64 m.kind, .int .i64 m.number, .int .i64 m.month, .int .i64 m.feast, .int .i64 m.relation, .int .i64 m.weekday, .int .i64 m.style, .string m.king] rfl rfl (World.news_of_block (heap_alloc_new _ _)) ?c2 ?c3 ?c4 ?c5 ?_)
          case c2 => intro u hu; simp at hu; first | (rcases hu with rfl | rfl | rfl | rfl | rfl | rfl | rfl | rfl <;> rfl) | (rcases hu with rfl | rfl | rfl <;> rfl)
          case c3 => unfold maxLen; omega
          case c4 => omega
          case c5 => have := Y.drw.size; simp; omega
          intro v' w9 hown' hgr _
          obtain ⟨g3, c3, rfl⟩ := formJ hown' (by omega)
          have Y2 := (Y.below (belowA w8a (.cells #[.int .i64 m.kind, .int .i64 m.number, .int .i64 m.month, .int .i64 m.feast, .int .i64 m.relation, .int .i64 m.weekday, .int .i64 m.style, .string m.king] 31))).more (cls' := cls ++ [m]) hgr (by rw [List.length_append, List.flatMap_append]; exact hown')
          have hlc : (cls ++ [m]).length = cls.length + 1 := by simp
          have hks2 : ∀ x ∈ cls ++ [m], x.king.size ≤ 13 := fun x hx => by
            rcases List.mem_append.1 hx with hx | hx
            · exact hks x hx
            · simp at hx; subst hx; exact hmk
          clear hgr hown' Y hks m0 m1 m2 m3 m4 m5 m6 m7 xb
          go_wp2
          go_roundw
          case rel => exact ⟨k - 1, g3, c3, cls ++ [m], by rw [v5], by omega, by rw [hlc], hks2, by rw [hlc]; exact Y2⟩
          case measure => simp [intOf]; omega
end

section
open Go.ChangeShapes Go.WideShapes Go.ChangeAt Go.RowKit Go.IntWalk

theorem two_cl (x y : Cl) : ∀ u ∈ [x, y].flatMap encCl, u.oneCell' = true := fun u hu => by
  simp [encCl] at hu
  rcases hu with rfl | rfl | rfl | rfl | rfl | rfl | rfl | rfl | rfl | rfl | rfl | rfl | rfl | rfl | rfl | rfl <;> rfl
set_option maxRecDepth 100000 in
set_option maxHeartbeats 4000000 in
theorem drawConflict_any (cs : Option Addr) (cap : Nat) (bs : List Int) (w : World) (hx : Rd encB w cs bs) (hb : ∀ m ∈ bs, goodB m) (hl : bs.length ≤ 4096) :
    Calls Tryz.prog 26 #[.slice cs bs.length cap] w fun e w' => (∃ (g c g2 c2 : Nat) (rs : List Rg) (f t : Int) (cls : List Cl), e = .returned (.tuple #[.agg #[.slice (some ⟨g, 0, none⟩) rs.length c, .int .i64 f, .int .i64 t], .slice (some ⟨g2, 0, none⟩) cls.length c2]) ∧ rs.length ≤ 31 ∧ (∀ m ∈ rs, okD m) ∧ (420000 ≤ f ∧ f ≤ 425000) ∧ (419999 ≤ t ∧ t ≤ 450000) ∧ cls.length ≤ 9 ∧ (∀ m ∈ cls, m.king.size ≤ 13) ∧ w'.ownsRow w.heap.size 115 3 (.slice (some ⟨g, 0, none⟩) rs.length c) rs.length (rs.flatMap encRg) ∧ w'.ownsRow w.heap.size 31 8 (.slice (some ⟨g2, 0, none⟩) cls.length c2) cls.length (cls.flatMap encCl)) ∧ Below w.heap.size w w' := by
  obtain ⟨i0, hi, hz0, hz1, hz2⟩ := info_parts infoCl
  have res := Box.new w 43 [.slice none 0 0, .int .i64 0, .int .i64 0] w.heap.size (Nat.le_refl _) (by simp)
  have hB1 := belowA w (.cells #[.slice none 0 0, .int .i64 0, .int .i64 0] 43)
  have hx1 := hx.below hB1
  generalize hW1 : w.alloc (.cells #[.slice none 0 0, .int .i64 0, .int .i64 0] 43) = w1 at res hB1 hx1
  have hrl1 := res.lt.2
  go_enter Tryz.func26, Tryz.ntmps26
  go_wp2_with fail
  clear hW1
  refine (l01From_any cs cap bs w1 hx1 hb).mono ?_
  rintro e w2 ⟨p, rfl, hs⟩
  have hpl := hs.lt
  have hne : w.heap.size ≠ p := by omega
  replace res := Box.below res hs.base
  have D := Drw.start hs
  have HN := Lib.hid (fun n W hn1 hn2 hs => l01Next_any w1 cs cap bs p n W hx1 hb hl hn1 hn2 hs)
  go_wp2_with fail
  refine (l12Draw_any w1 cs cap bs p w2 hx1 hb hl hs).mono ?_
  rintro e w3 ⟨g, c, g2, c2, rs, f, t, cls, rfl, hrl, hok, hfb, htb, hcl, hks, hown, hout, hs2, hG⟩
  replace res := Box.keep res hG hne
  replace D := D.call hs2 hG
  have hw12 := hG.size
  clear hG hs2 hs
  have bx := Box.new w3 43 [.slice (some ⟨g, 0, none⟩) rs.length c, .int .i64 f, .int .i64 t] w2.heap.size hw12 (by simp)
  have hz := belowA w3 (.cells #[.slice (some ⟨g, 0, none⟩) rs.length c, .int .i64 f, .int .i64 t] 43)
  go_upto_region 3 with (fail)
  replace res := Box.below res hz
  replace hown := own_below hown hz
  replace hout := own_below hout hz
  replace D := D.below hz
  change Box _ (w3.alloc (.cells #[.slice (some ⟨g, 0, none⟩) rs.length c, .int .i64 f, .int .i64 t] 43)) _ _ _ at bx
  generalize w3.alloc (.cells #[.slice (some ⟨g, 0, none⟩) rs.length c, .int .i64 f, .int .i64 t] 43) = w4 at res hown hout D bx ⊢
  generalize w3.heap.size = b at bx ⊢
  clear hz hw12
  have HIC := Lib.hid (fun W (h : Rd encRg W (some ⟨g, 0, none⟩) rs) => specIsChancery_any (some ⟨g, 0, none⟩) c rs f t W (by omega) h (fun m hm => by have := (hok m hm).1; omega))
  have b0 := Box.cell bx 0 _ rfl
  have b1 := Box.cell bx 1 _ rfl
  have b2 := Box.cell bx 2 _ rfl
  go_wp2_with fail
  refine (HIC.out _ (Rd.of_own encRg_len (by decide) hown)).mono ?_
  rintro e w5 ⟨rfl, hB5⟩
  replace res := Box.below res hB5
  replace bx := Box.below bx hB5
  replace hown := own_below hown hB5
  replace hout := own_below hout hB5
  replace D := D.below hB5
  clear hB5 HIC b0 b1 b2
  cases hch : isChanceryB rs f t with
  | false =>
    have b0 := Box.cell bx 0 _ rfl
    have b1 := Box.cell bx 1 _ rfl
    have b2 := Box.cell bx 2 _ rfl
    have r0 := Box.cell res 0 _ rfl
    have r1 := Box.cell res 1 _ rfl
    have r2 := Box.cell res 2 _ rfl
    have f0 := World.ownsRow.frozenAt res 0
    have f1 := World.ownsRow.frozenAt res 1
    have f2 := World.ownsRow.frozenAt res 2
    have hB := stepB hB1 D.base hB1.size
    have HP3 := Lib.hid (Box.put3 res (.slice (some ⟨g, 0, none⟩) rs.length c) (.int .i64 f) (.int .i64 t))
    have hgr : g ≠ w.heap.size := by have := (own_lt hown).1; omega
    have hgo : g2 ≠ w.heap.size := by have := (own_lt hout).1; omega
    go_wp2
    have hp := HP3.out
    have hown := own_apart2 hown hp.2 hgr
    have hout := own_apart2 hout hp.2 hgo
    have hB := hB.grown hp.2 hB.size (fun g e => by cases e; exact Nat.le_refl _)
    generalize ((w5.setCell ⟨w.heap.size, 0, none⟩ (.slice (some ⟨g, 0, none⟩) rs.length c)).setCell ⟨w.heap.size, 1, none⟩ (.int .i64 f)).setCell ⟨w.heap.size, 2, none⟩ (.int .i64 t) = Wf at hp hB hown hout ⊢
    have z0 := hp.1.cell 0 _ rfl
    have z1 := hp.1.cell 1 _ rfl
    have z2 := hp.1.cell 2 _ rfl
    refine bodyPost_ret_by (v := .tuple #[.agg #[.slice (some ⟨g, 0, none⟩) rs.length c, .int .i64 f, .int .i64 t], .slice (some ⟨g2, 0, none⟩) (cls).length c2]) ?_ rfl ⟨⟨g, c, g2, c2, rs, f, t, cls, rfl, hrl, hok, hfb, htb, hcl, hks, own_base hown (by omega), own_base hout (by omega)⟩, hB⟩
    simp [results, go_sem, z0, z1, z2]
  | true =>
    have hfr : ∀ m ∈ rs, 0 ≤ m.fr := reigns_fr0 (by unfold isChanceryB at hch; simp only [Bool.and_eq_true] at hch; exact hch.1.1.1.1)
    have HDO := Lib.hid (fun n W hs hrd hn0 hn => l11DrawOf_any w1 cs cap bs p (some ⟨g, 0, none⟩) c rs n W hx1 hb hl hs (by omega) hrd hfr (fun m hm => (hok m hm).1) hn0 hn)
    by_cases h6 : cls.length < 6
    · have h61 : (cls.length : Int) < 6 := by omega
      go_wp2_with fail
      refine (HN.out 2 _ (by omega) (by omega) D.src).mono ?_
      rintro e w6 ⟨r, rfl, hu0, hu1, hs2, hG⟩
      replace hown := own_keepA hown hG D.hp
      replace hout := own_keepA hout hG D.hp
      replace bx := Box.keepA bx hG D.hp
      replace res := Box.keep res hG hne
      replace D := D.call hs2 hG
      clear hs2 hG
      by_cases hr : r = 0
      · subst hr
        go_upto_region 4 with (fail)
        refine MAny.region (S := fun w' => w'.cell? ⟨b, 0, none⟩ = some (.slice (some ⟨g, 0, none⟩) rs.length c) ∧ w'.cell? ⟨b, 1, none⟩ = some (.int .i64 f) ∧ w'.cell? ⟨b, 2, none⟩ = some (.int .i64 t)) (last := 15) (by kernel_rfl) ?_
        have hzd : Below w6.heap.size w6 w6.drew := (Below.refl _ w6).drew
        replace res := Box.below res hzd
        replace bx := Box.below bx hzd
        replace hown := own_below hown hzd
        replace hout := own_below hout hzd
        replace D := D.below hzd
        clear hzd
        have hHeld : w6.drew.cell? ⟨b, 0, none⟩ = some (.slice (some ⟨g, 0, none⟩) rs.length c) ∧ w6.drew.cell? ⟨b, 1, none⟩ = some (.int .i64 f) ∧ w6.drew.cell? ⟨b, 2, none⟩ = some (.int .i64 t) := ⟨Box.cell bx 0 _ rfl, Box.cell bx 1 _ rfl, Box.cell bx 2 _ rfl⟩
        generalize w6.drew = V0 at res bx hown hout D hHeld ⊢
        refine MAny.take (i := 0) (v := ?_) rfl (by kernel_rfl) (by kernel_rfl) (by kernel_rfl) (fun _ _ _ h => h) (by kernel_rfl) (Or.inl ⟨by rfl, ?_⟩) (by assumption) ?_
        rotate_left
        · (intro w' hSw; (try dsimp only at hSw); go_simp; try (with_reducible rfl))
        try simp only [Act.put, List.setIfInBounds_toArray]
        refine MAny.take (i := 1) (v := ?_) rfl (by kernel_rfl) (by kernel_rfl) (by kernel_rfl) (fun _ _ _ h => h) (by kernel_rfl) (Or.inl ⟨by rfl, ?_⟩) (by assumption) ?_
        rotate_left
        · (intro w' hSw; (try dsimp only at hSw); go_simp; try (with_reducible rfl))
        try simp only [Act.put]
        refine MAny.take (i := 2) (v := ?_) rfl (by kernel_rfl) (by kernel_rfl) (by kernel_rfl) (fun _ _ _ h => h) (by kernel_rfl) (Or.inl ⟨by rfl, ?_⟩) (by assumption) ?_
        rotate_left
        · (intro w' hSw; (try dsimp only at hSw); go_simp; try (with_reducible rfl))
        try simp only [Act.put]
        refine MAny.take (i := 3) (v := ?_) rfl (by kernel_rfl) (by kernel_rfl) (by kernel_rfl) (fun _ _ _ h => h) (by kernel_rfl) (Or.inl ⟨by rfl, ?_⟩) (by assumption) ?_
        rotate_left
        · (intro w' hSw; (try dsimp only at hSw); go_simp; try (with_reducible rfl))
        try simp only [Act.put]
        refine MAny.take (i := 4) (v := ?_) rfl (by kernel_rfl) (by kernel_rfl) (by kernel_rfl) (fun _ _ _ h => h) (by kernel_rfl) (Or.inl ⟨by rfl, ?_⟩) (by assumption) ?_
        rotate_left
        · (intro w' hSw; (try dsimp only at hSw); go_simp; try (with_reducible rfl))
        try simp only [Act.put]
        refine MAny.take (i := 5) (v := ?_) rfl (by kernel_rfl) (by kernel_rfl) (by kernel_rfl) (fun _ _ _ h => h) (by kernel_rfl) (Or.inl ⟨by rfl, ?_⟩) (by assumption) ?_
        rotate_left
        · (intro w' hSw; (try dsimp only at hSw); go_simp; try (with_reducible rfl))
        try simp only [Act.put]
        refine MAny.take (i := 7) (v := ?_) rfl (by kernel_rfl) (by kernel_rfl) (by kernel_rfl) (fun _ _ _ h => h) (by kernel_rfl) (Or.inl ⟨by rfl, ?_⟩) (by assumption) ?_
        rotate_left
        · (intro w' hSw; (try dsimp only at hSw); go_simp; try (with_reducible rfl))
        try simp only [Act.put]
        refine MAny.take (i := 8) (v := ?_) rfl (by kernel_rfl) (by kernel_rfl) (by kernel_rfl) (fun _ _ _ h => h) (by kernel_rfl) (Or.inl ⟨by rfl, ?_⟩) (by assumption) ?_
        rotate_left
        · (intro w' hSw; (try dsimp only at hSw); go_simp; try (with_reducible rfl))
        try simp only [Act.put]
        refine MAny.take (i := 9) (v := ?_) rfl (by kernel_rfl) (by kernel_rfl) (by kernel_rfl) (fun _ _ _ h => h) (by kernel_rfl) (Or.inl ⟨by rfl, ?_⟩) (by assumption) ?_
        rotate_left
        · (intro w' hSw; (try dsimp only at hSw); go_simp; try (with_reducible rfl))
        try simp only [Act.put]
        refine MAny.take (i := 10) (v := ?_) rfl (by kernel_rfl) (by kernel_rfl) (by kernel_rfl) (fun _ _ _ h => h) (by kernel_rfl) (Or.inl ⟨by rfl, ?_⟩) (by assumption) ?_
        rotate_left
        · (intro w' hSw; (try dsimp only at hSw); go_simp; try (with_reducible rfl))
        try simp only [Act.put]
        refine MAny.take (i := 11) (v := ?_) rfl (by kernel_rfl) (by kernel_rfl) (by kernel_rfl) (fun _ _ _ h => h) (by kernel_rfl) (Or.inl ⟨by rfl, ?_⟩) (by assumption) ?_
        rotate_left
        · (intro w' hSw; (try dsimp only at hSw); go_simp; try (with_reducible rfl))
        try simp only [Act.put]
        refine MAny.ready (rs := [6]) (by kernel_rfl) (by simp) ?_
        refine MReady.cons rfl (fun K hK => ?_) MReady.nil
        go_simp
        go_wp2_with (go_at_call 67; refine (HDO.out f V0 D.src (fun W2 hG2 => Rd.of_own encRg_len (by decide) (own_keepA hown hG2 D.hp)) (by omega) (by omega)).mono ?_; rintro e Va ⟨x, rfl, hx, hs2, hG⟩)
        replace hown := own_keepA hown hG D.hp
        replace hout := own_keepA hout hG D.hp
        replace bx := Box.keepA bx hG D.hp
        replace res := Box.keep res hG hne
        replace D := D.call hs2 hG
        clear hs2 hG
        have hHeld : Va.cell? ⟨b, 0, none⟩ = some (.slice (some ⟨g, 0, none⟩) rs.length c) ∧ Va.cell? ⟨b, 1, none⟩ = some (.int .i64 f) ∧ Va.cell? ⟨b, 2, none⟩ = some (.int .i64 t) := ⟨Box.cell bx 0 _ rfl, Box.cell bx 1 _ rfl, Box.cell bx 2 _ rfl⟩
        refine hK.out _ _ (.inr hHeld) ?_
        clear hK K
        refine MAny.ready (rs := [12]) (by kernel_rfl) (by simp) ?_
        refine MReady.cons rfl (fun K hK => ?_) MReady.nil
        go_simp
        go_wp2_with (go_at_call 67; refine (HDO.out t Va D.src (fun W2 hG2 => Rd.of_own encRg_len (by decide) (own_keepA hown hG2 D.hp)) (by omega) (by omega)).mono ?_; rintro e Vb ⟨y, rfl, hy, hs2, hG⟩)
        replace hown := own_keepA hown hG D.hp
        replace hout := own_keepA hout hG D.hp
        replace bx := Box.keepA bx hG D.hp
        replace res := Box.keep res hG hne
        replace D := D.call hs2 hG
        clear hs2 hG
        have hHeld : Vb.cell? ⟨b, 0, none⟩ = some (.slice (some ⟨g, 0, none⟩) rs.length c) ∧ Vb.cell? ⟨b, 1, none⟩ = some (.int .i64 f) ∧ Vb.cell? ⟨b, 2, none⟩ = some (.int .i64 t) := ⟨Box.cell bx 0 _ rfl, Box.cell bx 1 _ rfl, Box.cell bx 2 _ rfl⟩
        refine hK.out _ _ (.inr hHeld) ?_
        clear hK K
        refine MAny.ready (rs := [13]) (by kernel_rfl) (by simp) ?_
        refine MReady.cons rfl (fun K hK => ?_) MReady.nil
        go_simp
        have hz := belowA Vb (.cells #[.int .i64 x.kind, .int .i64 x.number, .int .i64 x.month, .int .i64 x.feast, .int .i64 x.relation, .int .i64 x.weekday, .int .i64 x.style, .string x.king, .int .i64 y.kind, .int .i64 y.number, .int .i64 y.month, .int .i64 y.feast, .int .i64 y.relation, .int .i64 y.weekday, .int .i64 y.style, .string y.king] 31)
        have hnews : ∀ j u, ([x, y].flatMap encCl)[j]? = some u → (Vb.alloc (.cells #[.int .i64 x.kind, .int .i64 x.number, .int .i64 x.month, .int .i64 x.feast, .int .i64 x.relation, .int .i64 x.weekday, .int .i64 x.style, .string x.king, .int .i64 y.kind, .int .i64 y.number, .int .i64 y.month, .int .i64 y.feast, .int .i64 y.relation, .int .i64 y.weekday, .int .i64 y.style, .string y.king] 31)).cell? ((⟨Vb.heap.size, 0, none⟩ : Addr).add j) = some u := World.news_of_block (heap_alloc_new _ _)
        replace res := Box.below res hz
        replace bx := Box.below bx hz
        replace hown := own_below hown hz
        replace hout := own_below hout hz
        replace D := D.below hz
        clear hz
        generalize Vb.alloc (.cells #[.int .i64 x.kind, .int .i64 x.number, .int .i64 x.month, .int .i64 x.feast, .int .i64 x.relation, .int .i64 x.weekday, .int .i64 x.style, .string x.king, .int .i64 y.kind, .int .i64 y.number, .int .i64 y.month, .int .i64 y.feast, .int .i64 y.relation, .int .i64 y.weekday, .int .i64 y.style, .string y.king] 31) = Wc at res bx hown hout D hnews ⊢
        generalize Vb.heap.size = nb at hnews ⊢
        have hHeld : Wc.cell? ⟨b, 0, none⟩ = some (.slice (some ⟨g, 0, none⟩) rs.length c) ∧ Wc.cell? ⟨b, 1, none⟩ = some (.int .i64 f) ∧ Wc.cell? ⟨b, 2, none⟩ = some (.int .i64 t) := ⟨Box.cell bx 0 _ rfl, Box.cell bx 1 _ rfl, Box.cell bx 2 _ rfl⟩
        refine hK.out _ _ (.inr hHeld) ?_
        clear hK K
        refine MAny.ready (rs := [14]) (by kernel_rfl) (by simp) ?_
        refine MReady.cons rfl (fun K hK => ?_) MReady.nil
        refine step_append_any _ (by rfl) (.tmp 26) (.tmp 39) 22 (by rfl) w2.heap.size 31 i0 (.agg #[.int .i64 0, .int .i64 0, .int .i64 0, .int .i64 0, .int .i64 0, .int .i64 0, .int .i64 0, .string ⟨#[]⟩]) 8 72 Tryz.underlying22 hi hz0 hz1 hz2 rfl (by decide) _ _ cls.length (cls.flatMap encCl) (by rfl) hout ⟨nb, 0, none⟩ 2 2 ([x, y].flatMap encCl) (by rfl) rfl hnews (two_cl x y) (by unfold maxLen; omega) (by omega) D.size ?_
        intro g3 c3 Wd ow2 hgr hor
        have hgl := own_lt hout
        have hgg : g ≠ g2 := own_apart hown hout (by decide)
        have hbg : b ≠ g2 := own_apart bx hout (by decide)
        replace hown := own_apart2 hown hgr hgg
        replace bx := Box.keep bx hgr hbg
        replace res := Box.keep res hgr (by omega)
        replace D := D.store hgr hgl.1
        clear hgr hor hout
        have hout : Wd.ownsRow w2.heap.size 31 8 (.slice (some ⟨g3, 0, none⟩) (cls ++ [x, y]).length c3) (cls ++ [x, y]).length ((cls ++ [x, y]).flatMap encCl) := by
          rw [List.length_append, List.flatMap_append]; exact ow2
        clear ow2
        try simp only [Act.put, List.setIfInBounds_toArray]
        have hHeld : Wd.cell? ⟨b, 0, none⟩ = some (.slice (some ⟨g, 0, none⟩) rs.length c) ∧ Wd.cell? ⟨b, 1, none⟩ = some (.int .i64 f) ∧ Wd.cell? ⟨b, 2, none⟩ = some (.int .i64 t) := ⟨Box.cell bx 0 _ rfl, Box.cell bx 1 _ rfl, Box.cell bx 2 _ rfl⟩
        refine hK.out _ _ (.inr hHeld) ?_
        clear hK K
        refine MAny.ready (rs := [15]) (by kernel_rfl) (by simp) ?_
        refine MReady.cons rfl (fun K hK => ?_) MReady.nil
        go_simp
        refine hK.out _ _ (.inl rfl) ?_
        clear hK K
        refine MAny.done (by kernel_rfl) ?_ _
        try simp only [List.getElem_toArray, List.getElem_cons_succ, List.getElem_cons_zero]
        have b0 := Box.cell bx 0 _ rfl
        have b1 := Box.cell bx 1 _ rfl
        have b2 := Box.cell bx 2 _ rfl
        have r0 := Box.cell res 0 _ rfl
        have r1 := Box.cell res 1 _ rfl
        have r2 := Box.cell res 2 _ rfl
        have f0 := World.ownsRow.frozenAt res 0
        have f1 := World.ownsRow.frozenAt res 1
        have f2 := World.ownsRow.frozenAt res 2
        have hB := stepB hB1 D.base hB1.size
        have HP3 := Lib.hid (Box.put3 res (.slice (some ⟨g, 0, none⟩) rs.length c) (.int .i64 f) (.int .i64 t))
        have hgr : g ≠ w.heap.size := by have := (own_lt hown).1; omega
        have hgo : g3 ≠ w.heap.size := by have := (own_lt hout).1; omega
        go_wp2
        have hp := HP3.out
        have hown := own_apart2 hown hp.2 hgr
        have hout := own_apart2 hout hp.2 hgo
        have hB := hB.grown hp.2 hB.size (fun g e => by cases e; exact Nat.le_refl _)
        generalize ((Wd.setCell ⟨w.heap.size, 0, none⟩ (.slice (some ⟨g, 0, none⟩) rs.length c)).setCell ⟨w.heap.size, 1, none⟩ (.int .i64 f)).setCell ⟨w.heap.size, 2, none⟩ (.int .i64 t) = Wf at hp hB hown hout ⊢
        have z0 := hp.1.cell 0 _ rfl
        have z1 := hp.1.cell 1 _ rfl
        have z2 := hp.1.cell 2 _ rfl
        refine bodyPost_ret_by (v := .tuple #[.agg #[.slice (some ⟨g, 0, none⟩) rs.length c, .int .i64 f, .int .i64 t], .slice (some ⟨g3, 0, none⟩) (cls ++ [x, y]).length c3]) ?_ rfl ⟨⟨g, c, g3, c3, rs, f, t, cls ++ [x, y], rfl, hrl, hok, hfb, htb, (by rw [List.length_append]; show _ + 2 ≤ 9; omega), (fun m hm => by rcases List.mem_append.1 hm with h | h; exact hks m h; simp at h; rcases h with rfl | rfl <;> assumption), own_base hown (by omega), own_base hout (by omega)⟩, hB⟩
        simp [results, go_sem, z0, z1, z2]
      · have hr1 : (r == 0) = false := by simpa using hr
        have b0 := Box.cell bx 0 _ rfl
        have b1 := Box.cell bx 1 _ rfl
        have b2 := Box.cell bx 2 _ rfl
        have r0 := Box.cell res 0 _ rfl
        have r1 := Box.cell res 1 _ rfl
        have r2 := Box.cell res 2 _ rfl
        have f0 := World.ownsRow.frozenAt res 0
        have f1 := World.ownsRow.frozenAt res 1
        have f2 := World.ownsRow.frozenAt res 2
        have hB := stepB hB1 D.base hB1.size
        have HP3 := Lib.hid (Box.put3 res (.slice (some ⟨g, 0, none⟩) rs.length c) (.int .i64 f) (.int .i64 t))
        have hgr : g ≠ w.heap.size := by have := (own_lt hown).1; omega
        have hgo : g2 ≠ w.heap.size := by have := (own_lt hout).1; omega
        go_wp2
        have hp := HP3.out
        have hown := own_apart2 hown hp.2 hgr
        have hout := own_apart2 hout hp.2 hgo
        have hB := hB.grown hp.2 hB.size (fun g e => by cases e; exact Nat.le_refl _)
        generalize ((w6.setCell ⟨w.heap.size, 0, none⟩ (.slice (some ⟨g, 0, none⟩) rs.length c)).setCell ⟨w.heap.size, 1, none⟩ (.int .i64 f)).setCell ⟨w.heap.size, 2, none⟩ (.int .i64 t) = Wf at hp hB hown hout ⊢
        have z0 := hp.1.cell 0 _ rfl
        have z1 := hp.1.cell 1 _ rfl
        have z2 := hp.1.cell 2 _ rfl
        refine bodyPost_ret_by (v := .tuple #[.agg #[.slice (some ⟨g, 0, none⟩) rs.length c, .int .i64 f, .int .i64 t], .slice (some ⟨g2, 0, none⟩) (cls).length c2]) ?_ rfl ⟨⟨g, c, g2, c2, rs, f, t, cls, rfl, hrl, hok, hfb, htb, hcl, hks, own_base hown (by omega), own_base hout (by omega)⟩, hB⟩
        simp [results, go_sem, z0, z1, z2]
    · have h61 : ¬ (cls.length : Int) < 6 := by omega
      have b0 := Box.cell bx 0 _ rfl
      have b1 := Box.cell bx 1 _ rfl
      have b2 := Box.cell bx 2 _ rfl
      have r0 := Box.cell res 0 _ rfl
      have r1 := Box.cell res 1 _ rfl
      have r2 := Box.cell res 2 _ rfl
      have f0 := World.ownsRow.frozenAt res 0
      have f1 := World.ownsRow.frozenAt res 1
      have f2 := World.ownsRow.frozenAt res 2
      have hB := stepB hB1 D.base hB1.size
      have HP3 := Lib.hid (Box.put3 res (.slice (some ⟨g, 0, none⟩) rs.length c) (.int .i64 f) (.int .i64 t))
      have hgr : g ≠ w.heap.size := by have := (own_lt hown).1; omega
      have hgo : g2 ≠ w.heap.size := by have := (own_lt hout).1; omega
      go_wp2
      have hp := HP3.out
      have hown := own_apart2 hown hp.2 hgr
      have hout := own_apart2 hout hp.2 hgo
      have hB := hB.grown hp.2 hB.size (fun g e => by cases e; exact Nat.le_refl _)
      generalize ((w5.setCell ⟨w.heap.size, 0, none⟩ (.slice (some ⟨g, 0, none⟩) rs.length c)).setCell ⟨w.heap.size, 1, none⟩ (.int .i64 f)).setCell ⟨w.heap.size, 2, none⟩ (.int .i64 t) = Wf at hp hB hown hout ⊢
      have z0 := hp.1.cell 0 _ rfl
      have z1 := hp.1.cell 1 _ rfl
      have z2 := hp.1.cell 2 _ rfl
      refine bodyPost_ret_by (v := .tuple #[.agg #[.slice (some ⟨g, 0, none⟩) rs.length c, .int .i64 f, .int .i64 t], .slice (some ⟨g2, 0, none⟩) (cls).length c2]) ?_ rfl ⟨⟨g, c, g2, c2, rs, f, t, cls, rfl, hrl, hok, hfb, htb, hcl, hks, own_base hown (by omega), own_base hout (by omega)⟩, hB⟩
      simp [results, go_sem, z0, z1, z2]
end
end Go.Proofs.YteajkofgcmfaoaaGreatDoor
