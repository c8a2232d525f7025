/- Walks: the days of a witness. Printed by gen_wit2.py. -/
import Derived.Test.YtdebmijlipkoeaaGreatDoorOffice
import Derived.Test.YtdebmijlipkoeaaGreatDoorLiving
import Derived.Test.YtdebmijlipkoeaaGreatDoorSpHas
import Derived.Test.YtdebmijlipkoeaaGreatDoorTWt
import Derived.Deep.RegionHeldLaw
import Derived.Deep.RegionHeld
import Derived.BigRegion
namespace Go.Proofs.YtdebmijlipkoeaaGreatDoor
open Go.ChangeShapes Go.WideShapes Go.ChangeAt Go.RowKit

def witL (ps : List Ps) (ts : List Tm) (m : Wt) : List Sp := if m.office.toList == [] then (match ps[(personIx ps m.person).toNat]? with | some p => [⟨p.fr, p.to⟩] | none => []) else uni (tsp (isOP m.office m.person) ts)
theorem person_at {ps : List Ps} {s : ByteArray} (h : 0 ≤ personIx ps s) : ∃ k x, personIx ps s = ((k : Nat) : Int) ∧ k < ps.length ∧ ps[k]? = some x := by
  rcases fidx_bd (isNm s) ps 0 with h1 | ⟨k, x, h1, h2, h3, _⟩
  · unfold personIx at h; omega
  · exact ⟨k, x, by unfold personIx; rw [h1, Nat.zero_add], h2, h3⟩
theorem witL_own {ps : List Ps} {ts : List Tm} {m : Wt} {k : Nat} {x : Ps} (ho : (m.office.toList == []) = true) (h : personIx ps m.person = ((k : Nat) : Int)) (hx : ps[k]? = some x) : witL ps ts m = [⟨x.fr, x.to⟩] := by
  unfold witL
  rw [if_pos ho, h, Int.toNat_natCast, hx]
theorem witL_office {ps : List Ps} {ts : List Tm} {m : Wt} (ho : (m.office.toList == []) = false) : witL ps ts m = uni (tsp (isOP m.office m.person) ts) := by
  unfold witL
  rw [ho, if_neg Bool.false_ne_true]
theorem witL_len {ps : List Ps} {ts : List Tm} (h : isPeopleB ps ts = true) (m : Wt) : (witL ps ts m).length ≤ 60 := by
  have h1 := uni_len (tsp (isOP m.office m.person) ts)
  have h2 := tsp_len (isOP m.office m.person) ts
  have h3 := (people_bd h).2
  unfold witL
  split
  · split <;> simp
  · omega
def okW (ps : List Ps) (m : Wt) : Bool := decide (0 ≤ personIx ps m.person)
def codeW (ps : List Ps) (ts : List Tm) (l : List Wt) (b : Bool) : Int := if isPeopleB ps ts then (if b && decide (l.length ≤ 12) then (if l.all (okW ps) then 0 else 4) else 2) else 1
theorem codeW_zero {ps : List Ps} {ts : List Tm} {l : List Wt} {b : Bool} (h : codeW ps ts l b = 0) : isPeopleB ps ts = true ∧ b = true ∧ l.length ≤ 12 ∧ l.all (okW ps) = true := by
  unfold codeW at h
  cases hA : isPeopleB ps ts
  · rw [hA] at h; simp at h
  · rw [hA] at h
    cases hb : (b && decide (l.length ≤ 12))
    · rw [hb] at h; simp at h
    · rw [hb] at h
      cases ho : l.all (okW ps)
      · rw [ho] at h; simp at h
      · simp only [Bool.and_eq_true, decide_eq_true_eq] at hb
        exact ⟨rfl, hb.1, hb.2, rfl⟩
theorem own_one (w : World) (a b : Value) (T : TypeId) : (w.alloc (.cells #[a, b] T)).ownsRow w.heap.size T 2 (.slice (some ⟨w.heap.size, 0, none⟩) 1 1) 1 [a, b] :=
  ⟨rfl, .inr ⟨w.heap.size, 1, #[a, b], rfl, Nat.le_refl _, heap_alloc_new _ _, Nat.le_refl _, by decide, rfl, rfl⟩⟩
theorem keepSet {w : World} {p q : Addr} {v u : Value} (h : w.cell? p = some v) (hq : q.block ≠ p.block) : (w.setCell q u).cell? p = some v :=
  (cell_set_other (fun e => hq (by rw [e]))).trans h

set_option maxRecDepth 100000 in
set_option maxHeartbeats 4000000 in
theorem l13Could_any (a0 a1 : Option Addr) (cap0 cap1 : Nat) (xs0 : List Ps) (xs1 : List Tm) (m : Wt) (w : World) (hA : isPeopleB xs0 xs1 = true) (hp : 0 ≤ personIx xs0 m.person) (hl0 : xs0.length ≤ 1048576) (hx0 : Rd encPs w a0 xs0) (hl1 : xs1.length ≤ 1048574) (hx1 : Rd encTm w a1 xs1) :
    Calls Tryz.prog 90 #[.agg #[.slice a0 xs0.length cap0, .slice a1 xs1.length cap1], .agg #[.string m.person, .string m.office]] w fun e w' => ∃ g c, e = .returned (.slice (some ⟨g, 0, none⟩) (witL xs0 xs1 m).length c) ∧ w'.ownsRow w.heap.size 73 2 (.slice (some ⟨g, 0, none⟩) (witL xs0 xs1 m).length c) (witL xs0 xs1 m).length ((witL xs0 xs1 m).flatMap encSp) ∧ Below w.heap.size w w' := by
  cases hz : (m.office.toList == [])
  · have hR : Hid (witL xs0 xs1 m = uni (tsp (isOP m.office m.person) xs1)) := witL_office hz
    have HO := Lib.hid (fun W (hAt : At w [.slice a0 xs0.length cap0, .slice a1 xs1.length cap1] W) => l13Office_any a0 a1 cap0 cap1 xs0 xs1 m.office m.person W hA hl1 (hx1.below hAt.below))
    have hz' : (m.office.toList != []) = true := by simp [bne, hz]
    clear hA hp
    go_enter Tryz.func90, Tryz.ntmps90
    go_wp2_with fail
    generalize hW : (w.alloc (.cells #[.slice a0 xs0.length cap0, .slice a1 xs1.length cap1] 48)).alloc (.cells #[.string m.person, .string m.office] 110) = W
    have hA0 : At w [.slice a0 xs0.length cap0, .slice a1 xs1.length cap1] W := hW ▸ (At.start _ _ _).step ((Below.refl _ _).alloc (Nat.le_refl _) _)
    have e0 : W.cell? ⟨w.heap.size + 1, 0, none⟩ = some (.string m.person) := by rw [← hW]; exact World.cell?_alloc_at _ _ _ _ (by simp)
    have e1 : W.cell? ⟨w.heap.size + 1, 1, none⟩ = some (.string m.office) := by rw [← hW]; exact World.cell?_alloc_at _ _ _ _ (by simp)
    have hs2 : w.heap.size + 1 < W.heap.size := by rw [← hW]; simp
    have b0 := hA0.cell 0 _ rfl
    have b1 := hA0.cell 1 _ rfl
    have hs := hA0.size
    clear hW
    refine (HO.out _ hA0).mono ?_
    rintro e w1 ⟨g, c, rfl, ho, hB1⟩
    go_wp2
    go_ret
    rw [hR.out]
    exact ⟨_, _, rfl, own_base ho hA0.below.size, (hA0.step hB1).below⟩
  · obtain ⟨k, x, hk, hkl, hx⟩ := person_at hp
    have hR : Hid (witL xs0 xs1 m = [⟨x.fr, x.to⟩]) := witL_own hz hk hx
    have hz' : (m.office.toList != []) = false := by simp [bne, hz]
    have HP := Lib.hid (fun W (hB : Below w.heap.size w W) => hk ▸ l13Person_any a0 a1 cap0 cap1 xs0 xs1 m.person W hl0 (hx0.below hB))
    have hk1 : (k : Int) < (xs0.length : Int) := by omega
    clear hA hp hk
    go_enter Tryz.func90, Tryz.ntmps90
    go_wp2_with fail
    generalize hW : (w.alloc (.cells #[.slice a0 xs0.length cap0, .slice a1 xs1.length cap1] 48)).alloc (.cells #[.string m.person, .string m.office] 110) = W
    have hA0 : At w [.slice a0 xs0.length cap0, .slice a1 xs1.length cap1] W := hW ▸ (At.start _ _ _).step ((Below.refl _ _).alloc (Nat.le_refl _) _)
    have e0 : W.cell? ⟨w.heap.size + 1, 0, none⟩ = some (.string m.person) := by rw [← hW]; exact World.cell?_alloc_at _ _ _ _ (by simp)
    have e1 : W.cell? ⟨w.heap.size + 1, 1, none⟩ = some (.string m.office) := by rw [← hW]; exact World.cell?_alloc_at _ _ _ _ (by simp)
    have hs2 : w.heap.size + 1 < W.heap.size := by rw [← hW]; simp
    have b0 := hA0.cell 0 _ rfl
    have b1 := hA0.cell 1 _ rfl
    have hs := hA0.size
    clear hW
    obtain ⟨b, off, rfl, hb, c0, c1, c2⟩ := (hx0.below hA0.below).ps hx
    go_upto_region 3 with (fail)
    go_cut [5] from 15 to 22 (fun s5 wx => ∃ q, s5 = .pointer (some ⟨q, 0, none⟩) ∧ wx.cell? ⟨q, 1, none⟩ = some (.int .i64 x.fr) ∧ wx.cell? ⟨q, 2, none⟩ = some (.int .i64 x.to) ∧ Below W.heap.size W wx)
    case first =>
      have hd : Below W.heap.size W W.drew := (Below.refl _ W).drew
      refine wp_region_held_drew (S := fun w' => w'.cell? ⟨w.heap.size, 0, none⟩ = some (.slice (some ⟨b, off, none⟩) xs0.length cap0) ∧ w'.cell? ⟨w.heap.size, 1, none⟩ = some (.slice a1 xs1.length cap1) ∧ w'.cell? ⟨w.heap.size + 1, 0, none⟩ = some (.string m.person) ∧ w'.cell? ⟨b, off + k * 3, none⟩ = some (.string x.name) ∧ w'.cell? ⟨b, off + k * 3 + 1, none⟩ = some (.int .i64 x.fr) ∧ w'.cell? ⟨b, off + k * 3 + 2, none⟩ = some (.int .i64 x.to)) (by kernel_rfl) ?_ (fun hHeld => ?_)
      · exact ⟨b0, b1, e0, c0, c1, c2⟩
      refine wpAnyH_take (i := 0) (v := ?_) rfl (by kernel_rfl) (by kernel_rfl) (by kernel_rfl) (fun _ _ _ h => h) (Or.inl ⟨by rfl, ?_⟩) (by assumption) ?_
      rotate_left
      · (intro w' hSw; (try dsimp only at hSw); go_simp; try (with_reducible rfl))
      try simp only [Act.put, List.setIfInBounds_toArray]
      refine wpAnyH_take (i := 1) (v := ?_) rfl (by kernel_rfl) (by kernel_rfl) (by kernel_rfl) (fun _ _ _ h => h) (Or.inl ⟨by rfl, ?_⟩) (by assumption) ?_
      rotate_left
      · (intro w' hSw; (try dsimp only at hSw); go_simp; try (with_reducible rfl))
      try simp only [Act.put]
      refine wpAnyH_take (i := 2) (v := ?_) rfl (by kernel_rfl) (by kernel_rfl) (by kernel_rfl) (fun _ _ _ h => h) (Or.inl ⟨by rfl, ?_⟩) (by assumption) ?_
      rotate_left
      · (intro w' hSw; (try dsimp only at hSw); go_simp; try (with_reducible rfl))
      try simp only [Act.put]
      refine wpAnyH_take (i := 3) (v := ?_) rfl (by kernel_rfl) (by kernel_rfl) (by kernel_rfl) (fun _ _ _ h => h) (Or.inl ⟨by rfl, ?_⟩) (by assumption) ?_
      rotate_left
      · (intro w' hSw; (try dsimp only at hSw); go_simp; try (with_reducible rfl))
      try simp only [Act.put]
      refine wpAnyH_take (i := 4) (v := ?_) rfl (by kernel_rfl) (by kernel_rfl) (by kernel_rfl) (fun _ _ _ h => h) (Or.inl ⟨by rfl, ?_⟩) (by assumption) ?_
      rotate_left
      · (intro w' hSw; (try dsimp only at hSw); go_simp; try (with_reducible rfl))
      try simp only [Act.put]
      refine wpAnyH_ready (rs := [5, 8]) (by kernel_rfl) (by simp) ?_
      refine AllReadyH.cons rfl (fun K hK => ?_) (AllReadyH.cons rfl (fun K hK => ?_) AllReadyH.nil)
      · go_simp
        go_wp2_with (go_at_call 110; refine (HP.out _ (hA0.step hd).below).mono ?_; rintro e w6 ⟨rfl, hB6⟩)
        refine hK.out _ _ ?_ (fun hHeld => ?_)
        · exact ⟨(hB6.cell (p := ⟨w.heap.size, 0, none⟩) hs).trans b0, (hB6.cell (p := ⟨w.heap.size, 1, none⟩) hs).trans b1, (hB6.cell (p := ⟨w.heap.size + 1, 0, none⟩) hs2).trans e0, (hB6.cell (p := ⟨b, off + k * 3, none⟩) hb).trans c0, (hB6.cell (p := ⟨b, off + k * 3 + 1, none⟩) hb).trans c1, (hB6.cell (p := ⟨b, off + k * 3 + 2, none⟩) hb).trans c2⟩
        clear hK K
        refine wpAnyH_take (i := 6) (v := ?_) rfl (by kernel_rfl) (by kernel_rfl) (by kernel_rfl) (fun _ _ _ h => h) (Or.inl ⟨by rfl, ?_⟩) (by assumption) ?_
        rotate_left
        · (intro w' hSw; (try dsimp only at hSw); go_simp; try (with_reducible rfl))
        try simp only [Act.put, List.setIfInBounds_toArray]
        refine wpAnyH_take (i := 7) (v := ?_) rfl (by kernel_rfl) (by kernel_rfl) (by kernel_rfl) (fun _ _ _ h => h) (Or.inl ⟨by rfl, ?_⟩) (by assumption) ?_
        rotate_left
        · (intro w' hSw; (try dsimp only at hSw); go_simp; try (with_reducible rfl))
        try simp only [Act.put]
        refine wpAnyH_ready (rs := [8]) (by kernel_rfl) (by simp) ?_
        refine AllReadyH.cons rfl (fun K hK => ?_) AllReadyH.nil
        go_simp
        refine hK.out _ _ ?_ (fun hHeld => ?_)
        · exact ⟨(((Below.refl _ w6).alloc (Nat.le_refl _) _).cell (p := ⟨w.heap.size, 0, none⟩) (Nat.lt_of_lt_of_le hs hB6.size)).trans ((hB6.cell (p := ⟨w.heap.size, 0, none⟩) hs).trans b0), (((Below.refl _ w6).alloc (Nat.le_refl _) _).cell (p := ⟨w.heap.size, 1, none⟩) (Nat.lt_of_lt_of_le hs hB6.size)).trans ((hB6.cell (p := ⟨w.heap.size, 1, none⟩) hs).trans b1), (((Below.refl _ w6).alloc (Nat.le_refl _) _).cell (p := ⟨w.heap.size + 1, 0, none⟩) (Nat.lt_of_lt_of_le hs2 hB6.size)).trans ((hB6.cell (p := ⟨w.heap.size + 1, 0, none⟩) hs2).trans e0), (((Below.refl _ w6).alloc (Nat.le_refl _) _).cell (p := ⟨b, off + k * 3, none⟩) (Nat.lt_of_lt_of_le hb hB6.size)).trans ((hB6.cell (p := ⟨b, off + k * 3, none⟩) hb).trans c0), (((Below.refl _ w6).alloc (Nat.le_refl _) _).cell (p := ⟨b, off + k * 3 + 1, none⟩) (Nat.lt_of_lt_of_le hb hB6.size)).trans ((hB6.cell (p := ⟨b, off + k * 3 + 1, none⟩) hb).trans c1), (((Below.refl _ w6).alloc (Nat.le_refl _) _).cell (p := ⟨b, off + k * 3 + 2, none⟩) (Nat.lt_of_lt_of_le hb hB6.size)).trans ((hB6.cell (p := ⟨b, off + k * 3 + 2, none⟩) hb).trans c2)⟩
        clear hK K
        refine wpAnyH_ready (rs := [9]) (by kernel_rfl) (by simp) ?_
        refine AllReadyH.cons rfl (fun K hK => ?_) AllReadyH.nil
        go_simp
        refine hK.out _ _ ?_ (fun hHeld => ?_)
        · exact ⟨(((Below.refl _ w6).alloc (Nat.le_refl _) _).cell (p := ⟨w.heap.size, 0, none⟩) (Nat.lt_of_lt_of_le hs hB6.size)).trans ((hB6.cell (p := ⟨w.heap.size, 0, none⟩) hs).trans b0), (((Below.refl _ w6).alloc (Nat.le_refl _) _).cell (p := ⟨w.heap.size, 1, none⟩) (Nat.lt_of_lt_of_le hs hB6.size)).trans ((hB6.cell (p := ⟨w.heap.size, 1, none⟩) hs).trans b1), (((Below.refl _ w6).alloc (Nat.le_refl _) _).cell (p := ⟨w.heap.size + 1, 0, none⟩) (Nat.lt_of_lt_of_le hs2 hB6.size)).trans ((hB6.cell (p := ⟨w.heap.size + 1, 0, none⟩) hs2).trans e0), (((Below.refl _ w6).alloc (Nat.le_refl _) _).cell (p := ⟨b, off + k * 3, none⟩) (Nat.lt_of_lt_of_le hb hB6.size)).trans ((hB6.cell (p := ⟨b, off + k * 3, none⟩) hb).trans c0), (((Below.refl _ w6).alloc (Nat.le_refl _) _).cell (p := ⟨b, off + k * 3 + 1, none⟩) (Nat.lt_of_lt_of_le hb hB6.size)).trans ((hB6.cell (p := ⟨b, off + k * 3 + 1, none⟩) hb).trans c1), (((Below.refl _ w6).alloc (Nat.le_refl _) _).cell (p := ⟨b, off + k * 3 + 2, none⟩) (Nat.lt_of_lt_of_le hb hB6.size)).trans ((hB6.cell (p := ⟨b, off + k * 3 + 2, none⟩) hb).trans c2)⟩
        clear hK K
        refine wpAnyH_done (by kernel_rfl) ?_ _
        try simp only [List.getElem_toArray, List.getElem_cons_succ, List.getElem_cons_zero]
        go_wp2_with fail
        go_meet
        exact ⟨w6.heap.size, rfl, World.cell?_alloc_at _ _ _ _ rfl, World.cell?_alloc_at _ _ _ _ rfl, (stepB hd hB6 (Nat.le_refl _)).alloc hB6.size _⟩
      · go_simp
        refine hK.out _ _ ?_ (fun hHeld => ?_)
        · exact ⟨((hd.alloc (Nat.le_refl _) _).cell (p := ⟨w.heap.size, 0, none⟩) hs).trans b0, ((hd.alloc (Nat.le_refl _) _).cell (p := ⟨w.heap.size, 1, none⟩) hs).trans b1, ((hd.alloc (Nat.le_refl _) _).cell (p := ⟨w.heap.size + 1, 0, none⟩) hs2).trans e0, ((hd.alloc (Nat.le_refl _) _).cell (p := ⟨b, off + k * 3, none⟩) hb).trans c0, ((hd.alloc (Nat.le_refl _) _).cell (p := ⟨b, off + k * 3 + 1, none⟩) hb).trans c1, ((hd.alloc (Nat.le_refl _) _).cell (p := ⟨b, off + k * 3 + 2, none⟩) hb).trans c2⟩
        clear hK K
        refine wpAnyH_ready (rs := [5]) (by kernel_rfl) (by simp) ?_
        refine AllReadyH.cons rfl (fun K hK => ?_) AllReadyH.nil
        go_simp
        go_wp2_with (go_at_call 110; refine (HP.out _ (stepB hA0.below (hd.alloc (Nat.le_refl _) _) hA0.below.size)).mono ?_; rintro e w6 ⟨rfl, hB6⟩)
        refine hK.out _ _ ?_ (fun hHeld => ?_)
        · exact ⟨(hB6.cell (p := ⟨w.heap.size, 0, none⟩) (Nat.lt_of_lt_of_le hs (by simp))).trans (((hd.alloc (Nat.le_refl _) _).cell (p := ⟨w.heap.size, 0, none⟩) hs).trans b0), (hB6.cell (p := ⟨w.heap.size, 1, none⟩) (Nat.lt_of_lt_of_le hs (by simp))).trans (((hd.alloc (Nat.le_refl _) _).cell (p := ⟨w.heap.size, 1, none⟩) hs).trans b1), (hB6.cell (p := ⟨w.heap.size + 1, 0, none⟩) (Nat.lt_of_lt_of_le hs2 (by simp))).trans (((hd.alloc (Nat.le_refl _) _).cell (p := ⟨w.heap.size + 1, 0, none⟩) hs2).trans e0), (hB6.cell (p := ⟨b, off + k * 3, none⟩) (Nat.lt_of_lt_of_le hb (by simp))).trans (((hd.alloc (Nat.le_refl _) _).cell (p := ⟨b, off + k * 3, none⟩) hb).trans c0), (hB6.cell (p := ⟨b, off + k * 3 + 1, none⟩) (Nat.lt_of_lt_of_le hb (by simp))).trans (((hd.alloc (Nat.le_refl _) _).cell (p := ⟨b, off + k * 3 + 1, none⟩) hb).trans c1), (hB6.cell (p := ⟨b, off + k * 3 + 2, none⟩) (Nat.lt_of_lt_of_le hb (by simp))).trans (((hd.alloc (Nat.le_refl _) _).cell (p := ⟨b, off + k * 3 + 2, none⟩) hb).trans c2)⟩
        clear hK K
        have z0 := (hB6.cell (p := ⟨W.heap.size, 0, none⟩) (by simp)).trans (World.cell?_alloc_at _ _ _ _ rfl)
        have y0 := (hB6.frozen (p := ⟨W.heap.size, 0, none⟩) (by simp)).trans (World.frozen?_alloc_at _ _ _ _ rfl)
        have z1 := (hB6.cell (p := ⟨W.heap.size, 1, none⟩) (by simp)).trans (World.cell?_alloc_at _ _ _ _ rfl)
        have y1 := (hB6.frozen (p := ⟨W.heap.size, 1, none⟩) (by simp)).trans (World.frozen?_alloc_at _ _ _ _ rfl)
        have z2 := (hB6.cell (p := ⟨W.heap.size, 2, none⟩) (by simp)).trans (World.cell?_alloc_at _ _ _ _ rfl)
        have y2 := (hB6.frozen (p := ⟨W.heap.size, 2, none⟩) (by simp)).trans (World.frozen?_alloc_at _ _ _ _ rfl)
        refine wpAnyH_take (i := 6) (v := ?_) rfl (by kernel_rfl) (by kernel_rfl) (by kernel_rfl) (fun _ _ _ h => h) (Or.inl ⟨by rfl, ?_⟩) (by assumption) ?_
        rotate_left
        · (intro w' hSw; (try dsimp only at hSw); go_simp; try (with_reducible rfl))
        try simp only [Act.put, List.setIfInBounds_toArray]
        refine wpAnyH_take (i := 7) (v := ?_) rfl (by kernel_rfl) (by kernel_rfl) (by kernel_rfl) (fun _ _ _ h => h) (Or.inl ⟨by rfl, ?_⟩) (by assumption) ?_
        rotate_left
        · (intro w' hSw; (try dsimp only at hSw); go_simp; try (with_reducible rfl))
        try simp only [Act.put]
        refine wpAnyH_ready (rs := [9]) (by kernel_rfl) (by simp) ?_
        refine AllReadyH.cons rfl (fun K hK => ?_) AllReadyH.nil
        go_simp
        refine hK.out _ _ ?_ (fun hHeld => ?_)
        · exact ⟨keepSet (keepSet (keepSet ((hB6.cell (p := ⟨w.heap.size, 0, none⟩) (Nat.lt_of_lt_of_le hs (by simp))).trans (((hd.alloc (Nat.le_refl _) _).cell (p := ⟨w.heap.size, 0, none⟩) hs).trans b0)) (Nat.ne_of_gt hs)) (Nat.ne_of_gt hs)) (Nat.ne_of_gt hs), keepSet (keepSet (keepSet ((hB6.cell (p := ⟨w.heap.size, 1, none⟩) (Nat.lt_of_lt_of_le hs (by simp))).trans (((hd.alloc (Nat.le_refl _) _).cell (p := ⟨w.heap.size, 1, none⟩) hs).trans b1)) (Nat.ne_of_gt hs)) (Nat.ne_of_gt hs)) (Nat.ne_of_gt hs), keepSet (keepSet (keepSet ((hB6.cell (p := ⟨w.heap.size + 1, 0, none⟩) (Nat.lt_of_lt_of_le hs2 (by simp))).trans (((hd.alloc (Nat.le_refl _) _).cell (p := ⟨w.heap.size + 1, 0, none⟩) hs2).trans e0)) (Nat.ne_of_gt hs2)) (Nat.ne_of_gt hs2)) (Nat.ne_of_gt hs2), keepSet (keepSet (keepSet ((hB6.cell (p := ⟨b, off + k * 3, none⟩) (Nat.lt_of_lt_of_le hb (by simp))).trans (((hd.alloc (Nat.le_refl _) _).cell (p := ⟨b, off + k * 3, none⟩) hb).trans c0)) (Nat.ne_of_gt hb)) (Nat.ne_of_gt hb)) (Nat.ne_of_gt hb), keepSet (keepSet (keepSet ((hB6.cell (p := ⟨b, off + k * 3 + 1, none⟩) (Nat.lt_of_lt_of_le hb (by simp))).trans (((hd.alloc (Nat.le_refl _) _).cell (p := ⟨b, off + k * 3 + 1, none⟩) hb).trans c1)) (Nat.ne_of_gt hb)) (Nat.ne_of_gt hb)) (Nat.ne_of_gt hb), keepSet (keepSet (keepSet ((hB6.cell (p := ⟨b, off + k * 3 + 2, none⟩) (Nat.lt_of_lt_of_le hb (by simp))).trans (((hd.alloc (Nat.le_refl _) _).cell (p := ⟨b, off + k * 3 + 2, none⟩) hb).trans c2)) (Nat.ne_of_gt hb)) (Nat.ne_of_gt hb)) (Nat.ne_of_gt hb)⟩
        clear hK K
        refine wpAnyH_done (by kernel_rfl) ?_ _
        try simp only [List.getElem_toArray, List.getElem_cons_succ, List.getElem_cons_zero]
        go_wp2_with fail
        go_meet
        exact ⟨W.heap.size, rfl, (cell_set_other (by simp)).trans (World.cell?_setCell_same _ _ _ ((cell_set_other (by simp)).trans z1)), World.cell?_setCell_same _ _ _ ((cell_set_other (by simp)).trans ((cell_set_other (by simp)).trans z2)), (((stepB (hd.alloc (Nat.le_refl _) _) hB6 (by simp)).setCell (Nat.le_refl _) _).setCell (Nat.le_refl _) _).setCell (Nat.le_refl _) _⟩
    case rest =>
      obtain ⟨q, rfl, q1, q2, hB⟩ := hcut
      have hAt := hA0.step hB
      clear hA0 hB b0 b1 e0 e1 c0 c1 c2 hb
      go_wp2
      go_ret
      rw [hR.out]
      exact ⟨_, _, rfl, own_base (own_one wc (.int .i64 x.fr) (.int .i64 x.to) _) hAt.below.size, stepB hAt.below ((Below.refl _ _).alloc (Nat.le_refl _) _) hAt.below.size⟩

set_option maxRecDepth 100000 in
set_option maxHeartbeats 4000000 in
theorem witnessDays_any (a0 a1 : Option Addr) (cap0 cap1 : Nat) (xs0 : List Ps) (xs1 : List Tm) (m : Wt) (w : World) (hA : isPeopleB xs0 xs1 = true) (hl0 : xs0.length ≤ 1048576) (hx0 : Rd encPs w a0 xs0) (hl1 : xs1.length ≤ 1048574) (hx1 : Rd encTm w a1 xs1) :
    Calls Tryz.prog 84 #[.agg #[.slice a0 xs0.length cap0, .slice a1 xs1.length cap1], .agg #[.string m.person, .string m.office]] w fun e w' => (0 ≤ personIx xs0 m.person → ∃ g c, e = .returned (.tuple #[.slice (some ⟨g, 0, none⟩) (witL xs0 xs1 m).length c, .bool true]) ∧ w'.ownsRow w.heap.size 73 2 (.slice (some ⟨g, 0, none⟩) (witL xs0 xs1 m).length c) (witL xs0 xs1 m).length ((witL xs0 xs1 m).flatMap encSp)) ∧ (personIx xs0 m.person < 0 → e = .returned (.tuple #[.slice none 0 0, .bool false])) ∧ Below w.heap.size w w' := by
  have HP := Lib.hid (fun W (hB : Below w.heap.size w W) => personIndex_any a0 a1 cap0 cap1 xs0 xs1 m.person W hl0 (hx0.below hB))
  by_cases hp : personIx xs0 m.person < 0
  · generalize personIx xs0 m.person = z at hp HP ⊢
    go_enter Tryz.func84, Tryz.ntmps84
    go_wp2_with fail
    generalize hW : (w.alloc (.cells #[.slice a0 xs0.length cap0, .slice a1 xs1.length cap1] 48)).alloc (.cells #[.string m.person, .string m.office] 110) = W
    have hA0 : At w [.slice a0 xs0.length cap0, .slice a1 xs1.length cap1] W := hW ▸ (At.start _ _ _).step ((Below.refl _ _).alloc (Nat.le_refl _) _)
    have e0 : W.cell? ⟨w.heap.size + 1, 0, none⟩ = some (.string m.person) := by rw [← hW]; exact World.cell?_alloc_at _ _ _ _ (by simp)
    have e1 : W.cell? ⟨w.heap.size + 1, 1, none⟩ = some (.string m.office) := by rw [← hW]; exact World.cell?_alloc_at _ _ _ _ (by simp)
    have hs2 : w.heap.size + 1 < W.heap.size := by rw [← hW]; simp
    have b0 := hA0.cell 0 _ rfl
    have b1 := hA0.cell 1 _ rfl
    have hs := hA0.size
    clear hW
    refine (HP.out _ hA0.below).mono ?_
    rintro e w1 ⟨rfl, hB1⟩
    go_wp2
    go_ret2
    exact ⟨fun h => by omega, fun _ => rfl, (hA0.step hB1).below⟩
  · have hp0 : 0 ≤ personIx xs0 m.person := by omega
    obtain ⟨k, x, hk, hkl, hx⟩ := person_at hp0
    have hnm := person_named hA hp0
    have hk1 : (k : Int) < (xs0.length : Int) := by omega
    have hk0 : ¬ (k : Int) < 0 := by omega
    have hok := tsp_ok hA (isT m.office m.person)
    have hln := tsp_len (isT m.office m.person) xs1
    have h60 := (people_bd hA).2
    have hW : Hid ((m.office.toList == []) = true → witL xs0 xs1 m = [⟨x.fr, x.to⟩]) := fun hz => witL_own hz hk hx
    have hW2 : Hid ((m.office.toList == []) = false → witL xs0 xs1 m = uni (tsp (isT m.office m.person) xs1)) := fun hz => by rw [witL_office hz, isT_some hnm]
    have HT := Lib.hid (fun W (hAt : At w [.slice a0 xs0.length cap0, .slice a1 xs1.length cap1] W) => termsOf_any a0 a1 cap0 cap1 xs0 xs1 m.office m.person W hl1 (hx1.below hAt.below))
    have HU := Lib.hid (fun g cap W (h : Rd encSp W (some ⟨g, 0, none⟩) (tsp (isT m.office m.person) xs1)) => united_any g 0 cap _ (tsp (isT m.office m.person) xs1) W rfl (by omega) h hok)
    rw [hk] at HP ⊢
    clear hA hp hp0 hk hnm hok hln h60
    generalize tsp (isT m.office m.person) xs1 = ts at HT HU hW2
    cases hz : (m.office.toList == [])
    · have hR := Lib.hid (hW2.out hz)
      go_enter Tryz.func84, Tryz.ntmps84
      go_wp2_with fail
      generalize hW : (w.alloc (.cells #[.slice a0 xs0.length cap0, .slice a1 xs1.length cap1] 48)).alloc (.cells #[.string m.person, .string m.office] 110) = W
      have hA0 : At w [.slice a0 xs0.length cap0, .slice a1 xs1.length cap1] W := hW ▸ (At.start _ _ _).step ((Below.refl _ _).alloc (Nat.le_refl _) _)
      have e0 : W.cell? ⟨w.heap.size + 1, 0, none⟩ = some (.string m.person) := by rw [← hW]; exact World.cell?_alloc_at _ _ _ _ (by simp)
      have e1 : W.cell? ⟨w.heap.size + 1, 1, none⟩ = some (.string m.office) := by rw [← hW]; exact World.cell?_alloc_at _ _ _ _ (by simp)
      have hs2 : w.heap.size + 1 < W.heap.size := by rw [← hW]; simp
      have b0 := hA0.cell 0 _ rfl
      have b1 := hA0.cell 1 _ rfl
      have hs := hA0.size
      clear hW
      refine (HP.out _ hA0.below).mono ?_
      rintro e w1 ⟨rfl, hB1⟩
      have hA1 := hA0.step hB1
      have e0 := (hB1.cell (p := ⟨w.heap.size + 1, 0, none⟩) hs2).trans e0
      have e1 := (hB1.cell (p := ⟨w.heap.size + 1, 1, none⟩) hs2).trans e1
      have b0 := hA1.cell 0 _ rfl
      have b1 := hA1.cell 1 _ rfl
      clear hA0 hB1 hs
      go_wp2_with fail
      refine (HT.out _ hA1).mono ?_
      rintro e w2 ⟨g2, c2, rfl, ho2, hB2⟩
      have hA2 := hA1.step hB2
      have hrd := Rd.of_own encSp_len (by decide) ho2
      go_wp2_with fail
      refine (HU.out _ _ _ hrd).mono ?_
      rintro e w3 ⟨g3, c3, rfl, ho3, hB3⟩
      go_wp2
      go_ret2
      rw [hR.out]
      exact ⟨fun _ => ⟨_, _, rfl, own_base ho3 hA2.below.size⟩, fun h => absurd h (by omega), (hA2.step hB3).below⟩
    · have hR := Lib.hid (hW.out hz)
      go_enter Tryz.func84, Tryz.ntmps84
      go_wp2_with fail
      generalize hW : (w.alloc (.cells #[.slice a0 xs0.length cap0, .slice a1 xs1.length cap1] 48)).alloc (.cells #[.string m.person, .string m.office] 110) = W
      have hA0 : At w [.slice a0 xs0.length cap0, .slice a1 xs1.length cap1] W := hW ▸ (At.start _ _ _).step ((Below.refl _ _).alloc (Nat.le_refl _) _)
      have e0 : W.cell? ⟨w.heap.size + 1, 0, none⟩ = some (.string m.person) := by rw [← hW]; exact World.cell?_alloc_at _ _ _ _ (by simp)
      have e1 : W.cell? ⟨w.heap.size + 1, 1, none⟩ = some (.string m.office) := by rw [← hW]; exact World.cell?_alloc_at _ _ _ _ (by simp)
      have hs2 : w.heap.size + 1 < W.heap.size := by rw [← hW]; simp
      have b0 := hA0.cell 0 _ rfl
      have b1 := hA0.cell 1 _ rfl
      have hs := hA0.size
      clear hW
      refine (HP.out _ hA0.below).mono ?_
      rintro e w1 ⟨rfl, hB1⟩
      have hA1 := hA0.step hB1
      have e0 := (hB1.cell (p := ⟨w.heap.size + 1, 0, none⟩) hs2).trans e0
      have e1 := (hB1.cell (p := ⟨w.heap.size + 1, 1, none⟩) hs2).trans e1
      have b0 := hA1.cell 0 _ rfl
      have b1 := hA1.cell 1 _ rfl
      have hs1 := hA1.size
      obtain ⟨b, off, rfl, hb, c0, c1, c2⟩ := (hx0.below hA1.below).ps hx
      clear hA0 hB1 hs
      go_wp2_with fail
      go_region_held_law (fun w' => w'.cell? ⟨w.heap.size, 0, none⟩ = some (.slice (some ⟨b, off, none⟩) xs0.length cap0) ∧ w'.cell? ⟨b, off + k * 3 + 1, none⟩ = some (.int .i64 x.fr) ∧ w'.cell? ⟨b, off + k * 3 + 2, none⟩ = some (.int .i64 x.to)) (first | exact ⟨b0, c1, c2⟩ | exact ⟨((((Below.refl _ w1).drew).alloc (Nat.le_refl _) _).cell (p := ⟨w.heap.size, 0, none⟩) hs1).trans b0, ((((Below.refl _ w1).drew).alloc (Nat.le_refl _) _).cell (p := ⟨b, off + k * 3 + 1, none⟩) hb).trans c1, ((((Below.refl _ w1).drew).alloc (Nat.le_refl _) _).cell (p := ⟨b, off + k * 3 + 2, none⟩) hb).trans c2⟩) (fail)
      go_wp2
      go_ret2
      rw [hR.out]
      exact ⟨fun _ => ⟨_, _, rfl, own_base (own_one w1.drew (.int .i64 x.fr) (.int .i64 x.to) _) hA1.below.size⟩, fun h => absurd h (by omega), stepB hA1.below (((Below.refl _ w1).drew).alloc (Nat.le_refl _) _) hA1.below.size⟩

set_option maxRecDepth 100000 in
set_option maxHeartbeats 4000000 in
theorem l13Code_any (a0 a1 : Option Addr) (cap0 cap1 : Nat) (xs0 : List Ps) (xs1 : List Tm) (a2 : Option Addr) (cap2 : Nat) (xs2 : List Wt) (q : Bool) (w : World) (hl0 : xs0.length ≤ 1048576) (hx0 : Rd encPs w a0 xs0) (hs0 : ∀ m ∈ xs0, szPs m ≤ 1048576) (hl1 : xs1.length ≤ 1048576) (hx1 : Rd encTm w a1 xs1) (hs1 : ∀ m ∈ xs1, szTm m ≤ 1048576) (hl2 : xs2.length ≤ 1048576) (hx2 : Rd encWt w a2 xs2) :
    Calls Tryz.prog 86 #[.agg #[.slice a0 xs0.length cap0, .slice a1 xs1.length cap1], .slice a2 xs2.length cap2, .bool q] w fun e w' => e = .returned (.int .i64 (codeW xs0 xs1 xs2 q)) ∧ Below w.heap.size w w' := by
  have hA0 : At w [.slice a0 xs0.length cap0, .slice a1 xs1.length cap1] (w.alloc (.cells #[.slice a0 xs0.length cap0, .slice a1 xs1.length cap1] 48)) := At.start _ _ _
  have HM := Lib.hid (fun W (hAt : At w [.slice a0 xs0.length cap0, .slice a1 xs1.length cap1] W) => specIsPeople_any a0 a1 cap0 cap1 xs0 xs1 W hl0 (hx0.below hAt.below) hs0 hl1 (hx1.below hAt.below) hs1)
  have HP := Lib.hid (fun s W (hB : Below w.heap.size w W) => l13Person_any a0 a1 cap0 cap1 xs0 xs1 s W hl0 (hx0.below hB))
  have hre : codeW xs0 xs1 xs2 q = if isPeopleB xs0 xs1 then (if q && decide (xs2.length ≤ 12) then (if xs2.all (okW xs0) then 0 else 4) else 2) else 1 := rfl
  have HOK : Hid (∀ m : Wt, okW xs0 m = decide (0 ≤ personIx xs0 m.person)) := fun _ => rfl
  generalize codeW xs0 xs1 xs2 q = C at hre ⊢
  cases hA : isPeopleB xs0 xs1
  · have HM := Lib.hid (fun W h => hA ▸ HM.out W h)
    have hR : Hid (C = 1) := by unfold Hid; rw [hre, hA]; rfl
    clear hA hre
    go_enter Tryz.func86, Tryz.ntmps86
    go_wp2_with fail
    refine (HM.out _ hA0).mono ?_
    rintro e w1 ⟨rfl, hB1⟩
    go_wp2
    go_ret
    exact ⟨ret_int hR.out.symm, (hA0.step hB1).below⟩
  · have HM := Lib.hid (fun W h => hA ▸ HM.out W h)
    rw [hA] at hre
    clear hA
    by_cases h12 : q = true ∧ xs2.length ≤ 12
    · obtain ⟨rfl, h12⟩ := h12
      have hR : Hid (C = if xs2.all (okW xs0) then 0 else 4) := by unfold Hid; rw [hre, decide_eq_true h12]; rfl
      have h12' : ¬ (12 : Int) < (xs2.length : Int) := by omega
      clear hre
      go_enter Tryz.func86, Tryz.ntmps86
      go_wp2_with fail
      refine (HM.out _ hA0).mono ?_
      rintro e w1 ⟨rfl, hB1⟩
      have hA1 := hA0.step hB1
      clear hA0 hB1 HM
      go_wp2
      go_loopw [7] (fun i wr => ∃ (k : Nat), k ≤ xs2.length ∧ i = .int .i64 k ∧ Hid (xs2.all (okW xs0) = (xs2.drop k).all (okW xs0)) ∧ At w [.slice a0 xs0.length cap0, .slice a1 xs1.length cap1] wr) (fun i _ => xs2.length - (intOf i).toNat)
      case atStart => exact ⟨0, Nat.zero_le _, rfl, rfl, hA1⟩
      case round =>
        clear hA1
        obtain ⟨k, hk, rfl, hH, hAt⟩ := hrel
        have b0 := hAt.cell 0 _ rfl
        have b1 := hAt.cell 1 _ rfl
        have hs := hAt.size
        by_cases hlt : k < xs2.length
        · have hk1 : (k : Int) < (xs2.length : Int) := by omega
          have hm := List.getElem?_eq_getElem hlt
          generalize xs2[k] = m at hm
          obtain ⟨b, off, rfl, hb, c0, _⟩ := (hx2.below hAt.below).wt hm
          have hd := Lib.hid (all_drop (okW xs0) hm)
          have hok := Lib.hid (HOK.out m)
          clear hm
          by_cases hp : personIx xs0 m.person < 0
          · have hok : Hid (okW xs0 m = false) := hok.out.trans (decide_eq_false (by omega))
            go_wp2_with fail
            go_region_held_law (fun w' => w'.cell? ⟨w.heap.size, 0, none⟩ = some (.slice a0 xs0.length cap0) ∧ w'.cell? ⟨w.heap.size, 1, none⟩ = some (.slice a1 xs1.length cap1) ∧ w'.cell? ⟨b, off + k * 2, none⟩ = some (.string m.person)) (first | exact ⟨b0, b1, c0⟩ | exact ⟨(hB6.cell (p := ⟨w.heap.size, 0, none⟩) hs).trans b0, (hB6.cell (p := ⟨w.heap.size, 1, none⟩) hs).trans b1, (hB6.cell (p := ⟨b, off + k * 2, none⟩) hb).trans c0⟩) ((go_at_call 110; refine (HP.out m.person _ (hAt.step (Below.refl _ wr).drew).below).mono ?_; rintro e w6 ⟨rfl, hB6⟩))
            have hz : Below wr.heap.size wr w6 := stepB (Below.refl _ wr).drew hB6 (Nat.le_refl _)
            have hAt := hAt.step hz
            clear hz hB6 b0 b1 c0 hb
            have hpd : decide (personIx xs0 m.person < 0) = true := decide_eq_true hp
            go_wp2
            go_ret
            exact ⟨ret_int (by rw [hR.out, hH.out, hd.out, hok.out]; rfl), hAt.below⟩
          · have hok : Hid (okW xs0 m = true) := hok.out.trans (decide_eq_true (by omega))
            go_wp2_with fail
            go_region_held_law (fun w' => w'.cell? ⟨w.heap.size, 0, none⟩ = some (.slice a0 xs0.length cap0) ∧ w'.cell? ⟨w.heap.size, 1, none⟩ = some (.slice a1 xs1.length cap1) ∧ w'.cell? ⟨b, off + k * 2, none⟩ = some (.string m.person)) (first | exact ⟨b0, b1, c0⟩ | exact ⟨(hB6.cell (p := ⟨w.heap.size, 0, none⟩) hs).trans b0, (hB6.cell (p := ⟨w.heap.size, 1, none⟩) hs).trans b1, (hB6.cell (p := ⟨b, off + k * 2, none⟩) hb).trans c0⟩) ((go_at_call 110; refine (HP.out m.person _ (hAt.step (Below.refl _ wr).drew).below).mono ?_; rintro e w6 ⟨rfl, hB6⟩))
            have hz : Below wr.heap.size wr w6 := stepB (Below.refl _ wr).drew hB6 (Nat.le_refl _)
            have hAt := hAt.step hz
            clear hz hB6 b0 b1 c0 hb
            have hpd : decide (personIx xs0 m.person < 0) = false := decide_eq_false (by omega)
            go_wp2
            go_roundw
            case rel => exact ⟨k + 1, by omega, by go_num, by unfold Hid; rw [hH.out, hd.out, hok.out]; rfl, hAt⟩
            case measure => simp [intOf]; omega
        · go_wp2
          go_ret
          exact ⟨ret_int (by rw [hR.out, hH.out, List.drop_eq_nil_of_le (by omega)]; rfl), hAt.below⟩
    · have hR : Hid (C = 2) := by
        unfold Hid
        rw [hre]
        cases q
        · rfl
        · rw [decide_eq_false (fun h => h12 ⟨rfl, h⟩)]; rfl
      clear hre
      go_enter Tryz.func86, Tryz.ntmps86
      go_wp2_with fail
      refine (HM.out _ hA0).mono ?_
      rintro e w1 ⟨rfl, hB1⟩
      have hA1 := hA0.step hB1
      clear hA0 hB1 HM
      cases q
      · go_wp2
        go_ret
        exact ⟨ret_int hR.out.symm, hA1.below⟩
      · have h12' : (12 : Int) < (xs2.length : Int) := by
          have : ¬ xs2.length ≤ 12 := fun h => h12 ⟨rfl, h⟩
          omega
        go_wp2
        go_ret
        exact ⟨ret_int hR.out.symm, hA1.below⟩
set_option maxHeartbeats 2000000 in
theorem checkPeopleW_any (a0 a1 a2 : Option Addr) (cap0 cap1 cap2 : Nat) (xs0 : List Ps) (xs1 : List Tm) (zs : List Int) (k : Nat) (w : World) (hl0 : xs0.length ≤ 1048576) (hx0 : Rd encPs w a0 xs0) (hs0 : ∀ m ∈ xs0, szPs m ≤ 1048576) (hl1 : xs1.length ≤ 1048576) (hx1 : Rd encTm w a1 xs1) (hs1 : ∀ m ∈ xs1, szTm m ≤ 1048576) (hl2 : zs.length ≤ 1048576) (hx2 : Rd encI w a2 zs) :
    Calls Tryz.prog 83 #[.agg #[.slice a0 xs0.length cap0, .slice a1 xs1.length cap1], .int .i64 k, .slice a2 zs.length cap2] w fun e w' => e = .returned (.int .i64 (if isPeopleB xs0 xs1 then (if decide (k ≤ 12) && zs.all dayB then 0 else 2) else 1)) ∧ Below w.heap.size w w' := by
  have hA0 : At w [.slice a0 xs0.length cap0, .slice a1 xs1.length cap1] (w.alloc (.cells #[.slice a0 xs0.length cap0, .slice a1 xs1.length cap1] 48)) := At.start _ _ _
  have HM := Lib.hid (fun W (hAt : At w [.slice a0 xs0.length cap0, .slice a1 xs1.length cap1] W) => implIsPeople_any a0 a1 cap0 cap1 xs0 xs1 W hl0 (hx0.below hAt.below) hs0 hl1 (hx1.below hAt.below) hs1)
  have hct := fun W (hAt : At w [.slice a0 xs0.length cap0, .slice a1 xs1.length cap1] W) => containsFunc_checkPeople_1 a2 cap2 zs (fun m => !dayB m) W hl2 (hx2.below hAt.below) (fun W' _ m _ => checkPeople1_any m W')
  rw [any_not_day] at hct
  have HCT := Lib.hid hct
  clear hct
  generalize hC : (if isPeopleB xs0 xs1 then (if decide (k ≤ 12) && zs.all dayB then (0 : Int) else 2) else 1) = C
  cases hA : isPeopleB xs0 xs1
  · have HM := Lib.hid (fun W h => hA ▸ HM.out W h)
    have hR : Hid (C = 1) := by unfold Hid; rw [← hC, hA]; rfl
    clear hA hC
    go_enter Tryz.func83, Tryz.ntmps83
    go_wp2_with fail
    refine (HM.out _ hA0).mono ?_
    rintro e w1 ⟨rfl, hB1⟩
    go_wp2
    go_ret
    exact ⟨ret_int hR.out.symm, (hA0.step hB1).below⟩
  · have HM := Lib.hid (fun W h => hA ▸ HM.out W h)
    rw [hA] at hC
    by_cases h12 : k ≤ 12
    · rw [decide_eq_true h12] at hC
      have h12' : ¬ (12 : Int) < (k : Int) := by omega
      cases hz : zs.all dayB
      · have hR : Hid (C = 2) := by unfold Hid; rw [← hC, hz]; rfl
        have HCT := Lib.hid (fun W h => hz ▸ HCT.out W h)
        clear hA hz hC
        go_enter Tryz.func83, Tryz.ntmps83
        go_wp2_with fail
        refine (HM.out _ hA0).mono ?_
        rintro e w1 ⟨rfl, hB1⟩
        have hA1 := hA0.step hB1
        go_wp2_with fail
        refine (HCT.out _ hA1).mono ?_
        rintro e w2 ⟨rfl, hB2⟩
        go_wp2
        go_ret
        exact ⟨ret_int hR.out.symm, (hA1.step hB2).below⟩
      · have hR : Hid (C = 0) := by unfold Hid; rw [← hC, hz]; rfl
        have HCT := Lib.hid (fun W h => hz ▸ HCT.out W h)
        clear hA hz hC
        go_enter Tryz.func83, Tryz.ntmps83
        go_wp2_with fail
        refine (HM.out _ hA0).mono ?_
        rintro e w1 ⟨rfl, hB1⟩
        have hA1 := hA0.step hB1
        go_wp2_with fail
        refine (HCT.out _ hA1).mono ?_
        rintro e w2 ⟨rfl, hB2⟩
        go_wp2
        go_ret
        exact ⟨ret_int hR.out.symm, (hA1.step hB2).below⟩
    · have hR : Hid (C = 2) := by unfold Hid; rw [← hC, decide_eq_false h12]; rfl
      have h12' : (12 : Int) < (k : Int) := by omega
      clear hA hC HCT
      go_enter Tryz.func83, Tryz.ntmps83
      go_wp2_with fail
      refine (HM.out _ hA0).mono ?_
      rintro e w1 ⟨rfl, hB1⟩
      go_wp2
      go_ret
      exact ⟨ret_int hR.out.symm, (hA0.step hB1).below⟩
end Go.Proofs.YtdebmijlipkoeaaGreatDoor
