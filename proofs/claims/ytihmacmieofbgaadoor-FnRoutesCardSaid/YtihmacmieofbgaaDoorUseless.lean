/- Walks: UselessWays. Printed by gen_useless.py. -/
import Derived.Test.YtihmacmieofbgaaDoorTrDays
import Derived.Test.YtihmacmieofbgaaDoorQLand
import Derived.Test.YtihmacmieofbgaaDoorIxl
import Derived.Deep.AppendLies
import Derived.Deep.RegionHeld
import Derived.BigRegion
import Derived.BigQuiet
namespace Go.Proofs.YtihmacmieofbgaaDoor
open Go.ChangeShapes Go.WideShapes Go.ChangeAt Go.RowKit

def pU (n : Nat) (ws : List Wy) (i : Nat) : Bool := match ws[i]? with
  | some m => decide (travM n ws m.a.toNat m.b.toNat < m.days)
  | none => false
theorem pU_at {n : Nat} {ws : List Wy} {i : Nat} {m : Wy} (h : ws[i]? = some m) : pU n ws i = decide (travM n ws m.a.toNat m.b.toNat < m.days) := by unfold pU; rw [h]
def uselessR (ps : List ByteArray) (ws : List Wy) : List Int × Int := if isLandB ps ws then (jxl (pU ps.length ws) ws.length, 0) else ([], 1)
theorem uselessR_len (ps : List ByteArray) (ws : List Wy) (h : ws.length ≤ 1048576) : (uselessR ps ws).1.length ≤ 1048576 := by
  unfold uselessR
  split
  · exact Nat.le_trans (jxl_len _ _) h
  · simp
theorem useless_facts {ps : List ByteArray} {ws : List Wy} (hA : isLandB ps ws = true) {i : Nat} {m : Wy} (h : ws[i]? = some m) : ∃ A B : Nat, m.a = A ∧ m.b = B ∧ A < ps.length ∧ B < ps.length ∧ distF ps.length ws A B = travM ps.length ws A B ∧ (0 ≤ travM ps.length ws A B ∧ travM ps.length ws A B ≤ 60) ∧ pU ps.length ws i = decide (travM ps.length ws A B < m.days) := by
  obtain ⟨h1, _, _, _⟩ := landOk hA
  have hm := List.mem_of_getElem? h
  obtain ⟨A, B, ea, eb, ha, hb, hne, hd1, hd2⟩ := h1 m hm
  have hw : Walk ws A B m.days := Ed.walk ⟨m, hm, rfl, .inl ⟨by rw [ea]; rfl, by rw [eb]; rfl⟩⟩
  have hle := travM_le h1.ok ha hb hw
  have hbd := trav_bd hA ha hb
  refine ⟨A, B, ea, eb, ha, hb, if_pos (by omega), ⟨hbd.1, by omega⟩, ?_⟩
  rw [pU_at h, ea, eb]
  rfl

set_option maxRecDepth 100000 in
set_option maxHeartbeats 4000000 in
theorem specUseless_any (a0 a1 : Option Addr) (cap0 cap1 : Nat) (xs0 : List ByteArray) (xs1 : List Wy) (w : World) (hc0 : xs0.length ≤ cap0) (hc1 : cap0 ≤ 9223372036854775807) (hl0 : xs0.length ≤ 1048576) (hx0 : Rd encS w a0 xs0) (hs0 : ∀ m ∈ xs0, m.size ≤ 1048576) (hl1 : xs1.length ≤ 1048576) (hx1 : Rd encWy w a1 xs1) :
    Calls Tryd.prog 12 #[.agg #[.slice a0 xs0.length cap0, .slice a1 xs1.length cap1]] w fun e w' => ∃ b c, e = .returned (.tuple #[.slice b (uselessR xs0 xs1).1.length c, .int .i64 (uselessR xs0 xs1).2]) ∧
      w'.ownsRow w.heap.size 2 1 (.slice b (uselessR xs0 xs1).1.length c) (uselessR xs0 xs1).1.length ((uselessR xs0 xs1).1.flatMap encI) ∧ Below w.heap.size w w' := by
  obtain ⟨i0, hi, hz0, hz1, hz2⟩ := info_parts infoI
  have hA0 : At w [.slice a0 xs0.length cap0, .slice a1 xs1.length cap1] (w.alloc (.cells #[.slice a0 xs0.length cap0, .slice a1 xs1.length cap1] 27)) := At.start _ _ _
  have HM := Lib.hid (fun W (hAt : At w [.slice a0 xs0.length cap0, .slice a1 xs1.length cap1] W) => specIsLand_any a0 a1 cap0 cap1 xs0 xs1 W hc0 hc1 hl0 (hx0.below hAt.below) hs0 hl1 (hx1.below hAt.below))
  cases hA : isLandB xs0 xs1
  · have HM := Lib.hid (fun W h => hA ▸ HM.out W h)
    have hR : Hid (uselessR xs0 xs1 = ([], 1)) := by unfold Hid uselessR; rw [hA]; rfl
    clear hA
    go_enter Tryd.func12, Tryd.ntmps12
    go_wp2_with fail
    refine (HM.out _ hA0).mono ?_
    rintro e w1 ⟨rfl, hB1⟩
    go_wp2
    go_ret2
    rw [hR.out]
    exact ⟨none, 0, rfl, World.ownsRow_nil _ _ _ _, (hA0.step hB1).below⟩
  · have HM := Lib.hid (fun W h => hA ▸ HM.out W h)
    have hR : Hid (uselessR xs0 xs1 = (jxl (pU xs0.length xs1) xs1.length, 0)) := by unfold Hid uselessR; rw [hA]; rfl
    have HX := Lib.hid (fun i m (h : xs1[i]? = some m) => useless_facts hA h)
    have hn12 := (landOk hA).2.2.1
    have hl40 : xs1.length ≤ 40 := (landOk hA).2.2.2
    have HF := Lib.hid (fun A W (ha : A < xs0.length) (h1 : Rd encWy W a1 xs1) => fromDist_any a0 a1 cap0 cap1 A xs0 xs1 W hA ha h1)
    clear hA
    generalize pU xs0.length xs1 = p at HX hR
    go_enter Tryd.func12, Tryd.ntmps12
    go_wp2_with fail
    refine (HM.out _ hA0).mono ?_
    rintro e w1 ⟨rfl, hB1⟩
    have hA1 := hA0.step hB1
    have b0 := hA1.cell 0 _ rfl
    have b1 := hA1.cell 1 _ rfl
    clear hA0 hB1 HM
    have hBo : Below w1.heap.size w1 (w1.alloc (.cells #[] 2)) := (Below.refl _ w1).alloc (Nat.le_refl _) _
    have hA2 := hA1.step hBo
    have hown0 := World.ownsRow_made w1 #[] 0 (show w.heap.size + 1 ≤ w1.heap.size from hA1.size) (by decide) rfl (e := 2) (size := 1)
    clear hBo hA1 b0 b1
    go_wp2
    go_loopw [4, 5] (fun o i wr => ∃ (k g c : Nat), k ≤ xs1.length ∧ i = .int .i64 k ∧ o = .slice (some ⟨g, 0, none⟩) (jxl p k).length c ∧ wr.ownsRow (w.heap.size + 1) 2 1 (.slice (some ⟨g, 0, none⟩) (jxl p k).length c) (jxl p k).length ((jxl p k).flatMap encI) ∧ At w [.slice a0 xs0.length cap0, .slice a1 xs1.length cap1] wr) (fun _ i _ => xs1.length - (intOf i).toNat)
    case atStart => exact ⟨0, _, _, Nat.zero_le _, rfl, rfl, hown0, hA2⟩
    case round =>
      clear hown0 hA2
      obtain ⟨k, g, c, hk, rfl, rfl, hown, hAt⟩ := hrel
      have hlen := jxl_len p k
      have b0 := hAt.cell 0 _ rfl
      have b1 := hAt.cell 1 _ rfl
      have hs := hAt.size
      by_cases hlt : k < xs1.length
      · have hk1 : (k : Int) < (xs1.length : Int) := by omega
        have hm := List.getElem?_eq_getElem hlt
        generalize xs1[k] = m at hm
        obtain ⟨b, off, rfl, hb, c0, c1, c2⟩ := (hx1.below hAt.below).wy hm
        obtain ⟨A, B, ea, eb, hA2, hB2, hdist, hT, hpk⟩ := HX.out k m hm
        obtain ⟨ma, mb, days⟩ := m
        simp only at ea eb hpk c0 c1 c2
        subst ea eb
        have hBi : (B : Int) < (xs0.length : Int) := by omega
        have hBd : Below w.heap.size w wr.drew := hAt.below.drew
        generalize travM xs0.length xs1 A B = T at hdist hT hpk
        clear hm
        by_cases hbb : T < days
        · have hst := Lib.hid (jxl_yes (hpk.trans (decide_eq_true hbb)))
          clear hpk
          generalize jxl p k = out at hown hst hlen ⊢
          go_wp2_with fail
          refine wp_region_held_drew (S := fun w' => w'.cell? ⟨w.heap.size, 0, none⟩ = some (.slice a0 xs0.length cap0) ∧ w'.cell? ⟨w.heap.size, 1, none⟩ = some (.slice (some ⟨b, off, none⟩) xs1.length cap1) ∧ w'.cell? ⟨b, off + k * 3, none⟩ = some (.int .i64 A) ∧ w'.cell? ⟨b, off + k * 3 + 1, none⟩ = some (.int .i64 B) ∧ w'.cell? ⟨b, off + k * 3 + 2, none⟩ = some (.int .i64 days)) (by kernel_rfl) ?_ (fun hHeld => ?_)
          · exact ⟨b0, b1, c0, c1, c2⟩
          refine wpAnyH_take (i := 0) (v := ?_) rfl (by kernel_rfl) (by kernel_rfl) (by kernel_rfl) (fun _ _ _ h => h) (Or.inl ⟨by rfl, ?_⟩) (by assumption) ?_
          rotate_left
          · (intro w' hSw; (try dsimp only at hSw); go_simp; try (with_reducible rfl))
          try simp only [Act.put, List.setIfInBounds_toArray]
          refine wpAnyH_take (i := 1) (v := ?_) rfl (by kernel_rfl) (by kernel_rfl) (by kernel_rfl) (fun _ _ _ h => h) (Or.inl ⟨by rfl, ?_⟩) (by assumption) ?_
          rotate_left
          · (intro w' hSw; (try dsimp only at hSw); go_simp; try (with_reducible rfl))
          try simp only [Act.put]
          refine wpAnyH_take (i := 2) (v := ?_) rfl (by kernel_rfl) (by kernel_rfl) (by kernel_rfl) (fun _ _ _ h => h) (Or.inl ⟨by rfl, ?_⟩) (by assumption) ?_
          rotate_left
          · (intro w' hSw; (try dsimp only at hSw); go_simp; try (with_reducible rfl))
          try simp only [Act.put]
          refine wpAnyH_take (i := 3) (v := ?_) rfl (by kernel_rfl) (by kernel_rfl) (by kernel_rfl) (fun _ _ _ h => h) (Or.inl ⟨by rfl, ?_⟩) (by assumption) ?_
          rotate_left
          · (intro w' hSw; (try dsimp only at hSw); go_simp; try (with_reducible rfl))
          try simp only [Act.put]
          refine wpAnyH_take (i := 4) (v := ?_) rfl (by kernel_rfl) (by kernel_rfl) (by kernel_rfl) (fun _ _ _ h => h) (Or.inl ⟨by rfl, ?_⟩) (by assumption) ?_
          rotate_left
          · (intro w' hSw; (try dsimp only at hSw); go_simp; try (with_reducible rfl))
          try simp only [Act.put]
          refine wpAnyH_take (i := 5) (v := ?_) rfl (by kernel_rfl) (by kernel_rfl) (by kernel_rfl) (fun _ _ _ h => h) (Or.inl ⟨by rfl, ?_⟩) (by assumption) ?_
          rotate_left
          · (intro w' hSw; (try dsimp only at hSw); go_simp; try (with_reducible rfl))
          try simp only [Act.put]
          refine wpAnyH_take (i := 6) (v := ?_) rfl (by kernel_rfl) (by kernel_rfl) (by kernel_rfl) (fun _ _ _ h => h) (Or.inl ⟨by rfl, ?_⟩) (by assumption) ?_
          rotate_left
          · (intro w' hSw; (try dsimp only at hSw); go_simp; try (with_reducible rfl))
          try simp only [Act.put]
          refine wpAnyH_take (i := 8) (v := ?_) rfl (by kernel_rfl) (by kernel_rfl) (by kernel_rfl) (fun _ _ _ h => h) (Or.inl ⟨by rfl, ?_⟩) (by assumption) ?_
          rotate_left
          · (intro w' hSw; (try dsimp only at hSw); go_simp; try (with_reducible rfl))
          try simp only [Act.put]
          refine wpAnyH_take (i := 9) (v := ?_) rfl (by kernel_rfl) (by kernel_rfl) (by kernel_rfl) (fun _ _ _ h => h) (Or.inl ⟨by rfl, ?_⟩) (by assumption) ?_
          rotate_left
          · (intro w' hSw; (try dsimp only at hSw); go_simp; try (with_reducible rfl))
          try simp only [Act.put]
          refine wpAnyH_take (i := 10) (v := ?_) rfl (by kernel_rfl) (by kernel_rfl) (by kernel_rfl) (fun _ _ _ h => h) (Or.inl ⟨by rfl, ?_⟩) (by assumption) ?_
          rotate_left
          · (intro w' hSw; (try dsimp only at hSw); go_simp; try (with_reducible rfl))
          try simp only [Act.put]
          refine wpAnyH_take (i := 11) (v := ?_) rfl (by kernel_rfl) (by kernel_rfl) (by kernel_rfl) (fun _ _ _ h => h) (Or.inl ⟨by rfl, ?_⟩) (by assumption) ?_
          rotate_left
          · (intro w' hSw; (try dsimp only at hSw); go_simp; try (with_reducible rfl))
          try simp only [Act.put]
          refine wpAnyH_take (i := 12) (v := ?_) rfl (by kernel_rfl) (by kernel_rfl) (by kernel_rfl) (fun _ _ _ h => h) (Or.inl ⟨by rfl, ?_⟩) (by assumption) ?_
          rotate_left
          · (intro w' hSw; (try dsimp only at hSw); go_simp; try (with_reducible rfl))
          try simp only [Act.put]
          refine wpAnyH_take (i := 13) (v := ?_) rfl (by kernel_rfl) (by kernel_rfl) (by kernel_rfl) (fun _ _ _ h => h) (Or.inl ⟨by rfl, ?_⟩) (by assumption) ?_
          rotate_left
          · (intro w' hSw; (try dsimp only at hSw); go_simp; try (with_reducible rfl))
          try simp only [Act.put]
          refine wpAnyH_take (i := 16) (v := ?_) rfl (by kernel_rfl) (by kernel_rfl) (by kernel_rfl) (fun _ _ _ h => h) (Or.inl ⟨by rfl, ?_⟩) (by assumption) ?_
          rotate_left
          · (intro w' hSw; (try dsimp only at hSw); go_simp; try (with_reducible rfl))
          try simp only [Act.put]
          refine wpAnyH_take (i := 17) (v := ?_) rfl (by kernel_rfl) (by kernel_rfl) (by kernel_rfl) (fun _ _ _ h => h) (Or.inl ⟨by rfl, ?_⟩) (by assumption) ?_
          rotate_left
          · (intro w' hSw; (try dsimp only at hSw); go_simp; try (with_reducible rfl))
          try simp only [Act.put]
          refine wpAnyH_take (i := 18) (v := ?_) rfl (by kernel_rfl) (by kernel_rfl) (by kernel_rfl) (fun _ _ _ h => h) (Or.inl ⟨by rfl, ?_⟩) (by assumption) ?_
          rotate_left
          · (intro w' hSw; (try dsimp only at hSw); go_simp; try (with_reducible rfl))
          try simp only [Act.put]
          refine wpAnyH_take (i := 19) (v := ?_) rfl (by kernel_rfl) (by kernel_rfl) (by kernel_rfl) (fun _ _ _ h => h) (Or.inl ⟨by rfl, ?_⟩) (by assumption) ?_
          rotate_left
          · (intro w' hSw; (try dsimp only at hSw); go_simp; try (with_reducible rfl))
          try simp only [Act.put]
          refine wpAnyH_take (i := 20) (v := ?_) rfl (by kernel_rfl) (by kernel_rfl) (by kernel_rfl) (fun _ _ _ h => h) (Or.inl ⟨by rfl, ?_⟩) (by assumption) ?_
          rotate_left
          · (intro w' hSw; (try dsimp only at hSw); go_simp; try (with_reducible rfl))
          try simp only [Act.put]
          refine wpAnyH_take (i := 21) (v := ?_) rfl (by kernel_rfl) (by kernel_rfl) (by kernel_rfl) (fun _ _ _ h => h) (Or.inl ⟨by rfl, ?_⟩) (by assumption) ?_
          rotate_left
          · (intro w' hSw; (try dsimp only at hSw); go_simp; try (with_reducible rfl))
          try simp only [Act.put]
          refine wpAnyH_ready (rs := [7]) (by kernel_rfl) (by simp) ?_
          refine AllReadyH.cons rfl (fun K hK => ?_) AllReadyH.nil
          go_simp
          go_wp2_with (go_at_call 40; refine (HF.out A _ hA2 (hx1.below hBd)).mono ?_; rintro e w3 ⟨gf, rfl, ho, hB3⟩; have cg := own_rowI ho hB2; rw [hdist] at cg)
          refine hK.out _ _ ?_ (fun hHeld => ?_)
          · exact ⟨(hB3.cell (p := ⟨w.heap.size, 0, none⟩) hs).trans b0, (hB3.cell (p := ⟨w.heap.size, 1, none⟩) hs).trans b1, (hB3.cell (p := ⟨b, off + k * 3, none⟩) hb).trans c0, (hB3.cell (p := ⟨b, off + k * 3 + 1, none⟩) hb).trans c1, (hB3.cell (p := ⟨b, off + k * 3 + 2, none⟩) hb).trans c2⟩
          clear hK K
          refine wpAnyH_take (i := 14) (v := ?_) rfl (by kernel_rfl) (by kernel_rfl) (by kernel_rfl) (fun _ _ _ h => h) (Or.inl ⟨by rfl, ?_⟩) (by assumption) ?_
          rotate_left
          · (intro w' hSw; (try dsimp only at hSw); go_simp; try (with_reducible rfl))
          try simp only [Act.put, List.setIfInBounds_toArray]
          refine wpAnyH_ready (rs := [15]) (by kernel_rfl) (by simp) ?_
          refine AllReadyH.cons rfl (fun K hK => ?_) AllReadyH.nil
          go_simp
          refine hK.out _ _ ?_ (fun hHeld => ?_)
          · exact ⟨(hB3.cell (p := ⟨w.heap.size, 0, none⟩) hs).trans b0, (hB3.cell (p := ⟨w.heap.size, 1, none⟩) hs).trans b1, (hB3.cell (p := ⟨b, off + k * 3, none⟩) hb).trans c0, (hB3.cell (p := ⟨b, off + k * 3 + 1, none⟩) hb).trans c1, (hB3.cell (p := ⟨b, off + k * 3 + 2, none⟩) hb).trans c2⟩
          clear hK K
          refine wpAnyH_take (i := 22) (v := ?_) rfl (by kernel_rfl) (by kernel_rfl) (by kernel_rfl) (fun _ _ _ h => h) (Or.inl ⟨by rfl, ?_⟩) (by assumption) ?_
          rotate_left
          · (intro w' hSw; (try dsimp only at hSw); go_simp; try (with_reducible rfl))
          try simp only [Act.put, List.setIfInBounds_toArray]
          refine wpAnyH_done (by kernel_rfl) ?_ _
          simp only [List.getElem_toArray, List.getElem_cons_succ, List.getElem_cons_zero]
          have hz : Below wr.heap.size wr w3 := stepB (Below.refl _ wr).drew hB3 (Nat.le_refl _)
          have hown := own_below hown hz
          have hAt := hAt.step hz
          have hs := hAt.size
          clear hHeld hB3 cg ho hBd b0 b1 c0 c1 c2 hb hz
          go_wp2_with (at_builtin; refine wpList_append_own _ rfl _ _ 30 rfl (w.heap.size + 1) 2 i0 (.int .i64 0) 1 8 Tryd.underlying30 hi hz0 hz1 hz2 rfl (by decide) _ _ _ rfl (hown.alloc _) ⟨w3.heap.size, 0, none⟩ 1 1 [.int .i64 k] rfl rfl (cell_one_new _ _ _) ?c2 ?c3 ?c4 ?c5 ?_)
          case c2 => intro u hu; simp at hu; subst hu; rfl
          case c3 => unfold maxLen; omega
          case c4 => omega
          case c5 => first | omega | (simp; omega)
          intro v' w4 hown' hgr _
          have hA4 := (hAt.step ((Below.refl _ w3).alloc (Nat.le_refl _) (.cells #[.int .i64 k] 2))).grown hgr (fun x hx => (hown.lt x hx).1)
          obtain ⟨g', c', rfl⟩ := formJ hown' (by omega)
          clear hgr hown hAt
          go_wp2
          go_roundw
          case rel => exact ⟨k + 1, g', c', by omega, by go_num, by rw [hst.out, List.length_append]; rfl, by rw [hst.out, List.length_append, List.flatMap_append]; exact hown', hA4⟩
          case measure => simp [intOf]; omega
        · have hst := Lib.hid (jxl_no (hpk.trans (decide_eq_false hbb)))
          clear hpk
          go_wp2_with fail
          refine wp_region_held_drew (S := fun w' => w'.cell? ⟨w.heap.size, 0, none⟩ = some (.slice a0 xs0.length cap0) ∧ w'.cell? ⟨w.heap.size, 1, none⟩ = some (.slice (some ⟨b, off, none⟩) xs1.length cap1) ∧ w'.cell? ⟨b, off + k * 3, none⟩ = some (.int .i64 A) ∧ w'.cell? ⟨b, off + k * 3 + 1, none⟩ = some (.int .i64 B) ∧ w'.cell? ⟨b, off + k * 3 + 2, none⟩ = some (.int .i64 days)) (by kernel_rfl) ?_ (fun hHeld => ?_)
          · exact ⟨b0, b1, c0, c1, c2⟩
          refine wpAnyH_take (i := 0) (v := ?_) rfl (by kernel_rfl) (by kernel_rfl) (by kernel_rfl) (fun _ _ _ h => h) (Or.inl ⟨by rfl, ?_⟩) (by assumption) ?_
          rotate_left
          · (intro w' hSw; (try dsimp only at hSw); go_simp; try (with_reducible rfl))
          try simp only [Act.put, List.setIfInBounds_toArray]
          refine wpAnyH_take (i := 1) (v := ?_) rfl (by kernel_rfl) (by kernel_rfl) (by kernel_rfl) (fun _ _ _ h => h) (Or.inl ⟨by rfl, ?_⟩) (by assumption) ?_
          rotate_left
          · (intro w' hSw; (try dsimp only at hSw); go_simp; try (with_reducible rfl))
          try simp only [Act.put]
          refine wpAnyH_take (i := 2) (v := ?_) rfl (by kernel_rfl) (by kernel_rfl) (by kernel_rfl) (fun _ _ _ h => h) (Or.inl ⟨by rfl, ?_⟩) (by assumption) ?_
          rotate_left
          · (intro w' hSw; (try dsimp only at hSw); go_simp; try (with_reducible rfl))
          try simp only [Act.put]
          refine wpAnyH_take (i := 3) (v := ?_) rfl (by kernel_rfl) (by kernel_rfl) (by kernel_rfl) (fun _ _ _ h => h) (Or.inl ⟨by rfl, ?_⟩) (by assumption) ?_
          rotate_left
          · (intro w' hSw; (try dsimp only at hSw); go_simp; try (with_reducible rfl))
          try simp only [Act.put]
          refine wpAnyH_take (i := 4) (v := ?_) rfl (by kernel_rfl) (by kernel_rfl) (by kernel_rfl) (fun _ _ _ h => h) (Or.inl ⟨by rfl, ?_⟩) (by assumption) ?_
          rotate_left
          · (intro w' hSw; (try dsimp only at hSw); go_simp; try (with_reducible rfl))
          try simp only [Act.put]
          refine wpAnyH_take (i := 5) (v := ?_) rfl (by kernel_rfl) (by kernel_rfl) (by kernel_rfl) (fun _ _ _ h => h) (Or.inl ⟨by rfl, ?_⟩) (by assumption) ?_
          rotate_left
          · (intro w' hSw; (try dsimp only at hSw); go_simp; try (with_reducible rfl))
          try simp only [Act.put]
          refine wpAnyH_take (i := 6) (v := ?_) rfl (by kernel_rfl) (by kernel_rfl) (by kernel_rfl) (fun _ _ _ h => h) (Or.inl ⟨by rfl, ?_⟩) (by assumption) ?_
          rotate_left
          · (intro w' hSw; (try dsimp only at hSw); go_simp; try (with_reducible rfl))
          try simp only [Act.put]
          refine wpAnyH_take (i := 8) (v := ?_) rfl (by kernel_rfl) (by kernel_rfl) (by kernel_rfl) (fun _ _ _ h => h) (Or.inl ⟨by rfl, ?_⟩) (by assumption) ?_
          rotate_left
          · (intro w' hSw; (try dsimp only at hSw); go_simp; try (with_reducible rfl))
          try simp only [Act.put]
          refine wpAnyH_take (i := 9) (v := ?_) rfl (by kernel_rfl) (by kernel_rfl) (by kernel_rfl) (fun _ _ _ h => h) (Or.inl ⟨by rfl, ?_⟩) (by assumption) ?_
          rotate_left
          · (intro w' hSw; (try dsimp only at hSw); go_simp; try (with_reducible rfl))
          try simp only [Act.put]
          refine wpAnyH_take (i := 10) (v := ?_) rfl (by kernel_rfl) (by kernel_rfl) (by kernel_rfl) (fun _ _ _ h => h) (Or.inl ⟨by rfl, ?_⟩) (by assumption) ?_
          rotate_left
          · (intro w' hSw; (try dsimp only at hSw); go_simp; try (with_reducible rfl))
          try simp only [Act.put]
          refine wpAnyH_take (i := 11) (v := ?_) rfl (by kernel_rfl) (by kernel_rfl) (by kernel_rfl) (fun _ _ _ h => h) (Or.inl ⟨by rfl, ?_⟩) (by assumption) ?_
          rotate_left
          · (intro w' hSw; (try dsimp only at hSw); go_simp; try (with_reducible rfl))
          try simp only [Act.put]
          refine wpAnyH_take (i := 12) (v := ?_) rfl (by kernel_rfl) (by kernel_rfl) (by kernel_rfl) (fun _ _ _ h => h) (Or.inl ⟨by rfl, ?_⟩) (by assumption) ?_
          rotate_left
          · (intro w' hSw; (try dsimp only at hSw); go_simp; try (with_reducible rfl))
          try simp only [Act.put]
          refine wpAnyH_take (i := 13) (v := ?_) rfl (by kernel_rfl) (by kernel_rfl) (by kernel_rfl) (fun _ _ _ h => h) (Or.inl ⟨by rfl, ?_⟩) (by assumption) ?_
          rotate_left
          · (intro w' hSw; (try dsimp only at hSw); go_simp; try (with_reducible rfl))
          try simp only [Act.put]
          refine wpAnyH_take (i := 16) (v := ?_) rfl (by kernel_rfl) (by kernel_rfl) (by kernel_rfl) (fun _ _ _ h => h) (Or.inl ⟨by rfl, ?_⟩) (by assumption) ?_
          rotate_left
          · (intro w' hSw; (try dsimp only at hSw); go_simp; try (with_reducible rfl))
          try simp only [Act.put]
          refine wpAnyH_take (i := 17) (v := ?_) rfl (by kernel_rfl) (by kernel_rfl) (by kernel_rfl) (fun _ _ _ h => h) (Or.inl ⟨by rfl, ?_⟩) (by assumption) ?_
          rotate_left
          · (intro w' hSw; (try dsimp only at hSw); go_simp; try (with_reducible rfl))
          try simp only [Act.put]
          refine wpAnyH_take (i := 18) (v := ?_) rfl (by kernel_rfl) (by kernel_rfl) (by kernel_rfl) (fun _ _ _ h => h) (Or.inl ⟨by rfl, ?_⟩) (by assumption) ?_
          rotate_left
          · (intro w' hSw; (try dsimp only at hSw); go_simp; try (with_reducible rfl))
          try simp only [Act.put]
          refine wpAnyH_take (i := 19) (v := ?_) rfl (by kernel_rfl) (by kernel_rfl) (by kernel_rfl) (fun _ _ _ h => h) (Or.inl ⟨by rfl, ?_⟩) (by assumption) ?_
          rotate_left
          · (intro w' hSw; (try dsimp only at hSw); go_simp; try (with_reducible rfl))
          try simp only [Act.put]
          refine wpAnyH_take (i := 20) (v := ?_) rfl (by kernel_rfl) (by kernel_rfl) (by kernel_rfl) (fun _ _ _ h => h) (Or.inl ⟨by rfl, ?_⟩) (by assumption) ?_
          rotate_left
          · (intro w' hSw; (try dsimp only at hSw); go_simp; try (with_reducible rfl))
          try simp only [Act.put]
          refine wpAnyH_take (i := 21) (v := ?_) rfl (by kernel_rfl) (by kernel_rfl) (by kernel_rfl) (fun _ _ _ h => h) (Or.inl ⟨by rfl, ?_⟩) (by assumption) ?_
          rotate_left
          · (intro w' hSw; (try dsimp only at hSw); go_simp; try (with_reducible rfl))
          try simp only [Act.put]
          refine wpAnyH_ready (rs := [7]) (by kernel_rfl) (by simp) ?_
          refine AllReadyH.cons rfl (fun K hK => ?_) AllReadyH.nil
          go_simp
          go_wp2_with (go_at_call 40; refine (HF.out A _ hA2 (hx1.below hBd)).mono ?_; rintro e w3 ⟨gf, rfl, ho, hB3⟩; have cg := own_rowI ho hB2; rw [hdist] at cg)
          refine hK.out _ _ ?_ (fun hHeld => ?_)
          · exact ⟨(hB3.cell (p := ⟨w.heap.size, 0, none⟩) hs).trans b0, (hB3.cell (p := ⟨w.heap.size, 1, none⟩) hs).trans b1, (hB3.cell (p := ⟨b, off + k * 3, none⟩) hb).trans c0, (hB3.cell (p := ⟨b, off + k * 3 + 1, none⟩) hb).trans c1, (hB3.cell (p := ⟨b, off + k * 3 + 2, none⟩) hb).trans c2⟩
          clear hK K
          refine wpAnyH_take (i := 14) (v := ?_) rfl (by kernel_rfl) (by kernel_rfl) (by kernel_rfl) (fun _ _ _ h => h) (Or.inl ⟨by rfl, ?_⟩) (by assumption) ?_
          rotate_left
          · (intro w' hSw; (try dsimp only at hSw); go_simp; try (with_reducible rfl))
          try simp only [Act.put, List.setIfInBounds_toArray]
          refine wpAnyH_ready (rs := [15]) (by kernel_rfl) (by simp) ?_
          refine AllReadyH.cons rfl (fun K hK => ?_) AllReadyH.nil
          go_simp
          refine hK.out _ _ ?_ (fun hHeld => ?_)
          · exact ⟨(hB3.cell (p := ⟨w.heap.size, 0, none⟩) hs).trans b0, (hB3.cell (p := ⟨w.heap.size, 1, none⟩) hs).trans b1, (hB3.cell (p := ⟨b, off + k * 3, none⟩) hb).trans c0, (hB3.cell (p := ⟨b, off + k * 3 + 1, none⟩) hb).trans c1, (hB3.cell (p := ⟨b, off + k * 3 + 2, none⟩) hb).trans c2⟩
          clear hK K
          refine wpAnyH_take (i := 22) (v := ?_) rfl (by kernel_rfl) (by kernel_rfl) (by kernel_rfl) (fun _ _ _ h => h) (Or.inl ⟨by rfl, ?_⟩) (by assumption) ?_
          rotate_left
          · (intro w' hSw; (try dsimp only at hSw); go_simp; try (with_reducible rfl))
          try simp only [Act.put, List.setIfInBounds_toArray]
          refine wpAnyH_done (by kernel_rfl) ?_ _
          simp only [List.getElem_toArray, List.getElem_cons_succ, List.getElem_cons_zero]
          have hz : Below wr.heap.size wr w3 := stepB (Below.refl _ wr).drew hB3 (Nat.le_refl _)
          have hown := own_below hown hz
          have hAt := hAt.step hz
          have hs := hAt.size
          clear hHeld hB3 cg ho hBd b0 b1 c0 c1 c2 hb hz
          go_wp2
          go_roundw
          case rel => exact ⟨k + 1, g, c, by omega, by go_num, by rw [hst.out], by rw [hst.out]; exact hown, hAt⟩
          case measure => simp [intOf]; omega
      · obtain rfl : k = xs1.length := by omega
        go_wp2
        go_ret2
        rw [hR.out]
        exact ⟨_, _, rfl, own_base hown (by omega), hAt.below⟩

set_option maxRecDepth 100000 in
set_option maxHeartbeats 4000000 in
theorem implUseless_any (a0 a1 : Option Addr) (cap0 cap1 : Nat) (xs0 : List ByteArray) (xs1 : List Wy) (w : World) (hc0 : xs0.length ≤ cap0) (hc1 : cap0 ≤ 9223372036854775807) (hl0 : xs0.length ≤ 1048576) (hx0 : Rd encS w a0 xs0) (hs0 : ∀ m ∈ xs0, m.size ≤ 1048576) (hl1 : xs1.length ≤ 1048576) (hx1 : Rd encWy w a1 xs1) :
    Calls Tryd.prog 11 #[.agg #[.slice a0 xs0.length cap0, .slice a1 xs1.length cap1]] w fun e w' => ∃ b c, e = .returned (.tuple #[.slice b (uselessR xs0 xs1).1.length c, .int .i64 (uselessR xs0 xs1).2]) ∧
      w'.ownsRow w.heap.size 2 1 (.slice b (uselessR xs0 xs1).1.length c) (uselessR xs0 xs1).1.length ((uselessR xs0 xs1).1.flatMap encI) ∧ Below w.heap.size w w' := by
  obtain ⟨i0, hi, hz0, hz1, hz2⟩ := info_parts infoI
  have hA0 : At w [.slice a0 xs0.length cap0, .slice a1 xs1.length cap1] (w.alloc (.cells #[.slice a0 xs0.length cap0, .slice a1 xs1.length cap1] 27)) := At.start _ _ _
  have HM := Lib.hid (fun W (hAt : At w [.slice a0 xs0.length cap0, .slice a1 xs1.length cap1] W) => implIsLand_any a0 a1 cap0 cap1 xs0 xs1 W hc0 hc1 hl0 (hx0.below hAt.below) hs0 hl1 (hx1.below hAt.below))
  cases hA : isLandB xs0 xs1
  · have HM := Lib.hid (fun W h => hA ▸ HM.out W h)
    have hR : Hid (uselessR xs0 xs1 = ([], 1)) := by unfold Hid uselessR; rw [hA]; rfl
    clear hA
    go_enter Tryd.func11, Tryd.ntmps11
    go_wp2_with fail
    refine (HM.out _ hA0).mono ?_
    rintro e w1 ⟨rfl, hB1⟩
    go_wp2
    go_ret2
    rw [hR.out]
    exact ⟨none, 0, rfl, World.ownsRow_nil _ _ _ _, (hA0.step hB1).below⟩
  · have HM := Lib.hid (fun W h => hA ▸ HM.out W h)
    have hR : Hid (uselessR xs0 xs1 = (jxl (pU xs0.length xs1) xs1.length, 0)) := by unfold Hid uselessR; rw [hA]; rfl
    have HX := Lib.hid (fun i m (h : xs1[i]? = some m) => useless_facts hA h)
    have hn12 := (landOk hA).2.2.1
    have hl40 : xs1.length ≤ 40 := (landOk hA).2.2.2
    have HF := Lib.hid (fun W (h1 : Rd encWy W a1 xs1) => trav_any a0 a1 cap0 cap1 xs0 xs1 W hA h1)
    clear hA
    generalize pU xs0.length xs1 = p at HX hR
    go_enter Tryd.func11, Tryd.ntmps11
    go_wp2_with fail
    refine (HM.out _ hA0).mono ?_
    rintro e w1 ⟨rfl, hB1⟩
    have hA1 := hA0.step hB1
    have b0 := hA1.cell 0 _ rfl
    have b1 := hA1.cell 1 _ rfl
    clear hA0 hB1 HM
    go_wp2_with fail
    refine (HF.out _ (hx1.below hA1.below)).mono ?_
    rintro e w2 ⟨H, cH, gm, rfl, hM0, hB2⟩
    have hA2 := hA1.step hB2
    have hBo := (Below.refl _ w2).alloc (Nat.le_refl _) (.cells #[] 2)
    have hM1 := (hM0.below hBo).base (Nat.le_refl _)
    have hap0 : w2.heap.size ≠ H ∧ ∀ i, i < xs0.length → w2.heap.size ≠ gm i := ⟨Nat.ne_of_gt hM0.hlt.2, fun i hi => Nat.ne_of_gt (hM0.lt hi).2⟩
    have hown0 := World.ownsRow_made w2 #[] 0 (show w.heap.size + 1 ≤ w2.heap.size from hA2.size) (by decide) rfl (e := 2) (size := 1)
    have hA3 := hA2.step hBo
    have b0 := hA3.cell 0 _ rfl
    have b1 := hA3.cell 1 _ rfl
    clear hBo hA1 hA2 hB2 hM0 HF
    generalize w1.heap.size = B0 at hM1
    go_wp2
    go_loopw [5, 17] (fun o i wr => ∃ (k g c : Nat), k ≤ xs1.length ∧ i = .int .i64 k ∧ o = .slice (some ⟨g, 0, none⟩) (jxl p k).length c ∧ (g ≠ H ∧ ∀ i, i < xs0.length → g ≠ gm i) ∧ wr.ownsRow (w.heap.size + 1) 2 1 (.slice (some ⟨g, 0, none⟩) (jxl p k).length c) (jxl p k).length ((jxl p k).flatMap encI) ∧ Mat B0 wr H cH xs0.length xs0.length gm (travM xs0.length xs1) ∧ At w [.slice a0 xs0.length cap0, .slice a1 xs1.length cap1] wr) (fun _ i _ => xs1.length - (intOf i).toNat)
    case atStart => exact ⟨0, _, _, Nat.zero_le _, rfl, rfl, hap0, hown0, hM1, hA3⟩
    case round =>
      clear hown0 hA3 hap0 hM1 b0 b1
      obtain ⟨k, g, c, hk, rfl, rfl, hap, hown, hMt, hAt⟩ := hrel
      have hlen := jxl_len p k
      by_cases hlt : k < xs1.length
      · have hk1 : (k : Int) < (xs1.length : Int) := by omega
        have hm := List.getElem?_eq_getElem hlt
        generalize xs1[k] = m at hm
        obtain ⟨b, off, rfl, hb, c0, c1, c2⟩ := (hx1.below hAt.below).wy hm
        obtain ⟨A, B, ea, eb, hA2, hB2, hdist, hT, hpk⟩ := HX.out k m hm
        obtain ⟨ma, mb, days⟩ := m
        simp only at ea eb hpk c0 c1 c2
        subst ea eb
        have hAi : (A : Int) < (xs0.length : Int) := by omega
        have hBi : (B : Int) < (xs0.length : Int) := by omega
        clear hm hdist
        go_upto_region 8 with (fail)
        generalize hW : wr.alloc (.cells #[.int .i64 A, .int .i64 B, .int .i64 days] 42) = W
        have hBW : Below wr.heap.size wr W := by rw [← hW]; go_grown
        have D0 : W.cell? ⟨wr.heap.size, 0, none⟩ = some (.int .i64 A) := by rw [← hW]; exact World.cell?_alloc_at _ _ _ _ rfl
        have D1 : W.cell? ⟨wr.heap.size, 1, none⟩ = some (.int .i64 B) := by rw [← hW]; exact World.cell?_alloc_at _ _ _ _ rfl
        have D2 : W.cell? ⟨wr.heap.size, 2, none⟩ = some (.int .i64 days) := by rw [← hW]; exact World.cell?_alloc_at _ _ _ _ rfl
        have hown := own_below hown hBW
        have hAt := hAt.step hBW
        have hMt := hMt.below hBW
        have q0 := hMt.hcell hA2
        have q1 := hMt.cell hA2 hB2
        clear hW c0 c1 c2 hb hBW
        by_cases hbb : travM xs0.length xs1 A B < days
        · have hst := Lib.hid (jxl_yes (hpk.trans (decide_eq_true hbb)))
          clear hpk
          generalize jxl p k = out at hown hst hlen ⊢
          go_wp2_with fail
          go_quiet (fail)
          have hz : Below W.heap.size W (W.drewN nq) := drewB (Below.refl _ _) nq
          generalize W.drewN nq = w3 at hz ⊢
          have hown := own_below hown hz
          have hAt := hAt.step hz
          have hMt := hMt.below hz
          have hs := hAt.size
          clear hz D0 D1 D2 q0 q1
          go_wp2_with (at_builtin; refine wpList_append_lies _ rfl _ _ 30 rfl (w.heap.size + 1) 2 i0 (.int .i64 0) 1 8 Tryd.underlying30 hi hz0 hz1 hz2 rfl (by decide) _ _ _ rfl (hown.alloc _) ⟨w3.heap.size, 0, none⟩ 1 1 [.int .i64 k] rfl rfl (cell_one_new _ _ _) ?c2 (by decide) ?c3 ?c4 ?c5 _ rfl ?_)
          case c2 => intro u hu; simp at hu; subst hu; rfl
          case c3 => unfold maxLen; omega
          case c4 => omega
          case c5 => first | omega | (simp; omega)
          intro g' c' w4 hown' hgr hat _
          have hA4 := (hAt.step ((Below.refl _ w3).alloc (Nat.le_refl _) (.cells #[.int .i64 k] 2))).grown hgr (fun x hx => (hown.lt x hx).1)
          have hMt' := (hMt.below ((Below.refl _ w3).alloc (Nat.le_refl _) (.cells #[.int .i64 k] 2))).kept hgr (fun e => hap.1 e.symm) (fun i hi e => hap.2 i hi e.symm)
          have hap' : g' ≠ H ∧ ∀ i, i < xs0.length → g' ≠ gm i := by
            rcases hat with h | h
            · have : g = g' := by simpa [Value.ownBlock] using h
              subst this
              exact hap
            · have h0 := hMt.hlt
              refine ⟨by omega, fun i hi => ?_⟩
              have := hMt.lt hi
              omega
          clear hgr hown hAt hat hMt hap
          go_wp2
          go_roundw
          case rel => exact ⟨k + 1, g', c', by omega, by go_num, by rw [hst.out, List.length_append]; rfl, hap', by rw [hst.out, List.length_append, List.flatMap_append]; exact hown', hMt', hA4⟩
          case measure => simp [intOf]; omega
        · have hst := Lib.hid (jxl_no (hpk.trans (decide_eq_false hbb)))
          clear hpk
          go_wp2_with fail
          go_quiet (fail)
          have hz : Below W.heap.size W (W.drewN nq) := drewB (Below.refl _ _) nq
          generalize W.drewN nq = w3 at hz ⊢
          have hown := own_below hown hz
          have hAt := hAt.step hz
          have hMt := hMt.below hz
          have hs := hAt.size
          clear hz D0 D1 D2 q0 q1
          go_wp2
          go_roundw
          case rel => exact ⟨k + 1, g, c, by omega, by go_num, by rw [hst.out], hap, by rw [hst.out]; exact hown, hMt, hAt⟩
          case measure => simp [intOf]; omega
      · obtain rfl : k = xs1.length := by omega
        go_wp2
        go_ret2
        rw [hR.out]
        exact ⟨_, _, rfl, own_base hown (by omega), hAt.below⟩
end Go.Proofs.YtihmacmieofbgaaDoor
