/- Walk: l16Sorted of the reference, at marks of different keys. -/
import Derived.Test.YtmjbigeeokofeaaDoorRecP
import Derived.Test.YtmjbigeeokofeaaDoorAppAny
import Derived.Test.YtmjbigeeokofeaaDoorMarkSpec
import Derived.Deep.AppendLies
import Derived.Deep.RegionHeldLaw
import Derived.BigRegion
import Derived.BigQuiet
import Derived.Deep.CutBlock
import Derived.Test.YtmjbigeeokofeaaDoorRegM
import Derived.Test.YtmjbigeeokofeaaDoorBox
namespace Go.Proofs.YtmjbigeeokofeaaDoor
open Go.ChangeShapes Go.WideShapes Go.ChangeAt Go.RowKit

theorem own_cap1 {w : World} {base : Nat} {E : TypeId} {k g n cap : Nat} {xs : List Value} (h : w.ownsRow base E k (.slice (some ⟨g, 0, none⟩) n cap) n xs) : n ≤ cap := by
  rcases h.2 with ⟨e0, _⟩ | ⟨g', cap', cur, e0, hb, hg, hn, hm, hs, ht⟩
  · cases e0
  · injection e0 with _ _ e3
    omega
theorem own_keep9 {B : Nat} {E : TypeId} {k n g c x : Nat} {xs : List Value} {w w' : World} (h : w.ownsRow B E k (.slice (some ⟨g, 0, none⟩) n c) n xs) (hg : w.grownBy w' (some x)) (hne : g ≠ x) : w'.ownsRow B E k (.slice (some ⟨g, 0, none⟩) n c) n xs :=
  h.kept hg (.inr (by simp [Value.ownBlock]; exact hne))
theorem own_part {w : World} {base : Nat} {E : TypeId} {k g n cap : Nat} {pre mid post : List Value} (h : w.ownsRow base E k (.slice (some ⟨g, 0, none⟩) n cap) n (pre ++ mid ++ post)) {i : Nat} (hi : i = pre.length) : ∀ j u, mid[j]? = some u → w.cell? (Addr.add ⟨g, i, none⟩ j) = some u := by
  intro j u hu
  subst hi
  have hj := (List.getElem?_eq_some_iff.1 hu).1
  rw [Addr.add_lit]
  have hl := h.1
  simp only [List.length_append] at hl
  rw [h.cellAt _ (by omega), List.getElem?_append_left (by simp; omega), List.getElem?_append_right (by omega)]
  rw [show pre.length + j - pre.length = j by omega]
  exact hu
theorem own_take {α : Type} {enc : α → List Value} {k : Nat} (_hk : ∀ x, (enc x).length = k) {w : World} {base : Nat} {E : TypeId} {g n cap : Nat} {xs : List α} (h : w.ownsRow base E k (.slice (some ⟨g, 0, none⟩) n cap) n (xs.flatMap enc)) (i : Nat) : ∀ j u, ((xs.take i).flatMap enc)[j]? = some u → w.cell? (Addr.add ⟨g, 0, none⟩ j) = some u := by
  have h2 : w.ownsRow base E k (.slice (some ⟨g, 0, none⟩) n cap) n ([] ++ (xs.take i).flatMap enc ++ (xs.drop i).flatMap enc) := by
    rw [List.nil_append, ← List.flatMap_append, List.take_append_drop]; exact h
  exact own_part h2 rfl
theorem own_drop {α : Type} {enc : α → List Value} {k : Nat} (hk : ∀ x, (enc x).length = k) {w : World} {base : Nat} {E : TypeId} {g n cap : Nat} {xs : List α} (h : w.ownsRow base E k (.slice (some ⟨g, 0, none⟩) n cap) n (xs.flatMap enc)) {i : Nat} (hi : i ≤ xs.length) : ∀ j u, ((xs.drop i).flatMap enc)[j]? = some u → w.cell? (Addr.add ⟨g, i * k, none⟩ j) = some u := by
  have h2 : w.ownsRow base E k (.slice (some ⟨g, 0, none⟩) n cap) n ((xs.take i).flatMap enc ++ (xs.drop i).flatMap enc ++ []) := by
    rw [List.append_nil, ← List.flatMap_append, List.take_append_drop]; exact h
  exact own_part h2 (by rw [length_flatMap_enc enc k hk, List.length_take, Nat.min_eq_left hi])
theorem Box.news {B : Nat} {w : World} {T : TypeId} {g : Nat} {xs : List Value} (h : Box B w T g xs) : ∀ j u, xs[j]? = some u → w.cell? (Addr.add ⟨g, 0, none⟩ j) = some u := by
  intro j u hu
  rw [Addr.add_lit, Nat.zero_add]
  exact Box.cell h j u hu
theorem mk_one1 (m : Mk) : ∀ u ∈ encMk m, u.oneCell' = true := fun u hu => by simp [encMk] at hu; rcases hu with rfl | rfl | rfl <;> rfl
theorem mk_one (l : List Mk) : ∀ u ∈ l.flatMap encMk, u.oneCell' = true := fun u hu => by
  obtain ⟨m, _, hm⟩ := List.mem_flatMap.1 hu
  exact mk_one1 m u hm
set_option maxRecDepth 100000 in
set_option maxHeartbeats 4000000 in
theorem l16Sorted_any (a : Option Addr) (cap : Nat) (xs : List Mk) (w : World) (hl : xs.length ≤ 1000) (hx : Rd encMk w a xs) (hn : NoK xs) :
    Calls Tryd.prog 50 #[.slice a xs.length cap] w fun e w' => ∃ g c, e = .returned (.slice (some ⟨g, 0, none⟩) xs.length c) ∧ w'.ownsRow w.heap.size 80 3 (.slice (some ⟨g, 0, none⟩) xs.length c) xs.length ((srtM xs).flatMap encMk) ∧ Below w.heap.size w w' := by
  obtain ⟨i0, hi, hz0, hz1, hz2⟩ := info_parts infoMk
  have hBs : Below w.heap.size w (w.alloc (.cells #[] 80)) := (Below.refl _ w).alloc (Nat.le_refl _) _
  have howns := World.ownsRow_made w #[] 0 (Nat.le_refl _) (by decide) rfl (e := 80) (size := 3)
  go_enter Tryd.func50, Tryd.ntmps50
  go_wp2
  go_loopw [3, 4] (fun s i wr => ∃ (k g c : Nat) (ys : List Mk), k ≤ xs.length ∧ i = .int .i64 k ∧ s = .slice (some ⟨g, 0, none⟩) k c ∧ wr.ownsRow w.heap.size 80 3 (.slice (some ⟨g, 0, none⟩) k c) k (ys.flatMap encMk) ∧ Below w.heap.size w wr ∧ Hid (srtM (xs.take k) = ys) ∧ ys.length = k) (fun _ i _ => xs.length - (intOf i).toNat)
  case atStart => exact ⟨0, _, _, [], Nat.zero_le _, rfl, rfl, howns, hBs, rfl, rfl⟩
  case round =>
    clear howns hBs
    obtain ⟨k, g, c, ys, hk, rfl, rfl, hown, hB, hM, hyl⟩ := hrel
    by_cases hlt : k < xs.length
    · have hm := List.getElem?_eq_getElem hlt
      generalize xs[k] = m at hm
      have hst := Lib.hid (srtM_take hm)
      have hsam : Hid (∀ y ∈ ys, sameK y m = false) := by
        intro y hy
        rw [← hM.out] at hy
        have hy := (srtM_perm _).mem_iff.1 hy
        obtain ⟨j, hj, rfl⟩ := List.getElem_of_mem hy
        rw [List.length_take] at hj
        obtain ⟨_, hm'⟩ := List.getElem?_eq_some_iff.1 hm
        have := List.pairwise_iff_getElem.1 hn j k (by omega) hlt (by omega)
        rw [hm'] at this
        simpa using this
      have hk1 : (k : Int) < (xs.length : Int) := by omega
      have hkc : k ≤ c := own_cap1 hown
      go_upto_block 2 with (fail)
      go_cut [5] from 13 to 57 (fun s5 wx => ∃ q : Nat, s5 = .int .i64 q ∧ q ≤ k ∧ Hid (∀ y ∈ ys.take q, ltMk y m = true) ∧ Hid (∀ y, ys[q]? = some y → ltMk y m = false) ∧ wx.ownsRow w.heap.size 80 3 (.slice (some ⟨g, 0, none⟩) k c) k (ys.flatMap encMk) ∧ Below w.heap.size w wx)
      case first =>
        go_wp2
        go_loopw [5] (fun p wr => ∃ (q : Nat), p = .int .i64 q ∧ q ≤ k ∧ Hid (∀ y ∈ ys.take q, ltMk y m = true) ∧ wr.ownsRow w.heap.size 80 3 (.slice (some ⟨g, 0, none⟩) k c) k (ys.flatMap encMk) ∧ Below w.heap.size w wr) (fun p _ => k - (intOf p).toNat)
        case atStart => exact ⟨0, rfl, Nat.zero_le _, fun y hy => by simp at hy, hown, hB⟩
        case round =>
          clear hown hB
          obtain ⟨q, rfl, hq, hlo, hown, hB⟩ := hrel
          by_cases hq1 : q < k
          · have hy := List.getElem?_eq_getElem (show q < ys.length by omega)
            generalize ys[q] = y at hy
            have hgo := (own_lt hown).2
            have d0 := own_at encMk_len hown hy (j := 0) rfl
            have d1 := own_at encMk_len hown hy (j := 1) rfl
            rw [Nat.add_zero] at d0
            obtain ⟨b, off, rfl, hb, c0, c1, c2⟩ := (hx.below hB).mk hm
            have hq2 : (q : Int) < (k : Int) := by omega
            have hok : Hid (ltMk y m = (Op.bytesLess y.name.toList m.name.toList || (y.name.toList == m.name.toList && decide (y.fr < m.fr)))) := rfl
            have hup : Hid (ltMk y m = true → ∀ z ∈ ys.take (q + 1), ltMk z m = true) := fun h z hz => by
              rw [List.take_succ_eq_append_getElem (show q < ys.length by omega)] at hz
              rcases List.mem_append.1 hz with hz | hz
              · exact hlo.out z hz
              · rw [List.mem_singleton.1 hz]
                obtain ⟨_, e⟩ := List.getElem?_eq_some_iff.1 hy
                rw [e]; exact h
            have hst : Hid (ltMk y m = false → ∀ z, ys[q]? = some z → ltMk z m = false) := fun h z hz => by rw [hy] at hz; cases hz; exact h
            clear hy
            cases h1 : Op.bytesLess y.name.toList m.name.toList
            · cases h2 : (y.name.toList == m.name.toList)
              · have hlt' := Lib.hid (hst.out (by rw [hok.out, h1, h2]; rfl))
                go_wp2_with fail
                go_quiet (fail)
                have hz : Below wr.heap.size wr (wr.drewN nq) := drewB (Below.refl _ _) nq
                generalize wr.drewN nq = w2 at hz ⊢
                have hown := own_below hown hz
                have hB := stepB hB hz hB.size
                go_wp2
                go_meet
                case rel => exact ⟨q, rfl, hq, hlo, hlt', hown, hB⟩
              · by_cases h3 : y.fr < m.fr
                · have hup' := Lib.hid (hup.out (by rw [hok.out, h1, h2]; simpa using h3))
                  go_wp2_with fail
                  go_quiet (fail)
                  have hz : Below wr.heap.size wr (wr.drewN nq) := drewB (Below.refl _ _) nq
                  generalize wr.drewN nq = w2 at hz ⊢
                  have hown := own_below hown hz
                  have hB := stepB hB hz hB.size
                  go_wp2
                  go_roundw
                  case rel => exact ⟨q + 1, by go_num, by omega, hup', hown, hB⟩
                  case measure => simp [intOf]; omega
                · have hlt' := Lib.hid (hst.out (by rw [hok.out, h1, h2]; simpa using h3))
                  have h3' : decide (y.fr < m.fr) = false := by simpa using h3
                  go_wp2_with fail
                  go_quiet (fail)
                  have hz : Below wr.heap.size wr (wr.drewN nq) := drewB (Below.refl _ _) nq
                  generalize wr.drewN nq = w2 at hz ⊢
                  have hown := own_below hown hz
                  have hB := stepB hB hz hB.size
                  go_wp2
                  go_meet
                  case rel => exact ⟨q, rfl, hq, hlo, hlt', hown, hB⟩
            · have hup' := Lib.hid (hup.out (by rw [hok.out, h1]; rfl))
              go_wp2_with fail
              go_quiet (fail)
              have hz : Below wr.heap.size wr (wr.drewN nq) := drewB (Below.refl _ _) nq
              generalize wr.drewN nq = w2 at hz ⊢
              have hown := own_below hown hz
              have hB := stepB hB hz hB.size
              go_wp2
              go_roundw
              case rel => exact ⟨q + 1, by go_num, by omega, hup', hown, hB⟩
              case measure => simp [intOf]; omega
          · have hlt' : Hid (∀ z, ys[q]? = some z → ltMk z m = false) := fun z hz => by rw [List.getElem?_eq_none (by omega)] at hz; cases hz
            have hq2 : decide ((q : Int) < (k : Int)) = false := by simp; omega
            go_wp2_with fail
            go_quiet (fail)
            have hz : Below wr.heap.size wr (wr.drewN nq) := drewB (Below.refl _ _) nq
            generalize wr.drewN nq = w2 at hz ⊢
            have hown := own_below hown hz
            have hB := stepB hB hz hB.size
            go_wp2
            go_meet
            case rel => exact ⟨q, rfl, hq, hlo, hlt', hown, hB⟩
      case rest =>
        clear hown hB
        obtain ⟨q, rfl, hq, hlo, hhi, hown, hB⟩ := hcut
        have hins : Hid (insM m ys = ys.take q ++ m :: ys.drop q) := insM_at hlo.out hhi.out
        obtain ⟨b, off, rfl, hb0, c00, c01, c02⟩ := hx.mk hm
        have HC : Hid (∀ W, Below w.heap.size w W → W.cell? ⟨b, off + k * 3, none⟩ = some (.string m.name) ∧ W.cell? ⟨b, off + k * 3 + 1, none⟩ = some (.int .i64 m.fr) ∧ W.cell? ⟨b, off + k * 3 + 2, none⟩ = some (.int .i64 m.to)) := fun W hB => ⟨((bcell hB).1 _ _ hb0).trans c00, ((bcell hB).1 _ _ hb0).trans c01, ((bcell hB).1 _ _ hb0).trans c02⟩
        clear c00 c01 c02
        by_cases hq1 : q < k
        · have hcq : (c = q) = False := eq_false (by omega)
          have hy := List.getElem?_eq_getElem (show q < ys.length by omega)
          generalize ys[q] = y at hy
          have d0 := own_at encMk_len hown hy (j := 0) rfl
          have d1 := own_at encMk_len hown hy (j := 1) rfl
          rw [Nat.add_zero] at d0
          have hq2 : (q : Int) < (k : Int) := by omega
          have hsm := hsam.out y (List.mem_of_getElem? hy)
          unfold sameK at hsm
          clear hy
          obtain ⟨c0, c1, c2⟩ := HC.out _ hB
          have hb := Nat.lt_of_lt_of_le hb0 hB.size
          cases h2 : (y.name.toList == m.name.toList)
          · clear hsm
            go_upto_region 8 with (fail)
            go_wp2_with fail
            go_quiet (fail)
            have hz : Below wc.heap.size wc (wc.drewN nq) := drewB (Below.refl _ _) nq
            generalize wc.drewN nq = W8 at hz ⊢
            replace hown := own_below hown hz
            replace hB := stepB hB hz hB.size
            clear c0 c1 c2 d0 d1 h2 hz hq2
            go_upto_region 10 with (fail)
            have hqc : (q : Int) ≤ (c : Int) := by omega
            have hqk : (q : Int) ≤ (k : Int) := by omega
            refine MAny.region (S := fun w' => w'.cell? ⟨b, off + k * 3, none⟩ = some (.string m.name) ∧ w'.cell? ⟨b, off + k * 3 + 1, none⟩ = some (.int .i64 m.fr) ∧ w'.cell? ⟨b, off + k * 3 + 2, none⟩ = some (.int .i64 m.to)) (last := 15) (by kernel_rfl) ?_
            have hz : Below W8.heap.size W8 W8.drew := (Below.refl _ W8).drew
            replace hown := own_below hown hz
            replace hB := stepB hB hz hB.size
            clear hz
            generalize W8.drew = W0 at hown hB ⊢
            have hHeld := HC.out _ hB
            refine MAny.take (i := 1) (v := ?_) rfl (by kernel_rfl) (by kernel_rfl) (by kernel_rfl) (fun _ _ _ h => h) (by kernel_rfl) (Or.inl ⟨by rfl, ?_⟩) (by assumption) ?_
            rotate_left
            · (intro w' hSw; (try dsimp only at hSw); go_simp; try (with_reducible rfl))
            try simp only [Act.put, List.setIfInBounds_toArray]
            refine MAny.take (i := 2) (v := ?_) rfl (by kernel_rfl) (by kernel_rfl) (by kernel_rfl) (fun _ _ _ h => h) (by kernel_rfl) (Or.inl ⟨by rfl, ?_⟩) (by assumption) ?_
            rotate_left
            · (intro w' hSw; (try dsimp only at hSw); go_simp; try (with_reducible rfl))
            try simp only [Act.put]
            refine MAny.take (i := 3) (v := ?_) rfl (by kernel_rfl) (by kernel_rfl) (by kernel_rfl) (fun _ _ _ h => h) (by kernel_rfl) (Or.inl ⟨by rfl, ?_⟩) (by assumption) ?_
            rotate_left
            · (intro w' hSw; (try dsimp only at hSw); go_simp; try (with_reducible rfl))
            try simp only [Act.put]
            refine MAny.take (i := 5) (v := ?_) rfl (by kernel_rfl) (by kernel_rfl) (by kernel_rfl) (fun _ _ _ h => h) (by kernel_rfl) (Or.inl ⟨by rfl, ?_⟩) (by assumption) ?_
            rotate_left
            · (intro w' hSw; (try dsimp only at hSw); go_simp; try (with_reducible rfl))
            try simp only [Act.put]
            refine MAny.take (i := 6) (v := ?_) rfl (by kernel_rfl) (by kernel_rfl) (by kernel_rfl) (fun _ _ _ h => h) (by kernel_rfl) (Or.inl ⟨by rfl, ?_⟩) (by assumption) ?_
            rotate_left
            · (intro w' hSw; (try dsimp only at hSw); go_simp; try (with_reducible rfl))
            try simp only [Act.put]
            refine MAny.take (i := 7) (v := ?_) rfl (by kernel_rfl) (by kernel_rfl) (by kernel_rfl) (fun _ _ _ h => h) (by kernel_rfl) (Or.inl ⟨by rfl, ?_⟩) (by assumption) ?_
            rotate_left
            · (intro w' hSw; (try dsimp only at hSw); go_simp; try (with_reducible rfl))
            try simp only [Act.put]
            refine MAny.take (i := 8) (v := ?_) rfl (by kernel_rfl) (by kernel_rfl) (by kernel_rfl) (fun _ _ _ h => h) (by kernel_rfl) (Or.inl ⟨by rfl, ?_⟩) (by assumption) ?_
            rotate_left
            · (intro w' hSw; (try dsimp only at hSw); go_simp; try (with_reducible rfl))
            try simp only [Act.put]
            refine MAny.take (i := 11) (v := ?_) rfl (by kernel_rfl) (by kernel_rfl) (by kernel_rfl) (fun _ _ _ h => h) (by kernel_rfl) (Or.inl ⟨by rfl, ?_⟩) (by assumption) ?_
            rotate_left
            · (intro w' hSw; (try dsimp only at hSw); go_simp; try (with_reducible rfl))
            try simp only [Act.put]
            refine MAny.take (i := 12) (v := ?_) rfl (by kernel_rfl) (by kernel_rfl) (by kernel_rfl) (fun _ _ _ h => h) (by kernel_rfl) (Or.inl ⟨by rfl, ?_⟩) (by assumption) ?_
            rotate_left
            · (intro w' hSw; (try dsimp only at hSw); go_simp; try (with_reducible rfl))
            try simp only [Act.put]
            refine MAny.take (i := 13) (v := ?_) rfl (by kernel_rfl) (by kernel_rfl) (by kernel_rfl) (fun _ _ _ h => h) (by kernel_rfl) (Or.inl ⟨by rfl, ?_⟩) (by assumption) ?_
            rotate_left
            · (intro w' hSw; (try dsimp only at hSw); go_simp; try (with_reducible rfl))
            try simp only [Act.put]
            refine MAny.ready (rs := [0, 9]) (by kernel_rfl) (by simp) ?_
            refine MReady.cons rfl (fun K hK => ?_) (MReady.cons rfl (fun K hK => ?_) MReady.nil)
            · go_simp
              have ow := World.ownsRow_made W0 #[] 0 hB.size (by decide) rfl (e := 80) (size := 3)
              have hz : Below W0.heap.size W0 (W0.alloc (.cells #[] 80)) := (Below.refl _ _).alloc (Nat.le_refl _) _
              have hne : W0.heap.size ≠ g := Nat.ne_of_gt (own_lt hown).2
              replace hown := own_below hown hz
              replace hB := stepB hB hz hB.size
              clear hz
              generalize W0.alloc (.cells #[] 80) = Wa at ow hB hown ⊢
              generalize W0.heap.size = og at ow hne ⊢
              have hHeld := HC.out _ hB
              refine hK.out _ _ (.inr hHeld) ?_
              clear hK K
              refine MAny.ready (rs := [4, 9]) (by kernel_rfl) (by simp) ?_
              refine MReady.cons rfl (fun K hK => ?_) (MReady.cons rfl (fun K hK => ?_) MReady.nil)
              · refine step_append_any _ (by rfl) (.tmp 103) (.tmp 106) 48 (by rfl) w.heap.size 80 i0 (.agg #[.string ⟨#[]⟩, .int .i64 0, .int .i64 0]) 3 32 Tryd.underlying48 hi hz0 hz1 hz2 rfl (by decide) _ _ 0 ([]) (by rfl) ow ⟨g, 0, none⟩ q c ((ys.take q).flatMap encMk) (by rfl) (by rw [length_flatMap_enc encMk 3 encMk_len, List.length_take, Nat.min_eq_left (by omega)]) (own_take encMk_len hown q) (mk_one (ys.take q)) (by unfold maxLen; omega) (by omega) hB.size ?_
                intro og oc Wb ow2 hgr hor
                have gl := (own_lt hown).2
                replace hown := own_keep9 hown hgr (Ne.symm hne)
                replace hne : og ≠ g := by rcases hor with e | e <;> omega
                replace hB := hB.grown hgr hB.size (fun g e => by cases e; exact (own_lt ow).1)
                clear gl hor hgr
                replace ow := ow2
                clear ow2
                try simp only [Act.put, List.setIfInBounds_toArray]
                simp only [Nat.zero_add, List.nil_append] at ow ⊢
                have hHeld := HC.out _ hB
                refine hK.out _ _ (.inr hHeld) ?_
                clear hK K
                refine MAny.ready (rs := [9]) (by kernel_rfl) (by simp) ?_
                refine MReady.cons rfl (fun K hK => ?_) MReady.nil
                go_simp
                have xb := Box.new Wb 80 [.string m.name, .int .i64 m.fr, .int .i64 m.to] w.heap.size hB.size (by simp)
                have hz : Below Wb.heap.size Wb (Wb.alloc (.cells #[.string m.name, .int .i64 m.fr, .int .i64 m.to] 80)) := (Below.refl _ _).alloc (Nat.le_refl _) _
                have hxe : Wb.heap.size ≠ og := Nat.ne_of_gt (own_lt ow).2
                replace ow := own_below ow hz
                replace hown := own_below hown hz
                replace hB := stepB hB hz hB.size
                clear hz
                change Box _ (Wb.alloc (.cells #[.string m.name, .int .i64 m.fr, .int .i64 m.to] 80)) _ _ _ at xb
                generalize Wb.alloc (.cells #[.string m.name, .int .i64 m.fr, .int .i64 m.to] 80) = Wc at xb hB hown ow ⊢
                generalize Wb.heap.size = xg at xb hxe ⊢
                have hHeld := HC.out _ hB
                refine hK.out _ _ (.inr hHeld) ?_
                clear hK K
                refine MAny.ready (rs := [10]) (by kernel_rfl) (by simp) ?_
                refine MReady.cons rfl (fun K hK => ?_) MReady.nil
                refine step_append_any _ (by rfl) (.tmp 107) (.tmp 112) 48 (by rfl) w.heap.size 80 i0 (.agg #[.string ⟨#[]⟩, .int .i64 0, .int .i64 0]) 3 32 Tryd.underlying48 hi hz0 hz1 hz2 rfl (by decide) _ _ q ((ys.take q).flatMap encMk) (by rfl) ow ⟨xg, 0, none⟩ 1 1 (encMk m) (by rfl) rfl (Box.news xb) (mk_one1 m) (by unfold maxLen; omega) (by omega) hB.size ?_
                intro og oc Wcb ow2 hgr hor
                have xl := (own_lt xb).2
                replace xb := Box.keep xb hgr hxe
                replace hxe : xg ≠ og := by rcases hor with e | e <;> omega
                clear xl
                have gl := (own_lt hown).2
                replace hown := own_keep9 hown hgr (Ne.symm hne)
                replace hne : og ≠ g := by rcases hor with e | e <;> omega
                replace hB := hB.grown hgr hB.size (fun g e => by cases e; exact (own_lt ow).1)
                clear gl hor hgr
                replace ow := ow2
                clear ow2
                try simp only [Act.put, List.setIfInBounds_toArray]
                have hHeld := HC.out _ hB
                refine hK.out _ _ (.inr hHeld) ?_
                clear hK K
                refine MAny.ready (rs := [14]) (by kernel_rfl) (by simp) ?_
                refine MReady.cons rfl (fun K hK => ?_) MReady.nil
                first
                  | refine step_append_any _ (by rfl) (.tmp 113) (.tmp 116) 48 (by rfl) w.heap.size 80 i0 (.agg #[.string ⟨#[]⟩, .int .i64 0, .int .i64 0]) 3 32 Tryd.underlying48 hi hz0 hz1 hz2 rfl (by decide) _ _ (q + 1) ((ys.take q).flatMap encMk ++ encMk m) (by rfl) ow ⟨g, q * 3, none⟩ (k - q) (c - q) ((ys.drop q).flatMap encMk) (by rfl) (by rw [length_flatMap_enc encMk 3 encMk_len, List.length_drop, hyl]) (own_drop encMk_len hown (by omega)) (mk_one (ys.drop q)) (by unfold maxLen; omega) (by omega) hB.size ?_
                  | refine step_append_any _ (by rfl) (.tmp 113) (.tmp 116) 48 (by rfl) w.heap.size 80 i0 (.agg #[.string ⟨#[]⟩, .int .i64 0, .int .i64 0]) 3 32 Tryd.underlying48 hi hz0 hz1 hz2 rfl (by decide) _ _ (q + 1) ((ys.take q).flatMap encMk ++ encMk m) (by rfl) ow ⟨g, 0, none⟩ 0 0 ([]) (by rfl) rfl (fun j u hu => by cases hu) (fun u hu => by cases hu) (by unfold maxLen; omega) (by omega) hB.size ?_
                intro og oc Wcc ow2 hgr hor
                have xl := (own_lt xb).2
                replace xb := Box.keep xb hgr hxe
                replace hxe : xg ≠ og := by rcases hor with e | e <;> omega
                clear xl
                have gl := (own_lt hown).2
                replace hown := own_keep9 hown hgr (Ne.symm hne)
                replace hne : og ≠ g := by rcases hor with e | e <;> omega
                replace hB := hB.grown hgr hB.size (fun g e => by cases e; exact (own_lt ow).1)
                clear gl hor hgr
                replace ow := ow2
                clear ow2
                try simp only [Act.put]
                first
                  | (have hen : q + 1 + (k - q) = k + 1 := by omega
                     have hcnt : (ys.take q).flatMap encMk ++ encMk m ++ (ys.drop q).flatMap encMk = (insM m ys).flatMap encMk := by rw [hins.out]; simp
                     rw [hen, hcnt] at ow
                     simp only [hen]
                     clear hen hcnt)
                  | (have hen : q + 1 + 0 = k + 1 := by omega
                     have hcnt : (ys.take q).flatMap encMk ++ encMk m ++ [] = (insM m ys).flatMap encMk := by rw [hins.out, List.drop_eq_nil_of_le (by omega)]; simp
                     rw [hen, hcnt] at ow
                     simp only [hen]
                     clear hen hcnt)
                have hHeld := HC.out _ hB
                refine hK.out _ _ (.inr hHeld) ?_
                clear hK K
                refine MAny.ready (rs := [15]) (by kernel_rfl) (by simp) ?_
                refine MReady.cons rfl (fun K hK => ?_) MReady.nil
                go_simp
                refine hK.out _ _ (.inl rfl) ?_
                clear hK K
                refine MAny.done (by kernel_rfl) ?_ _
                try simp only [List.getElem_toArray, List.getElem_cons_succ, List.getElem_cons_zero]
                go_wp2
                go_roundw
                case rel => exact ⟨k + 1, og, oc, insM m ys, by omega, by go_num, rfl, ow, hB, by unfold Hid; rw [hst.out, hM.out], by rw [insM_len, hyl]⟩
                case measure => simp [intOf]; omega
              · go_simp
                have xb := Box.new Wa 80 [.string m.name, .int .i64 m.fr, .int .i64 m.to] w.heap.size hB.size (by simp)
                have hz : Below Wa.heap.size Wa (Wa.alloc (.cells #[.string m.name, .int .i64 m.fr, .int .i64 m.to] 80)) := (Below.refl _ _).alloc (Nat.le_refl _) _
                have hxe : Wa.heap.size ≠ og := Nat.ne_of_gt (own_lt ow).2
                replace ow := own_below ow hz
                replace hown := own_below hown hz
                replace hB := stepB hB hz hB.size
                clear hz
                change Box _ (Wa.alloc (.cells #[.string m.name, .int .i64 m.fr, .int .i64 m.to] 80)) _ _ _ at xb
                generalize Wa.alloc (.cells #[.string m.name, .int .i64 m.fr, .int .i64 m.to] 80) = Wb at xb hB hown ow ⊢
                generalize Wa.heap.size = xg at xb hxe ⊢
                have hHeld := HC.out _ hB
                refine hK.out _ _ (.inr hHeld) ?_
                clear hK K
                refine MAny.ready (rs := [4]) (by kernel_rfl) (by simp) ?_
                refine MReady.cons rfl (fun K hK => ?_) MReady.nil
                refine step_append_any _ (by rfl) (.tmp 103) (.tmp 106) 48 (by rfl) w.heap.size 80 i0 (.agg #[.string ⟨#[]⟩, .int .i64 0, .int .i64 0]) 3 32 Tryd.underlying48 hi hz0 hz1 hz2 rfl (by decide) _ _ 0 ([]) (by rfl) ow ⟨g, 0, none⟩ q c ((ys.take q).flatMap encMk) (by rfl) (by rw [length_flatMap_enc encMk 3 encMk_len, List.length_take, Nat.min_eq_left (by omega)]) (own_take encMk_len hown q) (mk_one (ys.take q)) (by unfold maxLen; omega) (by omega) hB.size ?_
                intro og oc Wc ow2 hgr hor
                have xl := (own_lt xb).2
                replace xb := Box.keep xb hgr hxe
                replace hxe : xg ≠ og := by rcases hor with e | e <;> omega
                clear xl
                have gl := (own_lt hown).2
                replace hown := own_keep9 hown hgr (Ne.symm hne)
                replace hne : og ≠ g := by rcases hor with e | e <;> omega
                replace hB := hB.grown hgr hB.size (fun g e => by cases e; exact (own_lt ow).1)
                clear gl hor hgr
                replace ow := ow2
                clear ow2
                try simp only [Act.put, List.setIfInBounds_toArray]
                simp only [Nat.zero_add, List.nil_append] at ow ⊢
                have hHeld := HC.out _ hB
                refine hK.out _ _ (.inr hHeld) ?_
                clear hK K
                refine MAny.ready (rs := [10]) (by kernel_rfl) (by simp) ?_
                refine MReady.cons rfl (fun K hK => ?_) MReady.nil
                refine step_append_any _ (by rfl) (.tmp 107) (.tmp 112) 48 (by rfl) w.heap.size 80 i0 (.agg #[.string ⟨#[]⟩, .int .i64 0, .int .i64 0]) 3 32 Tryd.underlying48 hi hz0 hz1 hz2 rfl (by decide) _ _ q ((ys.take q).flatMap encMk) (by rfl) ow ⟨xg, 0, none⟩ 1 1 (encMk m) (by rfl) rfl (Box.news xb) (mk_one1 m) (by unfold maxLen; omega) (by omega) hB.size ?_
                intro og oc Wcb ow2 hgr hor
                have xl := (own_lt xb).2
                replace xb := Box.keep xb hgr hxe
                replace hxe : xg ≠ og := by rcases hor with e | e <;> omega
                clear xl
                have gl := (own_lt hown).2
                replace hown := own_keep9 hown hgr (Ne.symm hne)
                replace hne : og ≠ g := by rcases hor with e | e <;> omega
                replace hB := hB.grown hgr hB.size (fun g e => by cases e; exact (own_lt ow).1)
                clear gl hor hgr
                replace ow := ow2
                clear ow2
                try simp only [Act.put]
                have hHeld := HC.out _ hB
                refine hK.out _ _ (.inr hHeld) ?_
                clear hK K
                refine MAny.ready (rs := [14]) (by kernel_rfl) (by simp) ?_
                refine MReady.cons rfl (fun K hK => ?_) MReady.nil
                first
                  | refine step_append_any _ (by rfl) (.tmp 113) (.tmp 116) 48 (by rfl) w.heap.size 80 i0 (.agg #[.string ⟨#[]⟩, .int .i64 0, .int .i64 0]) 3 32 Tryd.underlying48 hi hz0 hz1 hz2 rfl (by decide) _ _ (q + 1) ((ys.take q).flatMap encMk ++ encMk m) (by rfl) ow ⟨g, q * 3, none⟩ (k - q) (c - q) ((ys.drop q).flatMap encMk) (by rfl) (by rw [length_flatMap_enc encMk 3 encMk_len, List.length_drop, hyl]) (own_drop encMk_len hown (by omega)) (mk_one (ys.drop q)) (by unfold maxLen; omega) (by omega) hB.size ?_
                  | refine step_append_any _ (by rfl) (.tmp 113) (.tmp 116) 48 (by rfl) w.heap.size 80 i0 (.agg #[.string ⟨#[]⟩, .int .i64 0, .int .i64 0]) 3 32 Tryd.underlying48 hi hz0 hz1 hz2 rfl (by decide) _ _ (q + 1) ((ys.take q).flatMap encMk ++ encMk m) (by rfl) ow ⟨g, 0, none⟩ 0 0 ([]) (by rfl) rfl (fun j u hu => by cases hu) (fun u hu => by cases hu) (by unfold maxLen; omega) (by omega) hB.size ?_
                intro og oc Wcc ow2 hgr hor
                have xl := (own_lt xb).2
                replace xb := Box.keep xb hgr hxe
                replace hxe : xg ≠ og := by rcases hor with e | e <;> omega
                clear xl
                have gl := (own_lt hown).2
                replace hown := own_keep9 hown hgr (Ne.symm hne)
                replace hne : og ≠ g := by rcases hor with e | e <;> omega
                replace hB := hB.grown hgr hB.size (fun g e => by cases e; exact (own_lt ow).1)
                clear gl hor hgr
                replace ow := ow2
                clear ow2
                try simp only [Act.put]
                first
                  | (have hen : q + 1 + (k - q) = k + 1 := by omega
                     have hcnt : (ys.take q).flatMap encMk ++ encMk m ++ (ys.drop q).flatMap encMk = (insM m ys).flatMap encMk := by rw [hins.out]; simp
                     rw [hen, hcnt] at ow
                     simp only [hen]
                     clear hen hcnt)
                  | (have hen : q + 1 + 0 = k + 1 := by omega
                     have hcnt : (ys.take q).flatMap encMk ++ encMk m ++ [] = (insM m ys).flatMap encMk := by rw [hins.out, List.drop_eq_nil_of_le (by omega)]; simp
                     rw [hen, hcnt] at ow
                     simp only [hen]
                     clear hen hcnt)
                have hHeld := HC.out _ hB
                refine hK.out _ _ (.inr hHeld) ?_
                clear hK K
                refine MAny.ready (rs := [15]) (by kernel_rfl) (by simp) ?_
                refine MReady.cons rfl (fun K hK => ?_) MReady.nil
                go_simp
                refine hK.out _ _ (.inl rfl) ?_
                clear hK K
                refine MAny.done (by kernel_rfl) ?_ _
                try simp only [List.getElem_toArray, List.getElem_cons_succ, List.getElem_cons_zero]
                go_wp2
                go_roundw
                case rel => exact ⟨k + 1, og, oc, insM m ys, by omega, by go_num, rfl, ow, hB, by unfold Hid; rw [hst.out, hM.out], by rw [insM_len, hyl]⟩
                case measure => simp [intOf]; omega
            · go_simp
              have xb := Box.new W0 80 [.string m.name, .int .i64 m.fr, .int .i64 m.to] w.heap.size hB.size (by simp)
              have hz : Below W0.heap.size W0 (W0.alloc (.cells #[.string m.name, .int .i64 m.fr, .int .i64 m.to] 80)) := (Below.refl _ _).alloc (Nat.le_refl _) _
              replace hown := own_below hown hz
              replace hB := stepB hB hz hB.size
              clear hz
              change Box _ (W0.alloc (.cells #[.string m.name, .int .i64 m.fr, .int .i64 m.to] 80)) _ _ _ at xb
              generalize W0.alloc (.cells #[.string m.name, .int .i64 m.fr, .int .i64 m.to] 80) = Wa at xb hB hown ⊢
              generalize W0.heap.size = xg at xb ⊢
              have hHeld := HC.out _ hB
              refine hK.out _ _ (.inr hHeld) ?_
              clear hK K
              refine MAny.ready (rs := [0]) (by kernel_rfl) (by simp) ?_
              refine MReady.cons rfl (fun K hK => ?_) MReady.nil
              go_simp
              have ow := World.ownsRow_made Wa #[] 0 hB.size (by decide) rfl (e := 80) (size := 3)
              have hz : Below Wa.heap.size Wa (Wa.alloc (.cells #[] 80)) := (Below.refl _ _).alloc (Nat.le_refl _) _
              have hne : Wa.heap.size ≠ g := Nat.ne_of_gt (own_lt hown).2
              have hxe : xg ≠ Wa.heap.size := Nat.ne_of_lt (own_lt xb).2
              replace xb := Box.below xb hz
              replace hown := own_below hown hz
              replace hB := stepB hB hz hB.size
              clear hz
              generalize Wa.alloc (.cells #[] 80) = Wb at ow hB hown xb ⊢
              generalize Wa.heap.size = og at ow hne hxe ⊢
              have hHeld := HC.out _ hB
              refine hK.out _ _ (.inr hHeld) ?_
              clear hK K
              refine MAny.ready (rs := [4]) (by kernel_rfl) (by simp) ?_
              refine MReady.cons rfl (fun K hK => ?_) MReady.nil
              refine step_append_any _ (by rfl) (.tmp 103) (.tmp 106) 48 (by rfl) w.heap.size 80 i0 (.agg #[.string ⟨#[]⟩, .int .i64 0, .int .i64 0]) 3 32 Tryd.underlying48 hi hz0 hz1 hz2 rfl (by decide) _ _ 0 ([]) (by rfl) ow ⟨g, 0, none⟩ q c ((ys.take q).flatMap encMk) (by rfl) (by rw [length_flatMap_enc encMk 3 encMk_len, List.length_take, Nat.min_eq_left (by omega)]) (own_take encMk_len hown q) (mk_one (ys.take q)) (by unfold maxLen; omega) (by omega) hB.size ?_
              intro og oc Wc ow2 hgr hor
              have xl := (own_lt xb).2
              replace xb := Box.keep xb hgr hxe
              replace hxe : xg ≠ og := by rcases hor with e | e <;> omega
              clear xl
              have gl := (own_lt hown).2
              replace hown := own_keep9 hown hgr (Ne.symm hne)
              replace hne : og ≠ g := by rcases hor with e | e <;> omega
              replace hB := hB.grown hgr hB.size (fun g e => by cases e; exact (own_lt ow).1)
              clear gl hor hgr
              replace ow := ow2
              clear ow2
              try simp only [Act.put, List.setIfInBounds_toArray]
              simp only [Nat.zero_add, List.nil_append] at ow ⊢
              have hHeld := HC.out _ hB
              refine hK.out _ _ (.inr hHeld) ?_
              clear hK K
              refine MAny.ready (rs := [10]) (by kernel_rfl) (by simp) ?_
              refine MReady.cons rfl (fun K hK => ?_) MReady.nil
              refine step_append_any _ (by rfl) (.tmp 107) (.tmp 112) 48 (by rfl) w.heap.size 80 i0 (.agg #[.string ⟨#[]⟩, .int .i64 0, .int .i64 0]) 3 32 Tryd.underlying48 hi hz0 hz1 hz2 rfl (by decide) _ _ q ((ys.take q).flatMap encMk) (by rfl) ow ⟨xg, 0, none⟩ 1 1 (encMk m) (by rfl) rfl (Box.news xb) (mk_one1 m) (by unfold maxLen; omega) (by omega) hB.size ?_
              intro og oc Wcb ow2 hgr hor
              have xl := (own_lt xb).2
              replace xb := Box.keep xb hgr hxe
              replace hxe : xg ≠ og := by rcases hor with e | e <;> omega
              clear xl
              have gl := (own_lt hown).2
              replace hown := own_keep9 hown hgr (Ne.symm hne)
              replace hne : og ≠ g := by rcases hor with e | e <;> omega
              replace hB := hB.grown hgr hB.size (fun g e => by cases e; exact (own_lt ow).1)
              clear gl hor hgr
              replace ow := ow2
              clear ow2
              try simp only [Act.put]
              have hHeld := HC.out _ hB
              refine hK.out _ _ (.inr hHeld) ?_
              clear hK K
              refine MAny.ready (rs := [14]) (by kernel_rfl) (by simp) ?_
              refine MReady.cons rfl (fun K hK => ?_) MReady.nil
              first
                | refine step_append_any _ (by rfl) (.tmp 113) (.tmp 116) 48 (by rfl) w.heap.size 80 i0 (.agg #[.string ⟨#[]⟩, .int .i64 0, .int .i64 0]) 3 32 Tryd.underlying48 hi hz0 hz1 hz2 rfl (by decide) _ _ (q + 1) ((ys.take q).flatMap encMk ++ encMk m) (by rfl) ow ⟨g, q * 3, none⟩ (k - q) (c - q) ((ys.drop q).flatMap encMk) (by rfl) (by rw [length_flatMap_enc encMk 3 encMk_len, List.length_drop, hyl]) (own_drop encMk_len hown (by omega)) (mk_one (ys.drop q)) (by unfold maxLen; omega) (by omega) hB.size ?_
                | refine step_append_any _ (by rfl) (.tmp 113) (.tmp 116) 48 (by rfl) w.heap.size 80 i0 (.agg #[.string ⟨#[]⟩, .int .i64 0, .int .i64 0]) 3 32 Tryd.underlying48 hi hz0 hz1 hz2 rfl (by decide) _ _ (q + 1) ((ys.take q).flatMap encMk ++ encMk m) (by rfl) ow ⟨g, 0, none⟩ 0 0 ([]) (by rfl) rfl (fun j u hu => by cases hu) (fun u hu => by cases hu) (by unfold maxLen; omega) (by omega) hB.size ?_
              intro og oc Wcc ow2 hgr hor
              have xl := (own_lt xb).2
              replace xb := Box.keep xb hgr hxe
              replace hxe : xg ≠ og := by rcases hor with e | e <;> omega
              clear xl
              have gl := (own_lt hown).2
              replace hown := own_keep9 hown hgr (Ne.symm hne)
              replace hne : og ≠ g := by rcases hor with e | e <;> omega
              replace hB := hB.grown hgr hB.size (fun g e => by cases e; exact (own_lt ow).1)
              clear gl hor hgr
              replace ow := ow2
              clear ow2
              try simp only [Act.put]
              first
                | (have hen : q + 1 + (k - q) = k + 1 := by omega
                   have hcnt : (ys.take q).flatMap encMk ++ encMk m ++ (ys.drop q).flatMap encMk = (insM m ys).flatMap encMk := by rw [hins.out]; simp
                   rw [hen, hcnt] at ow
                   simp only [hen]
                   clear hen hcnt)
                | (have hen : q + 1 + 0 = k + 1 := by omega
                   have hcnt : (ys.take q).flatMap encMk ++ encMk m ++ [] = (insM m ys).flatMap encMk := by rw [hins.out, List.drop_eq_nil_of_le (by omega)]; simp
                   rw [hen, hcnt] at ow
                   simp only [hen]
                   clear hen hcnt)
              have hHeld := HC.out _ hB
              refine hK.out _ _ (.inr hHeld) ?_
              clear hK K
              refine MAny.ready (rs := [15]) (by kernel_rfl) (by simp) ?_
              refine MReady.cons rfl (fun K hK => ?_) MReady.nil
              go_simp
              refine hK.out _ _ (.inl rfl) ?_
              clear hK K
              refine MAny.done (by kernel_rfl) ?_ _
              try simp only [List.getElem_toArray, List.getElem_cons_succ, List.getElem_cons_zero]
              go_wp2
              go_roundw
              case rel => exact ⟨k + 1, og, oc, insM m ys, by omega, by go_num, rfl, ow, hB, by unfold Hid; rw [hst.out, hM.out], by rw [insM_len, hyl]⟩
              case measure => simp [intOf]; omega
          · have hfr : (y.fr == m.fr) = false := by rw [h2] at hsm; simpa using hsm
            clear hsm
            go_upto_region 8 with (fail)
            go_wp2_with fail
            go_quiet (fail)
            have hz : Below wc.heap.size wc (wc.drewN nq) := drewB (Below.refl _ _) nq
            generalize wc.drewN nq = W8 at hz ⊢
            replace hown := own_below hown hz
            replace hB := stepB hB hz hB.size
            clear c0 c1 c2 d0 d1 h2 hz hq2 hfr
            go_upto_region 10 with (fail)
            have hqc : (q : Int) ≤ (c : Int) := by omega
            have hqk : (q : Int) ≤ (k : Int) := by omega
            refine MAny.region (S := fun w' => w'.cell? ⟨b, off + k * 3, none⟩ = some (.string m.name) ∧ w'.cell? ⟨b, off + k * 3 + 1, none⟩ = some (.int .i64 m.fr) ∧ w'.cell? ⟨b, off + k * 3 + 2, none⟩ = some (.int .i64 m.to)) (last := 15) (by kernel_rfl) ?_
            have hz : Below W8.heap.size W8 W8.drew := (Below.refl _ W8).drew
            replace hown := own_below hown hz
            replace hB := stepB hB hz hB.size
            clear hz
            generalize W8.drew = W0 at hown hB ⊢
            have hHeld := HC.out _ hB
            refine MAny.take (i := 1) (v := ?_) rfl (by kernel_rfl) (by kernel_rfl) (by kernel_rfl) (fun _ _ _ h => h) (by kernel_rfl) (Or.inl ⟨by rfl, ?_⟩) (by assumption) ?_
            rotate_left
            · (intro w' hSw; (try dsimp only at hSw); go_simp; try (with_reducible rfl))
            try simp only [Act.put, List.setIfInBounds_toArray]
            refine MAny.take (i := 2) (v := ?_) rfl (by kernel_rfl) (by kernel_rfl) (by kernel_rfl) (fun _ _ _ h => h) (by kernel_rfl) (Or.inl ⟨by rfl, ?_⟩) (by assumption) ?_
            rotate_left
            · (intro w' hSw; (try dsimp only at hSw); go_simp; try (with_reducible rfl))
            try simp only [Act.put]
            refine MAny.take (i := 3) (v := ?_) rfl (by kernel_rfl) (by kernel_rfl) (by kernel_rfl) (fun _ _ _ h => h) (by kernel_rfl) (Or.inl ⟨by rfl, ?_⟩) (by assumption) ?_
            rotate_left
            · (intro w' hSw; (try dsimp only at hSw); go_simp; try (with_reducible rfl))
            try simp only [Act.put]
            refine MAny.take (i := 5) (v := ?_) rfl (by kernel_rfl) (by kernel_rfl) (by kernel_rfl) (fun _ _ _ h => h) (by kernel_rfl) (Or.inl ⟨by rfl, ?_⟩) (by assumption) ?_
            rotate_left
            · (intro w' hSw; (try dsimp only at hSw); go_simp; try (with_reducible rfl))
            try simp only [Act.put]
            refine MAny.take (i := 6) (v := ?_) rfl (by kernel_rfl) (by kernel_rfl) (by kernel_rfl) (fun _ _ _ h => h) (by kernel_rfl) (Or.inl ⟨by rfl, ?_⟩) (by assumption) ?_
            rotate_left
            · (intro w' hSw; (try dsimp only at hSw); go_simp; try (with_reducible rfl))
            try simp only [Act.put]
            refine MAny.take (i := 7) (v := ?_) rfl (by kernel_rfl) (by kernel_rfl) (by kernel_rfl) (fun _ _ _ h => h) (by kernel_rfl) (Or.inl ⟨by rfl, ?_⟩) (by assumption) ?_
            rotate_left
            · (intro w' hSw; (try dsimp only at hSw); go_simp; try (with_reducible rfl))
            try simp only [Act.put]
            refine MAny.take (i := 8) (v := ?_) rfl (by kernel_rfl) (by kernel_rfl) (by kernel_rfl) (fun _ _ _ h => h) (by kernel_rfl) (Or.inl ⟨by rfl, ?_⟩) (by assumption) ?_
            rotate_left
            · (intro w' hSw; (try dsimp only at hSw); go_simp; try (with_reducible rfl))
            try simp only [Act.put]
            refine MAny.take (i := 11) (v := ?_) rfl (by kernel_rfl) (by kernel_rfl) (by kernel_rfl) (fun _ _ _ h => h) (by kernel_rfl) (Or.inl ⟨by rfl, ?_⟩) (by assumption) ?_
            rotate_left
            · (intro w' hSw; (try dsimp only at hSw); go_simp; try (with_reducible rfl))
            try simp only [Act.put]
            refine MAny.take (i := 12) (v := ?_) rfl (by kernel_rfl) (by kernel_rfl) (by kernel_rfl) (fun _ _ _ h => h) (by kernel_rfl) (Or.inl ⟨by rfl, ?_⟩) (by assumption) ?_
            rotate_left
            · (intro w' hSw; (try dsimp only at hSw); go_simp; try (with_reducible rfl))
            try simp only [Act.put]
            refine MAny.take (i := 13) (v := ?_) rfl (by kernel_rfl) (by kernel_rfl) (by kernel_rfl) (fun _ _ _ h => h) (by kernel_rfl) (Or.inl ⟨by rfl, ?_⟩) (by assumption) ?_
            rotate_left
            · (intro w' hSw; (try dsimp only at hSw); go_simp; try (with_reducible rfl))
            try simp only [Act.put]
            refine MAny.ready (rs := [0, 9]) (by kernel_rfl) (by simp) ?_
            refine MReady.cons rfl (fun K hK => ?_) (MReady.cons rfl (fun K hK => ?_) MReady.nil)
            · go_simp
              have ow := World.ownsRow_made W0 #[] 0 hB.size (by decide) rfl (e := 80) (size := 3)
              have hz : Below W0.heap.size W0 (W0.alloc (.cells #[] 80)) := (Below.refl _ _).alloc (Nat.le_refl _) _
              have hne : W0.heap.size ≠ g := Nat.ne_of_gt (own_lt hown).2
              replace hown := own_below hown hz
              replace hB := stepB hB hz hB.size
              clear hz
              generalize W0.alloc (.cells #[] 80) = Wa at ow hB hown ⊢
              generalize W0.heap.size = og at ow hne ⊢
              have hHeld := HC.out _ hB
              refine hK.out _ _ (.inr hHeld) ?_
              clear hK K
              refine MAny.ready (rs := [4, 9]) (by kernel_rfl) (by simp) ?_
              refine MReady.cons rfl (fun K hK => ?_) (MReady.cons rfl (fun K hK => ?_) MReady.nil)
              · refine step_append_any _ (by rfl) (.tmp 103) (.tmp 106) 48 (by rfl) w.heap.size 80 i0 (.agg #[.string ⟨#[]⟩, .int .i64 0, .int .i64 0]) 3 32 Tryd.underlying48 hi hz0 hz1 hz2 rfl (by decide) _ _ 0 ([]) (by rfl) ow ⟨g, 0, none⟩ q c ((ys.take q).flatMap encMk) (by rfl) (by rw [length_flatMap_enc encMk 3 encMk_len, List.length_take, Nat.min_eq_left (by omega)]) (own_take encMk_len hown q) (mk_one (ys.take q)) (by unfold maxLen; omega) (by omega) hB.size ?_
                intro og oc Wb ow2 hgr hor
                have gl := (own_lt hown).2
                replace hown := own_keep9 hown hgr (Ne.symm hne)
                replace hne : og ≠ g := by rcases hor with e | e <;> omega
                replace hB := hB.grown hgr hB.size (fun g e => by cases e; exact (own_lt ow).1)
                clear gl hor hgr
                replace ow := ow2
                clear ow2
                try simp only [Act.put, List.setIfInBounds_toArray]
                simp only [Nat.zero_add, List.nil_append] at ow ⊢
                have hHeld := HC.out _ hB
                refine hK.out _ _ (.inr hHeld) ?_
                clear hK K
                refine MAny.ready (rs := [9]) (by kernel_rfl) (by simp) ?_
                refine MReady.cons rfl (fun K hK => ?_) MReady.nil
                go_simp
                have xb := Box.new Wb 80 [.string m.name, .int .i64 m.fr, .int .i64 m.to] w.heap.size hB.size (by simp)
                have hz : Below Wb.heap.size Wb (Wb.alloc (.cells #[.string m.name, .int .i64 m.fr, .int .i64 m.to] 80)) := (Below.refl _ _).alloc (Nat.le_refl _) _
                have hxe : Wb.heap.size ≠ og := Nat.ne_of_gt (own_lt ow).2
                replace ow := own_below ow hz
                replace hown := own_below hown hz
                replace hB := stepB hB hz hB.size
                clear hz
                change Box _ (Wb.alloc (.cells #[.string m.name, .int .i64 m.fr, .int .i64 m.to] 80)) _ _ _ at xb
                generalize Wb.alloc (.cells #[.string m.name, .int .i64 m.fr, .int .i64 m.to] 80) = Wc at xb hB hown ow ⊢
                generalize Wb.heap.size = xg at xb hxe ⊢
                have hHeld := HC.out _ hB
                refine hK.out _ _ (.inr hHeld) ?_
                clear hK K
                refine MAny.ready (rs := [10]) (by kernel_rfl) (by simp) ?_
                refine MReady.cons rfl (fun K hK => ?_) MReady.nil
                refine step_append_any _ (by rfl) (.tmp 107) (.tmp 112) 48 (by rfl) w.heap.size 80 i0 (.agg #[.string ⟨#[]⟩, .int .i64 0, .int .i64 0]) 3 32 Tryd.underlying48 hi hz0 hz1 hz2 rfl (by decide) _ _ q ((ys.take q).flatMap encMk) (by rfl) ow ⟨xg, 0, none⟩ 1 1 (encMk m) (by rfl) rfl (Box.news xb) (mk_one1 m) (by unfold maxLen; omega) (by omega) hB.size ?_
                intro og oc Wcb ow2 hgr hor
                have xl := (own_lt xb).2
                replace xb := Box.keep xb hgr hxe
                replace hxe : xg ≠ og := by rcases hor with e | e <;> omega
                clear xl
                have gl := (own_lt hown).2
                replace hown := own_keep9 hown hgr (Ne.symm hne)
                replace hne : og ≠ g := by rcases hor with e | e <;> omega
                replace hB := hB.grown hgr hB.size (fun g e => by cases e; exact (own_lt ow).1)
                clear gl hor hgr
                replace ow := ow2
                clear ow2
                try simp only [Act.put, List.setIfInBounds_toArray]
                have hHeld := HC.out _ hB
                refine hK.out _ _ (.inr hHeld) ?_
                clear hK K
                refine MAny.ready (rs := [14]) (by kernel_rfl) (by simp) ?_
                refine MReady.cons rfl (fun K hK => ?_) MReady.nil
                first
                  | refine step_append_any _ (by rfl) (.tmp 113) (.tmp 116) 48 (by rfl) w.heap.size 80 i0 (.agg #[.string ⟨#[]⟩, .int .i64 0, .int .i64 0]) 3 32 Tryd.underlying48 hi hz0 hz1 hz2 rfl (by decide) _ _ (q + 1) ((ys.take q).flatMap encMk ++ encMk m) (by rfl) ow ⟨g, q * 3, none⟩ (k - q) (c - q) ((ys.drop q).flatMap encMk) (by rfl) (by rw [length_flatMap_enc encMk 3 encMk_len, List.length_drop, hyl]) (own_drop encMk_len hown (by omega)) (mk_one (ys.drop q)) (by unfold maxLen; omega) (by omega) hB.size ?_
                  | refine step_append_any _ (by rfl) (.tmp 113) (.tmp 116) 48 (by rfl) w.heap.size 80 i0 (.agg #[.string ⟨#[]⟩, .int .i64 0, .int .i64 0]) 3 32 Tryd.underlying48 hi hz0 hz1 hz2 rfl (by decide) _ _ (q + 1) ((ys.take q).flatMap encMk ++ encMk m) (by rfl) ow ⟨g, 0, none⟩ 0 0 ([]) (by rfl) rfl (fun j u hu => by cases hu) (fun u hu => by cases hu) (by unfold maxLen; omega) (by omega) hB.size ?_
                intro og oc Wcc ow2 hgr hor
                have xl := (own_lt xb).2
                replace xb := Box.keep xb hgr hxe
                replace hxe : xg ≠ og := by rcases hor with e | e <;> omega
                clear xl
                have gl := (own_lt hown).2
                replace hown := own_keep9 hown hgr (Ne.symm hne)
                replace hne : og ≠ g := by rcases hor with e | e <;> omega
                replace hB := hB.grown hgr hB.size (fun g e => by cases e; exact (own_lt ow).1)
                clear gl hor hgr
                replace ow := ow2
                clear ow2
                try simp only [Act.put]
                first
                  | (have hen : q + 1 + (k - q) = k + 1 := by omega
                     have hcnt : (ys.take q).flatMap encMk ++ encMk m ++ (ys.drop q).flatMap encMk = (insM m ys).flatMap encMk := by rw [hins.out]; simp
                     rw [hen, hcnt] at ow
                     simp only [hen]
                     clear hen hcnt)
                  | (have hen : q + 1 + 0 = k + 1 := by omega
                     have hcnt : (ys.take q).flatMap encMk ++ encMk m ++ [] = (insM m ys).flatMap encMk := by rw [hins.out, List.drop_eq_nil_of_le (by omega)]; simp
                     rw [hen, hcnt] at ow
                     simp only [hen]
                     clear hen hcnt)
                have hHeld := HC.out _ hB
                refine hK.out _ _ (.inr hHeld) ?_
                clear hK K
                refine MAny.ready (rs := [15]) (by kernel_rfl) (by simp) ?_
                refine MReady.cons rfl (fun K hK => ?_) MReady.nil
                go_simp
                refine hK.out _ _ (.inl rfl) ?_
                clear hK K
                refine MAny.done (by kernel_rfl) ?_ _
                try simp only [List.getElem_toArray, List.getElem_cons_succ, List.getElem_cons_zero]
                go_wp2
                go_roundw
                case rel => exact ⟨k + 1, og, oc, insM m ys, by omega, by go_num, rfl, ow, hB, by unfold Hid; rw [hst.out, hM.out], by rw [insM_len, hyl]⟩
                case measure => simp [intOf]; omega
              · go_simp
                have xb := Box.new Wa 80 [.string m.name, .int .i64 m.fr, .int .i64 m.to] w.heap.size hB.size (by simp)
                have hz : Below Wa.heap.size Wa (Wa.alloc (.cells #[.string m.name, .int .i64 m.fr, .int .i64 m.to] 80)) := (Below.refl _ _).alloc (Nat.le_refl _) _
                have hxe : Wa.heap.size ≠ og := Nat.ne_of_gt (own_lt ow).2
                replace ow := own_below ow hz
                replace hown := own_below hown hz
                replace hB := stepB hB hz hB.size
                clear hz
                change Box _ (Wa.alloc (.cells #[.string m.name, .int .i64 m.fr, .int .i64 m.to] 80)) _ _ _ at xb
                generalize Wa.alloc (.cells #[.string m.name, .int .i64 m.fr, .int .i64 m.to] 80) = Wb at xb hB hown ow ⊢
                generalize Wa.heap.size = xg at xb hxe ⊢
                have hHeld := HC.out _ hB
                refine hK.out _ _ (.inr hHeld) ?_
                clear hK K
                refine MAny.ready (rs := [4]) (by kernel_rfl) (by simp) ?_
                refine MReady.cons rfl (fun K hK => ?_) MReady.nil
                refine step_append_any _ (by rfl) (.tmp 103) (.tmp 106) 48 (by rfl) w.heap.size 80 i0 (.agg #[.string ⟨#[]⟩, .int .i64 0, .int .i64 0]) 3 32 Tryd.underlying48 hi hz0 hz1 hz2 rfl (by decide) _ _ 0 ([]) (by rfl) ow ⟨g, 0, none⟩ q c ((ys.take q).flatMap encMk) (by rfl) (by rw [length_flatMap_enc encMk 3 encMk_len, List.length_take, Nat.min_eq_left (by omega)]) (own_take encMk_len hown q) (mk_one (ys.take q)) (by unfold maxLen; omega) (by omega) hB.size ?_
                intro og oc Wc ow2 hgr hor
                have xl := (own_lt xb).2
                replace xb := Box.keep xb hgr hxe
                replace hxe : xg ≠ og := by rcases hor with e | e <;> omega
                clear xl
                have gl := (own_lt hown).2
                replace hown := own_keep9 hown hgr (Ne.symm hne)
                replace hne : og ≠ g := by rcases hor with e | e <;> omega
                replace hB := hB.grown hgr hB.size (fun g e => by cases e; exact (own_lt ow).1)
                clear gl hor hgr
                replace ow := ow2
                clear ow2
                try simp only [Act.put, List.setIfInBounds_toArray]
                simp only [Nat.zero_add, List.nil_append] at ow ⊢
                have hHeld := HC.out _ hB
                refine hK.out _ _ (.inr hHeld) ?_
                clear hK K
                refine MAny.ready (rs := [10]) (by kernel_rfl) (by simp) ?_
                refine MReady.cons rfl (fun K hK => ?_) MReady.nil
                refine step_append_any _ (by rfl) (.tmp 107) (.tmp 112) 48 (by rfl) w.heap.size 80 i0 (.agg #[.string ⟨#[]⟩, .int .i64 0, .int .i64 0]) 3 32 Tryd.underlying48 hi hz0 hz1 hz2 rfl (by decide) _ _ q ((ys.take q).flatMap encMk) (by rfl) ow ⟨xg, 0, none⟩ 1 1 (encMk m) (by rfl) rfl (Box.news xb) (mk_one1 m) (by unfold maxLen; omega) (by omega) hB.size ?_
                intro og oc Wcb ow2 hgr hor
                have xl := (own_lt xb).2
                replace xb := Box.keep xb hgr hxe
                replace hxe : xg ≠ og := by rcases hor with e | e <;> omega
                clear xl
                have gl := (own_lt hown).2
                replace hown := own_keep9 hown hgr (Ne.symm hne)
                replace hne : og ≠ g := by rcases hor with e | e <;> omega
                replace hB := hB.grown hgr hB.size (fun g e => by cases e; exact (own_lt ow).1)
                clear gl hor hgr
                replace ow := ow2
                clear ow2
                try simp only [Act.put]
                have hHeld := HC.out _ hB
                refine hK.out _ _ (.inr hHeld) ?_
                clear hK K
                refine MAny.ready (rs := [14]) (by kernel_rfl) (by simp) ?_
                refine MReady.cons rfl (fun K hK => ?_) MReady.nil
                first
                  | refine step_append_any _ (by rfl) (.tmp 113) (.tmp 116) 48 (by rfl) w.heap.size 80 i0 (.agg #[.string ⟨#[]⟩, .int .i64 0, .int .i64 0]) 3 32 Tryd.underlying48 hi hz0 hz1 hz2 rfl (by decide) _ _ (q + 1) ((ys.take q).flatMap encMk ++ encMk m) (by rfl) ow ⟨g, q * 3, none⟩ (k - q) (c - q) ((ys.drop q).flatMap encMk) (by rfl) (by rw [length_flatMap_enc encMk 3 encMk_len, List.length_drop, hyl]) (own_drop encMk_len hown (by omega)) (mk_one (ys.drop q)) (by unfold maxLen; omega) (by omega) hB.size ?_
                  | refine step_append_any _ (by rfl) (.tmp 113) (.tmp 116) 48 (by rfl) w.heap.size 80 i0 (.agg #[.string ⟨#[]⟩, .int .i64 0, .int .i64 0]) 3 32 Tryd.underlying48 hi hz0 hz1 hz2 rfl (by decide) _ _ (q + 1) ((ys.take q).flatMap encMk ++ encMk m) (by rfl) ow ⟨g, 0, none⟩ 0 0 ([]) (by rfl) rfl (fun j u hu => by cases hu) (fun u hu => by cases hu) (by unfold maxLen; omega) (by omega) hB.size ?_
                intro og oc Wcc ow2 hgr hor
                have xl := (own_lt xb).2
                replace xb := Box.keep xb hgr hxe
                replace hxe : xg ≠ og := by rcases hor with e | e <;> omega
                clear xl
                have gl := (own_lt hown).2
                replace hown := own_keep9 hown hgr (Ne.symm hne)
                replace hne : og ≠ g := by rcases hor with e | e <;> omega
                replace hB := hB.grown hgr hB.size (fun g e => by cases e; exact (own_lt ow).1)
                clear gl hor hgr
                replace ow := ow2
                clear ow2
                try simp only [Act.put]
                first
                  | (have hen : q + 1 + (k - q) = k + 1 := by omega
                     have hcnt : (ys.take q).flatMap encMk ++ encMk m ++ (ys.drop q).flatMap encMk = (insM m ys).flatMap encMk := by rw [hins.out]; simp
                     rw [hen, hcnt] at ow
                     simp only [hen]
                     clear hen hcnt)
                  | (have hen : q + 1 + 0 = k + 1 := by omega
                     have hcnt : (ys.take q).flatMap encMk ++ encMk m ++ [] = (insM m ys).flatMap encMk := by rw [hins.out, List.drop_eq_nil_of_le (by omega)]; simp
                     rw [hen, hcnt] at ow
                     simp only [hen]
                     clear hen hcnt)
                have hHeld := HC.out _ hB
                refine hK.out _ _ (.inr hHeld) ?_
                clear hK K
                refine MAny.ready (rs := [15]) (by kernel_rfl) (by simp) ?_
                refine MReady.cons rfl (fun K hK => ?_) MReady.nil
                go_simp
                refine hK.out _ _ (.inl rfl) ?_
                clear hK K
                refine MAny.done (by kernel_rfl) ?_ _
                try simp only [List.getElem_toArray, List.getElem_cons_succ, List.getElem_cons_zero]
                go_wp2
                go_roundw
                case rel => exact ⟨k + 1, og, oc, insM m ys, by omega, by go_num, rfl, ow, hB, by unfold Hid; rw [hst.out, hM.out], by rw [insM_len, hyl]⟩
                case measure => simp [intOf]; omega
            · go_simp
              have xb := Box.new W0 80 [.string m.name, .int .i64 m.fr, .int .i64 m.to] w.heap.size hB.size (by simp)
              have hz : Below W0.heap.size W0 (W0.alloc (.cells #[.string m.name, .int .i64 m.fr, .int .i64 m.to] 80)) := (Below.refl _ _).alloc (Nat.le_refl _) _
              replace hown := own_below hown hz
              replace hB := stepB hB hz hB.size
              clear hz
              change Box _ (W0.alloc (.cells #[.string m.name, .int .i64 m.fr, .int .i64 m.to] 80)) _ _ _ at xb
              generalize W0.alloc (.cells #[.string m.name, .int .i64 m.fr, .int .i64 m.to] 80) = Wa at xb hB hown ⊢
              generalize W0.heap.size = xg at xb ⊢
              have hHeld := HC.out _ hB
              refine hK.out _ _ (.inr hHeld) ?_
              clear hK K
              refine MAny.ready (rs := [0]) (by kernel_rfl) (by simp) ?_
              refine MReady.cons rfl (fun K hK => ?_) MReady.nil
              go_simp
              have ow := World.ownsRow_made Wa #[] 0 hB.size (by decide) rfl (e := 80) (size := 3)
              have hz : Below Wa.heap.size Wa (Wa.alloc (.cells #[] 80)) := (Below.refl _ _).alloc (Nat.le_refl _) _
              have hne : Wa.heap.size ≠ g := Nat.ne_of_gt (own_lt hown).2
              have hxe : xg ≠ Wa.heap.size := Nat.ne_of_lt (own_lt xb).2
              replace xb := Box.below xb hz
              replace hown := own_below hown hz
              replace hB := stepB hB hz hB.size
              clear hz
              generalize Wa.alloc (.cells #[] 80) = Wb at ow hB hown xb ⊢
              generalize Wa.heap.size = og at ow hne hxe ⊢
              have hHeld := HC.out _ hB
              refine hK.out _ _ (.inr hHeld) ?_
              clear hK K
              refine MAny.ready (rs := [4]) (by kernel_rfl) (by simp) ?_
              refine MReady.cons rfl (fun K hK => ?_) MReady.nil
              refine step_append_any _ (by rfl) (.tmp 103) (.tmp 106) 48 (by rfl) w.heap.size 80 i0 (.agg #[.string ⟨#[]⟩, .int .i64 0, .int .i64 0]) 3 32 Tryd.underlying48 hi hz0 hz1 hz2 rfl (by decide) _ _ 0 ([]) (by rfl) ow ⟨g, 0, none⟩ q c ((ys.take q).flatMap encMk) (by rfl) (by rw [length_flatMap_enc encMk 3 encMk_len, List.length_take, Nat.min_eq_left (by omega)]) (own_take encMk_len hown q) (mk_one (ys.take q)) (by unfold maxLen; omega) (by omega) hB.size ?_
              intro og oc Wc ow2 hgr hor
              have xl := (own_lt xb).2
              replace xb := Box.keep xb hgr hxe
              replace hxe : xg ≠ og := by rcases hor with e | e <;> omega
              clear xl
              have gl := (own_lt hown).2
              replace hown := own_keep9 hown hgr (Ne.symm hne)
              replace hne : og ≠ g := by rcases hor with e | e <;> omega
              replace hB := hB.grown hgr hB.size (fun g e => by cases e; exact (own_lt ow).1)
              clear gl hor hgr
              replace ow := ow2
              clear ow2
              try simp only [Act.put, List.setIfInBounds_toArray]
              simp only [Nat.zero_add, List.nil_append] at ow ⊢
              have hHeld := HC.out _ hB
              refine hK.out _ _ (.inr hHeld) ?_
              clear hK K
              refine MAny.ready (rs := [10]) (by kernel_rfl) (by simp) ?_
              refine MReady.cons rfl (fun K hK => ?_) MReady.nil
              refine step_append_any _ (by rfl) (.tmp 107) (.tmp 112) 48 (by rfl) w.heap.size 80 i0 (.agg #[.string ⟨#[]⟩, .int .i64 0, .int .i64 0]) 3 32 Tryd.underlying48 hi hz0 hz1 hz2 rfl (by decide) _ _ q ((ys.take q).flatMap encMk) (by rfl) ow ⟨xg, 0, none⟩ 1 1 (encMk m) (by rfl) rfl (Box.news xb) (mk_one1 m) (by unfold maxLen; omega) (by omega) hB.size ?_
              intro og oc Wcb ow2 hgr hor
              have xl := (own_lt xb).2
              replace xb := Box.keep xb hgr hxe
              replace hxe : xg ≠ og := by rcases hor with e | e <;> omega
              clear xl
              have gl := (own_lt hown).2
              replace hown := own_keep9 hown hgr (Ne.symm hne)
              replace hne : og ≠ g := by rcases hor with e | e <;> omega
              replace hB := hB.grown hgr hB.size (fun g e => by cases e; exact (own_lt ow).1)
              clear gl hor hgr
              replace ow := ow2
              clear ow2
              try simp only [Act.put]
              have hHeld := HC.out _ hB
              refine hK.out _ _ (.inr hHeld) ?_
              clear hK K
              refine MAny.ready (rs := [14]) (by kernel_rfl) (by simp) ?_
              refine MReady.cons rfl (fun K hK => ?_) MReady.nil
              first
                | refine step_append_any _ (by rfl) (.tmp 113) (.tmp 116) 48 (by rfl) w.heap.size 80 i0 (.agg #[.string ⟨#[]⟩, .int .i64 0, .int .i64 0]) 3 32 Tryd.underlying48 hi hz0 hz1 hz2 rfl (by decide) _ _ (q + 1) ((ys.take q).flatMap encMk ++ encMk m) (by rfl) ow ⟨g, q * 3, none⟩ (k - q) (c - q) ((ys.drop q).flatMap encMk) (by rfl) (by rw [length_flatMap_enc encMk 3 encMk_len, List.length_drop, hyl]) (own_drop encMk_len hown (by omega)) (mk_one (ys.drop q)) (by unfold maxLen; omega) (by omega) hB.size ?_
                | refine step_append_any _ (by rfl) (.tmp 113) (.tmp 116) 48 (by rfl) w.heap.size 80 i0 (.agg #[.string ⟨#[]⟩, .int .i64 0, .int .i64 0]) 3 32 Tryd.underlying48 hi hz0 hz1 hz2 rfl (by decide) _ _ (q + 1) ((ys.take q).flatMap encMk ++ encMk m) (by rfl) ow ⟨g, 0, none⟩ 0 0 ([]) (by rfl) rfl (fun j u hu => by cases hu) (fun u hu => by cases hu) (by unfold maxLen; omega) (by omega) hB.size ?_
              intro og oc Wcc ow2 hgr hor
              have xl := (own_lt xb).2
              replace xb := Box.keep xb hgr hxe
              replace hxe : xg ≠ og := by rcases hor with e | e <;> omega
              clear xl
              have gl := (own_lt hown).2
              replace hown := own_keep9 hown hgr (Ne.symm hne)
              replace hne : og ≠ g := by rcases hor with e | e <;> omega
              replace hB := hB.grown hgr hB.size (fun g e => by cases e; exact (own_lt ow).1)
              clear gl hor hgr
              replace ow := ow2
              clear ow2
              try simp only [Act.put]
              first
                | (have hen : q + 1 + (k - q) = k + 1 := by omega
                   have hcnt : (ys.take q).flatMap encMk ++ encMk m ++ (ys.drop q).flatMap encMk = (insM m ys).flatMap encMk := by rw [hins.out]; simp
                   rw [hen, hcnt] at ow
                   simp only [hen]
                   clear hen hcnt)
                | (have hen : q + 1 + 0 = k + 1 := by omega
                   have hcnt : (ys.take q).flatMap encMk ++ encMk m ++ [] = (insM m ys).flatMap encMk := by rw [hins.out, List.drop_eq_nil_of_le (by omega)]; simp
                   rw [hen, hcnt] at ow
                   simp only [hen]
                   clear hen hcnt)
              have hHeld := HC.out _ hB
              refine hK.out _ _ (.inr hHeld) ?_
              clear hK K
              refine MAny.ready (rs := [15]) (by kernel_rfl) (by simp) ?_
              refine MReady.cons rfl (fun K hK => ?_) MReady.nil
              go_simp
              refine hK.out _ _ (.inl rfl) ?_
              clear hK K
              refine MAny.done (by kernel_rfl) ?_ _
              try simp only [List.getElem_toArray, List.getElem_cons_succ, List.getElem_cons_zero]
              go_wp2
              go_roundw
              case rel => exact ⟨k + 1, og, oc, insM m ys, by omega, by go_num, rfl, ow, hB, by unfold Hid; rw [hst.out, hM.out], by rw [insM_len, hyl]⟩
              case measure => simp [intOf]; omega
        · have hq2 : decide ((q : Int) < (k : Int)) = false := by simp; omega
          by_cases hcq1 : c = q
          · obtain rfl : q = k := by omega
            subst hcq1
            go_upto_region 8 with (fail)
            go_wp2_with fail
            go_quiet (fail)
            have hz : Below wc.heap.size wc (wc.drewN nq) := drewB (Below.refl _ _) nq
            generalize wc.drewN nq = W8 at hz ⊢
            replace hown := own_below hown hz
            replace hB := stepB hB hz hB.size
            clear hz hq2
            go_upto_region 10 with (fail)
            have hqc : (c : Int) ≤ (c : Int) := by omega
            have hqk : (c : Int) ≤ (c : Int) := by omega
            refine MAny.region (S := fun w' => w'.cell? ⟨b, off + c * 3, none⟩ = some (.string m.name) ∧ w'.cell? ⟨b, off + c * 3 + 1, none⟩ = some (.int .i64 m.fr) ∧ w'.cell? ⟨b, off + c * 3 + 2, none⟩ = some (.int .i64 m.to)) (last := 15) (by kernel_rfl) ?_
            have hz : Below W8.heap.size W8 W8.drew := (Below.refl _ W8).drew
            replace hown := own_below hown hz
            replace hB := stepB hB hz hB.size
            clear hz
            generalize W8.drew = W0 at hown hB ⊢
            have hHeld := HC.out _ hB
            refine MAny.take (i := 1) (v := ?_) rfl (by kernel_rfl) (by kernel_rfl) (by kernel_rfl) (fun _ _ _ h => h) (by kernel_rfl) (Or.inl ⟨by rfl, ?_⟩) (by assumption) ?_
            rotate_left
            · (intro w' hSw; (try dsimp only at hSw); go_simp; try (with_reducible rfl))
            try simp only [Act.put, List.setIfInBounds_toArray]
            refine MAny.take (i := 2) (v := ?_) rfl (by kernel_rfl) (by kernel_rfl) (by kernel_rfl) (fun _ _ _ h => h) (by kernel_rfl) (Or.inl ⟨by rfl, ?_⟩) (by assumption) ?_
            rotate_left
            · (intro w' hSw; (try dsimp only at hSw); go_simp; try (with_reducible rfl))
            try simp only [Act.put]
            refine MAny.take (i := 3) (v := ?_) rfl (by kernel_rfl) (by kernel_rfl) (by kernel_rfl) (fun _ _ _ h => h) (by kernel_rfl) (Or.inl ⟨by rfl, ?_⟩) (by assumption) ?_
            rotate_left
            · (intro w' hSw; (try dsimp only at hSw); go_simp; try (with_reducible rfl))
            try simp only [Act.put]
            refine MAny.take (i := 5) (v := ?_) rfl (by kernel_rfl) (by kernel_rfl) (by kernel_rfl) (fun _ _ _ h => h) (by kernel_rfl) (Or.inl ⟨by rfl, ?_⟩) (by assumption) ?_
            rotate_left
            · (intro w' hSw; (try dsimp only at hSw); go_simp; try (with_reducible rfl))
            try simp only [Act.put]
            refine MAny.take (i := 6) (v := ?_) rfl (by kernel_rfl) (by kernel_rfl) (by kernel_rfl) (fun _ _ _ h => h) (by kernel_rfl) (Or.inl ⟨by rfl, ?_⟩) (by assumption) ?_
            rotate_left
            · (intro w' hSw; (try dsimp only at hSw); go_simp; try (with_reducible rfl))
            try simp only [Act.put]
            refine MAny.take (i := 7) (v := ?_) rfl (by kernel_rfl) (by kernel_rfl) (by kernel_rfl) (fun _ _ _ h => h) (by kernel_rfl) (Or.inl ⟨by rfl, ?_⟩) (by assumption) ?_
            rotate_left
            · (intro w' hSw; (try dsimp only at hSw); go_simp; try (with_reducible rfl))
            try simp only [Act.put]
            refine MAny.take (i := 8) (v := ?_) rfl (by kernel_rfl) (by kernel_rfl) (by kernel_rfl) (fun _ _ _ h => h) (by kernel_rfl) (Or.inl ⟨by rfl, ?_⟩) (by assumption) ?_
            rotate_left
            · (intro w' hSw; (try dsimp only at hSw); go_simp; try (with_reducible rfl))
            try simp only [Act.put]
            refine MAny.take (i := 11) (v := ?_) rfl (by kernel_rfl) (by kernel_rfl) (by kernel_rfl) (fun _ _ _ h => h) (by kernel_rfl) (Or.inl ⟨by rfl, ?_⟩) (by assumption) ?_
            rotate_left
            · (intro w' hSw; (try dsimp only at hSw); go_simp; try (with_reducible rfl))
            try simp only [Act.put]
            refine MAny.take (i := 12) (v := ?_) rfl (by kernel_rfl) (by kernel_rfl) (by kernel_rfl) (fun _ _ _ h => h) (by kernel_rfl) (Or.inl ⟨by rfl, ?_⟩) (by assumption) ?_
            rotate_left
            · (intro w' hSw; (try dsimp only at hSw); go_simp; try (with_reducible rfl))
            try simp only [Act.put]
            refine MAny.take (i := 13) (v := ?_) rfl (by kernel_rfl) (by kernel_rfl) (by kernel_rfl) (fun _ _ _ h => h) (by kernel_rfl) (Or.inl ⟨by rfl, ?_⟩) (by assumption) ?_
            rotate_left
            · (intro w' hSw; (try dsimp only at hSw); go_simp; try (with_reducible rfl))
            try simp only [Act.put]
            refine MAny.ready (rs := [0, 9]) (by kernel_rfl) (by simp) ?_
            refine MReady.cons rfl (fun K hK => ?_) (MReady.cons rfl (fun K hK => ?_) MReady.nil)
            · go_simp
              have ow := World.ownsRow_made W0 #[] 0 hB.size (by decide) rfl (e := 80) (size := 3)
              have hz : Below W0.heap.size W0 (W0.alloc (.cells #[] 80)) := (Below.refl _ _).alloc (Nat.le_refl _) _
              have hne : W0.heap.size ≠ g := Nat.ne_of_gt (own_lt hown).2
              replace hown := own_below hown hz
              replace hB := stepB hB hz hB.size
              clear hz
              generalize W0.alloc (.cells #[] 80) = Wa at ow hB hown ⊢
              generalize W0.heap.size = og at ow hne ⊢
              have hHeld := HC.out _ hB
              refine hK.out _ _ (.inr hHeld) ?_
              clear hK K
              refine MAny.ready (rs := [4, 9]) (by kernel_rfl) (by simp) ?_
              refine MReady.cons rfl (fun K hK => ?_) (MReady.cons rfl (fun K hK => ?_) MReady.nil)
              · refine step_append_any _ (by rfl) (.tmp 103) (.tmp 106) 48 (by rfl) w.heap.size 80 i0 (.agg #[.string ⟨#[]⟩, .int .i64 0, .int .i64 0]) 3 32 Tryd.underlying48 hi hz0 hz1 hz2 rfl (by decide) _ _ 0 ([]) (by rfl) ow ⟨g, 0, none⟩ c c ((ys.take c).flatMap encMk) (by rfl) (by rw [length_flatMap_enc encMk 3 encMk_len, List.length_take, Nat.min_eq_left (by omega)]) (own_take encMk_len hown c) (mk_one (ys.take c)) (by unfold maxLen; omega) (by omega) hB.size ?_
                intro og oc Wb ow2 hgr hor
                have gl := (own_lt hown).2
                replace hown := own_keep9 hown hgr (Ne.symm hne)
                replace hne : og ≠ g := by rcases hor with e | e <;> omega
                replace hB := hB.grown hgr hB.size (fun g e => by cases e; exact (own_lt ow).1)
                clear gl hor hgr
                replace ow := ow2
                clear ow2
                try simp only [Act.put, List.setIfInBounds_toArray]
                simp only [Nat.zero_add, List.nil_append] at ow ⊢
                have hHeld := HC.out _ hB
                refine hK.out _ _ (.inr hHeld) ?_
                clear hK K
                refine MAny.ready (rs := [9]) (by kernel_rfl) (by simp) ?_
                refine MReady.cons rfl (fun K hK => ?_) MReady.nil
                go_simp
                have xb := Box.new Wb 80 [.string m.name, .int .i64 m.fr, .int .i64 m.to] w.heap.size hB.size (by simp)
                have hz : Below Wb.heap.size Wb (Wb.alloc (.cells #[.string m.name, .int .i64 m.fr, .int .i64 m.to] 80)) := (Below.refl _ _).alloc (Nat.le_refl _) _
                have hxe : Wb.heap.size ≠ og := Nat.ne_of_gt (own_lt ow).2
                replace ow := own_below ow hz
                replace hown := own_below hown hz
                replace hB := stepB hB hz hB.size
                clear hz
                change Box _ (Wb.alloc (.cells #[.string m.name, .int .i64 m.fr, .int .i64 m.to] 80)) _ _ _ at xb
                generalize Wb.alloc (.cells #[.string m.name, .int .i64 m.fr, .int .i64 m.to] 80) = Wc at xb hB hown ow ⊢
                generalize Wb.heap.size = xg at xb hxe ⊢
                have hHeld := HC.out _ hB
                refine hK.out _ _ (.inr hHeld) ?_
                clear hK K
                refine MAny.ready (rs := [10]) (by kernel_rfl) (by simp) ?_
                refine MReady.cons rfl (fun K hK => ?_) MReady.nil
                refine step_append_any _ (by rfl) (.tmp 107) (.tmp 112) 48 (by rfl) w.heap.size 80 i0 (.agg #[.string ⟨#[]⟩, .int .i64 0, .int .i64 0]) 3 32 Tryd.underlying48 hi hz0 hz1 hz2 rfl (by decide) _ _ c ((ys.take c).flatMap encMk) (by rfl) ow ⟨xg, 0, none⟩ 1 1 (encMk m) (by rfl) rfl (Box.news xb) (mk_one1 m) (by unfold maxLen; omega) (by omega) hB.size ?_
                intro og oc Wcb ow2 hgr hor
                have xl := (own_lt xb).2
                replace xb := Box.keep xb hgr hxe
                replace hxe : xg ≠ og := by rcases hor with e | e <;> omega
                clear xl
                have gl := (own_lt hown).2
                replace hown := own_keep9 hown hgr (Ne.symm hne)
                replace hne : og ≠ g := by rcases hor with e | e <;> omega
                replace hB := hB.grown hgr hB.size (fun g e => by cases e; exact (own_lt ow).1)
                clear gl hor hgr
                replace ow := ow2
                clear ow2
                try simp only [Act.put, List.setIfInBounds_toArray]
                have hHeld := HC.out _ hB
                refine hK.out _ _ (.inr hHeld) ?_
                clear hK K
                refine MAny.ready (rs := [14]) (by kernel_rfl) (by simp) ?_
                refine MReady.cons rfl (fun K hK => ?_) MReady.nil
                first
                  | refine step_append_any _ (by rfl) (.tmp 113) (.tmp 116) 48 (by rfl) w.heap.size 80 i0 (.agg #[.string ⟨#[]⟩, .int .i64 0, .int .i64 0]) 3 32 Tryd.underlying48 hi hz0 hz1 hz2 rfl (by decide) _ _ (c + 1) ((ys.take c).flatMap encMk ++ encMk m) (by rfl) ow ⟨g, c * 3, none⟩ (c - c) (c - c) ((ys.drop c).flatMap encMk) (by rfl) (by rw [length_flatMap_enc encMk 3 encMk_len, List.length_drop, hyl]) (own_drop encMk_len hown (by omega)) (mk_one (ys.drop c)) (by unfold maxLen; omega) (by omega) hB.size ?_
                  | refine step_append_any _ (by rfl) (.tmp 113) (.tmp 116) 48 (by rfl) w.heap.size 80 i0 (.agg #[.string ⟨#[]⟩, .int .i64 0, .int .i64 0]) 3 32 Tryd.underlying48 hi hz0 hz1 hz2 rfl (by decide) _ _ (c + 1) ((ys.take c).flatMap encMk ++ encMk m) (by rfl) ow ⟨g, 0, none⟩ 0 0 ([]) (by rfl) rfl (fun j u hu => by cases hu) (fun u hu => by cases hu) (by unfold maxLen; omega) (by omega) hB.size ?_
                intro og oc Wcc ow2 hgr hor
                have xl := (own_lt xb).2
                replace xb := Box.keep xb hgr hxe
                replace hxe : xg ≠ og := by rcases hor with e | e <;> omega
                clear xl
                have gl := (own_lt hown).2
                replace hown := own_keep9 hown hgr (Ne.symm hne)
                replace hne : og ≠ g := by rcases hor with e | e <;> omega
                replace hB := hB.grown hgr hB.size (fun g e => by cases e; exact (own_lt ow).1)
                clear gl hor hgr
                replace ow := ow2
                clear ow2
                try simp only [Act.put]
                first
                  | (have hen : c + 1 + (c - c) = c + 1 := by omega
                     have hcnt : (ys.take c).flatMap encMk ++ encMk m ++ (ys.drop c).flatMap encMk = (insM m ys).flatMap encMk := by rw [hins.out]; simp
                     rw [hen, hcnt] at ow
                     simp only [hen]
                     clear hen hcnt)
                  | (have hen : c + 1 + 0 = c + 1 := by omega
                     have hcnt : (ys.take c).flatMap encMk ++ encMk m ++ [] = (insM m ys).flatMap encMk := by rw [hins.out, List.drop_eq_nil_of_le (by omega)]; simp
                     rw [hen, hcnt] at ow
                     simp only [hen]
                     clear hen hcnt)
                have hHeld := HC.out _ hB
                refine hK.out _ _ (.inr hHeld) ?_
                clear hK K
                refine MAny.ready (rs := [15]) (by kernel_rfl) (by simp) ?_
                refine MReady.cons rfl (fun K hK => ?_) MReady.nil
                go_simp
                refine hK.out _ _ (.inl rfl) ?_
                clear hK K
                refine MAny.done (by kernel_rfl) ?_ _
                try simp only [List.getElem_toArray, List.getElem_cons_succ, List.getElem_cons_zero]
                go_wp2
                go_roundw
                case rel => exact ⟨c + 1, og, oc, insM m ys, by omega, by go_num, rfl, ow, hB, by unfold Hid; rw [hst.out, hM.out], by rw [insM_len, hyl]⟩
                case measure => simp [intOf]; omega
              · go_simp
                have xb := Box.new Wa 80 [.string m.name, .int .i64 m.fr, .int .i64 m.to] w.heap.size hB.size (by simp)
                have hz : Below Wa.heap.size Wa (Wa.alloc (.cells #[.string m.name, .int .i64 m.fr, .int .i64 m.to] 80)) := (Below.refl _ _).alloc (Nat.le_refl _) _
                have hxe : Wa.heap.size ≠ og := Nat.ne_of_gt (own_lt ow).2
                replace ow := own_below ow hz
                replace hown := own_below hown hz
                replace hB := stepB hB hz hB.size
                clear hz
                change Box _ (Wa.alloc (.cells #[.string m.name, .int .i64 m.fr, .int .i64 m.to] 80)) _ _ _ at xb
                generalize Wa.alloc (.cells #[.string m.name, .int .i64 m.fr, .int .i64 m.to] 80) = Wb at xb hB hown ow ⊢
                generalize Wa.heap.size = xg at xb hxe ⊢
                have hHeld := HC.out _ hB
                refine hK.out _ _ (.inr hHeld) ?_
                clear hK K
                refine MAny.ready (rs := [4]) (by kernel_rfl) (by simp) ?_
                refine MReady.cons rfl (fun K hK => ?_) MReady.nil
                refine step_append_any _ (by rfl) (.tmp 103) (.tmp 106) 48 (by rfl) w.heap.size 80 i0 (.agg #[.string ⟨#[]⟩, .int .i64 0, .int .i64 0]) 3 32 Tryd.underlying48 hi hz0 hz1 hz2 rfl (by decide) _ _ 0 ([]) (by rfl) ow ⟨g, 0, none⟩ c c ((ys.take c).flatMap encMk) (by rfl) (by rw [length_flatMap_enc encMk 3 encMk_len, List.length_take, Nat.min_eq_left (by omega)]) (own_take encMk_len hown c) (mk_one (ys.take c)) (by unfold maxLen; omega) (by omega) hB.size ?_
                intro og oc Wc ow2 hgr hor
                have xl := (own_lt xb).2
                replace xb := Box.keep xb hgr hxe
                replace hxe : xg ≠ og := by rcases hor with e | e <;> omega
                clear xl
                have gl := (own_lt hown).2
                replace hown := own_keep9 hown hgr (Ne.symm hne)
                replace hne : og ≠ g := by rcases hor with e | e <;> omega
                replace hB := hB.grown hgr hB.size (fun g e => by cases e; exact (own_lt ow).1)
                clear gl hor hgr
                replace ow := ow2
                clear ow2
                try simp only [Act.put, List.setIfInBounds_toArray]
                simp only [Nat.zero_add, List.nil_append] at ow ⊢
                have hHeld := HC.out _ hB
                refine hK.out _ _ (.inr hHeld) ?_
                clear hK K
                refine MAny.ready (rs := [10]) (by kernel_rfl) (by simp) ?_
                refine MReady.cons rfl (fun K hK => ?_) MReady.nil
                refine step_append_any _ (by rfl) (.tmp 107) (.tmp 112) 48 (by rfl) w.heap.size 80 i0 (.agg #[.string ⟨#[]⟩, .int .i64 0, .int .i64 0]) 3 32 Tryd.underlying48 hi hz0 hz1 hz2 rfl (by decide) _ _ c ((ys.take c).flatMap encMk) (by rfl) ow ⟨xg, 0, none⟩ 1 1 (encMk m) (by rfl) rfl (Box.news xb) (mk_one1 m) (by unfold maxLen; omega) (by omega) hB.size ?_
                intro og oc Wcb ow2 hgr hor
                have xl := (own_lt xb).2
                replace xb := Box.keep xb hgr hxe
                replace hxe : xg ≠ og := by rcases hor with e | e <;> omega
                clear xl
                have gl := (own_lt hown).2
                replace hown := own_keep9 hown hgr (Ne.symm hne)
                replace hne : og ≠ g := by rcases hor with e | e <;> omega
                replace hB := hB.grown hgr hB.size (fun g e => by cases e; exact (own_lt ow).1)
                clear gl hor hgr
                replace ow := ow2
                clear ow2
                try simp only [Act.put]
                have hHeld := HC.out _ hB
                refine hK.out _ _ (.inr hHeld) ?_
                clear hK K
                refine MAny.ready (rs := [14]) (by kernel_rfl) (by simp) ?_
                refine MReady.cons rfl (fun K hK => ?_) MReady.nil
                first
                  | refine step_append_any _ (by rfl) (.tmp 113) (.tmp 116) 48 (by rfl) w.heap.size 80 i0 (.agg #[.string ⟨#[]⟩, .int .i64 0, .int .i64 0]) 3 32 Tryd.underlying48 hi hz0 hz1 hz2 rfl (by decide) _ _ (c + 1) ((ys.take c).flatMap encMk ++ encMk m) (by rfl) ow ⟨g, c * 3, none⟩ (c - c) (c - c) ((ys.drop c).flatMap encMk) (by rfl) (by rw [length_flatMap_enc encMk 3 encMk_len, List.length_drop, hyl]) (own_drop encMk_len hown (by omega)) (mk_one (ys.drop c)) (by unfold maxLen; omega) (by omega) hB.size ?_
                  | refine step_append_any _ (by rfl) (.tmp 113) (.tmp 116) 48 (by rfl) w.heap.size 80 i0 (.agg #[.string ⟨#[]⟩, .int .i64 0, .int .i64 0]) 3 32 Tryd.underlying48 hi hz0 hz1 hz2 rfl (by decide) _ _ (c + 1) ((ys.take c).flatMap encMk ++ encMk m) (by rfl) ow ⟨g, 0, none⟩ 0 0 ([]) (by rfl) rfl (fun j u hu => by cases hu) (fun u hu => by cases hu) (by unfold maxLen; omega) (by omega) hB.size ?_
                intro og oc Wcc ow2 hgr hor
                have xl := (own_lt xb).2
                replace xb := Box.keep xb hgr hxe
                replace hxe : xg ≠ og := by rcases hor with e | e <;> omega
                clear xl
                have gl := (own_lt hown).2
                replace hown := own_keep9 hown hgr (Ne.symm hne)
                replace hne : og ≠ g := by rcases hor with e | e <;> omega
                replace hB := hB.grown hgr hB.size (fun g e => by cases e; exact (own_lt ow).1)
                clear gl hor hgr
                replace ow := ow2
                clear ow2
                try simp only [Act.put]
                first
                  | (have hen : c + 1 + (c - c) = c + 1 := by omega
                     have hcnt : (ys.take c).flatMap encMk ++ encMk m ++ (ys.drop c).flatMap encMk = (insM m ys).flatMap encMk := by rw [hins.out]; simp
                     rw [hen, hcnt] at ow
                     simp only [hen]
                     clear hen hcnt)
                  | (have hen : c + 1 + 0 = c + 1 := by omega
                     have hcnt : (ys.take c).flatMap encMk ++ encMk m ++ [] = (insM m ys).flatMap encMk := by rw [hins.out, List.drop_eq_nil_of_le (by omega)]; simp
                     rw [hen, hcnt] at ow
                     simp only [hen]
                     clear hen hcnt)
                have hHeld := HC.out _ hB
                refine hK.out _ _ (.inr hHeld) ?_
                clear hK K
                refine MAny.ready (rs := [15]) (by kernel_rfl) (by simp) ?_
                refine MReady.cons rfl (fun K hK => ?_) MReady.nil
                go_simp
                refine hK.out _ _ (.inl rfl) ?_
                clear hK K
                refine MAny.done (by kernel_rfl) ?_ _
                try simp only [List.getElem_toArray, List.getElem_cons_succ, List.getElem_cons_zero]
                go_wp2
                go_roundw
                case rel => exact ⟨c + 1, og, oc, insM m ys, by omega, by go_num, rfl, ow, hB, by unfold Hid; rw [hst.out, hM.out], by rw [insM_len, hyl]⟩
                case measure => simp [intOf]; omega
            · go_simp
              have xb := Box.new W0 80 [.string m.name, .int .i64 m.fr, .int .i64 m.to] w.heap.size hB.size (by simp)
              have hz : Below W0.heap.size W0 (W0.alloc (.cells #[.string m.name, .int .i64 m.fr, .int .i64 m.to] 80)) := (Below.refl _ _).alloc (Nat.le_refl _) _
              replace hown := own_below hown hz
              replace hB := stepB hB hz hB.size
              clear hz
              change Box _ (W0.alloc (.cells #[.string m.name, .int .i64 m.fr, .int .i64 m.to] 80)) _ _ _ at xb
              generalize W0.alloc (.cells #[.string m.name, .int .i64 m.fr, .int .i64 m.to] 80) = Wa at xb hB hown ⊢
              generalize W0.heap.size = xg at xb ⊢
              have hHeld := HC.out _ hB
              refine hK.out _ _ (.inr hHeld) ?_
              clear hK K
              refine MAny.ready (rs := [0]) (by kernel_rfl) (by simp) ?_
              refine MReady.cons rfl (fun K hK => ?_) MReady.nil
              go_simp
              have ow := World.ownsRow_made Wa #[] 0 hB.size (by decide) rfl (e := 80) (size := 3)
              have hz : Below Wa.heap.size Wa (Wa.alloc (.cells #[] 80)) := (Below.refl _ _).alloc (Nat.le_refl _) _
              have hne : Wa.heap.size ≠ g := Nat.ne_of_gt (own_lt hown).2
              have hxe : xg ≠ Wa.heap.size := Nat.ne_of_lt (own_lt xb).2
              replace xb := Box.below xb hz
              replace hown := own_below hown hz
              replace hB := stepB hB hz hB.size
              clear hz
              generalize Wa.alloc (.cells #[] 80) = Wb at ow hB hown xb ⊢
              generalize Wa.heap.size = og at ow hne hxe ⊢
              have hHeld := HC.out _ hB
              refine hK.out _ _ (.inr hHeld) ?_
              clear hK K
              refine MAny.ready (rs := [4]) (by kernel_rfl) (by simp) ?_
              refine MReady.cons rfl (fun K hK => ?_) MReady.nil
              refine step_append_any _ (by rfl) (.tmp 103) (.tmp 106) 48 (by rfl) w.heap.size 80 i0 (.agg #[.string ⟨#[]⟩, .int .i64 0, .int .i64 0]) 3 32 Tryd.underlying48 hi hz0 hz1 hz2 rfl (by decide) _ _ 0 ([]) (by rfl) ow ⟨g, 0, none⟩ c c ((ys.take c).flatMap encMk) (by rfl) (by rw [length_flatMap_enc encMk 3 encMk_len, List.length_take, Nat.min_eq_left (by omega)]) (own_take encMk_len hown c) (mk_one (ys.take c)) (by unfold maxLen; omega) (by omega) hB.size ?_
              intro og oc Wc ow2 hgr hor
              have xl := (own_lt xb).2
              replace xb := Box.keep xb hgr hxe
              replace hxe : xg ≠ og := by rcases hor with e | e <;> omega
              clear xl
              have gl := (own_lt hown).2
              replace hown := own_keep9 hown hgr (Ne.symm hne)
              replace hne : og ≠ g := by rcases hor with e | e <;> omega
              replace hB := hB.grown hgr hB.size (fun g e => by cases e; exact (own_lt ow).1)
              clear gl hor hgr
              replace ow := ow2
              clear ow2
              try simp only [Act.put, List.setIfInBounds_toArray]
              simp only [Nat.zero_add, List.nil_append] at ow ⊢
              have hHeld := HC.out _ hB
              refine hK.out _ _ (.inr hHeld) ?_
              clear hK K
              refine MAny.ready (rs := [10]) (by kernel_rfl) (by simp) ?_
              refine MReady.cons rfl (fun K hK => ?_) MReady.nil
              refine step_append_any _ (by rfl) (.tmp 107) (.tmp 112) 48 (by rfl) w.heap.size 80 i0 (.agg #[.string ⟨#[]⟩, .int .i64 0, .int .i64 0]) 3 32 Tryd.underlying48 hi hz0 hz1 hz2 rfl (by decide) _ _ c ((ys.take c).flatMap encMk) (by rfl) ow ⟨xg, 0, none⟩ 1 1 (encMk m) (by rfl) rfl (Box.news xb) (mk_one1 m) (by unfold maxLen; omega) (by omega) hB.size ?_
              intro og oc Wcb ow2 hgr hor
              have xl := (own_lt xb).2
              replace xb := Box.keep xb hgr hxe
              replace hxe : xg ≠ og := by rcases hor with e | e <;> omega
              clear xl
              have gl := (own_lt hown).2
              replace hown := own_keep9 hown hgr (Ne.symm hne)
              replace hne : og ≠ g := by rcases hor with e | e <;> omega
              replace hB := hB.grown hgr hB.size (fun g e => by cases e; exact (own_lt ow).1)
              clear gl hor hgr
              replace ow := ow2
              clear ow2
              try simp only [Act.put]
              have hHeld := HC.out _ hB
              refine hK.out _ _ (.inr hHeld) ?_
              clear hK K
              refine MAny.ready (rs := [14]) (by kernel_rfl) (by simp) ?_
              refine MReady.cons rfl (fun K hK => ?_) MReady.nil
              first
                | refine step_append_any _ (by rfl) (.tmp 113) (.tmp 116) 48 (by rfl) w.heap.size 80 i0 (.agg #[.string ⟨#[]⟩, .int .i64 0, .int .i64 0]) 3 32 Tryd.underlying48 hi hz0 hz1 hz2 rfl (by decide) _ _ (c + 1) ((ys.take c).flatMap encMk ++ encMk m) (by rfl) ow ⟨g, c * 3, none⟩ (c - c) (c - c) ((ys.drop c).flatMap encMk) (by rfl) (by rw [length_flatMap_enc encMk 3 encMk_len, List.length_drop, hyl]) (own_drop encMk_len hown (by omega)) (mk_one (ys.drop c)) (by unfold maxLen; omega) (by omega) hB.size ?_
                | refine step_append_any _ (by rfl) (.tmp 113) (.tmp 116) 48 (by rfl) w.heap.size 80 i0 (.agg #[.string ⟨#[]⟩, .int .i64 0, .int .i64 0]) 3 32 Tryd.underlying48 hi hz0 hz1 hz2 rfl (by decide) _ _ (c + 1) ((ys.take c).flatMap encMk ++ encMk m) (by rfl) ow ⟨g, 0, none⟩ 0 0 ([]) (by rfl) rfl (fun j u hu => by cases hu) (fun u hu => by cases hu) (by unfold maxLen; omega) (by omega) hB.size ?_
              intro og oc Wcc ow2 hgr hor
              have xl := (own_lt xb).2
              replace xb := Box.keep xb hgr hxe
              replace hxe : xg ≠ og := by rcases hor with e | e <;> omega
              clear xl
              have gl := (own_lt hown).2
              replace hown := own_keep9 hown hgr (Ne.symm hne)
              replace hne : og ≠ g := by rcases hor with e | e <;> omega
              replace hB := hB.grown hgr hB.size (fun g e => by cases e; exact (own_lt ow).1)
              clear gl hor hgr
              replace ow := ow2
              clear ow2
              try simp only [Act.put]
              first
                | (have hen : c + 1 + (c - c) = c + 1 := by omega
                   have hcnt : (ys.take c).flatMap encMk ++ encMk m ++ (ys.drop c).flatMap encMk = (insM m ys).flatMap encMk := by rw [hins.out]; simp
                   rw [hen, hcnt] at ow
                   simp only [hen]
                   clear hen hcnt)
                | (have hen : c + 1 + 0 = c + 1 := by omega
                   have hcnt : (ys.take c).flatMap encMk ++ encMk m ++ [] = (insM m ys).flatMap encMk := by rw [hins.out, List.drop_eq_nil_of_le (by omega)]; simp
                   rw [hen, hcnt] at ow
                   simp only [hen]
                   clear hen hcnt)
              have hHeld := HC.out _ hB
              refine hK.out _ _ (.inr hHeld) ?_
              clear hK K
              refine MAny.ready (rs := [15]) (by kernel_rfl) (by simp) ?_
              refine MReady.cons rfl (fun K hK => ?_) MReady.nil
              go_simp
              refine hK.out _ _ (.inl rfl) ?_
              clear hK K
              refine MAny.done (by kernel_rfl) ?_ _
              try simp only [List.getElem_toArray, List.getElem_cons_succ, List.getElem_cons_zero]
              go_wp2
              go_roundw
              case rel => exact ⟨c + 1, og, oc, insM m ys, by omega, by go_num, rfl, ow, hB, by unfold Hid; rw [hst.out, hM.out], by rw [insM_len, hyl]⟩
              case measure => simp [intOf]; omega
          · have hcq : (c = q) = False := eq_false hcq1
            go_upto_region 8 with (fail)
            go_wp2_with fail
            go_quiet (fail)
            have hz : Below wc.heap.size wc (wc.drewN nq) := drewB (Below.refl _ _) nq
            generalize wc.drewN nq = W8 at hz ⊢
            replace hown := own_below hown hz
            replace hB := stepB hB hz hB.size
            clear hz hq2
            go_upto_region 10 with (fail)
            have hqc : (q : Int) ≤ (c : Int) := by omega
            have hqk : (q : Int) ≤ (k : Int) := by omega
            refine MAny.region (S := fun w' => w'.cell? ⟨b, off + k * 3, none⟩ = some (.string m.name) ∧ w'.cell? ⟨b, off + k * 3 + 1, none⟩ = some (.int .i64 m.fr) ∧ w'.cell? ⟨b, off + k * 3 + 2, none⟩ = some (.int .i64 m.to)) (last := 15) (by kernel_rfl) ?_
            have hz : Below W8.heap.size W8 W8.drew := (Below.refl _ W8).drew
            replace hown := own_below hown hz
            replace hB := stepB hB hz hB.size
            clear hz
            generalize W8.drew = W0 at hown hB ⊢
            have hHeld := HC.out _ hB
            refine MAny.take (i := 1) (v := ?_) rfl (by kernel_rfl) (by kernel_rfl) (by kernel_rfl) (fun _ _ _ h => h) (by kernel_rfl) (Or.inl ⟨by rfl, ?_⟩) (by assumption) ?_
            rotate_left
            · (intro w' hSw; (try dsimp only at hSw); go_simp; try (with_reducible rfl))
            try simp only [Act.put, List.setIfInBounds_toArray]
            refine MAny.take (i := 2) (v := ?_) rfl (by kernel_rfl) (by kernel_rfl) (by kernel_rfl) (fun _ _ _ h => h) (by kernel_rfl) (Or.inl ⟨by rfl, ?_⟩) (by assumption) ?_
            rotate_left
            · (intro w' hSw; (try dsimp only at hSw); go_simp; try (with_reducible rfl))
            try simp only [Act.put]
            refine MAny.take (i := 3) (v := ?_) rfl (by kernel_rfl) (by kernel_rfl) (by kernel_rfl) (fun _ _ _ h => h) (by kernel_rfl) (Or.inl ⟨by rfl, ?_⟩) (by assumption) ?_
            rotate_left
            · (intro w' hSw; (try dsimp only at hSw); go_simp; try (with_reducible rfl))
            try simp only [Act.put]
            refine MAny.take (i := 5) (v := ?_) rfl (by kernel_rfl) (by kernel_rfl) (by kernel_rfl) (fun _ _ _ h => h) (by kernel_rfl) (Or.inl ⟨by rfl, ?_⟩) (by assumption) ?_
            rotate_left
            · (intro w' hSw; (try dsimp only at hSw); go_simp; try (with_reducible rfl))
            try simp only [Act.put]
            refine MAny.take (i := 6) (v := ?_) rfl (by kernel_rfl) (by kernel_rfl) (by kernel_rfl) (fun _ _ _ h => h) (by kernel_rfl) (Or.inl ⟨by rfl, ?_⟩) (by assumption) ?_
            rotate_left
            · (intro w' hSw; (try dsimp only at hSw); go_simp; try (with_reducible rfl))
            try simp only [Act.put]
            refine MAny.take (i := 7) (v := ?_) rfl (by kernel_rfl) (by kernel_rfl) (by kernel_rfl) (fun _ _ _ h => h) (by kernel_rfl) (Or.inl ⟨by rfl, ?_⟩) (by assumption) ?_
            rotate_left
            · (intro w' hSw; (try dsimp only at hSw); go_simp; try (with_reducible rfl))
            try simp only [Act.put]
            refine MAny.take (i := 8) (v := ?_) rfl (by kernel_rfl) (by kernel_rfl) (by kernel_rfl) (fun _ _ _ h => h) (by kernel_rfl) (Or.inl ⟨by rfl, ?_⟩) (by assumption) ?_
            rotate_left
            · (intro w' hSw; (try dsimp only at hSw); go_simp; try (with_reducible rfl))
            try simp only [Act.put]
            refine MAny.take (i := 11) (v := ?_) rfl (by kernel_rfl) (by kernel_rfl) (by kernel_rfl) (fun _ _ _ h => h) (by kernel_rfl) (Or.inl ⟨by rfl, ?_⟩) (by assumption) ?_
            rotate_left
            · (intro w' hSw; (try dsimp only at hSw); go_simp; try (with_reducible rfl))
            try simp only [Act.put]
            refine MAny.take (i := 12) (v := ?_) rfl (by kernel_rfl) (by kernel_rfl) (by kernel_rfl) (fun _ _ _ h => h) (by kernel_rfl) (Or.inl ⟨by rfl, ?_⟩) (by assumption) ?_
            rotate_left
            · (intro w' hSw; (try dsimp only at hSw); go_simp; try (with_reducible rfl))
            try simp only [Act.put]
            refine MAny.take (i := 13) (v := ?_) rfl (by kernel_rfl) (by kernel_rfl) (by kernel_rfl) (fun _ _ _ h => h) (by kernel_rfl) (Or.inl ⟨by rfl, ?_⟩) (by assumption) ?_
            rotate_left
            · (intro w' hSw; (try dsimp only at hSw); go_simp; try (with_reducible rfl))
            try simp only [Act.put]
            refine MAny.ready (rs := [0, 9]) (by kernel_rfl) (by simp) ?_
            refine MReady.cons rfl (fun K hK => ?_) (MReady.cons rfl (fun K hK => ?_) MReady.nil)
            · go_simp
              have ow := World.ownsRow_made W0 #[] 0 hB.size (by decide) rfl (e := 80) (size := 3)
              have hz : Below W0.heap.size W0 (W0.alloc (.cells #[] 80)) := (Below.refl _ _).alloc (Nat.le_refl _) _
              have hne : W0.heap.size ≠ g := Nat.ne_of_gt (own_lt hown).2
              replace hown := own_below hown hz
              replace hB := stepB hB hz hB.size
              clear hz
              generalize W0.alloc (.cells #[] 80) = Wa at ow hB hown ⊢
              generalize W0.heap.size = og at ow hne ⊢
              have hHeld := HC.out _ hB
              refine hK.out _ _ (.inr hHeld) ?_
              clear hK K
              refine MAny.ready (rs := [4, 9]) (by kernel_rfl) (by simp) ?_
              refine MReady.cons rfl (fun K hK => ?_) (MReady.cons rfl (fun K hK => ?_) MReady.nil)
              · refine step_append_any _ (by rfl) (.tmp 103) (.tmp 106) 48 (by rfl) w.heap.size 80 i0 (.agg #[.string ⟨#[]⟩, .int .i64 0, .int .i64 0]) 3 32 Tryd.underlying48 hi hz0 hz1 hz2 rfl (by decide) _ _ 0 ([]) (by rfl) ow ⟨g, 0, none⟩ q c ((ys.take q).flatMap encMk) (by rfl) (by rw [length_flatMap_enc encMk 3 encMk_len, List.length_take, Nat.min_eq_left (by omega)]) (own_take encMk_len hown q) (mk_one (ys.take q)) (by unfold maxLen; omega) (by omega) hB.size ?_
                intro og oc Wb ow2 hgr hor
                have gl := (own_lt hown).2
                replace hown := own_keep9 hown hgr (Ne.symm hne)
                replace hne : og ≠ g := by rcases hor with e | e <;> omega
                replace hB := hB.grown hgr hB.size (fun g e => by cases e; exact (own_lt ow).1)
                clear gl hor hgr
                replace ow := ow2
                clear ow2
                try simp only [Act.put, List.setIfInBounds_toArray]
                simp only [Nat.zero_add, List.nil_append] at ow ⊢
                have hHeld := HC.out _ hB
                refine hK.out _ _ (.inr hHeld) ?_
                clear hK K
                refine MAny.ready (rs := [9]) (by kernel_rfl) (by simp) ?_
                refine MReady.cons rfl (fun K hK => ?_) MReady.nil
                go_simp
                have xb := Box.new Wb 80 [.string m.name, .int .i64 m.fr, .int .i64 m.to] w.heap.size hB.size (by simp)
                have hz : Below Wb.heap.size Wb (Wb.alloc (.cells #[.string m.name, .int .i64 m.fr, .int .i64 m.to] 80)) := (Below.refl _ _).alloc (Nat.le_refl _) _
                have hxe : Wb.heap.size ≠ og := Nat.ne_of_gt (own_lt ow).2
                replace ow := own_below ow hz
                replace hown := own_below hown hz
                replace hB := stepB hB hz hB.size
                clear hz
                change Box _ (Wb.alloc (.cells #[.string m.name, .int .i64 m.fr, .int .i64 m.to] 80)) _ _ _ at xb
                generalize Wb.alloc (.cells #[.string m.name, .int .i64 m.fr, .int .i64 m.to] 80) = Wc at xb hB hown ow ⊢
                generalize Wb.heap.size = xg at xb hxe ⊢
                have hHeld := HC.out _ hB
                refine hK.out _ _ (.inr hHeld) ?_
                clear hK K
                refine MAny.ready (rs := [10]) (by kernel_rfl) (by simp) ?_
                refine MReady.cons rfl (fun K hK => ?_) MReady.nil
                refine step_append_any _ (by rfl) (.tmp 107) (.tmp 112) 48 (by rfl) w.heap.size 80 i0 (.agg #[.string ⟨#[]⟩, .int .i64 0, .int .i64 0]) 3 32 Tryd.underlying48 hi hz0 hz1 hz2 rfl (by decide) _ _ q ((ys.take q).flatMap encMk) (by rfl) ow ⟨xg, 0, none⟩ 1 1 (encMk m) (by rfl) rfl (Box.news xb) (mk_one1 m) (by unfold maxLen; omega) (by omega) hB.size ?_
                intro og oc Wcb ow2 hgr hor
                have xl := (own_lt xb).2
                replace xb := Box.keep xb hgr hxe
                replace hxe : xg ≠ og := by rcases hor with e | e <;> omega
                clear xl
                have gl := (own_lt hown).2
                replace hown := own_keep9 hown hgr (Ne.symm hne)
                replace hne : og ≠ g := by rcases hor with e | e <;> omega
                replace hB := hB.grown hgr hB.size (fun g e => by cases e; exact (own_lt ow).1)
                clear gl hor hgr
                replace ow := ow2
                clear ow2
                try simp only [Act.put, List.setIfInBounds_toArray]
                have hHeld := HC.out _ hB
                refine hK.out _ _ (.inr hHeld) ?_
                clear hK K
                refine MAny.ready (rs := [14]) (by kernel_rfl) (by simp) ?_
                refine MReady.cons rfl (fun K hK => ?_) MReady.nil
                first
                  | refine step_append_any _ (by rfl) (.tmp 113) (.tmp 116) 48 (by rfl) w.heap.size 80 i0 (.agg #[.string ⟨#[]⟩, .int .i64 0, .int .i64 0]) 3 32 Tryd.underlying48 hi hz0 hz1 hz2 rfl (by decide) _ _ (q + 1) ((ys.take q).flatMap encMk ++ encMk m) (by rfl) ow ⟨g, q * 3, none⟩ (k - q) (c - q) ((ys.drop q).flatMap encMk) (by rfl) (by rw [length_flatMap_enc encMk 3 encMk_len, List.length_drop, hyl]) (own_drop encMk_len hown (by omega)) (mk_one (ys.drop q)) (by unfold maxLen; omega) (by omega) hB.size ?_
                  | refine step_append_any _ (by rfl) (.tmp 113) (.tmp 116) 48 (by rfl) w.heap.size 80 i0 (.agg #[.string ⟨#[]⟩, .int .i64 0, .int .i64 0]) 3 32 Tryd.underlying48 hi hz0 hz1 hz2 rfl (by decide) _ _ (q + 1) ((ys.take q).flatMap encMk ++ encMk m) (by rfl) ow ⟨g, 0, none⟩ 0 0 ([]) (by rfl) rfl (fun j u hu => by cases hu) (fun u hu => by cases hu) (by unfold maxLen; omega) (by omega) hB.size ?_
                intro og oc Wcc ow2 hgr hor
                have xl := (own_lt xb).2
                replace xb := Box.keep xb hgr hxe
                replace hxe : xg ≠ og := by rcases hor with e | e <;> omega
                clear xl
                have gl := (own_lt hown).2
                replace hown := own_keep9 hown hgr (Ne.symm hne)
                replace hne : og ≠ g := by rcases hor with e | e <;> omega
                replace hB := hB.grown hgr hB.size (fun g e => by cases e; exact (own_lt ow).1)
                clear gl hor hgr
                replace ow := ow2
                clear ow2
                try simp only [Act.put]
                first
                  | (have hen : q + 1 + (k - q) = k + 1 := by omega
                     have hcnt : (ys.take q).flatMap encMk ++ encMk m ++ (ys.drop q).flatMap encMk = (insM m ys).flatMap encMk := by rw [hins.out]; simp
                     rw [hen, hcnt] at ow
                     simp only [hen]
                     clear hen hcnt)
                  | (have hen : q + 1 + 0 = k + 1 := by omega
                     have hcnt : (ys.take q).flatMap encMk ++ encMk m ++ [] = (insM m ys).flatMap encMk := by rw [hins.out, List.drop_eq_nil_of_le (by omega)]; simp
                     rw [hen, hcnt] at ow
                     simp only [hen]
                     clear hen hcnt)
                have hHeld := HC.out _ hB
                refine hK.out _ _ (.inr hHeld) ?_
                clear hK K
                refine MAny.ready (rs := [15]) (by kernel_rfl) (by simp) ?_
                refine MReady.cons rfl (fun K hK => ?_) MReady.nil
                go_simp
                refine hK.out _ _ (.inl rfl) ?_
                clear hK K
                refine MAny.done (by kernel_rfl) ?_ _
                try simp only [List.getElem_toArray, List.getElem_cons_succ, List.getElem_cons_zero]
                go_wp2
                go_roundw
                case rel => exact ⟨k + 1, og, oc, insM m ys, by omega, by go_num, rfl, ow, hB, by unfold Hid; rw [hst.out, hM.out], by rw [insM_len, hyl]⟩
                case measure => simp [intOf]; omega
              · go_simp
                have xb := Box.new Wa 80 [.string m.name, .int .i64 m.fr, .int .i64 m.to] w.heap.size hB.size (by simp)
                have hz : Below Wa.heap.size Wa (Wa.alloc (.cells #[.string m.name, .int .i64 m.fr, .int .i64 m.to] 80)) := (Below.refl _ _).alloc (Nat.le_refl _) _
                have hxe : Wa.heap.size ≠ og := Nat.ne_of_gt (own_lt ow).2
                replace ow := own_below ow hz
                replace hown := own_below hown hz
                replace hB := stepB hB hz hB.size
                clear hz
                change Box _ (Wa.alloc (.cells #[.string m.name, .int .i64 m.fr, .int .i64 m.to] 80)) _ _ _ at xb
                generalize Wa.alloc (.cells #[.string m.name, .int .i64 m.fr, .int .i64 m.to] 80) = Wb at xb hB hown ow ⊢
                generalize Wa.heap.size = xg at xb hxe ⊢
                have hHeld := HC.out _ hB
                refine hK.out _ _ (.inr hHeld) ?_
                clear hK K
                refine MAny.ready (rs := [4]) (by kernel_rfl) (by simp) ?_
                refine MReady.cons rfl (fun K hK => ?_) MReady.nil
                refine step_append_any _ (by rfl) (.tmp 103) (.tmp 106) 48 (by rfl) w.heap.size 80 i0 (.agg #[.string ⟨#[]⟩, .int .i64 0, .int .i64 0]) 3 32 Tryd.underlying48 hi hz0 hz1 hz2 rfl (by decide) _ _ 0 ([]) (by rfl) ow ⟨g, 0, none⟩ q c ((ys.take q).flatMap encMk) (by rfl) (by rw [length_flatMap_enc encMk 3 encMk_len, List.length_take, Nat.min_eq_left (by omega)]) (own_take encMk_len hown q) (mk_one (ys.take q)) (by unfold maxLen; omega) (by omega) hB.size ?_
                intro og oc Wc ow2 hgr hor
                have xl := (own_lt xb).2
                replace xb := Box.keep xb hgr hxe
                replace hxe : xg ≠ og := by rcases hor with e | e <;> omega
                clear xl
                have gl := (own_lt hown).2
                replace hown := own_keep9 hown hgr (Ne.symm hne)
                replace hne : og ≠ g := by rcases hor with e | e <;> omega
                replace hB := hB.grown hgr hB.size (fun g e => by cases e; exact (own_lt ow).1)
                clear gl hor hgr
                replace ow := ow2
                clear ow2
                try simp only [Act.put, List.setIfInBounds_toArray]
                simp only [Nat.zero_add, List.nil_append] at ow ⊢
                have hHeld := HC.out _ hB
                refine hK.out _ _ (.inr hHeld) ?_
                clear hK K
                refine MAny.ready (rs := [10]) (by kernel_rfl) (by simp) ?_
                refine MReady.cons rfl (fun K hK => ?_) MReady.nil
                refine step_append_any _ (by rfl) (.tmp 107) (.tmp 112) 48 (by rfl) w.heap.size 80 i0 (.agg #[.string ⟨#[]⟩, .int .i64 0, .int .i64 0]) 3 32 Tryd.underlying48 hi hz0 hz1 hz2 rfl (by decide) _ _ q ((ys.take q).flatMap encMk) (by rfl) ow ⟨xg, 0, none⟩ 1 1 (encMk m) (by rfl) rfl (Box.news xb) (mk_one1 m) (by unfold maxLen; omega) (by omega) hB.size ?_
                intro og oc Wcb ow2 hgr hor
                have xl := (own_lt xb).2
                replace xb := Box.keep xb hgr hxe
                replace hxe : xg ≠ og := by rcases hor with e | e <;> omega
                clear xl
                have gl := (own_lt hown).2
                replace hown := own_keep9 hown hgr (Ne.symm hne)
                replace hne : og ≠ g := by rcases hor with e | e <;> omega
                replace hB := hB.grown hgr hB.size (fun g e => by cases e; exact (own_lt ow).1)
                clear gl hor hgr
                replace ow := ow2
                clear ow2
                try simp only [Act.put]
                have hHeld := HC.out _ hB
                refine hK.out _ _ (.inr hHeld) ?_
                clear hK K
                refine MAny.ready (rs := [14]) (by kernel_rfl) (by simp) ?_
                refine MReady.cons rfl (fun K hK => ?_) MReady.nil
                first
                  | refine step_append_any _ (by rfl) (.tmp 113) (.tmp 116) 48 (by rfl) w.heap.size 80 i0 (.agg #[.string ⟨#[]⟩, .int .i64 0, .int .i64 0]) 3 32 Tryd.underlying48 hi hz0 hz1 hz2 rfl (by decide) _ _ (q + 1) ((ys.take q).flatMap encMk ++ encMk m) (by rfl) ow ⟨g, q * 3, none⟩ (k - q) (c - q) ((ys.drop q).flatMap encMk) (by rfl) (by rw [length_flatMap_enc encMk 3 encMk_len, List.length_drop, hyl]) (own_drop encMk_len hown (by omega)) (mk_one (ys.drop q)) (by unfold maxLen; omega) (by omega) hB.size ?_
                  | refine step_append_any _ (by rfl) (.tmp 113) (.tmp 116) 48 (by rfl) w.heap.size 80 i0 (.agg #[.string ⟨#[]⟩, .int .i64 0, .int .i64 0]) 3 32 Tryd.underlying48 hi hz0 hz1 hz2 rfl (by decide) _ _ (q + 1) ((ys.take q).flatMap encMk ++ encMk m) (by rfl) ow ⟨g, 0, none⟩ 0 0 ([]) (by rfl) rfl (fun j u hu => by cases hu) (fun u hu => by cases hu) (by unfold maxLen; omega) (by omega) hB.size ?_
                intro og oc Wcc ow2 hgr hor
                have xl := (own_lt xb).2
                replace xb := Box.keep xb hgr hxe
                replace hxe : xg ≠ og := by rcases hor with e | e <;> omega
                clear xl
                have gl := (own_lt hown).2
                replace hown := own_keep9 hown hgr (Ne.symm hne)
                replace hne : og ≠ g := by rcases hor with e | e <;> omega
                replace hB := hB.grown hgr hB.size (fun g e => by cases e; exact (own_lt ow).1)
                clear gl hor hgr
                replace ow := ow2
                clear ow2
                try simp only [Act.put]
                first
                  | (have hen : q + 1 + (k - q) = k + 1 := by omega
                     have hcnt : (ys.take q).flatMap encMk ++ encMk m ++ (ys.drop q).flatMap encMk = (insM m ys).flatMap encMk := by rw [hins.out]; simp
                     rw [hen, hcnt] at ow
                     simp only [hen]
                     clear hen hcnt)
                  | (have hen : q + 1 + 0 = k + 1 := by omega
                     have hcnt : (ys.take q).flatMap encMk ++ encMk m ++ [] = (insM m ys).flatMap encMk := by rw [hins.out, List.drop_eq_nil_of_le (by omega)]; simp
                     rw [hen, hcnt] at ow
                     simp only [hen]
                     clear hen hcnt)
                have hHeld := HC.out _ hB
                refine hK.out _ _ (.inr hHeld) ?_
                clear hK K
                refine MAny.ready (rs := [15]) (by kernel_rfl) (by simp) ?_
                refine MReady.cons rfl (fun K hK => ?_) MReady.nil
                go_simp
                refine hK.out _ _ (.inl rfl) ?_
                clear hK K
                refine MAny.done (by kernel_rfl) ?_ _
                try simp only [List.getElem_toArray, List.getElem_cons_succ, List.getElem_cons_zero]
                go_wp2
                go_roundw
                case rel => exact ⟨k + 1, og, oc, insM m ys, by omega, by go_num, rfl, ow, hB, by unfold Hid; rw [hst.out, hM.out], by rw [insM_len, hyl]⟩
                case measure => simp [intOf]; omega
            · go_simp
              have xb := Box.new W0 80 [.string m.name, .int .i64 m.fr, .int .i64 m.to] w.heap.size hB.size (by simp)
              have hz : Below W0.heap.size W0 (W0.alloc (.cells #[.string m.name, .int .i64 m.fr, .int .i64 m.to] 80)) := (Below.refl _ _).alloc (Nat.le_refl _) _
              replace hown := own_below hown hz
              replace hB := stepB hB hz hB.size
              clear hz
              change Box _ (W0.alloc (.cells #[.string m.name, .int .i64 m.fr, .int .i64 m.to] 80)) _ _ _ at xb
              generalize W0.alloc (.cells #[.string m.name, .int .i64 m.fr, .int .i64 m.to] 80) = Wa at xb hB hown ⊢
              generalize W0.heap.size = xg at xb ⊢
              have hHeld := HC.out _ hB
              refine hK.out _ _ (.inr hHeld) ?_
              clear hK K
              refine MAny.ready (rs := [0]) (by kernel_rfl) (by simp) ?_
              refine MReady.cons rfl (fun K hK => ?_) MReady.nil
              go_simp
              have ow := World.ownsRow_made Wa #[] 0 hB.size (by decide) rfl (e := 80) (size := 3)
              have hz : Below Wa.heap.size Wa (Wa.alloc (.cells #[] 80)) := (Below.refl _ _).alloc (Nat.le_refl _) _
              have hne : Wa.heap.size ≠ g := Nat.ne_of_gt (own_lt hown).2
              have hxe : xg ≠ Wa.heap.size := Nat.ne_of_lt (own_lt xb).2
              replace xb := Box.below xb hz
              replace hown := own_below hown hz
              replace hB := stepB hB hz hB.size
              clear hz
              generalize Wa.alloc (.cells #[] 80) = Wb at ow hB hown xb ⊢
              generalize Wa.heap.size = og at ow hne hxe ⊢
              have hHeld := HC.out _ hB
              refine hK.out _ _ (.inr hHeld) ?_
              clear hK K
              refine MAny.ready (rs := [4]) (by kernel_rfl) (by simp) ?_
              refine MReady.cons rfl (fun K hK => ?_) MReady.nil
              refine step_append_any _ (by rfl) (.tmp 103) (.tmp 106) 48 (by rfl) w.heap.size 80 i0 (.agg #[.string ⟨#[]⟩, .int .i64 0, .int .i64 0]) 3 32 Tryd.underlying48 hi hz0 hz1 hz2 rfl (by decide) _ _ 0 ([]) (by rfl) ow ⟨g, 0, none⟩ q c ((ys.take q).flatMap encMk) (by rfl) (by rw [length_flatMap_enc encMk 3 encMk_len, List.length_take, Nat.min_eq_left (by omega)]) (own_take encMk_len hown q) (mk_one (ys.take q)) (by unfold maxLen; omega) (by omega) hB.size ?_
              intro og oc Wc ow2 hgr hor
              have xl := (own_lt xb).2
              replace xb := Box.keep xb hgr hxe
              replace hxe : xg ≠ og := by rcases hor with e | e <;> omega
              clear xl
              have gl := (own_lt hown).2
              replace hown := own_keep9 hown hgr (Ne.symm hne)
              replace hne : og ≠ g := by rcases hor with e | e <;> omega
              replace hB := hB.grown hgr hB.size (fun g e => by cases e; exact (own_lt ow).1)
              clear gl hor hgr
              replace ow := ow2
              clear ow2
              try simp only [Act.put, List.setIfInBounds_toArray]
              simp only [Nat.zero_add, List.nil_append] at ow ⊢
              have hHeld := HC.out _ hB
              refine hK.out _ _ (.inr hHeld) ?_
              clear hK K
              refine MAny.ready (rs := [10]) (by kernel_rfl) (by simp) ?_
              refine MReady.cons rfl (fun K hK => ?_) MReady.nil
              refine step_append_any _ (by rfl) (.tmp 107) (.tmp 112) 48 (by rfl) w.heap.size 80 i0 (.agg #[.string ⟨#[]⟩, .int .i64 0, .int .i64 0]) 3 32 Tryd.underlying48 hi hz0 hz1 hz2 rfl (by decide) _ _ q ((ys.take q).flatMap encMk) (by rfl) ow ⟨xg, 0, none⟩ 1 1 (encMk m) (by rfl) rfl (Box.news xb) (mk_one1 m) (by unfold maxLen; omega) (by omega) hB.size ?_
              intro og oc Wcb ow2 hgr hor
              have xl := (own_lt xb).2
              replace xb := Box.keep xb hgr hxe
              replace hxe : xg ≠ og := by rcases hor with e | e <;> omega
              clear xl
              have gl := (own_lt hown).2
              replace hown := own_keep9 hown hgr (Ne.symm hne)
              replace hne : og ≠ g := by rcases hor with e | e <;> omega
              replace hB := hB.grown hgr hB.size (fun g e => by cases e; exact (own_lt ow).1)
              clear gl hor hgr
              replace ow := ow2
              clear ow2
              try simp only [Act.put]
              have hHeld := HC.out _ hB
              refine hK.out _ _ (.inr hHeld) ?_
              clear hK K
              refine MAny.ready (rs := [14]) (by kernel_rfl) (by simp) ?_
              refine MReady.cons rfl (fun K hK => ?_) MReady.nil
              first
                | refine step_append_any _ (by rfl) (.tmp 113) (.tmp 116) 48 (by rfl) w.heap.size 80 i0 (.agg #[.string ⟨#[]⟩, .int .i64 0, .int .i64 0]) 3 32 Tryd.underlying48 hi hz0 hz1 hz2 rfl (by decide) _ _ (q + 1) ((ys.take q).flatMap encMk ++ encMk m) (by rfl) ow ⟨g, q * 3, none⟩ (k - q) (c - q) ((ys.drop q).flatMap encMk) (by rfl) (by rw [length_flatMap_enc encMk 3 encMk_len, List.length_drop, hyl]) (own_drop encMk_len hown (by omega)) (mk_one (ys.drop q)) (by unfold maxLen; omega) (by omega) hB.size ?_
                | refine step_append_any _ (by rfl) (.tmp 113) (.tmp 116) 48 (by rfl) w.heap.size 80 i0 (.agg #[.string ⟨#[]⟩, .int .i64 0, .int .i64 0]) 3 32 Tryd.underlying48 hi hz0 hz1 hz2 rfl (by decide) _ _ (q + 1) ((ys.take q).flatMap encMk ++ encMk m) (by rfl) ow ⟨g, 0, none⟩ 0 0 ([]) (by rfl) rfl (fun j u hu => by cases hu) (fun u hu => by cases hu) (by unfold maxLen; omega) (by omega) hB.size ?_
              intro og oc Wcc ow2 hgr hor
              have xl := (own_lt xb).2
              replace xb := Box.keep xb hgr hxe
              replace hxe : xg ≠ og := by rcases hor with e | e <;> omega
              clear xl
              have gl := (own_lt hown).2
              replace hown := own_keep9 hown hgr (Ne.symm hne)
              replace hne : og ≠ g := by rcases hor with e | e <;> omega
              replace hB := hB.grown hgr hB.size (fun g e => by cases e; exact (own_lt ow).1)
              clear gl hor hgr
              replace ow := ow2
              clear ow2
              try simp only [Act.put]
              first
                | (have hen : q + 1 + (k - q) = k + 1 := by omega
                   have hcnt : (ys.take q).flatMap encMk ++ encMk m ++ (ys.drop q).flatMap encMk = (insM m ys).flatMap encMk := by rw [hins.out]; simp
                   rw [hen, hcnt] at ow
                   simp only [hen]
                   clear hen hcnt)
                | (have hen : q + 1 + 0 = k + 1 := by omega
                   have hcnt : (ys.take q).flatMap encMk ++ encMk m ++ [] = (insM m ys).flatMap encMk := by rw [hins.out, List.drop_eq_nil_of_le (by omega)]; simp
                   rw [hen, hcnt] at ow
                   simp only [hen]
                   clear hen hcnt)
              have hHeld := HC.out _ hB
              refine hK.out _ _ (.inr hHeld) ?_
              clear hK K
              refine MAny.ready (rs := [15]) (by kernel_rfl) (by simp) ?_
              refine MReady.cons rfl (fun K hK => ?_) MReady.nil
              go_simp
              refine hK.out _ _ (.inl rfl) ?_
              clear hK K
              refine MAny.done (by kernel_rfl) ?_ _
              try simp only [List.getElem_toArray, List.getElem_cons_succ, List.getElem_cons_zero]
              go_wp2
              go_roundw
              case rel => exact ⟨k + 1, og, oc, insM m ys, by omega, by go_num, rfl, ow, hB, by unfold Hid; rw [hst.out, hM.out], by rw [insM_len, hyl]⟩
              case measure => simp [intOf]; omega
    · obtain rfl : k = xs.length := by omega
      go_wp2
      go_ret
      have hM' := hM.out
      rw [List.take_length] at hM'
      exact ⟨g, c, rfl, by rw [hM']; exact hown, hB⟩
end Go.Proofs.YtmjbigeeokofeaaDoor
