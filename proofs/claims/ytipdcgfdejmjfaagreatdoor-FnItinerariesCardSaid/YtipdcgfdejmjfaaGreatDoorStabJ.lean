/- Walk: slices.SortStableFunc of at most 40 stays. Printed by gen_stabj.py. -/
import Derived.Test.YtipdcgfdejmjfaaGreatDoorStabM
namespace Go.Proofs.YtipdcgfdejmjfaaGreatDoor
section
open Go.ChangeShapes Go.WideShapes Go.ChangeAt Go.RowKit Go.IntWalk
set_option maxRecDepth 100000 in
set_option maxHeartbeats 16000000 in
theorem symMergeG1_any (base g n c N a m b : Nat) (Pre A B Post : List St) (w : World) (IH : SM base g n c N) (own : w.ownsRow base 49 3 (.slice (some ⟨g, 0, none⟩) n c) n ((Pre ++ (A ++ (B ++ Post))).flatMap encSt)) (hn : n ≤ 1000) (hl : (Pre ++ (A ++ (B ++ Post))).length = n) (ha : a = Pre.length) (hm : m = a + A.length) (hb : b = m + B.length) (hA1 : 1 < A.length) (hB1 : 1 < B.length) (hsA : Srt A) (hsB : Srt B) (hN : b - a ≤ N + 1) (hmid : (a + b) / 2 < m) :
    Calls Tryz.prog 139 #[.slice (some ⟨g, 0, none⟩) n c, .int .i64 a, .int .i64 m, .int .i64 b, .func (.func 59) #[] #[]] w fun e w' => ∃ C : List St, C.Perm (A ++ B) ∧ Srt C ∧ e = .returned (.tuple #[]) ∧ w'.ownsRow base 49 3 (.slice (some ⟨g, 0, none⟩) n c) n ((Pre ++ (C ++ Post)).flatMap encSt) ∧ w.grownBy w' (some g) := by
  have hB : w.grownBy w (some g) := World.grownBy.refl w _
  have hmn : a + 1 < m ∧ m + 1 < b ∧ b ≤ n := by simp only [List.length_append] at hl; omega
  obtain ⟨mid, hmi⟩ : ∃ mid, mid = (a + b) / 2 := ⟨_, rfl⟩
  rw [← hmi] at hmid
  have hmi2 : a < mid ∧ mid < b ∧ 2 * mid ≤ a + b ∧ a + b ≤ 2 * mid + 1 := by omega
  obtain ⟨s, hs⟩ : ∃ s, s = mid + m := ⟨_, rfl⟩
  obtain ⟨lo, hlo⟩ : ∃ lo, lo + b = s := ⟨s - b, by omega⟩
  obtain ⟨pp, hpp⟩ : ∃ pp, pp + 1 = s := ⟨s - 1, by omega⟩
  have hK : a ≤ lo ∧ s ≤ lo + b ∧ lo ≤ mid ∧ (lo = a ∨ lo + b = s) := by omega
  have i1 : (((m : Int) - (a : Int)) == 1) = false := by simp; omega
  have i2 : (((b : Int) - (m : Int)) == 1) = false := by simp; omega
  have i3 : IntKind.i64.wrap ((a : Int) + (b : Int)) = (a : Int) + (b : Int) := by rw [IntKind.wrap_i64]; omega
  have i4 : IntKind.u64.wrap ((a : Int) + (b : Int)) = (a : Int) + (b : Int) := by rw [IntKind.wrap_u64]; omega
  have i5 : ((a : Int) + (b : Int)) / 2 = (mid : Int) := by omega
  have i6 : IntKind.i64.wrap ((mid : Int) + (m : Int)) = (s : Int) := by rw [IntKind.wrap_i64]; omega
  have i7 : (mid : Int) < (m : Int) := by omega
  have i8 : IntKind.i64.wrap ((s : Int) - 1) = (pp : Int) := by rw [IntKind.wrap_i64]; omega
  have i9 : IntKind.i64.wrap ((s : Int) - (b : Int)) = (lo : Int) := by rw [IntKind.wrap_i64]; omega
  have hmid2 : mid ≤ m := by omega
  clear hmid
  have hgA : Hid (∀ k, a ≤ k → k < m → (Pre ++ (A ++ (B ++ Post)))[k]? = A[k - a]?) := by
    intro k hk hkm
    rw [List.getElem?_append_right (by omega), ← ha, List.getElem?_append_left (by omega)]
  have hgB : Hid (∀ k, m ≤ k → k < b → (Pre ++ (A ++ (B ++ Post)))[k]? = B[k - m]?) := by
    intro k hk hkm
    rw [List.getElem?_append_right (by omega), ← ha, List.getElem?_append_right (by omega), List.getElem?_append_left (by omega)]
    congr 1; omega
  have hx := Lib.hid (And.intro ha (And.intro hm (And.intro hb (And.intro hl (And.intro hsA (And.intro hsB hN))))))
  have hmn := Lib.hid (And.intro hmn (And.intro hmi2 (And.intro hs (And.intro hpp hK))))
  replace IH := Lib.hid IH
  clear ha hm hb hl hsA hsB hA1 hB1 hN hmi hmi2 hs hpp hlo hK
  go_enter Tryz.func139, Tryz.ntmps139
  go_wp2
  go_loopw [20, 21] (fun i j wr => ∃ (p q : Nat), i = .int .i64 p ∧ j = .int .i64 q ∧ lo ≤ p ∧ p ≤ q ∧ q ≤ mid ∧ Hid ((p = lo ∨ ∃ y x, A[p - 1 - a]? = some y ∧ B[s - p - m]? = some x ∧ y.fr ≤ x.fr) ∧ (q = mid ∨ ∃ y x, A[q - a]? = some y ∧ B[pp - q - m]? = some x ∧ x.fr ≤ y.fr)) ∧ wr.ownsRow base 49 3 (.slice (some ⟨g, 0, none⟩) n c) n ((Pre ++ (A ++ (B ++ Post))).flatMap encSt) ∧ w.grownBy wr (some g)) (fun i j _ => (intOf j).toNat - (intOf i).toNat)
  case atStart => exact ⟨lo, mid, rfl, rfl, Nat.le_refl _, by have := hmn.out; omega, Nat.le_refl _, ⟨.inl rfl, .inl rfl⟩, own, hB⟩
  case round =>
    clear own hB i1 i2 i3 i4 i5 i6 i7 i8 i9
    obtain ⟨p, q, rfl, rfl, hp, hpq, hq, hI, own, hB⟩ := hrel
    have hmm := hmn.out
    by_cases hlt : p < q
    · have c1 : (p : Int) < (q : Int) := by omega
      obtain ⟨h, hh⟩ : ∃ h, h = (p + q) / 2 := ⟨_, rfl⟩
      have hh1 : p ≤ h ∧ h < q := by omega
      obtain ⟨ei, hei⟩ : ∃ ei, ei + h = pp := ⟨pp - h, by omega⟩
      have hei2 : m ≤ ei ∧ ei < b := by omega
      have v1 : IntKind.i64.wrap ((p : Int) + (q : Int)) = (p : Int) + (q : Int) := by rw [IntKind.wrap_i64]; omega
      have v2 : IntKind.u64.wrap ((p : Int) + (q : Int)) = (p : Int) + (q : Int) := by rw [IntKind.wrap_u64]; omega
      have v3 : ((p : Int) + (q : Int)) / 2 = (h : Int) := by omega
      have v4 : IntKind.i64.wrap ((pp : Int) - (h : Int)) = (ei : Int) := by rw [IntKind.wrap_i64]; omega
      have h1 : (h : Int) < (n : Int) := by omega
      have h2 : (ei : Int) < (n : Int) := by omega
      obtain ⟨y, hy⟩ : ∃ y, A[h - a]? = some y := ⟨_, List.getElem?_eq_getElem (by have := hx.out; omega)⟩
      obtain ⟨x, hxv⟩ : ∃ x, B[ei - m]? = some x := ⟨_, List.getElem?_eq_getElem (by have := hx.out; omega)⟩
      replace hy := Lib.hid hy
      replace hxv := Lib.hid hxv
      have hei := Lib.hid hei
      replace hmm := Lib.hid hmm
      replace hp := Lib.hid hp
      replace hq := Lib.hid hq
      replace hmid2 := Lib.hid hmid2
      clear hh

      have hx0 := own_at encSt_len own (i := ei) ((hgB.out ei (by omega) (by omega)).trans hxv.out) (j := 0) rfl
      have hx1 := own_at encSt_len own (i := ei) ((hgB.out ei (by omega) (by omega)).trans hxv.out) (j := 1) rfl
      have hx2 := own_at encSt_len own (i := ei) ((hgB.out ei (by omega) (by omega)).trans hxv.out) (j := 2) rfl
      have hy0 := own_at encSt_len own (i := h) ((hgA.out h (by have := hmm.out; have := hp.out; omega) (by have := hmm.out; have := hq.out; have := hmid2.out; omega)).trans hy.out) (j := 0) rfl
      have hy1 := own_at encSt_len own (i := h) ((hgA.out h (by have := hmm.out; have := hp.out; omega) (by have := hmm.out; have := hq.out; have := hmid2.out; omega)).trans hy.out) (j := 1) rfl
      have hy2 := own_at encSt_len own (i := h) ((hgA.out h (by have := hmm.out; have := hp.out; omega) (by have := hmm.out; have := hq.out; have := hmid2.out; omega)).trans hy.out) (j := 2) rfl
      rw [Nat.add_zero] at hx0 hy0
      have hgl := (own_lt own).2
      have X0 := Later.cell hx0 hgl
      have X1 := Later.cell hx1 hgl
      have X2 := Later.cell hx2 hgl
      have Y0 := Later.cell hy0 hgl
      have Y1 := Later.cell hy1 hgl
      have Y2 := Later.cell hy2 hgl
      clear hx0 hx1 hx2 hy0 hy1 hy2
      by_cases hcc : x.fr < y.fr
      · obtain ⟨v, hv, HA⟩ := addStay1_lt hcc
        replace HA := Lib.hid HA
        replace hcc := Lib.hid hcc
        go_wp2_with fail
        refine wp_region_later _ (by kernel_rfl) (by kernel_rfl) ?_
        repeat (go_big_quiet_step ((go_at_call 59; exact Later.call (Nat.le_refl _) (HA.out _))))
        refine wpQuiet_nil ?_
        intro z'
        have hz := z'.prop
        generalize z'.val = w3 at hz
        replace own := own_below own hz
        replace hB := gB hB hz
        clear X0 X1 X2 Y0 Y1 Y2 hz hgl
        go_wp2
        go_roundw
        case rel => exact ⟨p, h, rfl, rfl, hp.out, by omega, by have := hq.out; omega, ⟨hI.out.1, .inr ⟨y, x, hy.out, by have h3 := hei.out; rw [show pp - h - m = ei - m by omega]; exact hxv.out, by have := hcc.out; omega⟩⟩, own, hB⟩
        case measure => simp only [intOf]; omega
      · obtain ⟨v, hv, HA⟩ := addStay1_ge hcc
        replace HA := Lib.hid HA
        replace hcc := Lib.hid hcc
        go_wp2_with fail
        refine wp_region_later _ (by kernel_rfl) (by kernel_rfl) ?_
        repeat (go_big_quiet_step ((go_at_call 59; exact Later.call (Nat.le_refl _) (HA.out _))))
        refine wpQuiet_nil ?_
        intro z'
        have hz := z'.prop
        generalize z'.val = w3 at hz
        replace own := own_below own hz
        replace hB := gB hB hz
        clear X0 X1 X2 Y0 Y1 Y2 hz hgl
        go_wp2
        go_roundw
        case rel => exact ⟨h + 1, q, by go_num, rfl, by have := hp.out; omega, by omega, hq.out, ⟨.inr ⟨y, x, by rw [show h + 1 - 1 - a = h - a by omega]; exact hy.out, by have h3 := hei.out; have h4 := hmm.out; rw [show s - (h + 1) - m = ei - m by omega]; exact hxv.out, by have := hcc.out; omega⟩, hI.out.2⟩, own, hB⟩
        case measure => simp only [intOf]; omega
    · obtain rfl : p = q := by omega
      have c1 : decide ((p : Int) < (p : Int)) = false := by simp
      obtain ⟨A1, A2, rfl, hA1⟩ := split_at A (j := p - a) (by have := hx.out; omega)
      obtain ⟨B1, B2, rfl, hB1⟩ := split_at B (j := s - p - m) (by have := hx.out; omega)
      obtain ⟨en, hen⟩ : ∃ en, en + p = s := ⟨s - p, by omega⟩
      have hpq : Hid ((∀ x ∈ A1, ∀ y ∈ B2, x.fr ≤ y.fr) ∧ (∀ x ∈ B1, ∀ y ∈ A2, x.fr ≤ y.fr)) := by
        obtain ⟨h1, h2, h3, h4, h5, h6, h7⟩ := hx.out
        obtain ⟨e1, e2⟩ := hI.out
        simp only [List.length_append] at h2 h3
        clear h4 hI
        refine ⟨cross h5.left h6.right ?_, cross h6.left h5.right ?_⟩
        · clear e2
          rcases e1 with e1 | ⟨y, x, hy, hxx, hxy⟩
          · rcases (show p = a ∨ p + b = s by omega) with h8 | h8
            · exact .inl (List.length_eq_zero_iff.1 (by omega))
            · exact .inr (.inl (List.length_eq_zero_iff.1 (by omega)))
          · by_cases hz : A1 = []
            · exact .inl hz
            · have hz2 : 0 < A1.length := List.length_pos_iff.2 hz
              refine .inr (.inr ⟨y, x, ?_, ?_, hxy⟩)
              · rw [List.getElem?_append_left (by omega)] at hy
                rw [show A1.length - 1 = p - 1 - a by omega]; exact hy
              · rw [List.getElem?_append_right (by omega), hB1, Nat.sub_self] at hxx
                exact hxx
        · clear e1
          rcases e2 with e2 | ⟨y, x, hy, hxx, hxy⟩
          · exact .inl (List.length_eq_zero_iff.1 (by omega))
          · by_cases hz : B1 = []
            · exact .inl hz
            · have hz2 : 0 < B1.length := List.length_pos_iff.2 hz
              refine .inr (.inr ⟨x, y, ?_, ?_, hxy⟩)
              · rw [List.getElem?_append_left (by omega)] at hxx
                rw [show B1.length - 1 = pp - p - m by omega]; exact hxx
              · rw [List.getElem?_append_right (by omega), hA1, Nat.sub_self] at hy
                exact hy
      have HN : Hid (a = Pre.length ∧ p = a + A1.length ∧ m = p + A2.length ∧ en = m + B1.length ∧ b = en + B2.length ∧ mid = p + B1.length ∧ Pre.length + A1.length + A2.length + B1.length + B2.length + Post.length = n ∧ b - a ≤ N + 1 ∧ b ≤ 1000 ∧ a < mid ∧ mid < b ∧ mid ≤ m) := by
        obtain ⟨h1, h2, h3, h4, h5, h6, h7⟩ := hx.out
        simp only [List.length_append] at h2 h3 h4
        refine ⟨h1, ?_, ?_, ?_, ?_, ?_, ?_, h7, ?_, ?_, ?_, ?_⟩ <;> omega
      have HS : Hid (Srt (A1 ++ A2) ∧ Srt (B1 ++ B2)) := ⟨hx.out.2.2.2.2.1, hx.out.2.2.2.2.2.1⟩
      have hpe : Hid (((A1 ++ B1) ++ (A2 ++ B2)).Perm ((A1 ++ A2) ++ (B1 ++ B2))) := by
        show List.Perm _ _
        rw [List.append_assoc, List.append_assoc]
        refine (List.perm_append_left_iff A1).2 ?_
        rw [← List.append_assoc, ← List.append_assoc]
        exact (List.perm_append_right_iff B2).2 List.perm_append_comm
      have hbn : Hid (n ≤ 1000) := hn
      have v1 : IntKind.i64.wrap ((s : Int) - (p : Int)) = (en : Int) := by rw [IntKind.wrap_i64]; omega
      clear hI hgA hgB hA1 hB1 hx hmm hmn hp hq hen hn hmid2 hlt
      by_cases hP : p < m
      · by_cases hQ : m < en
        · by_cases hR : a < p
          · by_cases hT : en < b
            · have f1 : (p : Int) < (m : Int) := by have := HN.out; omega
              have f2 : (m : Int) < (en : Int) := by have := HN.out; omega
              have f3 : (a : Int) < (p : Int) := by have := HN.out; omega
              have f4 : (p : Int) < (mid : Int) := by have := HN.out; omega
              have f5 : (mid : Int) < (en : Int) := by have := HN.out; omega
              have f6 : (en : Int) < (b : Int) := by have := HN.out; omega
              replace hP := Lib.hid hP
              replace hQ := Lib.hid hQ
              replace hR := Lib.hid hR
              replace hT := Lib.hid hT
              have HC := Lib.hid (rotate_any base g n c p m en (Pre ++ A1) A2 B1 (B2 ++ Post) _ (.func (.func 59) #[] #[]) (by simpa using own) hbn.out (by have := HN.out; simp only [List.length_append]; omega) (by have := HN.out; simp only [List.length_append]; omega) (by have := HN.out; omega) (by have := HN.out; omega) (by have h1 := HN.out; have h2 := hP.out; omega) (by have h1 := HN.out; have h2 := hQ.out; omega))
              go_upto_region 41 with (first | (exfalso; have h1 := HN.out; have h2 := hP.out; have h3 := hQ.out; have h4 := hR.out; have h5 := hT.out; omega) | (go_at_call 159; refine HC.out.mono ?_; rintro e w1 ⟨rfl, own1, hG⟩; replace hG := Lib.hid hG))
              replace hB := gT hB hG.out
              clear own HC hG
              have own := own1
              clear own1
              replace own := own_re own (l' := Pre ++ (A1 ++ (B1 ++ (A2 ++ (B2 ++ Post))))) (by simp)
              have HC := Lib.hid (IH.out a p mid Pre A1 B1 (A2 ++ (B2 ++ Post)) _ own (by have := HN.out; simp only [List.length_append]; omega) HN.out.1 HN.out.2.1 HN.out.2.2.2.2.2.1 (by have h1 := HN.out; have h2 := hR.out; omega) (by have h1 := HN.out; have h2 := hQ.out; omega) HS.out.1.left HS.out.2.left (by have h1 := HN.out; omega))
              go_upto_region 43 with (first | (exfalso; have h1 := HN.out; have h2 := hP.out; have h3 := hQ.out; have h4 := hR.out; have h5 := hT.out; omega) | (go_at_call 139; refine HC.out.mono ?_; rintro e w2 ⟨C1, p1, s1, rfl, own1, hG⟩; replace hG := Lib.hid hG))
              replace hB := gT hB hG.out
              clear own HC hG
              have own := own1
              clear own1
              have hl1 : Hid (C1.length = A1.length + B1.length) := by have := p1.length_eq; rw [List.length_append] at this; exact this
              rw [← List.append_assoc Pre C1] at own
              have HC := Lib.hid (IH.out mid en b (Pre ++ C1) A2 B2 Post _ own (by have h1 := HN.out; have h2 := hl1.out; simp only [List.length_append]; omega) (by have h1 := HN.out; have h2 := hl1.out; simp only [List.length_append]; omega) (by have := HN.out; omega) (by have := HN.out; omega) (by have h1 := HN.out; have h2 := hP.out; omega) (by have h1 := HN.out; have h2 := hT.out; omega) HS.out.1.right HS.out.2.right (by have h1 := HN.out; omega))
              go_wp2_with (first | (exfalso; have h1 := HN.out; have h2 := hP.out; have h3 := hQ.out; have h4 := hR.out; have h5 := hT.out; omega) | (go_at_call 139; refine HC.out.mono ?_; rintro e w5 ⟨C2, p2, s2, rfl, own1, hG⟩; replace hG := Lib.hid hG))
              replace hB := gT hB hG.out
              clear own HC hG
              have own := own1
              clear own1
              go_wp2_with (exfalso; have h1 := HN.out; have h2 := hP.out; have h3 := hQ.out; have h4 := hR.out; have h5 := hT.out; omega)
              go_end0
              exact ⟨C1 ++ C2, (p1.append p2).trans hpe.out, srt_merge HS.out.1 HS.out.2 hpq.out.1 hpq.out.2 p1 p2 s1 s2, rfl, by rw [List.append_assoc] at own; rw [List.append_assoc]; exact own, hB⟩
            · have f1 : (p : Int) < (m : Int) := by have := HN.out; omega
              have f2 : (m : Int) < (en : Int) := by have := HN.out; omega
              have f3 : (a : Int) < (p : Int) := by have := HN.out; omega
              have f4 : (p : Int) < (mid : Int) := by have := HN.out; omega
              have f5 : (mid : Int) < (en : Int) := by have := HN.out; omega
              have f6 : decide ((en : Int) < (b : Int)) = false := by have := HN.out; simp; omega
              replace hP := Lib.hid hP
              replace hQ := Lib.hid hQ
              replace hR := Lib.hid hR
              replace hT := Lib.hid hT
              have HC := Lib.hid (rotate_any base g n c p m en (Pre ++ A1) A2 B1 (B2 ++ Post) _ (.func (.func 59) #[] #[]) (by simpa using own) hbn.out (by have := HN.out; simp only [List.length_append]; omega) (by have := HN.out; simp only [List.length_append]; omega) (by have := HN.out; omega) (by have := HN.out; omega) (by have h1 := HN.out; have h2 := hP.out; omega) (by have h1 := HN.out; have h2 := hQ.out; omega))
              go_upto_region 41 with (first | (exfalso; have h1 := HN.out; have h2 := hP.out; have h3 := hQ.out; have h4 := hR.out; have h5 := hT.out; omega) | (go_at_call 159; refine HC.out.mono ?_; rintro e w1 ⟨rfl, own1, hG⟩; replace hG := Lib.hid hG))
              replace hB := gT hB hG.out
              clear own HC hG
              have own := own1
              clear own1
              replace own := own_re own (l' := Pre ++ (A1 ++ (B1 ++ (A2 ++ (B2 ++ Post))))) (by simp)
              have HC := Lib.hid (IH.out a p mid Pre A1 B1 (A2 ++ (B2 ++ Post)) _ own (by have := HN.out; simp only [List.length_append]; omega) HN.out.1 HN.out.2.1 HN.out.2.2.2.2.2.1 (by have h1 := HN.out; have h2 := hR.out; omega) (by have h1 := HN.out; have h2 := hQ.out; omega) HS.out.1.left HS.out.2.left (by have h1 := HN.out; omega))
              go_upto_region 43 with (first | (exfalso; have h1 := HN.out; have h2 := hP.out; have h3 := hQ.out; have h4 := hR.out; have h5 := hT.out; omega) | (go_at_call 139; refine HC.out.mono ?_; rintro e w2 ⟨C1, p1, s1, rfl, own1, hG⟩; replace hG := Lib.hid hG))
              replace hB := gT hB hG.out
              clear own HC hG
              have own := own1
              clear own1
              have hl1 : Hid (C1.length = A1.length + B1.length) := by have := p1.length_eq; rw [List.length_append] at this; exact this
              obtain ⟨C2, hC2⟩ : ∃ C2, C2 = A2 ++ B2 := ⟨_, rfl⟩
              have p2 : C2.Perm (A2 ++ B2) := by rw [hC2]
              have s2 : Srt C2 := by rw [hC2]; exact srt_nn HS.out.1.right HS.out.2.right (.inr (List.length_eq_zero_iff.1 (by have h1 := HN.out; have h2 := hT.out; omega)))
              rw [← List.append_assoc A2 B2, ← hC2, ← List.append_assoc Pre C1] at own
              clear hC2
              go_wp2_with (exfalso; have h1 := HN.out; have h2 := hP.out; have h3 := hQ.out; have h4 := hR.out; have h5 := hT.out; omega)
              go_end0
              exact ⟨C1 ++ C2, (p1.append p2).trans hpe.out, srt_merge HS.out.1 HS.out.2 hpq.out.1 hpq.out.2 p1 p2 s1 s2, rfl, by rw [List.append_assoc] at own; rw [List.append_assoc]; exact own, hB⟩
          · by_cases hT : en < b
            · have f1 : (p : Int) < (m : Int) := by have := HN.out; omega
              have f2 : (m : Int) < (en : Int) := by have := HN.out; omega
              have f3 : decide ((a : Int) < (p : Int)) = false := by have := HN.out; simp; omega
              have f4 : (p : Int) < (mid : Int) := by have := HN.out; omega
              have f5 : (mid : Int) < (en : Int) := by have := HN.out; omega
              have f6 : (en : Int) < (b : Int) := by have := HN.out; omega
              replace hP := Lib.hid hP
              replace hQ := Lib.hid hQ
              replace hR := Lib.hid hR
              replace hT := Lib.hid hT
              have HC := Lib.hid (rotate_any base g n c p m en (Pre ++ A1) A2 B1 (B2 ++ Post) _ (.func (.func 59) #[] #[]) (by simpa using own) hbn.out (by have := HN.out; simp only [List.length_append]; omega) (by have := HN.out; simp only [List.length_append]; omega) (by have := HN.out; omega) (by have := HN.out; omega) (by have h1 := HN.out; have h2 := hP.out; omega) (by have h1 := HN.out; have h2 := hQ.out; omega))
              go_upto_region 41 with (first | (exfalso; have h1 := HN.out; have h2 := hP.out; have h3 := hQ.out; have h4 := hR.out; have h5 := hT.out; omega) | (go_at_call 159; refine HC.out.mono ?_; rintro e w1 ⟨rfl, own1, hG⟩; replace hG := Lib.hid hG))
              replace hB := gT hB hG.out
              clear own HC hG
              have own := own1
              clear own1
              replace own := own_re own (l' := Pre ++ (A1 ++ (B1 ++ (A2 ++ (B2 ++ Post))))) (by simp)
              obtain ⟨C1, hC1⟩ : ∃ C1, C1 = A1 ++ B1 := ⟨_, rfl⟩
              have p1 : C1.Perm (A1 ++ B1) := by rw [hC1]
              have s1 : Srt C1 := by rw [hC1]; exact srt_nn HS.out.1.left HS.out.2.left (.inl (List.length_eq_zero_iff.1 (by have h1 := HN.out; have h2 := hR.out; omega)))
              rw [← List.append_assoc A1 B1, ← hC1] at own
              clear hC1
              have hl1 : Hid (C1.length = A1.length + B1.length) := by have := p1.length_eq; rw [List.length_append] at this; exact this
              rw [← List.append_assoc Pre C1] at own
              have HC := Lib.hid (IH.out mid en b (Pre ++ C1) A2 B2 Post _ own (by have h1 := HN.out; have h2 := hl1.out; simp only [List.length_append]; omega) (by have h1 := HN.out; have h2 := hl1.out; simp only [List.length_append]; omega) (by have := HN.out; omega) (by have := HN.out; omega) (by have h1 := HN.out; have h2 := hP.out; omega) (by have h1 := HN.out; have h2 := hT.out; omega) HS.out.1.right HS.out.2.right (by have h1 := HN.out; omega))
              go_wp2_with (first | (exfalso; have h1 := HN.out; have h2 := hP.out; have h3 := hQ.out; have h4 := hR.out; have h5 := hT.out; omega) | (go_at_call 139; refine HC.out.mono ?_; rintro e w5 ⟨C2, p2, s2, rfl, own1, hG⟩; replace hG := Lib.hid hG))
              replace hB := gT hB hG.out
              clear own HC hG
              have own := own1
              clear own1
              go_wp2_with (exfalso; have h1 := HN.out; have h2 := hP.out; have h3 := hQ.out; have h4 := hR.out; have h5 := hT.out; omega)
              go_end0
              exact ⟨C1 ++ C2, (p1.append p2).trans hpe.out, srt_merge HS.out.1 HS.out.2 hpq.out.1 hpq.out.2 p1 p2 s1 s2, rfl, by rw [List.append_assoc] at own; rw [List.append_assoc]; exact own, hB⟩
            · have f1 : (p : Int) < (m : Int) := by have := HN.out; omega
              have f2 : (m : Int) < (en : Int) := by have := HN.out; omega
              have f3 : decide ((a : Int) < (p : Int)) = false := by have := HN.out; simp; omega
              have f4 : (p : Int) < (mid : Int) := by have := HN.out; omega
              have f5 : (mid : Int) < (en : Int) := by have := HN.out; omega
              have f6 : decide ((en : Int) < (b : Int)) = false := by have := HN.out; simp; omega
              replace hP := Lib.hid hP
              replace hQ := Lib.hid hQ
              replace hR := Lib.hid hR
              replace hT := Lib.hid hT
              have HC := Lib.hid (rotate_any base g n c p m en (Pre ++ A1) A2 B1 (B2 ++ Post) _ (.func (.func 59) #[] #[]) (by simpa using own) hbn.out (by have := HN.out; simp only [List.length_append]; omega) (by have := HN.out; simp only [List.length_append]; omega) (by have := HN.out; omega) (by have := HN.out; omega) (by have h1 := HN.out; have h2 := hP.out; omega) (by have h1 := HN.out; have h2 := hQ.out; omega))
              go_upto_region 41 with (first | (exfalso; have h1 := HN.out; have h2 := hP.out; have h3 := hQ.out; have h4 := hR.out; have h5 := hT.out; omega) | (go_at_call 159; refine HC.out.mono ?_; rintro e w1 ⟨rfl, own1, hG⟩; replace hG := Lib.hid hG))
              replace hB := gT hB hG.out
              clear own HC hG
              have own := own1
              clear own1
              replace own := own_re own (l' := Pre ++ (A1 ++ (B1 ++ (A2 ++ (B2 ++ Post))))) (by simp)
              obtain ⟨C1, hC1⟩ : ∃ C1, C1 = A1 ++ B1 := ⟨_, rfl⟩
              have p1 : C1.Perm (A1 ++ B1) := by rw [hC1]
              have s1 : Srt C1 := by rw [hC1]; exact srt_nn HS.out.1.left HS.out.2.left (.inl (List.length_eq_zero_iff.1 (by have h1 := HN.out; have h2 := hR.out; omega)))
              rw [← List.append_assoc A1 B1, ← hC1] at own
              clear hC1
              have hl1 : Hid (C1.length = A1.length + B1.length) := by have := p1.length_eq; rw [List.length_append] at this; exact this
              obtain ⟨C2, hC2⟩ : ∃ C2, C2 = A2 ++ B2 := ⟨_, rfl⟩
              have p2 : C2.Perm (A2 ++ B2) := by rw [hC2]
              have s2 : Srt C2 := by rw [hC2]; exact srt_nn HS.out.1.right HS.out.2.right (.inr (List.length_eq_zero_iff.1 (by have h1 := HN.out; have h2 := hT.out; omega)))
              rw [← List.append_assoc A2 B2, ← hC2, ← List.append_assoc Pre C1] at own
              clear hC2
              go_wp2_with (exfalso; have h1 := HN.out; have h2 := hP.out; have h3 := hQ.out; have h4 := hR.out; have h5 := hT.out; omega)
              go_end0
              exact ⟨C1 ++ C2, (p1.append p2).trans hpe.out, srt_merge HS.out.1 HS.out.2 hpq.out.1 hpq.out.2 p1 p2 s1 s2, rfl, by rw [List.append_assoc] at own; rw [List.append_assoc]; exact own, hB⟩
        · by_cases hR : a < p
          · by_cases hT : en < b
            · have f1 : (p : Int) < (m : Int) := by have := HN.out; omega
              have f2 : decide ((m : Int) < (en : Int)) = false := by have := HN.out; simp; omega
              have f3 : (a : Int) < (p : Int) := by have := HN.out; omega
              have f4 : decide ((p : Int) < (mid : Int)) = false := by have := HN.out; simp; omega
              have f5 : (mid : Int) < (en : Int) := by have := HN.out; omega
              have f6 : (en : Int) < (b : Int) := by have := HN.out; omega
              replace hP := Lib.hid hP
              replace hQ := Lib.hid hQ
              replace hR := Lib.hid hR
              replace hT := Lib.hid hT
              replace own := own_re own (l' := Pre ++ (A1 ++ (B1 ++ (A2 ++ (B2 ++ Post))))) (by
                rw [← swap_nn (A := A2) (B := B1) (R := B2 ++ Post) (.inr (List.length_eq_zero_iff.1 (by have h1 := HN.out; have h2 := hQ.out; omega)))]
                simp)
              obtain ⟨C1, hC1⟩ : ∃ C1, C1 = A1 ++ B1 := ⟨_, rfl⟩
              have p1 : C1.Perm (A1 ++ B1) := by rw [hC1]
              have s1 : Srt C1 := by rw [hC1]; exact srt_nn HS.out.1.left HS.out.2.left (.inr (List.length_eq_zero_iff.1 (by have h1 := HN.out; have h2 := hQ.out; omega)))
              rw [← List.append_assoc A1 B1, ← hC1] at own
              clear hC1
              have hl1 : Hid (C1.length = A1.length + B1.length) := by have := p1.length_eq; rw [List.length_append] at this; exact this
              rw [← List.append_assoc Pre C1] at own
              have HC := Lib.hid (IH.out mid en b (Pre ++ C1) A2 B2 Post _ own (by have h1 := HN.out; have h2 := hl1.out; simp only [List.length_append]; omega) (by have h1 := HN.out; have h2 := hl1.out; simp only [List.length_append]; omega) (by have := HN.out; omega) (by have := HN.out; omega) (by have h1 := HN.out; have h2 := hP.out; omega) (by have h1 := HN.out; have h2 := hT.out; omega) HS.out.1.right HS.out.2.right (by have h1 := HN.out; omega))
              go_wp2_with (first | (exfalso; have h1 := HN.out; have h2 := hP.out; have h3 := hQ.out; have h4 := hR.out; have h5 := hT.out; omega) | (go_at_call 139; refine HC.out.mono ?_; rintro e w5 ⟨C2, p2, s2, rfl, own1, hG⟩; replace hG := Lib.hid hG))
              replace hB := gT hB hG.out
              clear own HC hG
              have own := own1
              clear own1
              go_wp2_with (exfalso; have h1 := HN.out; have h2 := hP.out; have h3 := hQ.out; have h4 := hR.out; have h5 := hT.out; omega)
              go_end0
              exact ⟨C1 ++ C2, (p1.append p2).trans hpe.out, srt_merge HS.out.1 HS.out.2 hpq.out.1 hpq.out.2 p1 p2 s1 s2, rfl, by rw [List.append_assoc] at own; rw [List.append_assoc]; exact own, hB⟩
            · exfalso; have := HN.out; omega
          · by_cases hT : en < b
            · exfalso; have := HN.out; omega
            · exfalso; have := HN.out; omega
      · by_cases hQ : m < en
        · by_cases hR : a < p
          · by_cases hT : en < b
            · exfalso; have := HN.out; omega
            · exfalso; have := HN.out; omega
          · by_cases hT : en < b
            · exfalso; have := HN.out; omega
            · exfalso; have := HN.out; omega
        · by_cases hR : a < p
          · by_cases hT : en < b
            · have f1 : decide ((p : Int) < (m : Int)) = false := by have := HN.out; simp; omega
              have f2 : decide ((m : Int) < (en : Int)) = false := by have := HN.out; simp; omega
              have f3 : (a : Int) < (p : Int) := by have := HN.out; omega
              have f4 : decide ((p : Int) < (mid : Int)) = false := by have := HN.out; simp; omega
              have f5 : decide ((mid : Int) < (en : Int)) = false := by have := HN.out; simp; omega
              have f6 : (en : Int) < (b : Int) := by have := HN.out; omega
              replace hP := Lib.hid hP
              replace hQ := Lib.hid hQ
              replace hR := Lib.hid hR
              replace hT := Lib.hid hT
              replace own := own_re own (l' := Pre ++ (A1 ++ (B1 ++ (A2 ++ (B2 ++ Post))))) (by
                rw [← swap_nn (A := A2) (B := B1) (R := B2 ++ Post) (.inl (List.length_eq_zero_iff.1 (by have h1 := HN.out; have h2 := hP.out; omega)))]
                simp)
              obtain ⟨C1, hC1⟩ : ∃ C1, C1 = A1 ++ B1 := ⟨_, rfl⟩
              have p1 : C1.Perm (A1 ++ B1) := by rw [hC1]
              have s1 : Srt C1 := by rw [hC1]; exact srt_nn HS.out.1.left HS.out.2.left (.inr (List.length_eq_zero_iff.1 (by have h1 := HN.out; have h2 := hQ.out; omega)))
              rw [← List.append_assoc A1 B1, ← hC1] at own
              clear hC1
              have hl1 : Hid (C1.length = A1.length + B1.length) := by have := p1.length_eq; rw [List.length_append] at this; exact this
              obtain ⟨C2, hC2⟩ : ∃ C2, C2 = A2 ++ B2 := ⟨_, rfl⟩
              have p2 : C2.Perm (A2 ++ B2) := by rw [hC2]
              have s2 : Srt C2 := by rw [hC2]; exact srt_nn HS.out.1.right HS.out.2.right (.inl (List.length_eq_zero_iff.1 (by have h1 := HN.out; have h2 := hP.out; omega)))
              rw [← List.append_assoc A2 B2, ← hC2, ← List.append_assoc Pre C1] at own
              clear hC2
              go_wp2_with (exfalso; have h1 := HN.out; have h2 := hP.out; have h3 := hQ.out; have h4 := hR.out; have h5 := hT.out; omega)
              go_end0
              exact ⟨C1 ++ C2, (p1.append p2).trans hpe.out, srt_merge HS.out.1 HS.out.2 hpq.out.1 hpq.out.2 p1 p2 s1 s2, rfl, by rw [List.append_assoc] at own; rw [List.append_assoc]; exact own, hB⟩
            · exfalso; have := HN.out; omega
          · by_cases hT : en < b
            · exfalso; have := HN.out; omega
            · exfalso; have := HN.out; omega
end

section
open Go.ChangeShapes Go.WideShapes Go.ChangeAt Go.RowKit Go.IntWalk
set_option maxRecDepth 100000 in
set_option maxHeartbeats 16000000 in
theorem symMergeG2_any (base g n c N a m b : Nat) (Pre A B Post : List St) (w : World) (IH : SM base g n c N) (own : w.ownsRow base 49 3 (.slice (some ⟨g, 0, none⟩) n c) n ((Pre ++ (A ++ (B ++ Post))).flatMap encSt)) (hn : n ≤ 1000) (hl : (Pre ++ (A ++ (B ++ Post))).length = n) (ha : a = Pre.length) (hm : m = a + A.length) (hb : b = m + B.length) (hA1 : 1 < A.length) (hB1 : 1 < B.length) (hsA : Srt A) (hsB : Srt B) (hN : b - a ≤ N + 1) (hmid : ¬ (a + b) / 2 < m) :
    Calls Tryz.prog 139 #[.slice (some ⟨g, 0, none⟩) n c, .int .i64 a, .int .i64 m, .int .i64 b, .func (.func 59) #[] #[]] w fun e w' => ∃ C : List St, C.Perm (A ++ B) ∧ Srt C ∧ e = .returned (.tuple #[]) ∧ w'.ownsRow base 49 3 (.slice (some ⟨g, 0, none⟩) n c) n ((Pre ++ (C ++ Post)).flatMap encSt) ∧ w.grownBy w' (some g) := by
  have hB : w.grownBy w (some g) := World.grownBy.refl w _
  have hmn : a + 1 < m ∧ m + 1 < b ∧ b ≤ n := by simp only [List.length_append] at hl; omega
  obtain ⟨mid, hmi⟩ : ∃ mid, mid = (a + b) / 2 := ⟨_, rfl⟩
  rw [← hmi] at hmid
  have hmi2 : a < mid ∧ mid < b ∧ 2 * mid ≤ a + b ∧ a + b ≤ 2 * mid + 1 := by omega
  obtain ⟨s, hs⟩ : ∃ s, s = mid + m := ⟨_, rfl⟩
  obtain ⟨lo, hlo⟩ : ∃ lo, lo = a := ⟨a, by omega⟩
  obtain ⟨pp, hpp⟩ : ∃ pp, pp + 1 = s := ⟨s - 1, by omega⟩
  have hK : a ≤ lo ∧ s ≤ lo + b ∧ lo ≤ m ∧ (lo = a ∨ lo + b = s) := by omega
  have i1 : (((m : Int) - (a : Int)) == 1) = false := by simp; omega
  have i2 : (((b : Int) - (m : Int)) == 1) = false := by simp; omega
  have i3 : IntKind.i64.wrap ((a : Int) + (b : Int)) = (a : Int) + (b : Int) := by rw [IntKind.wrap_i64]; omega
  have i4 : IntKind.u64.wrap ((a : Int) + (b : Int)) = (a : Int) + (b : Int) := by rw [IntKind.wrap_u64]; omega
  have i5 : ((a : Int) + (b : Int)) / 2 = (mid : Int) := by omega
  have i6 : IntKind.i64.wrap ((mid : Int) + (m : Int)) = (s : Int) := by rw [IntKind.wrap_i64]; omega
  have i7 : decide ((mid : Int) < (m : Int)) = false := by simp; omega
  have i8 : IntKind.i64.wrap ((s : Int) - 1) = (pp : Int) := by rw [IntKind.wrap_i64]; omega
  have hmid2 : m ≤ mid := by omega
  clear hmid
  have i9 := i8
  have i10 : decide (mid < m) = false := by simp; omega
  have hgA : Hid (∀ k, a ≤ k → k < m → (Pre ++ (A ++ (B ++ Post)))[k]? = A[k - a]?) := by
    intro k hk hkm
    rw [List.getElem?_append_right (by omega), ← ha, List.getElem?_append_left (by omega)]
  have hgB : Hid (∀ k, m ≤ k → k < b → (Pre ++ (A ++ (B ++ Post)))[k]? = B[k - m]?) := by
    intro k hk hkm
    rw [List.getElem?_append_right (by omega), ← ha, List.getElem?_append_right (by omega), List.getElem?_append_left (by omega)]
    congr 1; omega
  have hx := Lib.hid (And.intro ha (And.intro hm (And.intro hb (And.intro hl (And.intro hsA (And.intro hsB hN))))))
  have hmn := Lib.hid (And.intro hmn (And.intro hmi2 (And.intro hs (And.intro hpp hK))))
  replace IH := Lib.hid IH
  clear ha hm hb hl hsA hsB hA1 hB1 hN hmi hmi2 hs hpp hlo hK
  go_enter Tryz.func139, Tryz.ntmps139
  go_wp2
  go_loopw [20, 21] (fun i j wr => ∃ (p q : Nat), i = .int .i64 p ∧ j = .int .i64 q ∧ lo ≤ p ∧ p ≤ q ∧ q ≤ m ∧ Hid ((p = lo ∨ ∃ y x, A[p - 1 - a]? = some y ∧ B[s - p - m]? = some x ∧ y.fr ≤ x.fr) ∧ (q = m ∨ ∃ y x, A[q - a]? = some y ∧ B[pp - q - m]? = some x ∧ x.fr ≤ y.fr)) ∧ wr.ownsRow base 49 3 (.slice (some ⟨g, 0, none⟩) n c) n ((Pre ++ (A ++ (B ++ Post))).flatMap encSt) ∧ w.grownBy wr (some g)) (fun i j _ => (intOf j).toNat - (intOf i).toNat)
  case atStart => exact ⟨lo, m, (congrArg (fun z : Nat => Value.int .i64 (z : Int)) (show a = lo by have := hmn.out; omega)), rfl, Nat.le_refl _, by have := hmn.out; omega, Nat.le_refl _, ⟨.inl rfl, .inl rfl⟩, own, hB⟩
  case round =>
    clear own hB i1 i2 i3 i4 i5 i6 i7 i8 i9
    obtain ⟨p, q, rfl, rfl, hp, hpq, hq, hI, own, hB⟩ := hrel
    have hmm := hmn.out
    by_cases hlt : p < q
    · have c1 : (p : Int) < (q : Int) := by omega
      obtain ⟨h, hh⟩ : ∃ h, h = (p + q) / 2 := ⟨_, rfl⟩
      have hh1 : p ≤ h ∧ h < q := by omega
      obtain ⟨ei, hei⟩ : ∃ ei, ei + h = pp := ⟨pp - h, by omega⟩
      have hei2 : m ≤ ei ∧ ei < b := by omega
      have v1 : IntKind.i64.wrap ((p : Int) + (q : Int)) = (p : Int) + (q : Int) := by rw [IntKind.wrap_i64]; omega
      have v2 : IntKind.u64.wrap ((p : Int) + (q : Int)) = (p : Int) + (q : Int) := by rw [IntKind.wrap_u64]; omega
      have v3 : ((p : Int) + (q : Int)) / 2 = (h : Int) := by omega
      have v4 : IntKind.i64.wrap ((pp : Int) - (h : Int)) = (ei : Int) := by rw [IntKind.wrap_i64]; omega
      have h1 : (h : Int) < (n : Int) := by omega
      have h2 : (ei : Int) < (n : Int) := by omega
      obtain ⟨y, hy⟩ : ∃ y, A[h - a]? = some y := ⟨_, List.getElem?_eq_getElem (by have := hx.out; omega)⟩
      obtain ⟨x, hxv⟩ : ∃ x, B[ei - m]? = some x := ⟨_, List.getElem?_eq_getElem (by have := hx.out; omega)⟩
      replace hy := Lib.hid hy
      replace hxv := Lib.hid hxv
      have hei := Lib.hid hei
      replace hmm := Lib.hid hmm
      replace hp := Lib.hid hp
      replace hq := Lib.hid hq
      replace hmid2 := Lib.hid hmid2
      clear hh

      have hx0 := own_at encSt_len own (i := ei) ((hgB.out ei (by omega) (by omega)).trans hxv.out) (j := 0) rfl
      have hx1 := own_at encSt_len own (i := ei) ((hgB.out ei (by omega) (by omega)).trans hxv.out) (j := 1) rfl
      have hx2 := own_at encSt_len own (i := ei) ((hgB.out ei (by omega) (by omega)).trans hxv.out) (j := 2) rfl
      have hy0 := own_at encSt_len own (i := h) ((hgA.out h (by have := hmm.out; have := hp.out; omega) (by have := hmm.out; have := hq.out; have := hmid2.out; omega)).trans hy.out) (j := 0) rfl
      have hy1 := own_at encSt_len own (i := h) ((hgA.out h (by have := hmm.out; have := hp.out; omega) (by have := hmm.out; have := hq.out; have := hmid2.out; omega)).trans hy.out) (j := 1) rfl
      have hy2 := own_at encSt_len own (i := h) ((hgA.out h (by have := hmm.out; have := hp.out; omega) (by have := hmm.out; have := hq.out; have := hmid2.out; omega)).trans hy.out) (j := 2) rfl
      rw [Nat.add_zero] at hx0 hy0
      have hgl := (own_lt own).2
      have X0 := Later.cell hx0 hgl
      have X1 := Later.cell hx1 hgl
      have X2 := Later.cell hx2 hgl
      have Y0 := Later.cell hy0 hgl
      have Y1 := Later.cell hy1 hgl
      have Y2 := Later.cell hy2 hgl
      clear hx0 hx1 hx2 hy0 hy1 hy2
      by_cases hcc : x.fr < y.fr
      · obtain ⟨v, hv, HA⟩ := addStay1_lt hcc
        replace HA := Lib.hid HA
        replace hcc := Lib.hid hcc
        go_wp2_with fail
        refine wp_region_later _ (by kernel_rfl) (by kernel_rfl) ?_
        repeat (go_big_quiet_step ((go_at_call 59; exact Later.call (Nat.le_refl _) (HA.out _))))
        refine wpQuiet_nil ?_
        intro z'
        have hz := z'.prop
        generalize z'.val = w3 at hz
        replace own := own_below own hz
        replace hB := gB hB hz
        clear X0 X1 X2 Y0 Y1 Y2 hz hgl
        go_wp2
        go_roundw
        case rel => exact ⟨p, h, rfl, rfl, hp.out, by omega, by have := hq.out; omega, ⟨hI.out.1, .inr ⟨y, x, hy.out, by have h3 := hei.out; rw [show pp - h - m = ei - m by omega]; exact hxv.out, by have := hcc.out; omega⟩⟩, own, hB⟩
        case measure => simp only [intOf]; omega
      · obtain ⟨v, hv, HA⟩ := addStay1_ge hcc
        replace HA := Lib.hid HA
        replace hcc := Lib.hid hcc
        go_wp2_with fail
        refine wp_region_later _ (by kernel_rfl) (by kernel_rfl) ?_
        repeat (go_big_quiet_step ((go_at_call 59; exact Later.call (Nat.le_refl _) (HA.out _))))
        refine wpQuiet_nil ?_
        intro z'
        have hz := z'.prop
        generalize z'.val = w3 at hz
        replace own := own_below own hz
        replace hB := gB hB hz
        clear X0 X1 X2 Y0 Y1 Y2 hz hgl
        go_wp2
        go_roundw
        case rel => exact ⟨h + 1, q, by go_num, rfl, by have := hp.out; omega, by omega, hq.out, ⟨.inr ⟨y, x, by rw [show h + 1 - 1 - a = h - a by omega]; exact hy.out, by have h3 := hei.out; have h4 := hmm.out; rw [show s - (h + 1) - m = ei - m by omega]; exact hxv.out, by have := hcc.out; omega⟩, hI.out.2⟩, own, hB⟩
        case measure => simp only [intOf]; omega
    · obtain rfl : p = q := by omega
      have c1 : decide ((p : Int) < (p : Int)) = false := by simp
      obtain ⟨A1, A2, rfl, hA1⟩ := split_at A (j := p - a) (by have := hx.out; omega)
      obtain ⟨B1, B2, rfl, hB1⟩ := split_at B (j := s - p - m) (by have := hx.out; omega)
      obtain ⟨en, hen⟩ : ∃ en, en + p = s := ⟨s - p, by omega⟩
      have hpq : Hid ((∀ x ∈ A1, ∀ y ∈ B2, x.fr ≤ y.fr) ∧ (∀ x ∈ B1, ∀ y ∈ A2, x.fr ≤ y.fr)) := by
        obtain ⟨h1, h2, h3, h4, h5, h6, h7⟩ := hx.out
        obtain ⟨e1, e2⟩ := hI.out
        simp only [List.length_append] at h2 h3
        clear h4 hI
        refine ⟨cross h5.left h6.right ?_, cross h6.left h5.right ?_⟩
        · clear e2
          rcases e1 with e1 | ⟨y, x, hy, hxx, hxy⟩
          · rcases (show p = a ∨ p + b = s by omega) with h8 | h8
            · exact .inl (List.length_eq_zero_iff.1 (by omega))
            · exact .inr (.inl (List.length_eq_zero_iff.1 (by omega)))
          · by_cases hz : A1 = []
            · exact .inl hz
            · have hz2 : 0 < A1.length := List.length_pos_iff.2 hz
              refine .inr (.inr ⟨y, x, ?_, ?_, hxy⟩)
              · rw [List.getElem?_append_left (by omega)] at hy
                rw [show A1.length - 1 = p - 1 - a by omega]; exact hy
              · rw [List.getElem?_append_right (by omega), hB1, Nat.sub_self] at hxx
                exact hxx
        · clear e1
          rcases e2 with e2 | ⟨y, x, hy, hxx, hxy⟩
          · exact .inr (.inl (List.length_eq_zero_iff.1 (by omega)))
          · by_cases hz : B1 = []
            · exact .inl hz
            · have hz2 : 0 < B1.length := List.length_pos_iff.2 hz
              refine .inr (.inr ⟨x, y, ?_, ?_, hxy⟩)
              · rw [List.getElem?_append_left (by omega)] at hxx
                rw [show B1.length - 1 = pp - p - m by omega]; exact hxx
              · rw [List.getElem?_append_right (by omega), hA1, Nat.sub_self] at hy
                exact hy
      have HN : Hid (a = Pre.length ∧ p = a + A1.length ∧ m = p + A2.length ∧ en = m + B1.length ∧ b = en + B2.length ∧ mid = p + B1.length ∧ Pre.length + A1.length + A2.length + B1.length + B2.length + Post.length = n ∧ b - a ≤ N + 1 ∧ b ≤ 1000 ∧ a < mid ∧ mid < b ∧ m ≤ mid) := by
        obtain ⟨h1, h2, h3, h4, h5, h6, h7⟩ := hx.out
        simp only [List.length_append] at h2 h3 h4
        refine ⟨h1, ?_, ?_, ?_, ?_, ?_, ?_, h7, ?_, ?_, ?_, ?_⟩ <;> omega
      have HS : Hid (Srt (A1 ++ A2) ∧ Srt (B1 ++ B2)) := ⟨hx.out.2.2.2.2.1, hx.out.2.2.2.2.2.1⟩
      have hpe : Hid (((A1 ++ B1) ++ (A2 ++ B2)).Perm ((A1 ++ A2) ++ (B1 ++ B2))) := by
        show List.Perm _ _
        rw [List.append_assoc, List.append_assoc]
        refine (List.perm_append_left_iff A1).2 ?_
        rw [← List.append_assoc, ← List.append_assoc]
        exact (List.perm_append_right_iff B2).2 List.perm_append_comm
      have hbn : Hid (n ≤ 1000) := hn
      have v1 : IntKind.i64.wrap ((s : Int) - (p : Int)) = (en : Int) := by rw [IntKind.wrap_i64]; omega
      clear hI hgA hgB hA1 hB1 hx hmm hmn hp hq hen hn hmid2 hlt
      by_cases hP : p < m
      · by_cases hQ : m < en
        · by_cases hR : a < p
          · by_cases hT : en < b
            · have f1 : (p : Int) < (m : Int) := by have := HN.out; omega
              have f2 : (m : Int) < (en : Int) := by have := HN.out; omega
              have f3 : (a : Int) < (p : Int) := by have := HN.out; omega
              have f4 : (p : Int) < (mid : Int) := by have := HN.out; omega
              have f5 : (mid : Int) < (en : Int) := by have := HN.out; omega
              have f6 : (en : Int) < (b : Int) := by have := HN.out; omega
              replace hP := Lib.hid hP
              replace hQ := Lib.hid hQ
              replace hR := Lib.hid hR
              replace hT := Lib.hid hT
              have HC := Lib.hid (rotate_any base g n c p m en (Pre ++ A1) A2 B1 (B2 ++ Post) _ (.func (.func 59) #[] #[]) (by simpa using own) hbn.out (by have := HN.out; simp only [List.length_append]; omega) (by have := HN.out; simp only [List.length_append]; omega) (by have := HN.out; omega) (by have := HN.out; omega) (by have h1 := HN.out; have h2 := hP.out; omega) (by have h1 := HN.out; have h2 := hQ.out; omega))
              go_upto_region 41 with (first | (exfalso; have h1 := HN.out; have h2 := hP.out; have h3 := hQ.out; have h4 := hR.out; have h5 := hT.out; omega) | (go_at_call 159; refine HC.out.mono ?_; rintro e w1 ⟨rfl, own1, hG⟩; replace hG := Lib.hid hG))
              replace hB := gT hB hG.out
              clear own HC hG
              have own := own1
              clear own1
              replace own := own_re own (l' := Pre ++ (A1 ++ (B1 ++ (A2 ++ (B2 ++ Post))))) (by simp)
              have HC := Lib.hid (IH.out a p mid Pre A1 B1 (A2 ++ (B2 ++ Post)) _ own (by have := HN.out; simp only [List.length_append]; omega) HN.out.1 HN.out.2.1 HN.out.2.2.2.2.2.1 (by have h1 := HN.out; have h2 := hR.out; omega) (by have h1 := HN.out; have h2 := hQ.out; omega) HS.out.1.left HS.out.2.left (by have h1 := HN.out; omega))
              go_upto_region 43 with (first | (exfalso; have h1 := HN.out; have h2 := hP.out; have h3 := hQ.out; have h4 := hR.out; have h5 := hT.out; omega) | (go_at_call 139; refine HC.out.mono ?_; rintro e w2 ⟨C1, p1, s1, rfl, own1, hG⟩; replace hG := Lib.hid hG))
              replace hB := gT hB hG.out
              clear own HC hG
              have own := own1
              clear own1
              have hl1 : Hid (C1.length = A1.length + B1.length) := by have := p1.length_eq; rw [List.length_append] at this; exact this
              rw [← List.append_assoc Pre C1] at own
              have HC := Lib.hid (IH.out mid en b (Pre ++ C1) A2 B2 Post _ own (by have h1 := HN.out; have h2 := hl1.out; simp only [List.length_append]; omega) (by have h1 := HN.out; have h2 := hl1.out; simp only [List.length_append]; omega) (by have := HN.out; omega) (by have := HN.out; omega) (by have h1 := HN.out; have h2 := hP.out; omega) (by have h1 := HN.out; have h2 := hT.out; omega) HS.out.1.right HS.out.2.right (by have h1 := HN.out; omega))
              go_wp2_with (first | (exfalso; have h1 := HN.out; have h2 := hP.out; have h3 := hQ.out; have h4 := hR.out; have h5 := hT.out; omega) | (go_at_call 139; refine HC.out.mono ?_; rintro e w5 ⟨C2, p2, s2, rfl, own1, hG⟩; replace hG := Lib.hid hG))
              replace hB := gT hB hG.out
              clear own HC hG
              have own := own1
              clear own1
              go_wp2_with (exfalso; have h1 := HN.out; have h2 := hP.out; have h3 := hQ.out; have h4 := hR.out; have h5 := hT.out; omega)
              go_end0
              exact ⟨C1 ++ C2, (p1.append p2).trans hpe.out, srt_merge HS.out.1 HS.out.2 hpq.out.1 hpq.out.2 p1 p2 s1 s2, rfl, by rw [List.append_assoc] at own; rw [List.append_assoc]; exact own, hB⟩
            · have f1 : (p : Int) < (m : Int) := by have := HN.out; omega
              have f2 : (m : Int) < (en : Int) := by have := HN.out; omega
              have f3 : (a : Int) < (p : Int) := by have := HN.out; omega
              have f4 : (p : Int) < (mid : Int) := by have := HN.out; omega
              have f5 : (mid : Int) < (en : Int) := by have := HN.out; omega
              have f6 : decide ((en : Int) < (b : Int)) = false := by have := HN.out; simp; omega
              replace hP := Lib.hid hP
              replace hQ := Lib.hid hQ
              replace hR := Lib.hid hR
              replace hT := Lib.hid hT
              have HC := Lib.hid (rotate_any base g n c p m en (Pre ++ A1) A2 B1 (B2 ++ Post) _ (.func (.func 59) #[] #[]) (by simpa using own) hbn.out (by have := HN.out; simp only [List.length_append]; omega) (by have := HN.out; simp only [List.length_append]; omega) (by have := HN.out; omega) (by have := HN.out; omega) (by have h1 := HN.out; have h2 := hP.out; omega) (by have h1 := HN.out; have h2 := hQ.out; omega))
              go_upto_region 41 with (first | (exfalso; have h1 := HN.out; have h2 := hP.out; have h3 := hQ.out; have h4 := hR.out; have h5 := hT.out; omega) | (go_at_call 159; refine HC.out.mono ?_; rintro e w1 ⟨rfl, own1, hG⟩; replace hG := Lib.hid hG))
              replace hB := gT hB hG.out
              clear own HC hG
              have own := own1
              clear own1
              replace own := own_re own (l' := Pre ++ (A1 ++ (B1 ++ (A2 ++ (B2 ++ Post))))) (by simp)
              have HC := Lib.hid (IH.out a p mid Pre A1 B1 (A2 ++ (B2 ++ Post)) _ own (by have := HN.out; simp only [List.length_append]; omega) HN.out.1 HN.out.2.1 HN.out.2.2.2.2.2.1 (by have h1 := HN.out; have h2 := hR.out; omega) (by have h1 := HN.out; have h2 := hQ.out; omega) HS.out.1.left HS.out.2.left (by have h1 := HN.out; omega))
              go_upto_region 43 with (first | (exfalso; have h1 := HN.out; have h2 := hP.out; have h3 := hQ.out; have h4 := hR.out; have h5 := hT.out; omega) | (go_at_call 139; refine HC.out.mono ?_; rintro e w2 ⟨C1, p1, s1, rfl, own1, hG⟩; replace hG := Lib.hid hG))
              replace hB := gT hB hG.out
              clear own HC hG
              have own := own1
              clear own1
              have hl1 : Hid (C1.length = A1.length + B1.length) := by have := p1.length_eq; rw [List.length_append] at this; exact this
              obtain ⟨C2, hC2⟩ : ∃ C2, C2 = A2 ++ B2 := ⟨_, rfl⟩
              have p2 : C2.Perm (A2 ++ B2) := by rw [hC2]
              have s2 : Srt C2 := by rw [hC2]; exact srt_nn HS.out.1.right HS.out.2.right (.inr (List.length_eq_zero_iff.1 (by have h1 := HN.out; have h2 := hT.out; omega)))
              rw [← List.append_assoc A2 B2, ← hC2, ← List.append_assoc Pre C1] at own
              clear hC2
              go_wp2_with (exfalso; have h1 := HN.out; have h2 := hP.out; have h3 := hQ.out; have h4 := hR.out; have h5 := hT.out; omega)
              go_end0
              exact ⟨C1 ++ C2, (p1.append p2).trans hpe.out, srt_merge HS.out.1 HS.out.2 hpq.out.1 hpq.out.2 p1 p2 s1 s2, rfl, by rw [List.append_assoc] at own; rw [List.append_assoc]; exact own, hB⟩
          · by_cases hT : en < b
            · have f1 : (p : Int) < (m : Int) := by have := HN.out; omega
              have f2 : (m : Int) < (en : Int) := by have := HN.out; omega
              have f3 : decide ((a : Int) < (p : Int)) = false := by have := HN.out; simp; omega
              have f4 : (p : Int) < (mid : Int) := by have := HN.out; omega
              have f5 : (mid : Int) < (en : Int) := by have := HN.out; omega
              have f6 : (en : Int) < (b : Int) := by have := HN.out; omega
              replace hP := Lib.hid hP
              replace hQ := Lib.hid hQ
              replace hR := Lib.hid hR
              replace hT := Lib.hid hT
              have HC := Lib.hid (rotate_any base g n c p m en (Pre ++ A1) A2 B1 (B2 ++ Post) _ (.func (.func 59) #[] #[]) (by simpa using own) hbn.out (by have := HN.out; simp only [List.length_append]; omega) (by have := HN.out; simp only [List.length_append]; omega) (by have := HN.out; omega) (by have := HN.out; omega) (by have h1 := HN.out; have h2 := hP.out; omega) (by have h1 := HN.out; have h2 := hQ.out; omega))
              go_upto_region 41 with (first | (exfalso; have h1 := HN.out; have h2 := hP.out; have h3 := hQ.out; have h4 := hR.out; have h5 := hT.out; omega) | (go_at_call 159; refine HC.out.mono ?_; rintro e w1 ⟨rfl, own1, hG⟩; replace hG := Lib.hid hG))
              replace hB := gT hB hG.out
              clear own HC hG
              have own := own1
              clear own1
              replace own := own_re own (l' := Pre ++ (A1 ++ (B1 ++ (A2 ++ (B2 ++ Post))))) (by simp)
              obtain ⟨C1, hC1⟩ : ∃ C1, C1 = A1 ++ B1 := ⟨_, rfl⟩
              have p1 : C1.Perm (A1 ++ B1) := by rw [hC1]
              have s1 : Srt C1 := by rw [hC1]; exact srt_nn HS.out.1.left HS.out.2.left (.inl (List.length_eq_zero_iff.1 (by have h1 := HN.out; have h2 := hR.out; omega)))
              rw [← List.append_assoc A1 B1, ← hC1] at own
              clear hC1
              have hl1 : Hid (C1.length = A1.length + B1.length) := by have := p1.length_eq; rw [List.length_append] at this; exact this
              rw [← List.append_assoc Pre C1] at own
              have HC := Lib.hid (IH.out mid en b (Pre ++ C1) A2 B2 Post _ own (by have h1 := HN.out; have h2 := hl1.out; simp only [List.length_append]; omega) (by have h1 := HN.out; have h2 := hl1.out; simp only [List.length_append]; omega) (by have := HN.out; omega) (by have := HN.out; omega) (by have h1 := HN.out; have h2 := hP.out; omega) (by have h1 := HN.out; have h2 := hT.out; omega) HS.out.1.right HS.out.2.right (by have h1 := HN.out; omega))
              go_wp2_with (first | (exfalso; have h1 := HN.out; have h2 := hP.out; have h3 := hQ.out; have h4 := hR.out; have h5 := hT.out; omega) | (go_at_call 139; refine HC.out.mono ?_; rintro e w5 ⟨C2, p2, s2, rfl, own1, hG⟩; replace hG := Lib.hid hG))
              replace hB := gT hB hG.out
              clear own HC hG
              have own := own1
              clear own1
              go_wp2_with (exfalso; have h1 := HN.out; have h2 := hP.out; have h3 := hQ.out; have h4 := hR.out; have h5 := hT.out; omega)
              go_end0
              exact ⟨C1 ++ C2, (p1.append p2).trans hpe.out, srt_merge HS.out.1 HS.out.2 hpq.out.1 hpq.out.2 p1 p2 s1 s2, rfl, by rw [List.append_assoc] at own; rw [List.append_assoc]; exact own, hB⟩
            · have f1 : (p : Int) < (m : Int) := by have := HN.out; omega
              have f2 : (m : Int) < (en : Int) := by have := HN.out; omega
              have f3 : decide ((a : Int) < (p : Int)) = false := by have := HN.out; simp; omega
              have f4 : (p : Int) < (mid : Int) := by have := HN.out; omega
              have f5 : (mid : Int) < (en : Int) := by have := HN.out; omega
              have f6 : decide ((en : Int) < (b : Int)) = false := by have := HN.out; simp; omega
              replace hP := Lib.hid hP
              replace hQ := Lib.hid hQ
              replace hR := Lib.hid hR
              replace hT := Lib.hid hT
              have HC := Lib.hid (rotate_any base g n c p m en (Pre ++ A1) A2 B1 (B2 ++ Post) _ (.func (.func 59) #[] #[]) (by simpa using own) hbn.out (by have := HN.out; simp only [List.length_append]; omega) (by have := HN.out; simp only [List.length_append]; omega) (by have := HN.out; omega) (by have := HN.out; omega) (by have h1 := HN.out; have h2 := hP.out; omega) (by have h1 := HN.out; have h2 := hQ.out; omega))
              go_upto_region 41 with (first | (exfalso; have h1 := HN.out; have h2 := hP.out; have h3 := hQ.out; have h4 := hR.out; have h5 := hT.out; omega) | (go_at_call 159; refine HC.out.mono ?_; rintro e w1 ⟨rfl, own1, hG⟩; replace hG := Lib.hid hG))
              replace hB := gT hB hG.out
              clear own HC hG
              have own := own1
              clear own1
              replace own := own_re own (l' := Pre ++ (A1 ++ (B1 ++ (A2 ++ (B2 ++ Post))))) (by simp)
              obtain ⟨C1, hC1⟩ : ∃ C1, C1 = A1 ++ B1 := ⟨_, rfl⟩
              have p1 : C1.Perm (A1 ++ B1) := by rw [hC1]
              have s1 : Srt C1 := by rw [hC1]; exact srt_nn HS.out.1.left HS.out.2.left (.inl (List.length_eq_zero_iff.1 (by have h1 := HN.out; have h2 := hR.out; omega)))
              rw [← List.append_assoc A1 B1, ← hC1] at own
              clear hC1
              have hl1 : Hid (C1.length = A1.length + B1.length) := by have := p1.length_eq; rw [List.length_append] at this; exact this
              obtain ⟨C2, hC2⟩ : ∃ C2, C2 = A2 ++ B2 := ⟨_, rfl⟩
              have p2 : C2.Perm (A2 ++ B2) := by rw [hC2]
              have s2 : Srt C2 := by rw [hC2]; exact srt_nn HS.out.1.right HS.out.2.right (.inr (List.length_eq_zero_iff.1 (by have h1 := HN.out; have h2 := hT.out; omega)))
              rw [← List.append_assoc A2 B2, ← hC2, ← List.append_assoc Pre C1] at own
              clear hC2
              go_wp2_with (exfalso; have h1 := HN.out; have h2 := hP.out; have h3 := hQ.out; have h4 := hR.out; have h5 := hT.out; omega)
              go_end0
              exact ⟨C1 ++ C2, (p1.append p2).trans hpe.out, srt_merge HS.out.1 HS.out.2 hpq.out.1 hpq.out.2 p1 p2 s1 s2, rfl, by rw [List.append_assoc] at own; rw [List.append_assoc]; exact own, hB⟩
        · by_cases hR : a < p
          · by_cases hT : en < b
            · exfalso; have := HN.out; omega
            · exfalso; have := HN.out; omega
          · by_cases hT : en < b
            · exfalso; have := HN.out; omega
            · exfalso; have := HN.out; omega
      · by_cases hQ : m < en
        · by_cases hR : a < p
          · by_cases hT : en < b
            · have f1 : decide ((p : Int) < (m : Int)) = false := by have := HN.out; simp; omega
              have f2 : (m : Int) < (en : Int) := by have := HN.out; omega
              have f3 : (a : Int) < (p : Int) := by have := HN.out; omega
              have f4 : (p : Int) < (mid : Int) := by have := HN.out; omega
              have f5 : decide ((mid : Int) < (en : Int)) = false := by have := HN.out; simp; omega
              have f6 : (en : Int) < (b : Int) := by have := HN.out; omega
              replace hP := Lib.hid hP
              replace hQ := Lib.hid hQ
              replace hR := Lib.hid hR
              replace hT := Lib.hid hT
              replace own := own_re own (l' := Pre ++ (A1 ++ (B1 ++ (A2 ++ (B2 ++ Post))))) (by
                rw [← swap_nn (A := A2) (B := B1) (R := B2 ++ Post) (.inl (List.length_eq_zero_iff.1 (by have h1 := HN.out; have h2 := hP.out; omega)))]
                simp)
              have HC := Lib.hid (IH.out a p mid Pre A1 B1 (A2 ++ (B2 ++ Post)) _ own (by have := HN.out; simp only [List.length_append]; omega) HN.out.1 HN.out.2.1 HN.out.2.2.2.2.2.1 (by have h1 := HN.out; have h2 := hR.out; omega) (by have h1 := HN.out; have h2 := hQ.out; omega) HS.out.1.left HS.out.2.left (by have h1 := HN.out; omega))
              go_upto_region 43 with (first | (exfalso; have h1 := HN.out; have h2 := hP.out; have h3 := hQ.out; have h4 := hR.out; have h5 := hT.out; omega) | (go_at_call 139; refine HC.out.mono ?_; rintro e w2 ⟨C1, p1, s1, rfl, own1, hG⟩; replace hG := Lib.hid hG))
              replace hB := gT hB hG.out
              clear own HC hG
              have own := own1
              clear own1
              have hl1 : Hid (C1.length = A1.length + B1.length) := by have := p1.length_eq; rw [List.length_append] at this; exact this
              obtain ⟨C2, hC2⟩ : ∃ C2, C2 = A2 ++ B2 := ⟨_, rfl⟩
              have p2 : C2.Perm (A2 ++ B2) := by rw [hC2]
              have s2 : Srt C2 := by rw [hC2]; exact srt_nn HS.out.1.right HS.out.2.right (.inl (List.length_eq_zero_iff.1 (by have h1 := HN.out; have h2 := hP.out; omega)))
              rw [← List.append_assoc A2 B2, ← hC2, ← List.append_assoc Pre C1] at own
              clear hC2
              go_wp2_with (exfalso; have h1 := HN.out; have h2 := hP.out; have h3 := hQ.out; have h4 := hR.out; have h5 := hT.out; omega)
              go_end0
              exact ⟨C1 ++ C2, (p1.append p2).trans hpe.out, srt_merge HS.out.1 HS.out.2 hpq.out.1 hpq.out.2 p1 p2 s1 s2, rfl, by rw [List.append_assoc] at own; rw [List.append_assoc]; exact own, hB⟩
            · exfalso; have := HN.out; omega
          · by_cases hT : en < b
            · exfalso; have := HN.out; omega
            · exfalso; have := HN.out; omega
        · by_cases hR : a < p
          · by_cases hT : en < b
            · have f1 : decide ((p : Int) < (m : Int)) = false := by have := HN.out; simp; omega
              have f2 : decide ((m : Int) < (en : Int)) = false := by have := HN.out; simp; omega
              have f3 : (a : Int) < (p : Int) := by have := HN.out; omega
              have f4 : decide ((p : Int) < (mid : Int)) = false := by have := HN.out; simp; omega
              have f5 : decide ((mid : Int) < (en : Int)) = false := by have := HN.out; simp; omega
              have f6 : (en : Int) < (b : Int) := by have := HN.out; omega
              replace hP := Lib.hid hP
              replace hQ := Lib.hid hQ
              replace hR := Lib.hid hR
              replace hT := Lib.hid hT
              replace own := own_re own (l' := Pre ++ (A1 ++ (B1 ++ (A2 ++ (B2 ++ Post))))) (by
                rw [← swap_nn (A := A2) (B := B1) (R := B2 ++ Post) (.inl (List.length_eq_zero_iff.1 (by have h1 := HN.out; have h2 := hP.out; omega)))]
                simp)
              obtain ⟨C1, hC1⟩ : ∃ C1, C1 = A1 ++ B1 := ⟨_, rfl⟩
              have p1 : C1.Perm (A1 ++ B1) := by rw [hC1]
              have s1 : Srt C1 := by rw [hC1]; exact srt_nn HS.out.1.left HS.out.2.left (.inr (List.length_eq_zero_iff.1 (by have h1 := HN.out; have h2 := hQ.out; omega)))
              rw [← List.append_assoc A1 B1, ← hC1] at own
              clear hC1
              have hl1 : Hid (C1.length = A1.length + B1.length) := by have := p1.length_eq; rw [List.length_append] at this; exact this
              obtain ⟨C2, hC2⟩ : ∃ C2, C2 = A2 ++ B2 := ⟨_, rfl⟩
              have p2 : C2.Perm (A2 ++ B2) := by rw [hC2]
              have s2 : Srt C2 := by rw [hC2]; exact srt_nn HS.out.1.right HS.out.2.right (.inl (List.length_eq_zero_iff.1 (by have h1 := HN.out; have h2 := hP.out; omega)))
              rw [← List.append_assoc A2 B2, ← hC2, ← List.append_assoc Pre C1] at own
              clear hC2
              go_wp2_with (exfalso; have h1 := HN.out; have h2 := hP.out; have h3 := hQ.out; have h4 := hR.out; have h5 := hT.out; omega)
              go_end0
              exact ⟨C1 ++ C2, (p1.append p2).trans hpe.out, srt_merge HS.out.1 HS.out.2 hpq.out.1 hpq.out.2 p1 p2 s1 s2, rfl, by rw [List.append_assoc] at own; rw [List.append_assoc]; exact own, hB⟩
            · exfalso; have := HN.out; omega
          · by_cases hT : en < b
            · exfalso; have := HN.out; omega
            · exfalso; have := HN.out; omega
end

section
open Go.ChangeShapes Go.WideShapes Go.ChangeAt Go.RowKit Go.IntWalk
theorem symMerge_all (base g n c : Nat) (hn : n ≤ 1000) : ∀ N, SM base g n c N
  | 0 => fun a m b Pre A B Post w own hl ha hm hb hA hB hsA hsB hN => by omega
  | N + 1 => fun a m b Pre A B Post w own hl ha hm hb hA hB hsA hsB hN => by
    by_cases hA1 : A.length = 1
    · obtain ⟨x, rfl⟩ := List.length_eq_one_iff.1 hA1
      refine (symMerge1_any base g n c a m b Pre x B Post w (by simpa using own) hn (by simpa using hl) ha (by simpa using hm) hb hsB).mono ?_
      rintro e w' ⟨C, h1, h2, h3, h4, h5⟩
      exact ⟨C, by simpa using h1, h2, h3, by rw [← List.append_assoc]; exact h4, h5⟩
    · by_cases hB1 : B.length = 1
      · obtain ⟨x, rfl⟩ := List.length_eq_one_iff.1 hB1
        refine (symMerge2_any base g n c a m b Pre A x Post w (by simpa using own) hn (by simpa using hl) ha hm (by simpa using hb) hA1 hsA).mono ?_
        rintro e w' ⟨C, h1, h2, h3, h4, h5⟩
        exact ⟨C, h1, h2, h3, by rw [← List.append_assoc]; exact h4, h5⟩
      · by_cases hmid : (a + b) / 2 < m
        · exact symMergeG1_any base g n c N a m b Pre A B Post w (symMerge_all base g n c hn N) own hn hl ha hm hb (by omega) (by omega) hsA hsB hN hmid
        · exact symMergeG2_any base g n c N a m b Pre A B Post w (symMerge_all base g n c hn N) own hn hl ha hm hb (by omega) (by omega) hsA hsB hN hmid
end

section
open Go.ChangeShapes Go.WideShapes Go.ChangeAt Go.RowKit Go.IntWalk
set_option maxRecDepth 100000 in
set_option maxHeartbeats 8000000 in
theorem insSort_any (base g n c a b : Nat) (Pre A Post : List St) (w : World) (own : w.ownsRow base 49 3 (.slice (some ⟨g, 0, none⟩) n c) n ((Pre ++ (A ++ Post)).flatMap encSt)) (hn : n ≤ 1000) (hl : (Pre ++ (A ++ Post)).length = n) (ha : a = Pre.length) (hb : b = a + A.length) :
    Calls Tryz.prog 138 #[.slice (some ⟨g, 0, none⟩) n c, .int .i64 a, .int .i64 b, .func (.func 59) #[] #[]] w fun e w' => ∃ C : List St, C.Perm A ∧ Srt C ∧ e = .returned (.tuple #[]) ∧ w'.ownsRow base 49 3 (.slice (some ⟨g, 0, none⟩) n c) n ((Pre ++ (C ++ Post)).flatMap encSt) ∧ w.grownBy w' (some g) := by
  have hB : w.grownBy w (some g) := World.grownBy.refl w _
  have hx := Lib.hid (And.intro ha (And.intro hb hl))
  have hab : a ≤ b ∧ b ≤ n ∧ n ≤ 1000 := by simp only [List.length_append] at hl; omega
  have i1 : IntKind.i64.wrap ((a : Int) + 1) = ((a + 1 : Nat) : Int) := by rw [IntKind.wrap_i64]; omega
  have hstart : Hid (∃ A1 A2 : List St, A = A1 ++ A2 ∧ Srt A1 ∧ A1.length + a ≤ a + 1 ∧ (A1.length + a = a + 1 ∨ A2 = [])) := by
    show ∃ A1 A2 : List St, _
    cases A with
    | nil => exact ⟨[], [], rfl, srt_nil, by simp, .inr rfl⟩
    | cons x r => exact ⟨[x], r, rfl, srt_one x, by simp; omega, .inl (by simp; omega)⟩
  replace hab := Lib.hid hab
  clear ha hb hl hn
  go_enter Tryz.func138, Tryz.ntmps138
  go_wp2
  go_loopw [8] (fun i wr => ∃ (k : Nat) (A1 A2 C : List St), i = .int .i64 k ∧ a < k ∧ k ≤ 1001 ∧ Hid (A = A1 ++ A2 ∧ C.Perm A1 ∧ Srt C ∧ A1.length + a ≤ k ∧ (A1.length + a = k ∨ A2 = [])) ∧ wr.ownsRow base 49 3 (.slice (some ⟨g, 0, none⟩) n c) n ((Pre ++ (C ++ (A2 ++ Post))).flatMap encSt) ∧ w.grownBy wr (some g)) (fun i _ => b - (intOf i).toNat)
  case atStart =>
    obtain ⟨A1, A2, e1, e2, e3, e4⟩ := hstart.out
    exact ⟨a + 1, A1, A2, A1, rfl, by omega, by have := hab.out; omega, ⟨e1, List.Perm.refl _, e2, e3, e4⟩, by rw [e1] at own; simpa using own, hB⟩
  case round =>
    clear own hB hstart i1
    obtain ⟨k, A1, A2, C, rfl, hak, hk, hI, own, hB⟩ := hrel
    by_cases hlt : k < b
    · have c1 : (k : Int) < (b : Int) := by omega
      obtain ⟨x, A2, rfl, hlC⟩ : ∃ x A', A2 = x :: A' ∧ C.length + a = k := by
        obtain ⟨e1, e2, e3, e4, e5⟩ := hI.out
        obtain ⟨h1, h2, h3⟩ := hx.out
        have h4 := congrArg List.length e1
        rw [List.length_append] at h4
        have h5 := e2.length_eq
        cases A2 with
        | nil => simp only [List.length_nil] at h4; omega
        | cons x r =>
          rcases e5 with e5 | e5
          · exact ⟨x, r, rfl, by omega⟩
          · cases e5
      have v9 : IntKind.i64.wrap ((k : Int) + 1) = ((k + 1 : Nat) : Int) := by rw [IntKind.wrap_i64]; omega
      have hln : Hid (Pre.length + (C.length + 1 + A2.length) + Post.length = n) := by
        show _ = _
        obtain ⟨e1, e2, e3, e4, e5⟩ := hI.out
        obtain ⟨h1, h2, h3⟩ := hx.out
        rw [e1] at h3
        have h5 := e2.length_eq
        simp only [List.length_append, List.length_cons] at h3
        omega
      have hk9 : Hid (b ≤ 1000) := by have := hab.out; show _ ≤ _; omega
      have hlC := Lib.hid hlC
      have hfin : Hid (∀ D : List St, D.Perm (C ++ [x]) → Srt D → A = (A1 ++ [x]) ++ A2 ∧ D.Perm (A1 ++ [x]) ∧ Srt D ∧ (A1 ++ [x]).length + a ≤ k + 1 ∧ ((A1 ++ [x]).length + a = k + 1 ∨ A2 = [])) := by
        intro D hD hS
        obtain ⟨e1, e2, e3, e4, e5⟩ := hI.out
        have h5 := e2.length_eq
        have h6 := hlC.out
        refine ⟨by rw [e1]; simp, hD.trans ((List.perm_append_right_iff [x]).2 e2), hS, by simp; omega, .inl (by simp; omega)⟩
      have hsC := Lib.hid hI.out.2.2.1
      clear hI hlC
      have hlC : Hid (C.length + a = k) := by assumption
      go_wp2
      go_loopw [9] (fun i wr => ∃ (j : Nat) (Ca Cb : List St), i = .int .i64 j ∧ a ≤ j ∧ j ≤ k ∧ Hid (C = Ca ++ Cb ∧ Ca.length + a = j ∧ ∀ y ∈ Cb, x.fr ≤ y.fr) ∧ wr.ownsRow base 49 3 (.slice (some ⟨g, 0, none⟩) n c) n ((Pre ++ (Ca ++ x :: (Cb ++ (A2 ++ Post)))).flatMap encSt) ∧ w.grownBy wr (some g)) (fun i _ => (intOf i).toNat - a)
      case atStart => exact ⟨k, C, [], rfl, by omega, Nat.le_refl _, ⟨by simp, hlC.out, by intro y hy; cases hy⟩, by simpa using own, hB⟩
      case round =>
        clear own hB
        obtain ⟨j, Ca, Cb, rfl, haj, hjk, hJ, own, hB⟩ := hrel
        by_cases hgt : a < j
        · have c2 : (a : Int) < (j : Int) := by omega
          obtain ⟨y, Ca, rfl⟩ : ∃ y B', Ca = B' ++ [y] := by
            have h1 := hJ.out.2.1
            rcases List.eq_nil_or_concat Ca with rfl | ⟨B', y, rfl⟩
            · simp at h1; omega
            · exact ⟨y, B', by simp⟩
          obtain ⟨i, hi⟩ : ∃ i, j = i + 1 := ⟨j - 1, by omega⟩
          have v5 : IntKind.i64.wrap ((j : Int) - 1) = (i : Int) := by rw [IntKind.wrap_i64]; omega
          have hjn : j < n ∧ i < n := by
            have h1 := hJ.out; have h2 := hln.out; have h3 := congrArg List.length h1.1; have h4 := hx.out.1
            simp only [List.length_append, List.length_cons, List.length_nil] at h1 h3
            omega
          have b1 : (j : Int) < (n : Int) := by omega
          have b2 : (i : Int) < (n : Int) := by omega
          have own : wr.ownsRow base 49 3 (.slice (some ⟨g, 0, none⟩) n c) n (((Pre ++ Ca) ++ y :: ([] ++ x :: (Cb ++ (A2 ++ Post)))).flatMap encSt) := by
            have e : Pre ++ (Ca ++ [y] ++ x :: (Cb ++ (A2 ++ Post))) = (Pre ++ Ca) ++ y :: ([] ++ x :: (Cb ++ (A2 ++ Post))) := by simp
            rw [← e]; exact own
          have hpi := Lib.hid (show i = (Pre ++ Ca).length by have h1 := hJ.out.2.1; have h3 := hx.out.1; simp only [List.length_append, List.length_cons, List.length_nil] at h1 ⊢; omega)
          have hpj := Lib.hid (show j = (Pre ++ Ca).length + 1 + ([] : List St).length by rw [← hpi.out]; exact hi)
          replace hi := Lib.hid hi
          clear hjn

          have hx0 := own_at encSt_len own (i := j) (at_two hpj.out) (j := 0) rfl
          have hx1 := own_at encSt_len own (i := j) (at_two hpj.out) (j := 1) rfl
          have hx2 := own_at encSt_len own (i := j) (at_two hpj.out) (j := 2) rfl
          have hy0 := own_at encSt_len own (i := i) (at_mid hpi.out) (j := 0) rfl
          have hy1 := own_at encSt_len own (i := i) (at_mid hpi.out) (j := 1) rfl
          have hy2 := own_at encSt_len own (i := i) (at_mid hpi.out) (j := 2) rfl
          rw [Nat.add_zero] at hx0 hy0
          have hgl := (own_lt own).2
          have X0 := Later.cell hx0 hgl
          have X1 := Later.cell hx1 hgl
          have X2 := Later.cell hx2 hgl
          have Y0 := Later.cell hy0 hgl
          have Y1 := Later.cell hy1 hgl
          have Y2 := Later.cell hy2 hgl
          clear hx0 hx1 hx2 hy0 hy1 hy2
          by_cases hcc : x.fr < y.fr
          · obtain ⟨v, hv, HA⟩ := addStay1_lt hcc
            replace HA := Lib.hid HA
            replace hcc := Lib.hid hcc
            go_wp2_with fail
            refine wp_region_later _ (by kernel_rfl) (by kernel_rfl) ?_
            repeat (go_big_quiet_step ((go_at_call 59; exact Later.call (Nat.le_refl _) (HA.out _))))
            refine wpQuiet_nil ?_
            intro z'
            have hz := z'.prop
            generalize z'.val = w3 at hz
            replace own := own_below own hz
            replace hB := gB hB hz
            clear X0 X1 X2 Y0 Y1 Y2 hz hgl
            go_wp2
            go_upto_region 6 with (fail)
            have hz := (Below.refl w3.heap.size w3).drew
            replace own := own_below own hz
            replace hB := gB hB hz
            clear hz
            refine MAny.region (S := fun w' => w'.cell? ⟨g, i * 3, none⟩ = some (.int .i64 y.place) ∧ w'.cell? ⟨g, i * 3 + 1, none⟩ = some (.int .i64 y.fr) ∧ w'.cell? ⟨g, i * 3 + 2, none⟩ = some (.int .i64 y.to)) (last := 17) (by kernel_rfl) ?_
            generalize w3.drew = W0 at own hB ⊢
            have hE := own_at encSt_len own (i := i) (x := y) (at_mid hpi.out) (j := 0) rfl
            have hE1 := own_at encSt_len own (i := i) (x := y) (at_mid hpi.out) (j := 1) rfl
            have hE2 := own_at encSt_len own (i := i) (x := y) (at_mid hpi.out) (j := 2) rfl
            have hL := own_at encSt_len own (i := j) (x := x) (at_two hpj.out) (j := 0) rfl
            have hL1 := own_at encSt_len own (i := j) (x := x) (at_two hpj.out) (j := 1) rfl
            have hL2 := own_at encSt_len own (i := j) (x := x) (at_two hpj.out) (j := 2) rfl
            rw [Nat.add_zero] at hE hL
            have fz := fun q => own.frozenAt q
            have fL0 := fz (j * 3)
            have fL1 := fz (j * 3 + 1)
            have fL2 := fz (j * 3 + 2)
            have hSW := own_swapB own hpi.out hpj.out
            obtain ⟨own2, hG, hc, hf⟩ := hSW
            have hHeld := And.intro hE (And.intro hE1 hE2)
            replace own2 := Lib.hid own2
            replace hG := Lib.hid hG
            have g0 := hc 0 _ rfl
            have g1 := hc 1 _ rfl
            have g2 := hc 2 _ rfl
            rw [Nat.add_zero] at g0
            have k0 := hf (i * 3)
            have k1 := hf (i * 3 + 1)
            have k2 := hf (i * 3 + 2)
            clear hc hf fz
            change ((((W0.setCell ⟨g, j * 3, none⟩ (.int .i64 y.place)).setCell ⟨g, j * 3 + 1, none⟩ (.int .i64 y.fr)).setCell ⟨g, j * 3 + 2, none⟩ (.int .i64 y.to))).cell? _ = _ at g0 g1 g2
            change ((((W0.setCell ⟨g, j * 3, none⟩ (.int .i64 y.place)).setCell ⟨g, j * 3 + 1, none⟩ (.int .i64 y.fr)).setCell ⟨g, j * 3 + 2, none⟩ (.int .i64 y.to))).frozen? _ = _ at k0 k1 k2
            have hHeld2 := And.intro g0 (And.intro g1 g2)
            clear own
            refine MAny.take (i := 0) (v := ?_) rfl (by kernel_rfl) (by kernel_rfl) (by kernel_rfl) (fun _ _ _ h => h) (by kernel_rfl) (Or.inl ⟨by rfl, ?_⟩) (by assumption) ?_
            rotate_left
            · (intro w' hSw; (try dsimp only at hSw); go_simp; try (with_reducible rfl))
            try simp only [Act.put, List.setIfInBounds_toArray]
            refine MAny.take (i := 1) (v := ?_) rfl (by kernel_rfl) (by kernel_rfl) (by kernel_rfl) (fun _ _ _ h => h) (by kernel_rfl) (Or.inl ⟨by rfl, ?_⟩) (by assumption) ?_
            rotate_left
            · (intro w' hSw; (try dsimp only at hSw); go_simp; try (with_reducible rfl))
            try simp only [Act.put]
            refine MAny.take (i := 2) (v := ?_) rfl (by kernel_rfl) (by kernel_rfl) (by kernel_rfl) (fun _ _ _ h => h) (by kernel_rfl) (Or.inl ⟨by rfl, ?_⟩) (by assumption) ?_
            rotate_left
            · (intro w' hSw; (try dsimp only at hSw); go_simp; try (with_reducible rfl))
            try simp only [Act.put]
            refine MAny.take (i := 3) (v := ?_) rfl (by kernel_rfl) (by kernel_rfl) (by kernel_rfl) (fun _ _ _ h => h) (by kernel_rfl) (Or.inl ⟨by rfl, ?_⟩) (by assumption) ?_
            rotate_left
            · (intro w' hSw; (try dsimp only at hSw); go_simp; try (with_reducible rfl))
            try simp only [Act.put]
            refine MAny.take (i := 4) (v := ?_) rfl (by kernel_rfl) (by kernel_rfl) (by kernel_rfl) (fun _ _ _ h => h) (by kernel_rfl) (Or.inl ⟨by rfl, ?_⟩) (by assumption) ?_
            rotate_left
            · (intro w' hSw; (try dsimp only at hSw); go_simp; try (with_reducible rfl))
            try simp only [Act.put]
            refine MAny.take (i := 5) (v := ?_) rfl (by kernel_rfl) (by kernel_rfl) (by kernel_rfl) (fun _ _ _ h => h) (by kernel_rfl) (Or.inl ⟨by rfl, ?_⟩) (by assumption) ?_
            rotate_left
            · (intro w' hSw; (try dsimp only at hSw); go_simp; try (with_reducible rfl))
            try simp only [Act.put]
            refine MAny.take (i := 6) (v := ?_) rfl (by kernel_rfl) (by kernel_rfl) (by kernel_rfl) (fun _ _ _ h => h) (by kernel_rfl) (Or.inl ⟨by rfl, ?_⟩) (by assumption) ?_
            rotate_left
            · (intro w' hSw; (try dsimp only at hSw); go_simp; try (with_reducible rfl))
            try simp only [Act.put]
            refine MAny.take (i := 7) (v := ?_) rfl (by kernel_rfl) (by kernel_rfl) (by kernel_rfl) (fun _ _ _ h => h) (by kernel_rfl) (Or.inl ⟨by rfl, ?_⟩) (by assumption) ?_
            rotate_left
            · (intro w' hSw; (try dsimp only at hSw); go_simp; try (with_reducible rfl))
            try simp only [Act.put]
            refine MAny.take (i := 8) (v := ?_) rfl (by kernel_rfl) (by kernel_rfl) (by kernel_rfl) (fun _ _ _ h => h) (by kernel_rfl) (Or.inl ⟨by rfl, ?_⟩) (by assumption) ?_
            rotate_left
            · (intro w' hSw; (try dsimp only at hSw); go_simp; try (with_reducible rfl))
            try simp only [Act.put]
            refine MAny.take (i := 9) (v := ?_) rfl (by kernel_rfl) (by kernel_rfl) (by kernel_rfl) (fun _ _ _ h => h) (by kernel_rfl) (Or.inl ⟨by rfl, ?_⟩) (by assumption) ?_
            rotate_left
            · (intro w' hSw; (try dsimp only at hSw); go_simp; try (with_reducible rfl))
            try simp only [Act.put]
            refine MAny.take (i := 10) (v := ?_) rfl (by kernel_rfl) (by kernel_rfl) (by kernel_rfl) (fun _ _ _ h => h) (by kernel_rfl) (Or.inl ⟨by rfl, ?_⟩) (by assumption) ?_
            rotate_left
            · (intro w' hSw; (try dsimp only at hSw); go_simp; try (with_reducible rfl))
            try simp only [Act.put]
            refine MAny.take (i := 11) (v := ?_) rfl (by kernel_rfl) (by kernel_rfl) (by kernel_rfl) (fun _ _ _ h => h) (by kernel_rfl) (Or.inl ⟨by rfl, ?_⟩) (by assumption) ?_
            rotate_left
            · (intro w' hSw; (try dsimp only at hSw); go_simp; try (with_reducible rfl))
            try simp only [Act.put]
            refine MAny.take (i := 12) (v := ?_) rfl (by kernel_rfl) (by kernel_rfl) (by kernel_rfl) (fun _ _ _ h => h) (by kernel_rfl) (Or.inl ⟨by rfl, ?_⟩) (by assumption) ?_
            rotate_left
            · (intro w' hSw; (try dsimp only at hSw); go_simp; try (with_reducible rfl))
            try simp only [Act.put]
            refine MAny.ready (rs := [13]) (by kernel_rfl) (by simp) ?_
            refine MReady.cons rfl (fun K hK => ?_) MReady.nil
            go_simp
            refine hK.out _ _ (.inr hHeld) ?_
            clear hK K
            refine MAny.ready (rs := [14]) (by kernel_rfl) (by simp) ?_
            refine MReady.cons rfl (fun K hK => ?_) MReady.nil
            go_simp
            refine hK.out _ _ (.inr hHeld) ?_
            clear hK K
            refine MAny.ready (rs := [15]) (by kernel_rfl) (by simp) ?_
            refine MReady.cons rfl (fun K hK => ?_) MReady.nil
            go_simp
            refine hK.out _ _ (.inr hHeld2) ?_
            clear hK K
            refine MAny.ready (rs := [16]) (by kernel_rfl) (by simp) ?_
            refine MReady.cons rfl (fun K hK => ?_) MReady.nil
            go_simp
            refine hK.out _ _ (.inr hHeld2) ?_
            clear hK K
            refine MAny.ready (rs := [17]) (by kernel_rfl) (by simp) ?_
            refine MReady.cons rfl (fun K hK => ?_) MReady.nil
            go_simp
            refine hK.out _ _ (.inl rfl) ?_
            clear hK K
            refine MAny.done (by kernel_rfl) ?_ _
            try simp only [List.getElem_toArray, List.getElem_cons_succ, List.getElem_cons_zero]
            clear hE hE1 hE2 hL hL1 hL2 fL0 fL1 fL2 g0 g1 g2 k0 k1 k2 hHeld hHeld2
            go_wp2
            go_roundw
            case rel => exact ⟨i, Ca, y :: Cb, rfl, by have := hi.out; omega, by have := hi.out; omega, ⟨by rw [hJ.out.1]; simp, by have h1 := hJ.out.2.1; have h2 := hi.out; simp only [List.length_append, List.length_cons, List.length_nil] at h1; omega, by intro z hz; rcases List.mem_cons.1 hz with rfl | hz; exact Int.le_of_lt hcc.out; exact hJ.out.2.2 z hz⟩, by rw [show Pre ++ (Ca ++ x :: (y :: Cb ++ (A2 ++ Post))) = (Pre ++ Ca) ++ x :: ([] ++ y :: (Cb ++ (A2 ++ Post))) by simp]; exact own2.out, gT hB hG.out⟩
            case measure => have := hi.out; simp only [intOf]; omega
          · obtain ⟨v, hv, HA⟩ := addStay1_ge hcc
            replace HA := Lib.hid HA
            replace hcc := Lib.hid hcc
            go_wp2_with fail
            refine wp_region_later _ (by kernel_rfl) (by kernel_rfl) ?_
            repeat (go_big_quiet_step ((go_at_call 59; exact Later.call (Nat.le_refl _) (HA.out _))))
            refine wpQuiet_nil ?_
            intro z'
            have hz := z'.prop
            generalize z'.val = w3 at hz
            replace own := own_below own hz
            replace hB := gB hB hz
            clear X0 X1 X2 Y0 Y1 Y2 hz hgl
            go_wp2
            have hD : Hid ((Ca ++ [y] ++ x :: Cb).Perm (C ++ [x]) ∧ Srt (Ca ++ [y] ++ x :: Cb)) := by
              obtain ⟨e1, e2, e3⟩ := hJ.out
              refine ⟨by rw [e1, List.append_assoc (Ca ++ [y])]; exact (List.perm_append_left_iff _).2 (List.perm_append_singleton x Cb).symm, srt_put (by rw [← e1]; exact hsC.out) (fun z hz => ?_) e3⟩
              have h1 : Srt (Ca ++ [y]) := by have := hsC.out; rw [e1] at this; exact this.left
              have := h1.last (z := y) (by simp) z hz
              have := hcc.out
              omega
            have hO := Lib.hid (own_re own (l' := Pre ++ ((Ca ++ [y] ++ x :: Cb) ++ (A2 ++ Post))) (by simp))
            generalize Ca ++ [y] ++ x :: Cb = D at hD hO
            go_roundw
            case rel => exact ⟨k + 1, A1 ++ [x], A2, D, rfl, by omega, by have := hk9.out; omega, hfin.out D hD.out.1 hD.out.2, hO.out, hB⟩
            case measure => have := hk9.out; simp only [intOf]; omega
        · obtain rfl : j = a := by omega
          have c2 : decide ((j : Int) < (j : Int)) = false := by simp
          have hca : Ca = [] := List.length_eq_zero_iff.1 (by have := hJ.out.2.1; omega)
          subst hca
          have hD : Hid ((x :: Cb).Perm (C ++ [x]) ∧ Srt (x :: Cb)) := by
            obtain ⟨e1, e2, e3⟩ := hJ.out
            rw [List.nil_append] at e1
            exact ⟨by rw [e1]; exact (List.perm_append_singleton x Cb).symm, List.pairwise_cons.2 ⟨e3, by rw [← e1]; exact hsC.out⟩⟩
          have c3 : decide (j < j) = false := by simp
          go_wp2_with fail
          refine wp_region_later _ (by kernel_rfl) (by kernel_rfl) ?_
          repeat (go_big_quiet_step (fail))
          refine wpQuiet_nil ?_
          intro z'
          have hz := z'.prop
          generalize z'.val = w3 at hz
          replace own := own_below own hz
          replace hB := gB hB hz
          clear hz
          have hO := Lib.hid (own_re own (l' := Pre ++ ((x :: Cb) ++ (A2 ++ Post))) (by simp))
          generalize x :: Cb = D at hD hO
          go_wp2
          go_roundw
          case rel => exact ⟨k + 1, A1 ++ [x], A2, D, rfl, by omega, by have := hk9.out; omega, hfin.out D hD.out.1 hD.out.2, hO.out, hB⟩
          case measure => have := hk9.out; simp only [intOf]; omega
    · have c1 : decide ((k : Int) < (b : Int)) = false := by simp; omega
      go_wp2
      go_end0
      obtain ⟨e1, e2, e3, e4, e5⟩ := hI.out
      have h2 := hx.out.2.1
      have hA2 : A2 = [] := by
        rcases e5 with e5 | e5
        · have h4 := congrArg List.length e1
          rw [List.length_append] at h4
          exact List.length_eq_zero_iff.1 (by omega)
        · exact e5
      subst hA2
      rw [List.append_nil] at e1
      subst e1
      exact ⟨C, e2, e3, rfl, by simpa using own, hB⟩
end

section
open Go.ChangeShapes Go.WideShapes Go.ChangeAt Go.RowKit Go.IntWalk
theorem insSortZ (x y : Int) (base g n c a b : Nat) (hx : x = (a : Int)) (hy : y = (b : Int)) (Pre A Post : List St) (w : World) (own : w.ownsRow base 49 3 (.slice (some ⟨g, 0, none⟩) n c) n ((Pre ++ (A ++ Post)).flatMap encSt)) (hn : n ≤ 1000) (hl : (Pre ++ (A ++ Post)).length = n) (ha : a = Pre.length) (hb : b = a + A.length) :
    Calls Tryz.prog 138 #[.slice (some ⟨g, 0, none⟩) n c, .int .i64 x, .int .i64 y, .func (.func 59) #[] #[]] w fun e w' => ∃ C : List St, C.Perm A ∧ Srt C ∧ e = .returned (.tuple #[]) ∧ w'.ownsRow base 49 3 (.slice (some ⟨g, 0, none⟩) n c) n ((Pre ++ (C ++ Post)).flatMap encSt) ∧ w.grownBy w' (some g) := by
  subst hx; subst hy
  exact insSort_any base g n c a b Pre A Post w own hn hl ha hb
theorem symMergeZ (x y z : Int) (base g n c m b : Nat) (hx : x = 0) (hy : y = (m : Int)) (hz : z = (b : Int)) (A B Post : List St) (w : World) (own : w.ownsRow base 49 3 (.slice (some ⟨g, 0, none⟩) n c) n ((A ++ (B ++ Post)).flatMap encSt)) (hn : n ≤ 1000) (hl : (A ++ (B ++ Post)).length = n) (hm : m = A.length) (hb : b = m + B.length) (hA : 0 < A.length) (hB : 0 < B.length) (hsA : Srt A) (hsB : Srt B) :
    Calls Tryz.prog 139 #[.slice (some ⟨g, 0, none⟩) n c, .int .i64 x, .int .i64 y, .int .i64 z, .func (.func 59) #[] #[]] w fun e w' => ∃ C : List St, C.Perm (A ++ B) ∧ Srt C ∧ e = .returned (.tuple #[]) ∧ w'.ownsRow base 49 3 (.slice (some ⟨g, 0, none⟩) n c) n ((C ++ Post).flatMap encSt) ∧ w.grownBy w' (some g) := by
  subst hx; subst hy; subst hz
  exact symMerge_all base g n c hn b 0 m b [] A B Post w own hl rfl (by simpa using hm) hb hA hB hsA hsB (by omega)

set_option maxRecDepth 100000 in
set_option maxHeartbeats 4000000 in
theorem stableA_any (base g n c : Nat) (L : List St) (w : World) (own : w.ownsRow base 49 3 (.slice (some ⟨g, 0, none⟩) n c) n ((L).flatMap encSt)) (hl : L.length = n) (hn : n < 20) :
    Calls Tryz.prog 96 #[.slice (some ⟨g, 0, none⟩) n c, .int .i64 n, .func (.func 59) #[] #[]] w fun e w' => ∃ C : List St, C.Perm L ∧ Srt C ∧ e = .returned (.tuple #[]) ∧ w'.ownsRow base 49 3 (.slice (some ⟨g, 0, none⟩) n c) n ((C).flatMap encSt) ∧ w.grownBy w' (some g) := by
  have hB : w.grownBy w (some g) := World.grownBy.refl w _
  have c1 : decide ((20 : Int) ≤ (n : Int)) = false := by simp; omega
  have c2 : decide ((20 : Int) < (n : Int)) = false := by simp; omega
  have H1 := Lib.hid (insSortZ 0 n base g n c 0 n rfl rfl [] L [] w (by simpa using own) (by omega) (by simpa using hl) rfl (by simpa using hl.symm))
  replace hl := Lib.hid hl
  go_enter Tryz.func96, Tryz.ntmps96
  go_wp2
  refine wp_loop_rounds 1 ?_
  rw [rounds_succ]
  go_wp2_with (go_at_call 138; refine (H1.out).mono ?_; rintro e w1 ⟨C, pC, sC, rfl, ownC, hGC⟩)
  refine wp_loop_rounds 1 ?_
  rw [rounds_succ]
  go_wp2
  go_end0
  exact ⟨C, pC, sC, rfl, by simpa using ownC, hGC⟩

set_option maxRecDepth 100000 in
set_option maxHeartbeats 4000000 in
theorem stableB_any (base g n c : Nat) (L : List St) (w : World) (own : w.ownsRow base 49 3 (.slice (some ⟨g, 0, none⟩) n c) n ((L).flatMap encSt)) (hl : L.length = n) (hn : n = 20) :
    Calls Tryz.prog 96 #[.slice (some ⟨g, 0, none⟩) n c, .int .i64 n, .func (.func 59) #[] #[]] w fun e w' => ∃ C : List St, C.Perm L ∧ Srt C ∧ e = .returned (.tuple #[]) ∧ w'.ownsRow base 49 3 (.slice (some ⟨g, 0, none⟩) n c) n ((C).flatMap encSt) ∧ w.grownBy w' (some g) := by
  have hB : w.grownBy w (some g) := World.grownBy.refl w _
  have c1 : (20 : Int) ≤ (n : Int) := by omega
  have c2 : decide ((40 : Int) ≤ (n : Int)) = false := by simp; omega
  have c3 : decide ((20 : Int) < (n : Int)) = false := by simp; omega
  have H1 := Lib.hid (insSortZ 0 20 base g n c 0 20 rfl rfl [] L [] w (by simpa using own) (by omega) (by simpa using hl) rfl (by simp; omega))
  have H2 := Lib.hid (fun C W (h : C.Perm L) (own : W.ownsRow base 49 3 (.slice (some ⟨g, 0, none⟩) n c) n ((C).flatMap encSt)) => insSortZ 20 n base g n c 20 n rfl rfl C [] [] W (by simpa using own) (by omega) (by have := h.length_eq; simp; omega) (by have := h.length_eq; omega) (by simp; omega))
  replace hl := Lib.hid hl
  replace hn := Lib.hid hn
  go_enter Tryz.func96, Tryz.ntmps96
  go_wp2
  refine wp_loop_rounds 2 ?_
  rw [rounds_succ]
  go_wp2_with (go_at_call 138; refine (H1.out).mono ?_; rintro e w1 ⟨C, pC, sC, rfl, ownC, hGC⟩)
  rw [rounds_succ]
  go_wp2_with (go_at_call 138; refine (H2.out C _ pC (by simpa using ownC)).mono ?_; rintro e w2 ⟨D, pD, sD, rfl, ownD, hGD⟩)
  refine wp_loop_rounds 1 ?_
  rw [rounds_succ]
  go_wp2
  go_end0
  have hD : D = [] := List.length_eq_zero_iff.1 (by simpa using pD.length_eq)
  subst hD
  exact ⟨C, pC, sC, rfl, by simpa using ownD, gT hGC hGD⟩

set_option maxRecDepth 100000 in
set_option maxHeartbeats 4000000 in
theorem stableC_any (base g n c : Nat) (L : List St) (w : World) (own : w.ownsRow base 49 3 (.slice (some ⟨g, 0, none⟩) n c) n ((L).flatMap encSt)) (hl : L.length = n) (hn : 20 < n) (hn2 : n < 40) :
    Calls Tryz.prog 96 #[.slice (some ⟨g, 0, none⟩) n c, .int .i64 n, .func (.func 59) #[] #[]] w fun e w' => ∃ C : List St, C.Perm L ∧ Srt C ∧ e = .returned (.tuple #[]) ∧ w'.ownsRow base 49 3 (.slice (some ⟨g, 0, none⟩) n c) n ((C).flatMap encSt) ∧ w.grownBy w' (some g) := by
  have hB : w.grownBy w (some g) := World.grownBy.refl w _
  obtain ⟨A, B, rfl, hA⟩ := split_at L (j := 20) (by omega)
  rw [List.length_append] at hl
  have c1 : (20 : Int) ≤ (n : Int) := by omega
  have c2 : decide ((40 : Int) ≤ (n : Int)) = false := by simp; omega
  have c3 : (20 : Int) < (n : Int) := by omega
  have c4 : decide ((40 : Int) < (n : Int)) = false := by simp; omega
  have H1 := Lib.hid (insSortZ 0 20 base g n c 0 20 rfl rfl [] A B w (by simpa using own) (by omega) (by simpa using hl) rfl (by simp; omega))
  have H2 := Lib.hid (fun C W (h : C.Perm A) (own : W.ownsRow base 49 3 (.slice (some ⟨g, 0, none⟩) n c) n ((C ++ B).flatMap encSt)) => insSortZ 20 n base g n c 20 n rfl rfl C B [] W (by simpa using own) (by omega) (by have := h.length_eq; simp; omega) (by have := h.length_eq; omega) (by omega))
  have H3 := Lib.hid (fun C D W (h : C.Perm A) (k : D.Perm B) (s1 : Srt C) (s2 : Srt D) (own : W.ownsRow base 49 3 (.slice (some ⟨g, 0, none⟩) n c) n ((C ++ D).flatMap encSt)) => symMergeZ 0 20 n base g n c 20 n rfl rfl rfl C D [] W (by simpa using own) (by omega) (by have h1 := h.length_eq; have h2 := k.length_eq; simp; omega) (by have := h.length_eq; omega) (by have h2 := k.length_eq; omega) (by have := h.length_eq; omega) (by have := k.length_eq; omega) s1 s2)
  replace hl := Lib.hid hl
  replace hn := Lib.hid hn
  replace hn2 := Lib.hid hn2
  replace hA := Lib.hid hA
  go_enter Tryz.func96, Tryz.ntmps96
  go_wp2
  refine wp_loop_rounds 2 ?_
  rw [rounds_succ]
  go_wp2_with (go_at_call 138; refine (H1.out).mono ?_; rintro e w1 ⟨C, pC, sC, rfl, ownC, hGC⟩)
  rw [rounds_succ]
  go_wp2_with (go_at_call 138; refine (H2.out C _ pC (by simpa using ownC)).mono ?_; rintro e w2 ⟨D, pD, sD, rfl, ownD, hGD⟩)
  refine wp_loop_rounds 2 ?_
  rw [rounds_succ]
  go_wp2
  refine wp_loop_rounds 1 ?_
  rw [rounds_succ]
  go_wp2_with (go_at_call 139; refine (H3.out C D _ pC pD sC sD (by simpa using ownD)).mono ?_; rintro e w3 ⟨E, pE, sE, rfl, ownE, hGE⟩)
  rw [rounds_succ]
  go_wp2
  go_end0
  exact ⟨E, pE.trans (pC.append pD), sE, rfl, by simpa using ownE, gT hGC (gT hGD hGE)⟩

set_option maxRecDepth 100000 in
set_option maxHeartbeats 4000000 in
theorem stableD_any (base g n c : Nat) (L : List St) (w : World) (own : w.ownsRow base 49 3 (.slice (some ⟨g, 0, none⟩) n c) n ((L).flatMap encSt)) (hl : L.length = n) (hn : n = 40) :
    Calls Tryz.prog 96 #[.slice (some ⟨g, 0, none⟩) n c, .int .i64 n, .func (.func 59) #[] #[]] w fun e w' => ∃ C : List St, C.Perm L ∧ Srt C ∧ e = .returned (.tuple #[]) ∧ w'.ownsRow base 49 3 (.slice (some ⟨g, 0, none⟩) n c) n ((C).flatMap encSt) ∧ w.grownBy w' (some g) := by
  have hB : w.grownBy w (some g) := World.grownBy.refl w _
  obtain ⟨A, B, rfl, hA⟩ := split_at L (j := 20) (by omega)
  rw [List.length_append] at hl
  have c1 : (20 : Int) ≤ (n : Int) := by omega
  have c2 : (40 : Int) ≤ (n : Int) := by omega
  have c3 : (20 : Int) < (n : Int) := by omega
  have c4 : decide ((40 : Int) < (n : Int)) = false := by simp; omega
  have c5 : decide ((60 : Int) ≤ (n : Int)) = false := by simp; omega
  have c6 : decide ((80 : Int) ≤ (n : Int)) = false := by simp; omega
  have c7 : decide ((60 : Int) < (n : Int)) = false := by simp; omega
  have H1 := Lib.hid (insSortZ 0 20 base g n c 0 20 rfl rfl [] A B w (by simpa using own) (by omega) (by simpa using hl) rfl (by simp; omega))
  have H2 := Lib.hid (fun C W (h : C.Perm A) (own : W.ownsRow base 49 3 (.slice (some ⟨g, 0, none⟩) n c) n ((C ++ B).flatMap encSt)) => insSortZ 20 40 base g n c 20 40 rfl rfl C B [] W (by simpa using own) (by omega) (by have := h.length_eq; simp; omega) (by have := h.length_eq; omega) (by omega))
  have H2b := Lib.hid (fun C D W (h : C.Perm A) (k : D.Perm B) (own : W.ownsRow base 49 3 (.slice (some ⟨g, 0, none⟩) n c) n ((C ++ D).flatMap encSt)) => insSortZ 40 n base g n c 40 n rfl rfl (C ++ D) [] [] W (by simpa using own) (by omega) (by have h1 := h.length_eq; have h2 := k.length_eq; simp; omega) (by have h1 := h.length_eq; have h2 := k.length_eq; simp; omega) (by simp; omega))
  have H3 := Lib.hid (fun C D W (h : C.Perm A) (k : D.Perm B) (s1 : Srt C) (s2 : Srt D) (own : W.ownsRow base 49 3 (.slice (some ⟨g, 0, none⟩) n c) n ((C ++ D).flatMap encSt)) => symMergeZ 0 20 40 base g n c 20 40 rfl rfl rfl C D [] W (by simpa using own) (by omega) (by have h1 := h.length_eq; have h2 := k.length_eq; simp; omega) (by have := h.length_eq; omega) (by have h2 := k.length_eq; omega) (by have := h.length_eq; omega) (by have := k.length_eq; omega) s1 s2)
  replace hl := Lib.hid hl
  replace hn := Lib.hid hn
  replace hA := Lib.hid hA
  go_enter Tryz.func96, Tryz.ntmps96
  go_wp2
  refine wp_loop_rounds 3 ?_
  rw [rounds_succ]
  go_wp2_with (go_at_call 138; refine (H1.out).mono ?_; rintro e w1 ⟨C, pC, sC, rfl, ownC, hGC⟩)
  rw [rounds_succ]
  go_wp2_with (go_at_call 138; refine (H2.out C _ pC (by simpa using ownC)).mono ?_; rintro e w2 ⟨D, pD, sD, rfl, ownD, hGD⟩)
  rw [rounds_succ]
  go_wp2_with (go_at_call 138; refine (H2b.out C D _ pC pD (by simpa using ownD)).mono ?_; rintro e w3 ⟨F, pF, sF, rfl, ownF, hGF⟩)
  have hF : F = [] := List.length_eq_zero_iff.1 (by simpa using pF.length_eq)
  subst hF
  refine wp_loop_rounds 2 ?_
  rw [rounds_succ]
  go_wp2
  refine wp_loop_rounds 2 ?_
  rw [rounds_succ]
  go_wp2_with (go_at_call 139; refine (H3.out C D _ pC pD sC sD (by simpa using ownF)).mono ?_; rintro e w4 ⟨E, pE, sE, rfl, ownE, hGE⟩)
  rw [rounds_succ]
  go_wp2
  rw [rounds_succ]
  go_wp2
  go_end0
  exact ⟨E, pE.trans (pC.append pD), sE, rfl, by simpa using ownE, gT hGC (gT hGD (gT hGF hGE))⟩

/-- At most 40 stays are sorted by their first days. -/
theorem sortStable_any (base g n c : Nat) (L : List St) (w : World) (own : w.ownsRow base 49 3 (.slice (some ⟨g, 0, none⟩) n c) n ((L).flatMap encSt)) (hl : L.length = n) (hn : n ≤ 40) :
    Calls Tryz.prog 58 #[.slice (some ⟨g, 0, none⟩) n c, .func (.func 59) #[] #[]] w fun e w' => ∃ C : List St, C.Perm L ∧ Srt C ∧ e = .returned (.tuple #[]) ∧ w'.ownsRow base 49 3 (.slice (some ⟨g, 0, none⟩) n c) n ((C).flatMap encSt) ∧ w.grownBy w' (some g) := by
  have HS : Hid (Calls Tryz.prog 96 #[.slice (some ⟨g, 0, none⟩) n c, .int .i64 n, .func (.func 59) #[] #[]] w fun e w' => ∃ C : List St, C.Perm L ∧ Srt C ∧ e = .returned (.tuple #[]) ∧ w'.ownsRow base 49 3 (.slice (some ⟨g, 0, none⟩) n c) n ((C).flatMap encSt) ∧ w.grownBy w' (some g)) := by
    show Calls _ _ _ _ _
    by_cases h1 : n < 20
    · exact stableA_any base g n c L w own hl h1
    · by_cases h2 : n = 20
      · exact stableB_any base g n c L w own hl h2
      · by_cases h3 : n < 40
        · exact stableC_any base g n c L w own hl (by omega) h3
        · exact stableD_any base g n c L w own hl (by omega)
  clear own hl hn
  go_enter Tryz.func58, Tryz.ntmps58
  go_wp2_with (go_at_call 96; refine (HS.out).mono ?_; rintro e w1 ⟨C, pC, sC, rfl, ownC, hGC⟩)
  go_end0
  exact ⟨C, pC, sC, rfl, ownC, hGC⟩
end
end Go.Proofs.YtipdcgfdejmjfaaGreatDoor
