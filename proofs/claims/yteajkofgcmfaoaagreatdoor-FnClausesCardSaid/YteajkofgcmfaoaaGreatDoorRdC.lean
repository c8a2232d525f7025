/- Walks: words looked up and texts split, both sides. Printed by gen_rdc.py. -/
import Derived.Test.YteajkofgcmfaoaaGreatDoorRdB
import Derived.Test.YteajkofgcmfaoaaGreatDoorLandIx
import Derived.Test.YteajkofgcmfaoaaGreatDoorShelf7
namespace Go.Proofs.YteajkofgcmfaoaaGreatDoor
open Go.ChangeShapes Go.WideShapes Go.ChangeAt Go.RowKit Go.IntWalk

theorem isS_dec (x : ByteArray) : isS x = fun y => decide (y = x) := by
  funext y
  unfold isS
  rw [Lib.toList_data, Lib.toList_data, Bool.eq_iff_iff, beq_iff_eq, decide_eq_true_eq]
  exact ⟨ba_inj, fun e => by rw [e]⟩
theorem ix_fidx (L : List ByteArray) (x : ByteArray) : fidx (isS x) L 0 = ix L x := by rw [isS_dec]; rfl
theorem idxFromS_fidx (x : ByteArray) : ∀ (L : List ByteArray) (i : Nat), Lib.idxFromS L x i = fidx (fun y => decide (y = x)) L i
  | [], _ => rfl
  | y :: L, i => by
    unfold Lib.idxFromS fidx
    rw [idxFromS_fidx x L (i + 1)]
    by_cases h : y = x
    · simp [h]
    · simp [h]
theorem idxOfS_ix (x : ByteArray) (L : List ByteArray) : Lib.idxOfS L x = ix L x := idxFromS_fidx x L 0
theorem indexIn_any (g c n : Nat) (L : List ByteArray) (x : ByteArray) (w : World) (hn : L.length = n) (hl : n ≤ 1000) (hx : Rd encS w (some ⟨g, 0, none⟩) L) :
    Calls Tryz.prog 86 #[.slice (some ⟨g, 0, none⟩) n c, .string x] w fun e w' => e = .returned (.int .i64 (ix L x)) ∧ w = w' := by
  subst hn
  have HI := Lib.hid (Tryz.slices_Index_string g 0 L.length c L x w (Nat.le_refl _) (by omega) (fun j hj => by
    have hm := List.getElem?_eq_getElem hj
    obtain ⟨b, off, e, _, hc⟩ := hx j _ hm
    injection e with e
    injection e with e1 e2
    subst e1; subst e2
    have := hc 0 _ rfl
    rw [List.getD_eq_getElem?_getD, hm]
    simpa [encS] using this))
  rw [List.take_length, idxOfS_ix] at HI
  clear hx
  go_enter Tryz.func86, Tryz.ntmps86
  go_wp2_with fail
  refine HI.out.mono ?_
  rintro e w1 ⟨rfl, rfl⟩
  go_wp2
  go_ret
  exact ⟨rfl, rfl⟩

set_option maxHeartbeats 1000000 in
theorem specFeastNamed_any (x : ByteArray) (w : World) : Calls Tryz.prog 112 #[.string x] w fun e w' => e = .returned (.tuple #[.int .i64 (fz feL x), .bool (decide (0 ≤ ix feL x))]) ∧ Below w.heap.size w w' := by
  have HL := Lib.hid (fun g c W (h : Rd encS W (some ⟨g, 0, none⟩) feL) => l01Text_any (some ⟨g, 0, none⟩) c 20 feL x W rfl (by decide) h)
  rw [ix_fidx] at HL
  have hfz : Hid (fz feL x = if ix feL x < 0 then 0 else ix feL x) := rfl
  generalize fz feL x = F at hfz ⊢
  generalize ix feL x = J at HL hfz ⊢
  go_enter Tryz.func112, Tryz.ntmps112
  go_wp2_with fail
  refine (l05Names_any _).mono ?_
  rintro e w1 ⟨g, c, rfl, own, hB⟩
  go_wp2_with fail
  refine (HL.out _ _ _ (Rd.of_own encS_len (by decide) own)).mono ?_
  rintro e w2 ⟨rfl, rfl⟩
  by_cases hJ : J < 0
  · have hF := hfz.out
    rw [if_pos hJ] at hF
    have hd : decide (0 ≤ J) = false := by simp; omega
    replace hF := Lib.hid hF
    replace hd := Lib.hid hd
    go_wp2
    go_ret2
    exact ⟨by rw [hF.out, hd.out]; rfl, hB⟩
  · have hF := hfz.out
    rw [if_neg hJ] at hF
    have hd : decide (0 ≤ J) = true := by simp; omega
    have hJ' : decide (J < 0) = false := by simpa using hJ
    replace hF := Lib.hid hF
    replace hd := Lib.hid hd
    clear hJ
    go_wp2
    go_ret2
    exact ⟨by rw [hF.out, hd.out]; rfl, hB⟩
set_option maxHeartbeats 1000000 in
theorem specStyleNamed_any (x : ByteArray) (w : World) : Calls Tryz.prog 116 #[.string x] w fun e w' => e = .returned (.tuple #[.int .i64 (fz styL x), .bool (decide (0 ≤ ix styL x))]) ∧ Below w.heap.size w w' := by
  have HL := Lib.hid (fun g c W (h : Rd encS W (some ⟨g, 0, none⟩) styL) => l01Text_any (some ⟨g, 0, none⟩) c 7 styL x W rfl (by decide) h)
  rw [ix_fidx] at HL
  have hfz : Hid (fz styL x = if ix styL x < 0 then 0 else ix styL x) := rfl
  generalize fz styL x = F at hfz ⊢
  generalize ix styL x = J at HL hfz ⊢
  go_enter Tryz.func116, Tryz.ntmps116
  go_wp2_with fail
  refine (l06Names_any _).mono ?_
  rintro e w1 ⟨g, c, rfl, own, hB⟩
  go_wp2_with fail
  refine (HL.out _ _ _ (Rd.of_own encS_len (by decide) own)).mono ?_
  rintro e w2 ⟨rfl, rfl⟩
  by_cases hJ : J < 0
  · have hF := hfz.out
    rw [if_pos hJ] at hF
    have hd : decide (0 ≤ J) = false := by simp; omega
    replace hF := Lib.hid hF
    replace hd := Lib.hid hd
    go_wp2
    go_ret2
    exact ⟨by rw [hF.out, hd.out]; rfl, hB⟩
  · have hF := hfz.out
    rw [if_neg hJ] at hF
    have hd : decide (0 ≤ J) = true := by simp; omega
    have hJ' : decide (J < 0) = false := by simpa using hJ
    replace hF := Lib.hid hF
    replace hd := Lib.hid hd
    clear hJ
    go_wp2
    go_ret2
    exact ⟨by rw [hF.out, hd.out]; rfl, hB⟩
theorem rdOrd_neg {x : ByteArray} (h : ix ordL x < 0) : rdOrd x = 0 := if_pos h
theorem rdOrd_nn {x : ByteArray} (h : ¬ ix ordL x < 0) : rdOrd x = ix ordL x + 1 := if_neg h
set_option maxHeartbeats 1000000 in
theorem implReadOrdinal_any (x : ByteArray) (w : World) : Calls Tryz.prog 88 #[.string x] w fun e w' => e = .returned (.tuple #[.int .i64 (rdOrd x), .bool (decide (0 ≤ ix ordL x))]) ∧ Below w.heap.size w w' := by
  have HL := Lib.hid (fun g c W (hx : Rd encS W (some ⟨g, 0, none⟩) ordL) => (Tryz.slices_Index_string g 0 31 c ordL x W (by decide) (by decide) (fun j hj => by
    have hm := List.getElem?_eq_getElem hj
    obtain ⟨b, off, e, _, hc⟩ := hx j _ hm
    injection e with e
    injection e with e1 e2
    subst e1; subst e2
    have := hc 0 _ rfl
    rw [List.getD_eq_getElem?_getD, hm]
    simpa [encS] using this)))
  rw [show ordL.take 31 = ordL from rfl, idxOfS_ix] at HL
  have hor := ix_or ordL x
  have hlen : ordL.length = 31 := rfl
  have h1 := rdOrd_neg (x := x)
  have h2 := rdOrd_nn (x := x)
  generalize rdOrd x = F at h1 h2 ⊢
  have hJb : ix ordL x = -1 ∨ (0 ≤ ix ordL x ∧ ix ordL x ≤ 30) := by
    rcases hor with e | ⟨j, e, hj, _⟩
    · exact .inl e
    · exact .inr (by omega)
  clear hor hlen
  generalize ix ordL x = J at HL h1 h2 hJb ⊢
  replace h1 := Lib.hid h1
  replace h2 := Lib.hid h2
  go_enter Tryz.func88, Tryz.ntmps88
  go_wp2_with fail
  refine (ordinals_any _).mono ?_
  rintro e w1 ⟨g, c, rfl, own, hB⟩
  go_wp2_with fail
  refine (HL.out _ _ _ (Rd.of_own encS_len (by decide) own)).mono ?_
  rintro e w2 ⟨rfl, rfl⟩
  clear HL
  by_cases hJ : J < 0
  · have hF := Lib.hid (h1.out hJ)
    have hd : decide (0 ≤ J) = false := by simp; omega
    replace hd := Lib.hid hd
    clear hJb
    go_wp2
    go_ret2
    exact ⟨by rw [hF.out, hd.out]; rfl, hB⟩
  · have hF := Lib.hid (h2.out (by omega))
    have hd : decide (0 ≤ J) = true := by simp; omega
    have hJ' : decide (J < 0) = false := by simpa using hJ
    have v1 : IntKind.i64.wrap (J + 1) = J + 1 := by rw [IntKind.wrap_i64]; omega
    replace hd := Lib.hid hd
    clear hJ hJb
    go_wp2
    go_ret2
    exact ⟨by rw [hF.out, hd.out]; rfl, hB⟩
set_option maxHeartbeats 2000000 in
theorem specReadOrdinal_any (x : ByteArray) (w : World) : Calls Tryz.prog 114 #[.string x] w fun e w' => e = .returned (.tuple #[.int .i64 (rdOrd x), .bool (decide (0 ≤ ix ordL x))]) ∧ Below w.heap.size w w' := by
  go_enter Tryz.func114, Tryz.ntmps114
  go_wp2
  go_loopw [4] (fun i wr => ∃ k : Nat, k ≤ 31 ∧ i = .int .i64 ((k : Int) + 1) ∧ Hid (ix ordL x = fidx (fun y => decide (y = x)) (ordL.drop k) k) ∧ Below w.heap.size w wr) (fun i _ => 32 - (intOf i).toNat)
  case atStart => exact ⟨0, by decide, rfl, rfl, Below.refl _ _⟩
  case round =>
    obtain ⟨k, hk, rfl, hH, hB⟩ := hrel
    by_cases hlt : k < 31
    · have hk1 : ((k : Int) + 1) ≤ 31 := by omega
      have hm := List.getElem?_eq_getElem (show k < ordL.length from hlt)
      generalize ordL[k]'(show k < ordL.length from hlt) = y at hm
      have hn := Lib.hid (nameN_is (L := ordL) (lo := 1) (n := (k : Int) + 1) (hi := 31) rfl (by unfold inB; simp; omega) (by omega) hm)
      have hd := Lib.hid (fidx_drop (fun y => decide (y = x)) k k hm)
      have HN := Lib.hid (fun W => hn.out ▸ specOrdinalText_any ((k : Int) + 1) W)
      have v1 : IntKind.i64.wrap ((k : Int) + 1 + 1) = ((k + 1 : Nat) : Int) + 1 := by rw [IntKind.wrap_i64]; omega
      clear hm hn
      by_cases hyx : y = x
      · have hJ : ix ordL x = (k : Int) := by rw [hH.out, hd.out]; simp [hyx]
        have hF := Lib.hid (rdOrd_nn (x := x) (by omega))
        have hdd : decide (0 ≤ ix ordL x) = true := by simp; omega
        have heq : (y.toList == x.toList) = true := by rw [hyx]; simp
        replace hJ := Lib.hid hJ
        replace hdd := Lib.hid hdd
        clear hyx
        go_wp2_with fail
        refine (HN.out _).mono ?_
        rintro e w1 ⟨rfl, hB1⟩
        go_wp2
        go_ret2
        exact ⟨by rw [hF.out, hdd.out, hJ.out]; rfl, stepB hB hB1 hB.size⟩
      · have heq : (y.toList == x.toList) = false := by
          have := congrFun (isS_dec x) y
          unfold isS at this
          rw [this]; simpa using hyx
        have hH2 : Hid (ix ordL x = fidx (fun y => decide (y = x)) (ordL.drop (k + 1)) (k + 1)) := by
          unfold Hid
          rw [hH.out, hd.out]
          simp [hyx]
        clear hyx
        go_wp2_with fail
        refine (HN.out _).mono ?_
        rintro e w1 ⟨rfl, hB1⟩
        go_wp2
        go_roundw
        case rel => exact ⟨k + 1, by omega, rfl, hH2, stepB hB hB1 hB.size⟩
        case measure => simp [intOf]; omega
    · obtain rfl : k = 31 := by omega
      have hJ : ix ordL x = -1 := by rw [hH.out]; rfl
      have hF := Lib.hid (rdOrd_neg (x := x) (by omega))
      have hdd : decide (0 ≤ ix ordL x) = false := by simp; omega
      replace hJ := Lib.hid hJ
      replace hdd := Lib.hid hdd
      go_wp2
      go_ret2
      exact ⟨by rw [hF.out, hdd.out]; rfl, hB⟩
end Go.Proofs.YteajkofgcmfaoaaGreatDoor
