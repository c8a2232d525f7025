/- Walks: l01Split; l01Join at a blank. Printed by gen_rds.py. -/
import Derived.Test.YteajkofgcmfaoaaGreatDoorRdB
import Derived.Test.YteajkofgcmfaoaaGreatDoorLi
import Derived.Test.YteajkofgcmfaoaaGreatDoorShelf7
import Derived.Test.YteajkofgcmfaoaaGreatDoorJx
namespace Go.Proofs.YteajkofgcmfaoaaGreatDoor
section
open Go.ChangeShapes Go.WideShapes Go.ChangeAt Go.RowKit Go.IntWalk

theorem isS_dec (x : ByteArray) : isS x = fun y => decide (y = x) := by
  funext y
  unfold isS
  rw [Lib.toList_data, Lib.toList_data, Bool.eq_iff_iff, beq_iff_eq, decide_eq_true_eq]
  exact ⟨ba_inj, fun e => by rw [e]⟩
theorem ix_fidx (L : List ByteArray) (x : ByteArray) : fidx (isS x) L 0 = ix L x := by rw [isS_dec]; rfl
theorem idxFromS_fidx (x : ByteArray) : ∀ (L : List ByteArray) (i : Nat), Lib.idxFromS L x i = fidx (fun y => decide (y = x)) L i
  | [], _ => rfl
  | y :: L, i => by
    unfold Lib.idxFromS fidx
    rw [idxFromS_fidx x L (i + 1)]
    by_cases h : y = x
    · simp [h]
    · simp [h]
theorem idxOfS_ix (x : ByteArray) (L : List ByteArray) : Lib.idxOfS L x = ix L x := idxFromS_fidx x L 0
theorem indexIn_any (g c n : Nat) (L : List ByteArray) (x : ByteArray) (w : World) (hn : L.length = n) (hl : n ≤ 1000) (hx : Rd encS w (some ⟨g, 0, none⟩) L) :
    Calls Tryz.prog 86 #[.slice (some ⟨g, 0, none⟩) n c, .string x] w fun e w' => e = .returned (.int .i64 (ix L x)) ∧ w = w' := by
  subst hn
  have HI := Lib.hid (Tryz.slices_Index_string g 0 L.length c L x w (Nat.le_refl _) (by omega) (fun j hj => by
    have hm := List.getElem?_eq_getElem hj
    obtain ⟨b, off, e, _, hc⟩ := hx j _ hm
    injection e with e
    injection e with e1 e2
    subst e1; subst e2
    have := hc 0 _ rfl
    rw [List.getD_eq_getElem?_getD, hm]
    simpa [encS] using this))
  rw [List.take_length, idxOfS_ix] at HI
  clear hx
  go_enter Tryz.func86, Tryz.ntmps86
  go_wp2_with fail
  refine HI.out.mono ?_
  rintro e w1 ⟨rfl, rfl⟩
  go_wp2
  go_ret
  exact ⟨rfl, rfl⟩

set_option maxHeartbeats 1000000 in
theorem specFeastNamed_any (x : ByteArray) (w : World) : Calls Tryz.prog 112 #[.string x] w fun e w' => e = .returned (.tuple #[.int .i64 (fz feL x), .bool (decide (0 ≤ ix feL x))]) ∧ Below w.heap.size w w' := by
  have HL := Lib.hid (fun g c W (h : Rd encS W (some ⟨g, 0, none⟩) feL) => l01Text_any (some ⟨g, 0, none⟩) c 20 feL x W rfl (by decide) h)
  rw [ix_fidx] at HL
  have hfz : Hid (fz feL x = if ix feL x < 0 then 0 else ix feL x) := rfl
  generalize fz feL x = F at hfz ⊢
  generalize ix feL x = J at HL hfz ⊢
  go_enter Tryz.func112, Tryz.ntmps112
  go_wp2_with fail
  refine (l05Names_any _).mono ?_
  rintro e w1 ⟨g, c, rfl, own, hB⟩
  go_wp2_with fail
  refine (HL.out _ _ _ (Rd.of_own encS_len (by decide) own)).mono ?_
  rintro e w2 ⟨rfl, rfl⟩
  by_cases hJ : J < 0
  · have hF := hfz.out
    rw [if_pos hJ] at hF
    have hd : decide (0 ≤ J) = false := by simp; omega
    replace hF := Lib.hid hF
    replace hd := Lib.hid hd
    go_wp2
    go_ret2
    exact ⟨by rw [hF.out, hd.out]; rfl, hB⟩
  · have hF := hfz.out
    rw [if_neg hJ] at hF
    have hd : decide (0 ≤ J) = true := by simp; omega
    have hJ' : decide (J < 0) = false := by simpa using hJ
    replace hF := Lib.hid hF
    replace hd := Lib.hid hd
    clear hJ
    go_wp2
    go_ret2
    exact ⟨by rw [hF.out, hd.out]; rfl, hB⟩
set_option maxHeartbeats 1000000 in
theorem specStyleNamed_any (x : ByteArray) (w : World) : Calls Tryz.prog 116 #[.string x] w fun e w' => e = .returned (.tuple #[.int .i64 (fz styL x), .bool (decide (0 ≤ ix styL x))]) ∧ Below w.heap.size w w' := by
  have HL := Lib.hid (fun g c W (h : Rd encS W (some ⟨g, 0, none⟩) styL) => l01Text_any (some ⟨g, 0, none⟩) c 7 styL x W rfl (by decide) h)
  rw [ix_fidx] at HL
  have hfz : Hid (fz styL x = if ix styL x < 0 then 0 else ix styL x) := rfl
  generalize fz styL x = F at hfz ⊢
  generalize ix styL x = J at HL hfz ⊢
  go_enter Tryz.func116, Tryz.ntmps116
  go_wp2_with fail
  refine (l06Names_any _).mono ?_
  rintro e w1 ⟨g, c, rfl, own, hB⟩
  go_wp2_with fail
  refine (HL.out _ _ _ (Rd.of_own encS_len (by decide) own)).mono ?_
  rintro e w2 ⟨rfl, rfl⟩
  by_cases hJ : J < 0
  · have hF := hfz.out
    rw [if_pos hJ] at hF
    have hd : decide (0 ≤ J) = false := by simp; omega
    replace hF := Lib.hid hF
    replace hd := Lib.hid hd
    go_wp2
    go_ret2
    exact ⟨by rw [hF.out, hd.out]; rfl, hB⟩
  · have hF := hfz.out
    rw [if_neg hJ] at hF
    have hd : decide (0 ≤ J) = true := by simp; omega
    have hJ' : decide (J < 0) = false := by simpa using hJ
    replace hF := Lib.hid hF
    replace hd := Lib.hid hd
    clear hJ
    go_wp2
    go_ret2
    exact ⟨by rw [hF.out, hd.out]; rfl, hB⟩
theorem rdOrd_neg {x : ByteArray} (h : ix ordL x < 0) : rdOrd x = 0 := if_pos h
theorem rdOrd_nn {x : ByteArray} (h : ¬ ix ordL x < 0) : rdOrd x = ix ordL x + 1 := if_neg h
set_option maxHeartbeats 1000000 in
theorem implReadOrdinal_any (x : ByteArray) (w : World) : Calls Tryz.prog 88 #[.string x] w fun e w' => e = .returned (.tuple #[.int .i64 (rdOrd x), .bool (decide (0 ≤ ix ordL x))]) ∧ Below w.heap.size w w' := by
  have HL := Lib.hid (fun g c W (hx : Rd encS W (some ⟨g, 0, none⟩) ordL) => (Tryz.slices_Index_string g 0 31 c ordL x W (by decide) (by decide) (fun j hj => by
    have hm := List.getElem?_eq_getElem hj
    obtain ⟨b, off, e, _, hc⟩ := hx j _ hm
    injection e with e
    injection e with e1 e2
    subst e1; subst e2
    have := hc 0 _ rfl
    rw [List.getD_eq_getElem?_getD, hm]
    simpa [encS] using this)))
  rw [show ordL.take 31 = ordL from rfl, idxOfS_ix] at HL
  have hor := ix_or ordL x
  have hlen : ordL.length = 31 := rfl
  have h1 := rdOrd_neg (x := x)
  have h2 := rdOrd_nn (x := x)
  generalize rdOrd x = F at h1 h2 ⊢
  have hJb : ix ordL x = -1 ∨ (0 ≤ ix ordL x ∧ ix ordL x ≤ 30) := by
    rcases hor with e | ⟨j, e, hj, _⟩
    · exact .inl e
    · exact .inr (by omega)
  clear hor hlen
  generalize ix ordL x = J at HL h1 h2 hJb ⊢
  replace h1 := Lib.hid h1
  replace h2 := Lib.hid h2
  go_enter Tryz.func88, Tryz.ntmps88
  go_wp2_with fail
  refine (ordinals_any _).mono ?_
  rintro e w1 ⟨g, c, rfl, own, hB⟩
  go_wp2_with fail
  refine (HL.out _ _ _ (Rd.of_own encS_len (by decide) own)).mono ?_
  rintro e w2 ⟨rfl, rfl⟩
  clear HL
  by_cases hJ : J < 0
  · have hF := Lib.hid (h1.out hJ)
    have hd : decide (0 ≤ J) = false := by simp; omega
    replace hd := Lib.hid hd
    clear hJb
    go_wp2
    go_ret2
    exact ⟨by rw [hF.out, hd.out]; rfl, hB⟩
  · have hF := Lib.hid (h2.out (by omega))
    have hd : decide (0 ≤ J) = true := by simp; omega
    have hJ' : decide (J < 0) = false := by simpa using hJ
    have v1 : IntKind.i64.wrap (J + 1) = J + 1 := by rw [IntKind.wrap_i64]; omega
    replace hd := Lib.hid hd
    clear hJ hJb
    go_wp2
    go_ret2
    exact ⟨by rw [hF.out, hd.out]; rfl, hB⟩
set_option maxHeartbeats 2000000 in
theorem specReadOrdinal_any (x : ByteArray) (w : World) : Calls Tryz.prog 114 #[.string x] w fun e w' => e = .returned (.tuple #[.int .i64 (rdOrd x), .bool (decide (0 ≤ ix ordL x))]) ∧ Below w.heap.size w w' := by
  go_enter Tryz.func114, Tryz.ntmps114
  go_wp2
  go_loopw [4] (fun i wr => ∃ k : Nat, k ≤ 31 ∧ i = .int .i64 ((k : Int) + 1) ∧ Hid (ix ordL x = fidx (fun y => decide (y = x)) (ordL.drop k) k) ∧ Below w.heap.size w wr) (fun i _ => 32 - (intOf i).toNat)
  case atStart => exact ⟨0, by decide, rfl, rfl, Below.refl _ _⟩
  case round =>
    obtain ⟨k, hk, rfl, hH, hB⟩ := hrel
    by_cases hlt : k < 31
    · have hk1 : ((k : Int) + 1) ≤ 31 := by omega
      have hm := List.getElem?_eq_getElem (show k < ordL.length from hlt)
      generalize ordL[k]'(show k < ordL.length from hlt) = y at hm
      have hn := Lib.hid (nameN_is (L := ordL) (lo := 1) (n := (k : Int) + 1) (hi := 31) rfl (by unfold inB; simp; omega) (by omega) hm)
      have hd := Lib.hid (fidx_drop (fun y => decide (y = x)) k k hm)
      have HN := Lib.hid (fun W => hn.out ▸ specOrdinalText_any ((k : Int) + 1) W)
      have v1 : IntKind.i64.wrap ((k : Int) + 1 + 1) = ((k + 1 : Nat) : Int) + 1 := by rw [IntKind.wrap_i64]; omega
      clear hm hn
      by_cases hyx : y = x
      · have hJ : ix ordL x = (k : Int) := by rw [hH.out, hd.out]; simp [hyx]
        have hF := Lib.hid (rdOrd_nn (x := x) (by omega))
        have hdd : decide (0 ≤ ix ordL x) = true := by simp; omega
        have heq : (y.toList == x.toList) = true := by rw [hyx]; simp
        replace hJ := Lib.hid hJ
        replace hdd := Lib.hid hdd
        clear hyx
        go_wp2_with fail
        refine (HN.out _).mono ?_
        rintro e w1 ⟨rfl, hB1⟩
        go_wp2
        go_ret2
        exact ⟨by rw [hF.out, hdd.out, hJ.out]; rfl, stepB hB hB1 hB.size⟩
      · have heq : (y.toList == x.toList) = false := by
          have := congrFun (isS_dec x) y
          unfold isS at this
          rw [this]; simpa using hyx
        have hH2 : Hid (ix ordL x = fidx (fun y => decide (y = x)) (ordL.drop (k + 1)) (k + 1)) := by
          unfold Hid
          rw [hH.out, hd.out]
          simp [hyx]
        clear hyx
        go_wp2_with fail
        refine (HN.out _).mono ?_
        rintro e w1 ⟨rfl, hB1⟩
        go_wp2
        go_roundw
        case rel => exact ⟨k + 1, by omega, rfl, hH2, stepB hB hB1 hB.size⟩
        case measure => simp [intOf]; omega
    · obtain rfl : k = 31 := by omega
      have hJ : ix ordL x = -1 := by rw [hH.out]; rfl
      have hF := Lib.hid (rdOrd_neg (x := x) (by omega))
      have hdd : decide (0 ≤ ix ordL x) = false := by simp; omega
      replace hJ := Lib.hid hJ
      replace hdd := Lib.hid hdd
      go_wp2
      go_ret2
      exact ⟨by rw [hF.out, hdd.out]; rfl, hB⟩
end

section
open Go.ChangeShapes Go.WideShapes Go.ChangeAt Go.RowKit Go.IntWalk

def jnC (xs : List ByteArray) : ByteArray := ⟨(Lib.join (xs.map (·.data.toList)) [32]).toArray⟩
theorem jnC_take0 {xs : List ByteArray} {x : ByteArray} (h : xs[0]? = some x) : jnC (xs.take 1) = x := by
  cases xs with
  | nil => cases h
  | cons y ys =>
    obtain rfl : y = x := by simpa using h
    unfold jnC
    simp [Lib.join_one]
theorem jnC_take {xs : List ByteArray} {k : Nat} {x : ByteArray} (h : xs[k]? = some x) (hk : 0 < k) : jnC (xs.take (k + 1)) = (jnC (xs.take k) ++ ⟨#[32]⟩) ++ x := by
  obtain ⟨hl, rfl⟩ := List.getElem?_eq_some_iff.1 h
  unfold jnC
  rw [List.take_succ_eq_append_getElem hl, List.map_append, List.map_cons, List.map_nil, join_snoc _ _ (fun e => by rw [List.map_eq_nil_iff] at e; have := congrArg List.length e; rw [List.length_take] at this; simp only [List.length_nil] at this; omega)]
  have e : xs[k] = ⟨xs[k].data.toList.toArray⟩ := by simp
  rw [e, show (#[32] : Array UInt8) = [32].toArray from rfl, ByteArray.mk_append_mk, ByteArray.mk_append_mk]
  simp
theorem jnC_size {xs : List ByteArray} {b : Nat} (h : ∀ x ∈ xs, x.size ≤ b) : (jnC xs).size ≤ xs.length * (b + 1) := by
  have e : (jnC xs).size = (Lib.join (xs.map (·.data.toList)) [32]).length := by
    show ((Lib.join (xs.map (·.data.toList)) [32]).toArray).size = _
    simp
  rw [e]
  cases xs with
  | nil => simp [Lib.join_nil]
  | cons y ys =>
    rw [List.map_cons, Lib.join_cons, List.length_append, joinTail_len]
    have h1 := h y (by simp)
    have h2 := sum_le (fun l => [32].length + l.length) (b + 1) (ys.map (·.data.toList)) (fun l hl => by
      obtain ⟨z, hz, rfl⟩ := List.mem_map.1 hl
      have := h z (by simp [hz])
      have e2 : z.size = z.data.toList.length := by rw [Array.length_toList]; rfl
      simp only [List.length_cons, List.length_nil]
      omega)
    rw [List.length_map] at h2
    have e3 : y.size = y.data.toList.length := by rw [Array.length_toList]; rfl
    simp only [List.length_cons, List.length_nil, Nat.add_mul] at h2 ⊢
    omega
set_option maxRecDepth 100000 in
set_option maxHeartbeats 1000000 in
theorem l01JoinC_any (a : Option Addr) (cap : Nat) (xs : List ByteArray) (w : World) (hl : xs.length ≤ 1000) (hx : Rd encS w a xs) (hs : ∀ x ∈ xs, x.size ≤ 2000000) :
    Calls Tryz.prog 49 #[.slice a xs.length cap, .string ⟨#[32]⟩] w fun e w' => e = .returned (.string (jnC xs)) ∧ Below w.heap.size w w' := by
  go_enter Tryz.func49, Tryz.ntmps49
  go_wp2
  go_loopw [5, 6] (fun o i wr => ∃ k : Nat, k ≤ xs.length ∧ i = .int .i64 k ∧ o = .string (jnC (xs.take k)) ∧ Below w.heap.size w wr) (fun _ i _ => xs.length - (intOf i).toNat)
  case atStart => exact ⟨0, Nat.zero_le _, rfl, rfl, Below.refl _ _⟩
  case round =>
    obtain ⟨k, hk, rfl, rfl, hB⟩ := hrel
    by_cases hlt : k < xs.length
    · have hm := List.getElem?_eq_getElem hlt
      generalize xs[k] = x at hm
      have hsx := hs x (List.mem_of_getElem? hm)
      have hsj := jnC_size (xs := xs.take k) (b := 2000000) (fun y hy => hs y (List.mem_of_mem_take hy))
      have hlk : (xs.take k).length ≤ 1000 := by rw [List.length_take]; omega
      have hsj2 : (jnC (xs.take k)).size ≤ 2100000000 := by
        have := Nat.mul_le_mul_right (2000000 + 1) hlk
        omega
      obtain ⟨b, off, rfl, hb, c0⟩ := (hx.below hB).s hm
      have hk1 : (k : Int) < (xs.length : Int) := by omega
      clear hsj hlk
      by_cases hk0 : 0 < k
      · have hk2 : (0 : Int) < (k : Int) := by omega
        have hst := Lib.hid (jnC_take hm hk0)
        have e1 : (9223372036854775807 < (jnC (xs.take k)).size + 1) = False := eq_false (by omega)
        have e2 : (9223372036854775807 < (jnC (xs.take k)).size + 1 + x.size) = False := eq_false (by omega)
        clear hm
        generalize jnC (xs.take k) = J at hst e1 e2 hsj2 ⊢
        go_wp2
        go_roundw
        case rel => exact ⟨k + 1, by omega, by go_num, by rw [hst.out], hB⟩
        case measure => simp [intOf]; omega
      · obtain rfl : k = 0 := by omega
        have hst := Lib.hid (jnC_take0 hm)
        have e0 : jnC (xs.take 0) = ⟨#[]⟩ := rfl
        rw [e0]
        simp only [Nat.add_zero] at c0
        clear hm e0 hsj2
        go_wp2
        go_roundw
        case rel => exact ⟨1, by omega, by go_num, by rw [hst.out]; exact congrArg Value.string (by show ByteArray.empty ++ x = x; simp), hB⟩
        case measure => simp [intOf]; omega
    · obtain rfl : k = xs.length := by omega
      go_wp2
      go_ret
      rw [List.take_length]
      exact ⟨rfl, hB⟩

/-- How far the loop has come: done are the words before place f, and none begins between f and k. -/
structure SpAt (c : UInt8) (s : ByteArray) (done : List ByteArray) (f k : Nat) : Prop where
  le : f ≤ k
  eq : spl c s.data.toList = done.map (·.data.toList) ++ spl c (s.data.toList.drop f)
  no : c ∉ (s.data.toList.drop f).take (k - f)
theorem SpAt.skip {c : UInt8} {s : ByteArray} {done : List ByteArray} {f k : Nat} (h : SpAt c s done f k) (hk : k < s.size) (hb : s[k] ≠ c) : SpAt c s done f (k + 1) := by
  refine ⟨by have := h.le; omega, h.eq, ?_⟩
  have hl := h.le
  have hk2 : k - f < (s.data.toList.drop f).length := by rw [List.length_drop, ← Lib.size_eq]; omega
  rw [show k + 1 - f = (k - f) + 1 by omega, List.take_succ_eq_append_getElem hk2]
  intro hm
  rcases List.mem_append.1 hm with hm | hm
  · exact h.no hm
  · have hm := List.mem_singleton.1 hm
    rw [List.getElem_drop] at hm
    have e : f + (k - f) = k := by omega
    simp only [e] at hm
    exact hb (by rw [hm]; simp; rfl)
theorem SpAt.cut {c : UInt8} {s : ByteArray} {done : List ByteArray} {f k : Nat} (h : SpAt c s done f k) (hk : k < s.size) (hb : s[k] = c) : SpAt c s (done ++ [s.extract f k]) (k + 1) (k + 1) := by
  refine ⟨Nat.le_refl _, ?_, by simp⟩
  have hl := h.le
  have hk2 : k < s.data.toList.length := by rw [← Lib.size_eq]; exact hk
  have e1 : s.data.toList.drop f = (s.data.toList.drop f).take (k - f) ++ c :: s.data.toList.drop (k + 1) := by
    have e2 := List.take_append_drop (k - f) (s.data.toList.drop f)
    rw [List.drop_drop, show f + (k - f) = k by omega, List.drop_eq_getElem_cons hk2] at e2
    rw [← hb]
    exact e2.symm
  rw [h.eq, e1, spl_cut c _ h.no]
  simp
theorem SpAt.fin {c : UInt8} {s : ByteArray} {done : List ByteArray} {f : Nat} (h : SpAt c s done f s.size) : wsB c s = done ++ [s.extract f s.size] := by
  apply map_data_inj
  have hl := h.le
  rw [wsB_data, h.eq]
  have e : (s.data.toList.drop f).take (s.size - f) = s.data.toList.drop f := List.take_of_length_le (by rw [List.length_drop, ← Lib.size_eq]; exact Nat.le_refl _)
  have hn := h.no
  rw [e] at hn
  rw [spl_none c hn, List.map_append]
  simp [e]
set_option maxRecDepth 100000 in
set_option maxHeartbeats 4000000 in
theorem l01Split_any (s : ByteArray) (c : UInt8) (w : World) (hs : s.size ≤ 1048576) :
    Calls Tryz.prog 38 #[.string s, .int .u8 (c.toNat : Int)] w fun e w' => ∃ g cp, e = .returned (.slice (some ⟨g, 0, none⟩) (wsB c s).length cp) ∧ w'.ownsRow w.heap.size 9 1 (.slice (some ⟨g, 0, none⟩) (wsB c s).length cp) (wsB c s).length ((wsB c s).flatMap encS) ∧ Below w.heap.size w w' := by
  obtain ⟨i0, hi, hz0, hz1, hz2⟩ := info_parts infoS
  have hBs : Below w.heap.size w (w.alloc (.cells #[] 9)) := (Below.refl _ w).alloc (Nat.le_refl _) _
  have howns := World.ownsRow_made w #[] 0 (Nat.le_refl _) (by decide) rfl (e := 9) (size := 1)
  go_enter Tryz.func38, Tryz.ntmps38
  go_wp2
  go_loopw [5, 6, 7] (fun o fr i wr => ∃ (k f og oc : Nat) (done : List ByteArray), k ≤ s.size + 1 ∧ i = .int .i64 k ∧ fr = .int .i64 f ∧ f ≤ k ∧ done.length ≤ k ∧ o = .slice (some ⟨og, 0, none⟩) done.length oc ∧ wr.ownsRow w.heap.size 9 1 (.slice (some ⟨og, 0, none⟩) done.length oc) done.length (done.flatMap encS) ∧ Hid (k ≤ s.size → SpAt c s done f k) ∧ Hid (k = s.size + 1 → wsB c s = done) ∧ Below w.heap.size w wr) (fun _ _ i _ => s.size + 1 - (intOf i).toNat)
  case atStart => exact ⟨0, 0, _, _, [], Nat.zero_le _, rfl, rfl, Nat.le_refl _, Nat.le_refl _, rfl, howns, fun _ => ⟨Nat.le_refl _, by simp, by simp⟩, (fun h => by omega), hBs⟩
  case round =>
    clear howns hBs
    obtain ⟨k, f, og, oc, done, hk, rfl, rfl, hf, hdl, rfl, ow, hA, hE, hB⟩ := hrel
    by_cases hle : k ≤ s.size
    · have hk1 : (k : Int) ≤ (s.size : Int) := by omega
      have hat := Lib.hid (hA.out hle)
      have hfk : (f : Int) ≤ (k : Int) := by omega
      have v1 : IntKind.i64.wrap ((k : Int) + 1) = ((k + 1 : Nat) : Int) := by rw [IntKind.wrap_i64]; omega
      by_cases hlt : k < s.size
      · have hk2 : (k : Int) < (s.size : Int) := by omega
        have hk3 : ((k : Int) == (s.size : Int)) = false := by simp; omega
        by_cases hc : s[k] = c
        · have hceq : ((s[k].toNat : Int) == (c.toNat : Int)) = true := by rw [hc]; simp
          have hnx := Lib.hid (hat.out.cut hlt hc)
          clear hc hat hA hE
          have hown := ow
          have hz : Below wr.heap.size wr (wr.alloc (.cells #[.string (s.extract f k)] 9)) := (Below.refl _ _).alloc (Nat.le_refl _) _
          replace ow := own_below ow hz
          replace hB := stepB hB hz hB.size
          clear hz
          go_wp2_with (at_builtin; refine wpList_append_lst _ rfl _ _ 56 rfl w.heap.size 9 i0 (.string ⟨#[]⟩) 1 16 Tryz.underlying56 hi hz0 hz1 hz2 rfl (by decide) _ _ done.length (done.flatMap encS) rfl ow ⟨wr.heap.size, 0, none⟩ 1 1 ([s.extract f k].flatMap encS) rfl rfl (World.news_of_block (heap_alloc_new _ _)) (one_str _) (by unfold maxLen; omega) (by omega) hB.size ?_)
          intro og2 oc2 W3 ow2 hgr hor
          replace hB := hB.grown hgr hB.size (fun g e => by cases e; exact (own_lt hown).1)
          go_wp2
          go_roundw
          case rel => exact ⟨k + 1, k + 1, og2, oc2, done ++ [s.extract f k], by omega, rfl, rfl, Nat.le_refl _, by simp; omega, by simp, by simpa using ow2, fun _ => hnx.out, (fun h => by omega), hB⟩
          case measure => simp only [intOf]; omega
        · have hceq : ((s[k].toNat : Int) == (c.toNat : Int)) = false := by
            simp only [beq_eq_false_iff_ne, ne_eq]
            intro e
            exact hc (UInt8.toNat_inj.1 (by omega))
          have hnx := Lib.hid (hat.out.skip hlt hc)
          clear hc hat hA hE
          go_wp2
          go_roundw
          case rel => exact ⟨k + 1, f, og, oc, done, by omega, rfl, rfl, by omega, by omega, rfl, ow, fun _ => hnx.out, (fun h => by omega), hB⟩
          case measure => simp only [intOf]; omega
      · have hks : k = s.size := by omega
        subst hks
        have hk3 : ((s.size : Int) == (s.size : Int)) = true := by simp
        have hnx := Lib.hid hat.out.fin
        clear hat hA hE
        have hown := ow
        have hz : Below wr.heap.size wr (wr.alloc (.cells #[.string (s.extract f s.size)] 9)) := (Below.refl _ _).alloc (Nat.le_refl _) _
        replace ow := own_below ow hz
        replace hB := stepB hB hz hB.size
        clear hz
        go_wp2_with (at_builtin; refine wpList_append_lst _ rfl _ _ 56 rfl w.heap.size 9 i0 (.string ⟨#[]⟩) 1 16 Tryz.underlying56 hi hz0 hz1 hz2 rfl (by decide) _ _ done.length (done.flatMap encS) rfl ow ⟨wr.heap.size, 0, none⟩ 1 1 ([s.extract f s.size].flatMap encS) rfl rfl (World.news_of_block (heap_alloc_new _ _)) (one_str _) (by unfold maxLen; omega) (by omega) hB.size ?_)
        intro og2 oc2 W3 ow2 hgr hor
        replace hB := hB.grown hgr hB.size (fun g e => by cases e; exact (own_lt hown).1)
        go_wp2
        go_roundw
        case rel => exact ⟨s.size + 1, s.size + 1, og2, oc2, done ++ [s.extract f s.size], by omega, rfl, rfl, Nat.le_refl _, by simp; omega, by simp, by simpa using ow2, (fun h => by omega), fun _ => hnx.out, hB⟩
        case measure => simp only [intOf]; omega
    · have hk1 : decide ((k : Int) ≤ (s.size : Int)) = false := by simp; omega
      have hws := hE.out (by omega)
      go_wp2
      go_ret
      exact ⟨og, oc, (by rw [hws]; rfl), by rw [hws]; exact ow, hB⟩
end
end Go.Proofs.YteajkofgcmfaoaaGreatDoor
