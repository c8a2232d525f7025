/- Walks: what FnDatingConflicts draws and compares. Printed by gen_cfd.py. -/
import Derived.Test.YteajkofgcmfaoaaGreatDoorRf
import Derived.Test.YteajkofgcmfaoaaGreatDoorJx
import Derived.Test.YteajkofgcmfaoaaGreatDoorDy
import Derived.Test.YteajkofgcmfaoaaGreatDoorDq
namespace Go.Proofs.YteajkofgcmfaoaaGreatDoor
section
theorem wsB_jnS {L : List ByteArray} (h : L ≠ []) (hf : ∀ x ∈ L, Fr x) : wsB 32 (jnS 32 L) = L := by
  apply map_data_inj
  rw [wsB_data]
  unfold jnS
  rw [show (⟨(Lib.join (L.map (·.data.toList)) [32]).toArray⟩ : ByteArray).data.toList = Lib.join (L.map (·.data.toList)) [32] by simp]
  exact spl_join 32 (by simpa using h) (fun x hx => by obtain ⟨y, hy, rfl⟩ := List.mem_map.1 hx; exact hf y hy)
theorem ix_name {L : List ByteArray} {lo n hi : Int} (hh : lo + L.length - 1 = hi) (hnd : L.Nodup) (h : inB n lo hi = true) : ix L (nameN L lo n) = n - lo := by
  obtain ⟨j, h1, h2, h3, h4⟩ := nameN_in hh h
  rcases ix_or L (nameN L lo n) with e | ⟨k, e, hk, hx⟩
  · have := ix_mem (List.mem_of_getElem? h4); omega
  · have hjk : j = k := (List.getElem?_inj h3 hnd).1 (h4.trans hx.symm)
    rw [e, ← hjk]; omega
theorem king_nil {k : ByteArray} (h : k.toList = []) : k = ⟨#[]⟩ := by
  rw [Lib.toList_data] at h
  exact ba_inj (by rw [h])
theorem rn_dec {n : Int} (h0 : 1 ≤ n) (h1 : n ≤ 3999) : rnB (decB n) = n := rnB_parsed h0 h1 rfl
theorem nd_ord : ordL.Nodup := by decide +kernel
theorem nd_mon : monL.Nodup := by decide +kernel
theorem nd_fe : feL.Nodup := by decide +kernel
theorem nd_wk : wkL.Nodup := by decide +kernel
theorem nd_sty : styL.Nodup := by decide +kernel
theorem nd_in : inL.Nodup := by decide +kernel
theorem ord_back {n : Int} (h : inB n 1 31 = true) : rdOrd (nameN ordL 1 n) = n := by
  unfold rdOrd
  rw [ix_name (by decide) nd_ord h]
  unfold inB at h
  simp only [Bool.and_eq_true, decide_eq_true_eq] at h
  rw [if_neg (by omega)]; omega
theorem fe_back {n : Int} (h : inB n 0 19 = true) : ix feL (nameN feL 0 n) = n := by rw [ix_name (by decide) nd_fe h]; omega
theorem wk_back {n : Int} (h : inB n 0 6 = true) : ix wkL (nameN wkL 0 n) = n := by rw [ix_name (by decide) nd_wk h]; omega
theorem sty_back {n : Int} (h : inB n 0 6 = true) : ix styL (nameN styL 0 n) = n := by rw [ix_name (by decide) nd_sty h]; omega
theorem in_back {n : Int} (h : inB n 0 2 = true) : ix inL (nameN inL 0 n) = n := by rw [ix_name (by decide) nd_in h]; omega
theorem mon_back {n : Int} (h : inB n 1 12 = true) : ix monL (nameN monL 1 n) + 1 = n := by rw [ix_name (by decide) nd_mon h]; omega
theorem inB_of {n lo hi : Int} (h0 : lo ≤ n) (h1 : n ≤ hi) : inB n lo hi = true := by unfold inB; simp; omega
theorem rd_back {m : Cl} (h : okCl m = true) : readI rnB (wdsO m) = m := by
  obtain ⟨k, n, mo, f, r, wd, st, kg⟩ := m
  unfold okCl at h
  unfold wdsO
  simp only at h ⊢
  by_cases h0 : k = 0
  · subst h0
    rw [if_pos rfl] at h ⊢
    unfold okCl0 dateB inB at h
    simp only [Bool.and_eq_true, decide_eq_true_eq] at h
    obtain ⟨⟨⟨⟨⟨rfl, rfl⟩, rfl⟩, rfl⟩, hk⟩, hd⟩ := h
    obtain rfl := king_nil hk
    have hle : lenM mo ≤ 31 := by unfold lenM; repeat' split; all_goals omega
    rw [readI_0, ord_back (inB_of (by omega) (by omega)), mon_back (inB_of (by omega) (by omega))]
  rw [if_neg h0] at h ⊢
  by_cases h1 : k = 1
  · subst h1
    rw [if_pos rfl] at h ⊢
    unfold okCl1 relB at h
    simp only [Bool.and_eq_true, decide_eq_true_eq] at h
    obtain ⟨⟨⟨⟨rfl, rfl⟩, rfl⟩, hk⟩, hf, hr⟩ := h
    obtain rfl := king_nil hk
    obtain ⟨⟨hr0, hw⟩, hrw⟩ := hr
    have hr1 := hr0
    unfold inB at hr1
    simp only [Bool.and_eq_true, decide_eq_true_eq] at hr1
    simp only [Bool.or_eq_true, decide_eq_true_eq, beq_iff_eq] at hrw
    rcases (show r = 0 ∨ r = 1 ∨ r = 2 ∨ r = 3 ∨ r = 4 by omega) with rfl | rfl | rfl | rfl | rfl
    · obtain rfl : wd = 0 := by omega
      rw [if_pos rfl, readI_1, fe_back hf]
    · obtain rfl : wd = 0 := by omega
      rw [if_neg (by decide), if_pos rfl, readI_2, fe_back hf]
    · obtain rfl : wd = 0 := by omega
      rw [if_neg (by decide), if_neg (by decide), if_pos rfl, readI_3, fe_back hf]
    · rw [if_neg (by decide), if_neg (by decide), if_neg (by decide), if_pos rfl, readI_4, fe_back hf, wk_back hw]
    · rw [if_neg (by decide), if_neg (by decide), if_neg (by decide), if_neg (by decide), readI_5, fe_back hf, wk_back hw]
  rw [if_neg h1] at h ⊢
  by_cases h2 : k = 2
  · subst h2
    rw [if_pos rfl] at h ⊢
    unfold okCl2 inB at h
    simp only [Bool.and_eq_true, decide_eq_true_eq] at h
    obtain ⟨⟨⟨⟨⟨rfl, rfl⟩, rfl⟩, rfl⟩, rfl⟩, hn, _⟩ := h
    rw [readI_6, rn_dec (by omega) (by omega)]
  rw [if_neg h2] at h ⊢
  by_cases h3 : k = 3
  · subst h3
    rw [if_pos rfl] at h ⊢
    unfold okCl3 at h
    simp only [Bool.and_eq_true, decide_eq_true_eq] at h
    obtain ⟨⟨⟨⟨⟨rfl, rfl⟩, rfl⟩, rfl⟩, hk⟩, hn, hs⟩ := h
    obtain rfl := king_nil hk
    unfold inB at hn
    simp only [Bool.and_eq_true, decide_eq_true_eq] at hn
    rw [readI_7, rn_dec (by omega) (by omega), sty_back hs]
  rw [if_neg h3] at h ⊢
  by_cases h4 : k = 4
  · subst h4
    rw [if_pos rfl] at h ⊢
    unfold okCl4 at h
    simp only [Bool.and_eq_true, decide_eq_true_eq] at h
    obtain ⟨⟨⟨⟨⟨rfl, rfl⟩, rfl⟩, rfl⟩, hk⟩, hn, hs⟩ := h
    obtain rfl := king_nil hk
    unfold inB at hn
    simp only [Bool.and_eq_true, decide_eq_true_eq] at hn
    rw [readI_8, rn_dec (by omega) (by omega), in_back hs]
  rw [if_neg h4] at h ⊢
  by_cases h5 : k = 5
  · subst h5
    rw [if_pos rfl] at h
    unfold okCl5 at h
    simp only [Bool.and_eq_true, decide_eq_true_eq] at h
    obtain ⟨⟨⟨⟨⟨⟨rfl, rfl⟩, rfl⟩, rfl⟩, rfl⟩, hk⟩, hw⟩ := h
    obtain rfl := king_nil hk
    rw [readI_9, wk_back hw]
  · rw [if_neg h5] at h; cases h
theorem txtB_small {m : Cl} (h : okCl m = true) : (txtB m).size ≤ 4000 := by
  have hb := okCl_bd h
  have s1 := s_ord m.number
  have s2 := s_mon m.month
  have s3 := s_fe m.feast
  have s4 := s_wk m.weekday
  have s5 := s_sty m.style
  have s6 := s_in m.style
  have z0 : (⟨#[111, 110, 32, 116, 104, 101, 32]⟩ : ByteArray).size = 7 := rfl
  have z1 : (⟨#[32, 111, 102, 32]⟩ : ByteArray).size = 4 := rfl
  have z2 : (⟨#[32, 98, 121, 32]⟩ : ByteArray).size = 4 := rfl
  have z3 : (⟨#[105, 110, 32, 116, 104, 101, 32, 121, 101, 97, 114, 32]⟩ : ByteArray).size = 12 := rfl
  have z4 : (⟨#[105, 110, 32, 116, 104, 101, 32, 105, 110, 100, 105, 99, 116, 105, 111, 110, 32]⟩ : ByteArray).size = 17 := rfl
  have z5 : (⟨#[111, 110, 32, 97, 32]⟩ : ByteArray).size = 5 := rfl
  have z6 : (⟨#[97, 116, 32]⟩ : ByteArray).size = 3 := rfl
  have z7 : (⟨#[97, 116, 32, 116, 104, 101, 32, 101, 118, 101, 32, 111, 102, 32]⟩ : ByteArray).size = 14 := rfl
  have z8 : (⟨#[97, 116, 32, 116, 104, 101, 32, 111, 99, 116, 97, 118, 101, 32, 111, 102, 32]⟩ : ByteArray).size = 17 := rfl
  have z9 : (⟨#[32, 97, 102, 116, 101, 114, 32]⟩ : ByteArray).size = 7 := rfl
  have z10 : (⟨#[32, 98, 101, 102, 111, 114, 101, 32]⟩ : ByteArray).size = 8 := rfl
  unfold txtB
  split
  · unfold txt0; simp only [ByteArray.size_append]; omega
  split
  · unfold txt1
    repeat' split
    all_goals (simp only [ByteArray.size_append]; omega)
  split
  · have h2 : m.kind = 2 := by assumption
    have hd := decB_sz (z := m.number) (by omega) (by omega)
    unfold txt2; simp only [ByteArray.size_append]; omega
  split
  · have h2 : m.kind = 3 := by assumption
    have hd := decB_sz (z := m.number) (by omega) (by omega)
    unfold txt3; simp only [ByteArray.size_append]; omega
  split
  · have h2 : m.kind = 4 := by assumption
    have hd := decB_sz (z := m.number) (by omega) (by omega)
    unfold txt4; simp only [ByteArray.size_append]; omega
  · unfold txt5; simp only [ByteArray.size_append]; omega
end

section
def Fq (x : ByteArray) : Prop := (44 : UInt8) ∉ x.data.toList
theorem fq_name {L : List ByteArray} {lo n : Int} (h : ∀ x ∈ L, Fq x) : Fq (nameN L lo n) := by
  unfold nameN
  split
  · rw [List.getD_eq_getElem?_getD]
    cases e : L[(n - lo).toNat]? with
    | none => show (44 : UInt8) ∉ ([] : List UInt8); simp
    | some x => exact h x (List.mem_of_getElem? e)
  · show (44 : UInt8) ∉ ([] : List UInt8); simp
theorem fq_ord : ∀ x ∈ ordL, Fq x := by unfold Fq; decide +kernel
theorem fq_mon : ∀ x ∈ monL, Fq x := by unfold Fq; decide +kernel
theorem fq_fe : ∀ x ∈ feL, Fq x := by unfold Fq; decide +kernel
theorem fq_wk : ∀ x ∈ wkL, Fq x := by unfold Fq; decide +kernel
theorem fq_sty : ∀ x ∈ styL, Fq x := by unfold Fq; decide +kernel
theorem fq_in : ∀ x ∈ inL, Fq x := by unfold Fq; decide +kernel
theorem digits_fq (u : Nat) : (44 : UInt8) ∉ Lib.decDigits u := by
  induction u using Nat.strongRecOn with
  | _ u ih =>
    by_cases h : u < 10
    · rw [Lib.decDigits_one h]
      intro hm
      have hm := List.mem_singleton.1 hm
      have h1 := congrArg UInt8.toNat hm
      simp at h1
      omega
    · rw [Lib.decDigits, dif_neg h]
      intro hm
      rcases List.mem_append.1 hm with hm | hm
      · exact ih (u / 10) (by omega) hm
      · have hm := List.mem_singleton.1 hm
        have h1 := congrArg UInt8.toNat hm
        simp at h1
        omega
theorem fq_dec {z : Int} (h : 0 ≤ z) : Fq (decB z) := by
  obtain ⟨n, rfl⟩ := Int.eq_ofNat_of_zero_le h
  unfold Fq decB
  rw [Lib.itoa_nonneg]
  simpa using digits_fq n
theorem fq_king {x : ByteArray} {k : Nat} (h : nameB x.data.toList k = true) : Fq x := by
  unfold nameB allLow at h
  simp only [Bool.and_eq_true, List.all_eq_true] at h
  intro hm
  have h1 := h.1.1 44 hm
  revert h1
  decide

theorem fq_lit : Fq wON ∧ Fq wTHE ∧ Fq wOF ∧ Fq wAT ∧ Fq wEVE ∧ Fq wOCT ∧ Fq wAFT ∧ Fq wBEF ∧ Fq wIN ∧ Fq wYEAR ∧ Fq wBY ∧ Fq wIND ∧ Fq wA := by unfold Fq; decide
theorem wds_fq {m : Cl} (h : okCl m = true) : ∀ x ∈ wdsO m, Fq x := by
  have hb := okCl_bd h
  have hm := okCl_more h
  obtain ⟨l1, l2, l3, l4, l5, l6, l7, l8, l9, l10, l11, l12, l13⟩ := fq_lit
  have n1 := fq_name (lo := 1) (n := m.number) fq_ord
  have n2 := fq_name (lo := 1) (n := m.month) fq_mon
  have n3 := fq_name (lo := 0) (n := m.feast) fq_fe
  have n4 := fq_name (lo := 0) (n := m.weekday) fq_wk
  have n5 := fq_name (lo := 0) (n := m.style) fq_sty
  have n6 := fq_name (lo := 0) (n := m.style) fq_in
  intro x hx
  unfold wdsO at hx
  split at hx
  · simp only [List.mem_cons, List.not_mem_nil, or_false] at hx
    rcases hx with rfl | rfl | rfl | rfl | rfl <;> assumption
  split at hx
  · repeat' split at hx
    all_goals (simp only [List.mem_cons, List.not_mem_nil, or_false] at hx; (first | (rcases hx with rfl | rfl | rfl | rfl | rfl) | (rcases hx with rfl | rfl)) <;> assumption)
  split at hx
  · have n7 := fq_dec (z := m.number) (by have := hb.2.2.2.1 (by assumption); omega)
    have n8 := fq_king (hm.2.2.1 (by assumption))
    simp only [List.mem_cons, List.not_mem_nil, or_false] at hx
    rcases hx with rfl | rfl | rfl | rfl | rfl | rfl <;> assumption
  split at hx
  · have n7 := fq_dec (z := m.number) (by have := hb.2.2.2.2.1 (by assumption); omega)
    simp only [List.mem_cons, List.not_mem_nil, or_false] at hx
    rcases hx with rfl | rfl | rfl | rfl | rfl | rfl <;> assumption
  split at hx
  · have n7 := fq_dec (z := m.number) (by have := hb.2.2.2.2.2 (by assumption); omega)
    simp only [List.mem_cons, List.not_mem_nil, or_false] at hx
    rcases hx with rfl | rfl | rfl | rfl | rfl | rfl <;> assumption
  · simp only [List.mem_cons, List.not_mem_nil, or_false] at hx
    rcases hx with rfl | rfl | rfl <;> assumption
theorem mem_tail (sep : List UInt8) (c : UInt8) : ∀ r : List (List UInt8), c ∈ Lib.joinTail sep r → (∃ l ∈ r, c ∈ l) ∨ c ∈ sep := by
  intro r h
  unfold Lib.joinTail at h
  obtain ⟨l, hl, hc⟩ := List.mem_flatten.1 h
  obtain ⟨l2, h2, rfl⟩ := List.mem_map.1 hl
  rcases List.mem_append.1 hc with hc | hc
  · exact .inr hc
  · exact .inl ⟨l2, h2, hc⟩
theorem mem_join {L : List (List UInt8)} {sep : List UInt8} {c : UInt8} (h : c ∈ Lib.join L sep) : (∃ l ∈ L, c ∈ l) ∨ c ∈ sep := by
  cases L with
  | nil => rw [Lib.join_nil] at h; cases h
  | cons x r =>
    rw [Lib.join_cons] at h
    rcases List.mem_append.1 h with h | h
    · exact .inl ⟨x, by simp, h⟩
    · rcases mem_tail _ _ _ h with ⟨l, hl, hc⟩ | h
      · exact .inl ⟨l, by simp [hl], hc⟩
      · exact .inr h
theorem txt_fq {m : Cl} (h : okCl m = true) : Fq (txtB m) := by
  rw [txt_wds]
  intro hm
  have e : (jnS 32 (wdsO m)).data.toList = Lib.join ((wdsO m).map (·.data.toList)) [32] := by unfold jnS; simp
  rw [e] at hm
  rcases mem_join hm with ⟨l, hl, hc⟩ | hc
  · obtain ⟨x, hx, rfl⟩ := List.mem_map.1 hl
    exact wds_fq h x hx hc
  · revert hc; decide
theorem ws44_jn {L : List ByteArray} (h : L ≠ []) (hf : ∀ x ∈ L, Fq x) : wsB 44 (jnB L) = L := by
  apply map_data_inj
  rw [wsB_data]
  unfold jnB
  rw [show (⟨(Lib.join (L.map (·.data.toList)) [44]).toArray⟩ : ByteArray).data.toList = Lib.join (L.map (·.data.toList)) [44] by simp]
  exact spl_join 44 (by simpa using h) (fun x hx => by obtain ⟨y, hy, rfl⟩ := List.mem_map.1 hx; exact hf y hy)
theorem rdC_txt {m : Cl} (h : okCl m = true) : rdC (txtB m) = m := by
  unfold rdC
  rw [txt_wds, wsB_jnS (wds_ne m) (wds_fr h), rd_back h]
theorem map_back : ∀ {xs : List Cl}, (∀ m ∈ xs, okCl m = true) → (xs.map txtB).map rdC = xs
  | [], _ => rfl
  | m :: xs, h => by
    rw [List.map_cons, List.map_cons, rdC_txt (h m (by simp)), map_back (fun x hx => h x (by simp [hx]))]
theorem okCl_empty : okCl (rdC ⟨#[]⟩) = false := by
  unfold rdC
  rw [show wsB 32 ⟨#[]⟩ = [⟨#[]⟩] by decide +kernel]
  exact okCl_N
/-- A dating's text is read as the dating. -/
theorem dating_back {xs : List Cl} (h : isDatingB xs = true) : rdD (jnB (xs.map txtB)) = (xs, 0) := by
  have ha := (dating_all h).2
  cases hx : xs with
  | nil => unfold rdD; rw [if_pos]; rfl
  | cons m r =>
    rw [← hx]
    have hL : wsB 44 (jnB (xs.map txtB)) = xs.map txtB := ws44_jn (by rw [hx]; simp) (fun y hy => by
      obtain ⟨c, hc, rfl⟩ := List.mem_map.1 hy
      exact txt_fq (ha c hc))
    have hR : rdL (jnB (xs.map txtB)) = xs := by
      unfold rdL
      rw [hL, map_back ha]
    have hne : ¬ jnB (xs.map txtB) = ⟨#[]⟩ := fun e => by
      have h1 := hR
      rw [e] at h1
      unfold rdL at h1
      rw [show wsB 44 ⟨#[]⟩ = [⟨#[]⟩] by decide +kernel] at h1
      have h2 := ha (rdC ⟨#[]⟩) (by rw [← h1]; simp)
      rw [okCl_empty] at h2
      cases h2
    unfold rdD
    rw [if_neg hne, hR, if_pos h]
end

section
open Go.ChangeShapes Go.WideShapes Go.ChangeAt Go.RowKit Go.IntWalk

set_option maxRecDepth 100000 in
set_option maxHeartbeats 4000000 in
theorem likeClauses_self (a b : Option Addr) (ca cb : Nat) (xs : List Cl) (w : World) (hl : xs.length ≤ 2097152) (hx : Rd encCl w a xs) (hy : Rd encCl w b xs) :
    Calls Tryz.prog 34 #[.slice a xs.length ca, .slice b xs.length cb] w fun e w' => e = .returned (.bool true) ∧ Below w.heap.size w w' := by
  have hne : (((xs.length : Nat) : Int) != (xs.length : Nat)) = false := by simp
  go_enter Tryz.func34, Tryz.ntmps34
  go_wp2
  go_loopw [5] (fun i wr => ∃ (k : Nat), k ≤ xs.length ∧ i = .int .i64 k ∧ Below w.heap.size w wr) (fun i _ => xs.length - (intOf i).toNat)
  case atStart => exact ⟨0, Nat.zero_le _, rfl, Below.refl _ _⟩
  case round =>
    obtain ⟨k, hk, rfl, hB⟩ := hrel
    by_cases hlt : k < xs.length
    · have hm := List.getElem?_eq_getElem hlt
      generalize xs[k] = m at hm
      obtain ⟨b, off, rfl, hb, c0, c1, c2, c3, c4, c5, c6, c7⟩ := (hx.below hB).cl hm
      obtain ⟨b', off', rfl, hb', d0, d1, d2, d3, d4, d5, d6, d7⟩ := (hy.below hB).cl hm
      have C0 := Later.cell c0 hb
      have D0 := Later.cell d0 hb'
      have C1 := Later.cell c1 hb
      have D1 := Later.cell d1 hb'
      have C2 := Later.cell c2 hb
      have D2 := Later.cell d2 hb'
      have C3 := Later.cell c3 hb
      have D3 := Later.cell d3 hb'
      have C4 := Later.cell c4 hb
      have D4 := Later.cell d4 hb'
      have C5 := Later.cell c5 hb
      have D5 := Later.cell d5 hb'
      have C6 := Later.cell c6 hb
      have D6 := Later.cell d6 hb'
      have C7 := Later.cell c7 hb
      have D7 := Later.cell d7 hb'
      have hk1 : (k : Int) < (xs.length : Int) := by omega
      clear hm c0 c1 c2 c3 c4 c5 c6 c7 d0 d1 d2 d3 d4 d5 d6 d7
      go_wp2_with fail
      refine wp_region_later wr (by kernel_rfl) (by kernel_rfl) ?_
      repeat (go_big_quiet_step (fail))
      refine wpQuiet_nil ?_
      intro z
      have hz := z.prop
      generalize z.val = w2 at hz
      clear C0 C1 C2 C3 C4 C5 C6 C7 D0 D1 D2 D3 D4 D5 D6 D7
      try simp only [beq_self_eq_true, bne_self_eq_false, Bool.not_true]
      go_wp2
      go_roundw
      case rel => exact ⟨k + 1, by omega, by go_num, stepB hB hz hB.size⟩
      case measure => simp [intOf]; omega
    · go_wp2
      go_ret
      exact ⟨rfl, hB⟩
theorem dtx_small {xs : List Cl} : (dtxR xs).1.size ≤ 40000 := by
  unfold dtxR
  split
  · rename_i h
    have ha := dating_all h
    have h1 := jnB_size (xs := xs.map txtB) (b := 4000) (fun y hy => by
      obtain ⟨m, hm, rfl⟩ := List.mem_map.1 hy
      exact txtB_small (ha.2 m hm))
    rw [List.length_map] at h1
    have h2 := Nat.mul_le_mul_right (4000 + 1) ha.1
    show (jnB (xs.map txtB)).size ≤ 40000
    omega
  · exact Nat.zero_le _
set_option maxRecDepth 100000 in
set_option maxHeartbeats 2000000 in
theorem drawReadDating_any (cs : Option Addr) (cap : Nat) (bs : List Int) (w : World) (hx : Rd encB w cs bs) (hb : ∀ m ∈ bs, goodB m) (hl : bs.length ≤ 4096) :
    Calls Tryz.prog 32 #[.slice cs bs.length cap] w fun e w' => (∃ t : ByteArray, e = .returned (.string t) ∧ t.size ≤ 1048576) ∧ Below w.heap.size w w' := by
  go_enter Tryz.func32, Tryz.ntmps32
  go_wp2_with fail
  refine (l01From_any cs cap bs w hx hb).mono ?_
  rintro e w1 ⟨p, rfl, hs⟩
  have D := Drw.start hs
  clear hs
  have HN := Lib.hid (fun n W hn1 hn2 hs => l01Next_any w cs cap bs p n W hx hb hl hn1 hn2 hs)
  have HDM := Lib.hid (fun t W ht hs => l01Damage_any w cs cap bs p t W hx hb hl ht hs)
  go_wp2_with fail
  refine (l12Draw_any w cs cap bs p _ hx hb hl D.src).mono ?_
  rintro e w2 ⟨g, c, g2, c2, rs, f, t, cls, rfl, hrl, hok, hf, ht, hcl, hck, orow, crow, hs2, hG⟩
  replace D := D.call hs2 hG
  clear hs2 hG orow hok hrl
  have HX := Lib.hid (fun W (h : Rd encCl W (some ⟨g2, 0, none⟩) cls) => specDatingText_any (some ⟨g2, 0, none⟩) c2 cls W (by omega) h (fun m hm => by have := hck m hm; unfold szCl; omega))
  have hsm := dtx_small (xs := cls)
  generalize dtxR cls = RR at HX hsm
  obtain ⟨T, cd⟩ := RR
  simp only at HX hsm
  have hz : Below w2.heap.size w2 (w2.alloc (.cells #[.slice (some ⟨g, 0, none⟩) rs.length c, .int .i64 f, .int .i64 t] 43)) := belowA _ _
  replace D := D.below hz
  replace crow := own_below crow hz
  clear hz
  go_wp2_with fail
  refine (HX.out _ (Rd.of_own encCl_len (by decide) crow)).mono ?_
  rintro e w4 ⟨rfl, hB4⟩
  replace D := D.below hB4
  clear hB4 HX crow
  go_wp2_with fail
  refine (HN.out 3 _ (by omega) (by omega) D.src).mono ?_
  rintro e w8 ⟨rr, rfl, hu0, hu1, hs2, hG⟩
  replace D := D.call hs2 hG
  clear hs2 hG
  by_cases hr : rr = 0
  · subst hr
    go_wp2_with fail
    refine (HDM.out T _ (by omega) D.src).mono ?_
    rintro e w9 ⟨u, rfl, hu, hs2, hG⟩
    replace D := D.call hs2 hG
    clear hs2 hG
    go_wp2
    go_ret
    exact ⟨⟨u, rfl, by omega⟩, D.base⟩
  · have hr1 : (rr == 0) = false := by simpa using hr
    go_wp2
    go_ret
    exact ⟨⟨T, rfl, by omega⟩, D.base⟩
set_option maxRecDepth 100000 in
set_option maxHeartbeats 2000000 in
theorem drawDating_any (cs : Option Addr) (cap : Nat) (bs : List Int) (w : World) (hx : Rd encB w cs bs) (hb : ∀ m ∈ bs, goodB m) (hl : bs.length ≤ 4096) :
    Calls Tryz.prog 29 #[.slice cs bs.length cap] w fun e w' => (∃ (g c : Nat) (cls : List Cl), e = .returned (.slice (some ⟨g, 0, none⟩) cls.length c) ∧ cls.length ≤ 9 ∧ (∀ m ∈ cls, m.king.size ≤ 13) ∧ w'.ownsRow w.heap.size 31 8 (.slice (some ⟨g, 0, none⟩) cls.length c) cls.length (cls.flatMap encCl)) ∧ Below w.heap.size w w' := by
  have HD : Calls Tryz.prog 75 #[.slice cs bs.length cap] w fun e w' => (∃ (g c : Nat) (cls : List Cl), e = .returned (.slice (some ⟨g, 0, none⟩) cls.length c) ∧ cls.length ≤ 9 ∧ (∀ m ∈ cls, m.king.size ≤ 13) ∧ w'.ownsRow w.heap.size 31 8 (.slice (some ⟨g, 0, none⟩) cls.length c) cls.length (cls.flatMap encCl)) ∧ Below w.heap.size w w' := by
    go_enter Tryz.func75, Tryz.ntmps75
    go_wp2_with fail
    refine (l01From_any cs cap bs w hx hb).mono ?_
    rintro e w1 ⟨p, rfl, hs⟩
    have D := Drw.start hs
    have hsz := hs.base.size
    clear hs
    go_wp2_with fail
    refine (l12Draw_any w cs cap bs p _ hx hb hl D.src).mono ?_
    rintro e w2 ⟨g, c, g2, c2, rs, f, t, cls, rfl, hrl, hok, hf, ht, hcl, hck, orow, crow, hs2, hG⟩
    replace D := D.call hs2 hG
    replace crow := own_base crow hsz
    clear hs2 hG orow hok hrl
    have hz : Below w2.heap.size w2 (w2.alloc (.cells #[.slice (some ⟨g, 0, none⟩) rs.length c, .int .i64 f, .int .i64 t] 43)) := belowA _ _
    replace D := D.below hz
    replace crow := own_below crow hz
    clear hz
    go_wp2
    go_ret
    exact ⟨⟨g2, c2, cls, rfl, hcl, hck, crow⟩, D.base⟩
  replace HD := Lib.hid HD
  go_enter Tryz.func29, Tryz.ntmps29
  go_wp2_with fail
  refine HD.out.mono ?_
  rintro e w1 ⟨⟨g, c, cls, rfl, h1, h2, h3⟩, hB⟩
  go_wp2
  go_ret
  exact ⟨⟨g, c, cls, rfl, h1, h2, h3⟩, hB⟩
end
end Go.Proofs.YteajkofgcmfaoaaGreatDoor
