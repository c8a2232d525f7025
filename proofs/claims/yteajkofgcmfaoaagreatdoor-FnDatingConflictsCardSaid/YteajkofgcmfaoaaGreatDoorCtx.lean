/- Walks: the text of a clause, both sides. Printed by gen_ctx.py. -/
import Derived.Test.YteajkofgcmfaoaaGreatDoorNm
import Derived.Test.YteajkofgcmfaoaaGreatDoorDk
import Derived.Test.YteajkofgcmfaoaaGreatDoorCl
namespace Go.Proofs.YteajkofgcmfaoaaGreatDoor
open Go.ChangeShapes Go.WideShapes Go.ChangeAt Go.RowKit Go.IntWalk

def txt0 (m : Cl) : ByteArray := (((⟨#[111, 110, 32, 116, 104, 101, 32]⟩ : ByteArray) ++ nameN ordL 1 m.number) ++ (⟨#[32, 111, 102, 32]⟩ : ByteArray)) ++ nameN monL 1 m.month
def txt1 (m : Cl) : ByteArray := if m.relation = 0 then (⟨#[97, 116, 32]⟩ : ByteArray) ++ nameN feL 0 m.feast else if m.relation = 1 then (⟨#[97, 116, 32, 116, 104, 101, 32, 101, 118, 101, 32, 111, 102, 32]⟩ : ByteArray) ++ nameN feL 0 m.feast else if m.relation = 2 then (⟨#[97, 116, 32, 116, 104, 101, 32, 111, 99, 116, 97, 118, 101, 32, 111, 102, 32]⟩ : ByteArray) ++ nameN feL 0 m.feast else if m.relation = 3 then (((⟨#[111, 110, 32, 116, 104, 101, 32]⟩ : ByteArray) ++ nameN wkL 0 m.weekday) ++ (⟨#[32, 97, 102, 116, 101, 114, 32]⟩ : ByteArray)) ++ nameN feL 0 m.feast else (((⟨#[111, 110, 32, 116, 104, 101, 32]⟩ : ByteArray) ++ nameN wkL 0 m.weekday) ++ (⟨#[32, 98, 101, 102, 111, 114, 101, 32]⟩ : ByteArray)) ++ nameN feL 0 m.feast
def txt2 (m : Cl) : ByteArray := (((⟨#[105, 110, 32, 116, 104, 101, 32, 121, 101, 97, 114, 32]⟩ : ByteArray) ++ decB m.number) ++ (⟨#[32, 111, 102, 32]⟩ : ByteArray)) ++ m.king
def txt3 (m : Cl) : ByteArray := (((⟨#[105, 110, 32, 116, 104, 101, 32, 121, 101, 97, 114, 32]⟩ : ByteArray) ++ decB m.number) ++ (⟨#[32, 98, 121, 32]⟩ : ByteArray)) ++ nameN styL 0 m.style
def txt4 (m : Cl) : ByteArray := (((⟨#[105, 110, 32, 116, 104, 101, 32, 105, 110, 100, 105, 99, 116, 105, 111, 110, 32]⟩ : ByteArray) ++ decB m.number) ++ (⟨#[32, 98, 121, 32]⟩ : ByteArray)) ++ nameN inL 0 m.style
def txt5 (m : Cl) : ByteArray := (⟨#[111, 110, 32, 97, 32]⟩ : ByteArray) ++ nameN wkL 0 m.weekday
def txtB (m : Cl) : ByteArray := if m.kind = 0 then txt0 m else if m.kind = 1 then txt1 m else if m.kind = 2 then txt2 m else if m.kind = 3 then txt3 m else if m.kind = 4 then txt4 m else txt5 m
theorem okCl_bd {m : Cl} (h : okCl m = true) : 0 ≤ m.kind ∧ m.kind ≤ 5 ∧ (m.kind = 1 → 0 ≤ m.relation ∧ m.relation ≤ 4) ∧ (m.kind = 2 → 1 ≤ m.number ∧ m.number ≤ 99 ∧ m.king.size ≤ 12) ∧ (m.kind = 3 → 2 ≤ m.number ∧ m.number ≤ 1999) ∧ (m.kind = 4 → 1 ≤ m.number ∧ m.number ≤ 15 ∧ 0 ≤ m.style ∧ m.style ≤ 2) := by
  unfold okCl at h
  by_cases h0 : m.kind = 0
  · omega
  rw [if_neg h0] at h
  by_cases h1 : m.kind = 1
  · rw [if_pos h1] at h
    unfold okCl1 relB inB at h
    simp only [Bool.and_eq_true, decide_eq_true_eq] at h
    refine ⟨by omega, by omega, fun _ => ?_, by omega, by omega, by omega⟩
    have := h.2.2.1.1
    omega
  rw [if_neg h1] at h
  by_cases h2 : m.kind = 2
  · rw [if_pos h2] at h
    unfold okCl2 nameB inB at h
    simp only [Bool.and_eq_true, decide_eq_true_eq] at h
    have e : m.king.size = m.king.data.toList.length := by rw [Array.length_toList]; rfl
    exact ⟨by omega, by omega, by omega, fun _ => by omega, by omega, by omega⟩
  rw [if_neg h2] at h
  by_cases h3 : m.kind = 3
  · rw [if_pos h3] at h
    unfold okCl3 inB at h
    simp only [Bool.and_eq_true, decide_eq_true_eq] at h
    exact ⟨by omega, by omega, by omega, by omega, fun _ => by omega, by omega⟩
  rw [if_neg h3] at h
  by_cases h4 : m.kind = 4
  · rw [if_pos h4] at h
    unfold okCl4 inB at h
    simp only [Bool.and_eq_true, decide_eq_true_eq] at h
    exact ⟨by omega, by omega, by omega, by omega, by omega, fun _ => by omega⟩
  rw [if_neg h4] at h
  by_cases h5 : m.kind = 5
  · exact ⟨by omega, by omega, by omega, by omega, by omega, by omega⟩
  · rw [if_neg h5] at h; cases h
theorem decB_sz {z : Int} (h0 : 0 ≤ z) (h1 : z ≤ 2000) : (decB z).size ≤ 3000 := by
  obtain ⟨n, rfl⟩ := Int.eq_ofNat_of_zero_le h0
  have := decB_size n
  omega
theorem tabHere {w W : World} (h : Lib.TabBelow Tryz.prog w.heap.size w "internal/strconv.uint64pow10" .u64 Lib.pow10Tab) (hB : Below w.heap.size w W) : Lib.TabIs Tryz.prog W "internal/strconv.uint64pow10" .u64 Lib.pow10Tab := (h.on hB).here
theorem l01DecJ (z : Int) (h0 : 0 ≤ z) (h1 : z ≤ 2000) (w : World) :
    Calls Tryz.prog 52 #[.int .i64 z] w fun e w' => e = .returned (.string (decB z)) ∧ Below w.heap.size w w' := by
  obtain ⟨n, rfl⟩ := Int.eq_ofNat_of_zero_le h0
  exact l01Dec_any n (by omega) w
theorem s_ord (n : Int) : (nameN ordL 1 n).size ≤ 40 := nameN_size ord_size
theorem s_mon (n : Int) : (nameN monL 1 n).size ≤ 40 := nameN_size mon_size
theorem s_fe (n : Int) : (nameN feL 0 n).size ≤ 40 := nameN_size fe_size
theorem s_wk (n : Int) : (nameN wkL 0 n).size ≤ 40 := nameN_size wk_size
theorem s_sty (n : Int) : (nameN styL 0 n).size ≤ 40 := nameN_size sty_size
theorem s_in (n : Int) : (nameN inL 0 n).size ≤ 40 := nameN_size in_size

set_option maxRecDepth 100000 in
set_option maxHeartbeats 2000000 in
theorem implTxt0_any (m : Cl) (w : World) (hok : okCl m = true) (h0 : m.kind = 0) :
    Calls Tryz.prog 44 #[.agg #[.int .i64 m.kind, .int .i64 m.number, .int .i64 m.month, .int .i64 m.feast, .int .i64 m.relation, .int .i64 m.weekday, .int .i64 m.style, .string m.king]] w fun e w' => e = .returned (.string (txt0 m)) ∧ Below w.heap.size w w' := by
  have hbd := okCl_bd hok
  clear hok
  rw [h0]
  have s1 := s_ord m.number
  have s2 := s_mon m.month
  have e0 : (9223372036854775807 < 7 + (nameN ordL 1 m.number).size) = False := eq_false (by omega)
  have e1 : (9223372036854775807 < 7 + (nameN ordL 1 m.number).size + 4) = False := eq_false (by omega)
  have e2 : (9223372036854775807 < 7 + (nameN ordL 1 m.number).size + 4 + (nameN monL 1 m.month).size) = False := eq_false (by omega)
  clear hbd h0
  have hA : At w [.int .i64 0, .int .i64 m.number, .int .i64 m.month, .int .i64 m.feast, .int .i64 m.relation, .int .i64 m.weekday, .int .i64 m.style, .string m.king] (w.alloc (.cells #[.int .i64 0, .int .i64 m.number, .int .i64 m.month, .int .i64 m.feast, .int .i64 m.relation, .int .i64 m.weekday, .int .i64 m.style, .string m.king] 31)) := At.start _ _ _
  go_enter Tryz.func44, Tryz.ntmps44
  go_upto_region 3 with (fail)
  generalize w.alloc (.cells #[.int .i64 0, .int .i64 m.number, .int .i64 m.month, .int .i64 m.feast, .int .i64 m.relation, .int .i64 m.weekday, .int .i64 m.style, .string m.king] 31) = W at hA ⊢
  have D1 := Later.cell (hA.cell 1 _ rfl) hA.size
  have D2 := Later.cell (hA.cell 2 _ rfl) hA.size
  refine wp_region_later W (by kernel_rfl) (by kernel_rfl) ?_
  repeat (go_big_quiet_step ((first | (go_at_call 95; exact Later.call (Nat.le_refl _) (implOrdinalText_any _ _)) | (go_at_call 21; exact Later.call (Nat.le_refl _) (implMonthName_any _ _)))))
  refine wpQuiet_nil ?_
  intro z
  have hz := z.prop
  generalize z.val = w3 at hz
  clear D1 D2
  go_wp2
  go_ret
  exact ⟨rfl, stepB hA.below hz hA.below.size⟩
set_option maxRecDepth 100000 in
set_option maxHeartbeats 2000000 in
theorem implTxt2_any (m : Cl) (w : World) (hok : okCl m = true) (h0 : m.kind = 2) (ht : Lib.TabIs Tryz.prog w "internal/strconv.uint64pow10" .u64 Lib.pow10Tab) :
    Calls Tryz.prog 44 #[.agg #[.int .i64 m.kind, .int .i64 m.number, .int .i64 m.month, .int .i64 m.feast, .int .i64 m.relation, .int .i64 m.weekday, .int .i64 m.style, .string m.king]] w fun e w' => e = .returned (.string (txt2 m)) ∧ Below w.heap.size w w' := by
  have hbd := okCl_bd hok
  clear hok
  have HT := Lib.hid (Lib.tabBelow_of_tabIs ht)
  clear ht
  obtain ⟨-, -, -, hb, -, -⟩ := hbd
  obtain ⟨hb1, hb2, hb3⟩ := hb h0
  rw [h0]
  have hsd := decB_sz (z := m.number) (by omega) (by omega)
  have hn0 : 0 ≤ m.number := by omega
  have hn1 : m.number ≤ 1000000000000 := by omega
  have e0 : (9223372036854775807 < 12 + (decB m.number).size) = False := eq_false (by omega)
  have e1 : (9223372036854775807 < 12 + (decB m.number).size + 4) = False := eq_false (by omega)
  have e2 : (9223372036854775807 < 12 + (decB m.number).size + 4 + m.king.size) = False := eq_false (by omega)
  clear hb1 hb2 hb3 hb h0 hsd
  have hA : At w [.int .i64 2, .int .i64 m.number, .int .i64 m.month, .int .i64 m.feast, .int .i64 m.relation, .int .i64 m.weekday, .int .i64 m.style, .string m.king] (w.alloc (.cells #[.int .i64 2, .int .i64 m.number, .int .i64 m.month, .int .i64 m.feast, .int .i64 m.relation, .int .i64 m.weekday, .int .i64 m.style, .string m.king] 31)) := At.start _ _ _
  go_enter Tryz.func44, Tryz.ntmps44
  go_upto_region 17 with (fail)
  generalize w.alloc (.cells #[.int .i64 2, .int .i64 m.number, .int .i64 m.month, .int .i64 m.feast, .int .i64 m.relation, .int .i64 m.weekday, .int .i64 m.style, .string m.king] 31) = W at hA ⊢
  have D1 := Later.cell (hA.cell 1 _ rfl) hA.size
  have D7 := Later.cell (hA.cell 7 _ rfl) hA.size
  refine wp_region_later W (by kernel_rfl) (by kernel_rfl) ?_
  repeat (go_big_quiet_step ((first | (go_at_call 97; exact Later.call (Nat.le_refl _) (decimal_any _ hn0 hn1 _ (tabHere HT.out (stepB hA.below (Later.prop _) hA.below.size)))))))
  refine wpQuiet_nil ?_
  intro z
  have hz := z.prop
  generalize z.val = w3 at hz
  clear D1 D7
  go_wp2
  go_ret
  exact ⟨rfl, stepB hA.below hz hA.below.size⟩
set_option maxRecDepth 100000 in
set_option maxHeartbeats 2000000 in
theorem implTxt3_any (m : Cl) (w : World) (hok : okCl m = true) (h0 : m.kind = 3) (ht : Lib.TabIs Tryz.prog w "internal/strconv.uint64pow10" .u64 Lib.pow10Tab) :
    Calls Tryz.prog 44 #[.agg #[.int .i64 m.kind, .int .i64 m.number, .int .i64 m.month, .int .i64 m.feast, .int .i64 m.relation, .int .i64 m.weekday, .int .i64 m.style, .string m.king]] w fun e w' => e = .returned (.string (txt3 m)) ∧ Below w.heap.size w w' := by
  have hbd := okCl_bd hok
  clear hok
  have HT := Lib.hid (Lib.tabBelow_of_tabIs ht)
  clear ht
  obtain ⟨-, -, -, -, hb, -⟩ := hbd
  obtain ⟨hb1, hb2⟩ := hb h0
  rw [h0]
  have s1 := s_sty m.style
  have hsd := decB_sz (z := m.number) (by omega) (by omega)
  have hn0 : 0 ≤ m.number := by omega
  have hn1 : m.number ≤ 1000000000000 := by omega
  have e0 : (9223372036854775807 < 12 + (decB m.number).size) = False := eq_false (by omega)
  have e1 : (9223372036854775807 < 12 + (decB m.number).size + 4) = False := eq_false (by omega)
  have e2 : (9223372036854775807 < 12 + (decB m.number).size + 4 + (nameN styL 0 m.style).size) = False := eq_false (by omega)
  clear hb1 hb2 hb h0 hsd s1
  have hA : At w [.int .i64 3, .int .i64 m.number, .int .i64 m.month, .int .i64 m.feast, .int .i64 m.relation, .int .i64 m.weekday, .int .i64 m.style, .string m.king] (w.alloc (.cells #[.int .i64 3, .int .i64 m.number, .int .i64 m.month, .int .i64 m.feast, .int .i64 m.relation, .int .i64 m.weekday, .int .i64 m.style, .string m.king] 31)) := At.start _ _ _
  go_enter Tryz.func44, Tryz.ntmps44
  go_upto_region 19 with (fail)
  generalize w.alloc (.cells #[.int .i64 3, .int .i64 m.number, .int .i64 m.month, .int .i64 m.feast, .int .i64 m.relation, .int .i64 m.weekday, .int .i64 m.style, .string m.king] 31) = W at hA ⊢
  have D1 := Later.cell (hA.cell 1 _ rfl) hA.size
  have D6 := Later.cell (hA.cell 6 _ rfl) hA.size
  refine wp_region_later W (by kernel_rfl) (by kernel_rfl) ?_
  repeat (go_big_quiet_step ((first | (go_at_call 97; exact Later.call (Nat.le_refl _) (decimal_any _ hn0 hn1 _ (tabHere HT.out (stepB hA.below (Later.prop _) hA.below.size)))) | (go_at_call 98; exact Later.call (Nat.le_refl _) (implStyleName_any _ _)))))
  refine wpQuiet_nil ?_
  intro z
  have hz := z.prop
  generalize z.val = w3 at hz
  clear D1 D6
  go_wp2
  go_ret
  exact ⟨rfl, stepB hA.below hz hA.below.size⟩
set_option maxRecDepth 100000 in
set_option maxHeartbeats 2000000 in
theorem implTxt4_any (m : Cl) (w : World) (hok : okCl m = true) (h0 : m.kind = 4) (ht : Lib.TabIs Tryz.prog w "internal/strconv.uint64pow10" .u64 Lib.pow10Tab) :
    Calls Tryz.prog 44 #[.agg #[.int .i64 m.kind, .int .i64 m.number, .int .i64 m.month, .int .i64 m.feast, .int .i64 m.relation, .int .i64 m.weekday, .int .i64 m.style, .string m.king]] w fun e w' => e = .returned (.string (txt4 m)) ∧ Below w.heap.size w w' := by
  have hbd := okCl_bd hok
  clear hok
  have HT := Lib.hid (Lib.tabBelow_of_tabIs ht)
  clear ht
  obtain ⟨-, -, -, -, -, hb⟩ := hbd
  obtain ⟨hb1, hb2, hb3, hb4⟩ := hb h0
  obtain ⟨j, hj⟩ := Int.eq_ofNat_of_zero_le hb3
  have hxj := List.getElem?_eq_getElem (show j < inL.length by show j < 3; omega)
  have hxe : Hid (nameN inL 0 m.style = inL[j]'(show j < 3 by omega)) := nameN_is (hi := 2) rfl (by unfold inB; simp; omega) (by omega) hxj
  have hxs := in_size _ (List.mem_of_getElem? hxj)
  generalize inL[j]'(show j < 3 by omega) = x at hxj hxe hxs
  have hj3 : (j : Int) < 3 := by omega
  have hT : Hid (txt4 m = (((⟨#[105, 110, 32, 116, 104, 101, 32, 105, 110, 100, 105, 99, 116, 105, 111, 110, 32]⟩ : ByteArray) ++ decB m.number) ++ (⟨#[32, 98, 121, 32]⟩ : ByteArray)) ++ x) := by unfold Hid txt4; rw [hxe.out]
  generalize txt4 m = TT at hT ⊢
  rw [h0, hj]
  have hsd := decB_sz (z := m.number) (by omega) (by omega)
  have hn0 : 0 ≤ m.number := by omega
  have hn1 : m.number ≤ 1000000000000 := by omega
  have e0 : (9223372036854775807 < 17 + (decB m.number).size) = False := eq_false (by omega)
  have e1 : (9223372036854775807 < 17 + (decB m.number).size + 4) = False := eq_false (by omega)
  have e2 : (9223372036854775807 < 17 + (decB m.number).size + 4 + x.size) = False := eq_false (by omega)
  replace hxj := Lib.hid hxj
  clear hb1 hb2 hb3 hb4 hb h0 hsd hj hxe hxs
  have hA : At w [.int .i64 4, .int .i64 m.number, .int .i64 m.month, .int .i64 m.feast, .int .i64 m.relation, .int .i64 m.weekday, .int .i64 (j : Int), .string m.king] (w.alloc (.cells #[.int .i64 4, .int .i64 m.number, .int .i64 m.month, .int .i64 m.feast, .int .i64 m.relation, .int .i64 m.weekday, .int .i64 (j : Int), .string m.king] 31)) := At.start _ _ _
  go_enter Tryz.func44, Tryz.ntmps44
  go_upto_region 21 with (fail)
  generalize w.alloc (.cells #[.int .i64 4, .int .i64 m.number, .int .i64 m.month, .int .i64 m.feast, .int .i64 m.relation, .int .i64 m.weekday, .int .i64 (j : Int), .string m.king] 31) = W at hA ⊢
  refine MAny.region (S := fun w' => w'.cell? ⟨w.heap.size, 1, none⟩ = some (.int .i64 m.number) ∧ w'.cell? ⟨w.heap.size, 6, none⟩ = some (.int .i64 (j : Int))) (last := 11) (by kernel_rfl) ?_
  replace hA := hA.step (Below.refl _ W).drew
  generalize W.drew = W0 at hA ⊢
  have hHeld := And.intro (hA.cell 1 _ rfl) (hA.cell 6 _ rfl)
  refine MAny.take (i := 0) (v := ?_) rfl (by kernel_rfl) (by kernel_rfl) (by kernel_rfl) (fun _ _ _ h => h) (by kernel_rfl) (Or.inl ⟨by rfl, ?_⟩) (by assumption) ?_
  rotate_left
  · (intro w' hSw; (try dsimp only at hSw); go_simp; try (with_reducible rfl))
  try simp only [Act.put, List.setIfInBounds_toArray]
  refine MAny.take (i := 1) (v := ?_) rfl (by kernel_rfl) (by kernel_rfl) (by kernel_rfl) (fun _ _ _ h => h) (by kernel_rfl) (Or.inl ⟨by rfl, ?_⟩) (by assumption) ?_
  rotate_left
  · (intro w' hSw; (try dsimp only at hSw); go_simp; try (with_reducible rfl))
  try simp only [Act.put]
  refine MAny.take (i := 6) (v := ?_) rfl (by kernel_rfl) (by kernel_rfl) (by kernel_rfl) (fun _ _ _ h => h) (by kernel_rfl) (Or.inl ⟨by rfl, ?_⟩) (by assumption) ?_
  rotate_left
  · (intro w' hSw; (try dsimp only at hSw); go_simp; try (with_reducible rfl))
  try simp only [Act.put]
  refine MAny.take (i := 7) (v := ?_) rfl (by kernel_rfl) (by kernel_rfl) (by kernel_rfl) (fun _ _ _ h => h) (by kernel_rfl) (Or.inl ⟨by rfl, ?_⟩) (by assumption) ?_
  rotate_left
  · (intro w' hSw; (try dsimp only at hSw); go_simp; try (with_reducible rfl))
  try simp only [Act.put]
  refine MAny.ready (rs := [2]) (by kernel_rfl) (by simp) ?_
  refine MReady.cons rfl (fun K hK => ?_) MReady.nil
  go_simp
  go_wp2_with (go_at_call 97; refine (decimal_any _ hn0 hn1 _ (tabHere HT.out hA.below)).mono ?_; rintro e W1 ⟨rfl, hB1⟩)
  replace hA := hA.step hB1
  have hHeld := And.intro (hA.cell 1 _ rfl) (hA.cell 6 _ rfl)
  refine hK.out _ _ (.inr hHeld) ?_
  clear hK K
  refine MAny.take (i := 3) (v := ?_) rfl (by kernel_rfl) (by kernel_rfl) (by kernel_rfl) (fun _ _ _ h => h) (by kernel_rfl) (Or.inl ⟨by rfl, ?_⟩) (by assumption) ?_
  rotate_left
  · (intro w' hSw; (try dsimp only at hSw); go_simp; try (with_reducible rfl))
  try simp only [Act.put, List.setIfInBounds_toArray]
  refine MAny.take (i := 4) (v := ?_) rfl (by kernel_rfl) (by kernel_rfl) (by kernel_rfl) (fun _ _ _ h => h) (by kernel_rfl) (Or.inl ⟨by rfl, ?_⟩) (by assumption) ?_
  rotate_left
  · (intro w' hSw; (try dsimp only at hSw); go_simp; try (with_reducible rfl))
  try simp only [Act.put]
  refine MAny.ready (rs := [5]) (by kernel_rfl) (by simp) ?_
  refine MReady.cons rfl (fun K hK => ?_) MReady.nil
  go_simp
  go_wp2_with (go_at_call 91; refine (indictionNames_any _).mono ?_; rintro e W2 ⟨g, c, rfl, own, hB2⟩)
  replace hA := hA.step hB2
  have hHeld := And.intro (hA.cell 1 _ rfl) (hA.cell 6 _ rfl)
  have hc0 := own_at encS_len own hxj.out (j := 0) rfl
  rw [Nat.mul_one, Nat.add_zero] at hc0
  refine hK.out _ _ (.inr hHeld) ?_
  clear hK K
  refine MAny.take (i := 8) (v := ?_) rfl (by kernel_rfl) (by kernel_rfl) (by kernel_rfl) (fun _ _ _ h => h) (by kernel_rfl) (Or.inl ⟨by rfl, ?_⟩) (by assumption) ?_
  rotate_left
  · (intro w' hSw; (try dsimp only at hSw); go_simp; try (with_reducible rfl))
  try simp only [Act.put, List.setIfInBounds_toArray]
  refine MAny.ready (rs := [9]) (by kernel_rfl) (by simp) ?_
  refine MReady.cons rfl (fun K hK => ?_) MReady.nil
  go_simp
  refine hK.out _ _ (.inr hHeld) ?_
  clear hK K
  refine MAny.ready (rs := [10]) (by kernel_rfl) (by simp) ?_
  refine MReady.cons rfl (fun K hK => ?_) MReady.nil
  go_simp
  refine hK.out _ _ (.inr hHeld) ?_
  clear hK K
  refine MAny.ready (rs := [11]) (by kernel_rfl) (by simp) ?_
  refine MReady.cons rfl (fun K hK => ?_) MReady.nil
  go_simp
  refine hK.out _ _ (.inl rfl) ?_
  clear hK K
  refine MAny.done (by kernel_rfl) ?_ _
  try simp only [List.getElem_toArray, List.getElem_cons_succ, List.getElem_cons_zero]
  go_wp2
  go_ret
  rw [hT.out]
  exact ⟨rfl, hA.below⟩
set_option maxRecDepth 100000 in
set_option maxHeartbeats 2000000 in
theorem implTxt5_any (m : Cl) (w : World) (hok : okCl m = true) (h0 : m.kind = 5) :
    Calls Tryz.prog 44 #[.agg #[.int .i64 m.kind, .int .i64 m.number, .int .i64 m.month, .int .i64 m.feast, .int .i64 m.relation, .int .i64 m.weekday, .int .i64 m.style, .string m.king]] w fun e w' => e = .returned (.string (txt5 m)) ∧ Below w.heap.size w w' := by
  have hbd := okCl_bd hok
  clear hok
  rw [h0]
  have s1 := s_wk m.weekday
  have e0 : (9223372036854775807 < 5 + (nameN wkL 0 m.weekday).size) = False := eq_false (by omega)
  clear hbd h0 s1
  have hA : At w [.int .i64 5, .int .i64 m.number, .int .i64 m.month, .int .i64 m.feast, .int .i64 m.relation, .int .i64 m.weekday, .int .i64 m.style, .string m.king] (w.alloc (.cells #[.int .i64 5, .int .i64 m.number, .int .i64 m.month, .int .i64 m.feast, .int .i64 m.relation, .int .i64 m.weekday, .int .i64 m.style, .string m.king] 31)) := At.start _ _ _
  go_enter Tryz.func44, Tryz.ntmps44
  go_upto_region 22 with (fail)
  generalize w.alloc (.cells #[.int .i64 5, .int .i64 m.number, .int .i64 m.month, .int .i64 m.feast, .int .i64 m.relation, .int .i64 m.weekday, .int .i64 m.style, .string m.king] 31) = W at hA ⊢
  have c5 := hA.cell 5 _ rfl
  go_wp2_with fail
  refine (implWeekdayName_any _ _).mono ?_
  rintro e w1 ⟨rfl, hB1⟩
  replace hA := hA.step hB1
  clear c5
  go_wp2
  go_ret
  exact ⟨rfl, hA.below⟩
set_option maxRecDepth 100000 in
set_option maxHeartbeats 2000000 in
theorem implTxt10_any (m : Cl) (w : World) (hok : okCl m = true) (h0 : m.kind = 1) (hr : m.relation = 0) :
    Calls Tryz.prog 44 #[.agg #[.int .i64 m.kind, .int .i64 m.number, .int .i64 m.month, .int .i64 m.feast, .int .i64 m.relation, .int .i64 m.weekday, .int .i64 m.style, .string m.king]] w fun e w' => e = .returned (.string (txt1 m)) ∧ Below w.heap.size w w' := by
  have hbd := okCl_bd hok
  clear hok
  have hT : Hid (txt1 m = (⟨#[97, 116, 32]⟩ : ByteArray) ++ nameN feL 0 m.feast) := by unfold Hid; unfold txt1; rw [if_pos hr]
  generalize txt1 m = TT at hT ⊢
  rw [h0, hr]
  have s1 := s_fe m.feast
  have s2 := s_wk m.weekday
  have e0 : (9223372036854775807 < 3 + (nameN feL 0 m.feast).size) = False := eq_false (by omega)
  clear hbd h0 hr s1 s2
  have hA : At w [.int .i64 1, .int .i64 m.number, .int .i64 m.month, .int .i64 m.feast, .int .i64 0, .int .i64 m.weekday, .int .i64 m.style, .string m.king] (w.alloc (.cells #[.int .i64 1, .int .i64 m.number, .int .i64 m.month, .int .i64 m.feast, .int .i64 0, .int .i64 m.weekday, .int .i64 m.style, .string m.king] 31)) := At.start _ _ _
  go_enter Tryz.func44, Tryz.ntmps44
  go_upto_region 5 with (fail)
  generalize w.alloc (.cells #[.int .i64 1, .int .i64 m.number, .int .i64 m.month, .int .i64 m.feast, .int .i64 0, .int .i64 m.weekday, .int .i64 m.style, .string m.king] 31) = W at hA ⊢
  have c3 := hA.cell 3 _ rfl
  go_wp2_with fail
  refine (implFeastName_any _ _).mono ?_
  rintro e w1 ⟨rfl, hB1⟩
  replace hA := hA.step hB1
  clear c3
  have c4 := hA.cell 4 _ rfl
  have c5 := hA.cell 5 _ rfl
  go_wp2
  go_ret
  rw [hT.out]
  exact ⟨rfl, hA.below⟩
set_option maxRecDepth 100000 in
set_option maxHeartbeats 2000000 in
theorem implTxt11_any (m : Cl) (w : World) (hok : okCl m = true) (h0 : m.kind = 1) (hr : m.relation = 1) :
    Calls Tryz.prog 44 #[.agg #[.int .i64 m.kind, .int .i64 m.number, .int .i64 m.month, .int .i64 m.feast, .int .i64 m.relation, .int .i64 m.weekday, .int .i64 m.style, .string m.king]] w fun e w' => e = .returned (.string (txt1 m)) ∧ Below w.heap.size w w' := by
  have hbd := okCl_bd hok
  clear hok
  have hT : Hid (txt1 m = (⟨#[97, 116, 32, 116, 104, 101, 32, 101, 118, 101, 32, 111, 102, 32]⟩ : ByteArray) ++ nameN feL 0 m.feast) := by unfold Hid; unfold txt1; rw [if_neg (show ¬ m.relation = 0 by omega), if_pos hr]
  generalize txt1 m = TT at hT ⊢
  rw [h0, hr]
  have s1 := s_fe m.feast
  have s2 := s_wk m.weekday
  have e0 : (9223372036854775807 < 14 + (nameN feL 0 m.feast).size) = False := eq_false (by omega)
  clear hbd h0 hr s1 s2
  have hA : At w [.int .i64 1, .int .i64 m.number, .int .i64 m.month, .int .i64 m.feast, .int .i64 1, .int .i64 m.weekday, .int .i64 m.style, .string m.king] (w.alloc (.cells #[.int .i64 1, .int .i64 m.number, .int .i64 m.month, .int .i64 m.feast, .int .i64 1, .int .i64 m.weekday, .int .i64 m.style, .string m.king] 31)) := At.start _ _ _
  go_enter Tryz.func44, Tryz.ntmps44
  go_upto_region 5 with (fail)
  generalize w.alloc (.cells #[.int .i64 1, .int .i64 m.number, .int .i64 m.month, .int .i64 m.feast, .int .i64 1, .int .i64 m.weekday, .int .i64 m.style, .string m.king] 31) = W at hA ⊢
  have c3 := hA.cell 3 _ rfl
  go_wp2_with fail
  refine (implFeastName_any _ _).mono ?_
  rintro e w1 ⟨rfl, hB1⟩
  replace hA := hA.step hB1
  clear c3
  have c4 := hA.cell 4 _ rfl
  have c5 := hA.cell 5 _ rfl
  go_wp2
  go_ret
  rw [hT.out]
  exact ⟨rfl, hA.below⟩
set_option maxRecDepth 100000 in
set_option maxHeartbeats 2000000 in
theorem implTxt12_any (m : Cl) (w : World) (hok : okCl m = true) (h0 : m.kind = 1) (hr : m.relation = 2) :
    Calls Tryz.prog 44 #[.agg #[.int .i64 m.kind, .int .i64 m.number, .int .i64 m.month, .int .i64 m.feast, .int .i64 m.relation, .int .i64 m.weekday, .int .i64 m.style, .string m.king]] w fun e w' => e = .returned (.string (txt1 m)) ∧ Below w.heap.size w w' := by
  have hbd := okCl_bd hok
  clear hok
  have hT : Hid (txt1 m = (⟨#[97, 116, 32, 116, 104, 101, 32, 111, 99, 116, 97, 118, 101, 32, 111, 102, 32]⟩ : ByteArray) ++ nameN feL 0 m.feast) := by unfold Hid; unfold txt1; rw [if_neg (show ¬ m.relation = 0 by omega), if_neg (show ¬ m.relation = 1 by omega), if_pos hr]
  generalize txt1 m = TT at hT ⊢
  rw [h0, hr]
  have s1 := s_fe m.feast
  have s2 := s_wk m.weekday
  have e0 : (9223372036854775807 < 17 + (nameN feL 0 m.feast).size) = False := eq_false (by omega)
  clear hbd h0 hr s1 s2
  have hA : At w [.int .i64 1, .int .i64 m.number, .int .i64 m.month, .int .i64 m.feast, .int .i64 2, .int .i64 m.weekday, .int .i64 m.style, .string m.king] (w.alloc (.cells #[.int .i64 1, .int .i64 m.number, .int .i64 m.month, .int .i64 m.feast, .int .i64 2, .int .i64 m.weekday, .int .i64 m.style, .string m.king] 31)) := At.start _ _ _
  go_enter Tryz.func44, Tryz.ntmps44
  go_upto_region 5 with (fail)
  generalize w.alloc (.cells #[.int .i64 1, .int .i64 m.number, .int .i64 m.month, .int .i64 m.feast, .int .i64 2, .int .i64 m.weekday, .int .i64 m.style, .string m.king] 31) = W at hA ⊢
  have c3 := hA.cell 3 _ rfl
  go_wp2_with fail
  refine (implFeastName_any _ _).mono ?_
  rintro e w1 ⟨rfl, hB1⟩
  replace hA := hA.step hB1
  clear c3
  have c4 := hA.cell 4 _ rfl
  have c5 := hA.cell 5 _ rfl
  go_wp2
  go_ret
  rw [hT.out]
  exact ⟨rfl, hA.below⟩
set_option maxRecDepth 100000 in
set_option maxHeartbeats 2000000 in
theorem implTxt13_any (m : Cl) (w : World) (hok : okCl m = true) (h0 : m.kind = 1) (hr : m.relation = 3) :
    Calls Tryz.prog 44 #[.agg #[.int .i64 m.kind, .int .i64 m.number, .int .i64 m.month, .int .i64 m.feast, .int .i64 m.relation, .int .i64 m.weekday, .int .i64 m.style, .string m.king]] w fun e w' => e = .returned (.string (txt1 m)) ∧ Below w.heap.size w w' := by
  have hbd := okCl_bd hok
  clear hok
  have hT : Hid (txt1 m = (((⟨#[111, 110, 32, 116, 104, 101, 32]⟩ : ByteArray) ++ nameN wkL 0 m.weekday) ++ (⟨#[32, 97, 102, 116, 101, 114, 32]⟩ : ByteArray)) ++ nameN feL 0 m.feast) := by unfold Hid; unfold txt1; rw [if_neg (show ¬ m.relation = 0 by omega), if_neg (show ¬ m.relation = 1 by omega), if_neg (show ¬ m.relation = 2 by omega), if_pos hr]
  generalize txt1 m = TT at hT ⊢
  rw [h0, hr]
  have s1 := s_fe m.feast
  have s2 := s_wk m.weekday
  have e0 : (9223372036854775807 < 7 + (nameN wkL 0 m.weekday).size) = False := eq_false (by omega)
  have e1 : (9223372036854775807 < 7 + (nameN wkL 0 m.weekday).size + 7) = False := eq_false (by omega)
  have e2 : (9223372036854775807 < 7 + (nameN wkL 0 m.weekday).size + 7 + (nameN feL 0 m.feast).size) = False := eq_false (by omega)
  clear hbd h0 hr s1 s2
  have hA : At w [.int .i64 1, .int .i64 m.number, .int .i64 m.month, .int .i64 m.feast, .int .i64 3, .int .i64 m.weekday, .int .i64 m.style, .string m.king] (w.alloc (.cells #[.int .i64 1, .int .i64 m.number, .int .i64 m.month, .int .i64 m.feast, .int .i64 3, .int .i64 m.weekday, .int .i64 m.style, .string m.king] 31)) := At.start _ _ _
  go_enter Tryz.func44, Tryz.ntmps44
  go_upto_region 5 with (fail)
  generalize w.alloc (.cells #[.int .i64 1, .int .i64 m.number, .int .i64 m.month, .int .i64 m.feast, .int .i64 3, .int .i64 m.weekday, .int .i64 m.style, .string m.king] 31) = W at hA ⊢
  have c3 := hA.cell 3 _ rfl
  go_wp2_with fail
  refine (implFeastName_any _ _).mono ?_
  rintro e w1 ⟨rfl, hB1⟩
  replace hA := hA.step hB1
  clear c3
  have c4 := hA.cell 4 _ rfl
  have c5 := hA.cell 5 _ rfl
  go_wp2_with fail
  refine (implWeekdayName_any _ _).mono ?_
  rintro e w2 ⟨rfl, hB2⟩
  replace hA := hA.step hB2
  clear c4 c5
  go_wp2
  go_ret
  rw [hT.out]
  exact ⟨rfl, hA.below⟩
set_option maxRecDepth 100000 in
set_option maxHeartbeats 2000000 in
theorem implTxt14_any (m : Cl) (w : World) (hok : okCl m = true) (h0 : m.kind = 1) (hr : m.relation = 4) :
    Calls Tryz.prog 44 #[.agg #[.int .i64 m.kind, .int .i64 m.number, .int .i64 m.month, .int .i64 m.feast, .int .i64 m.relation, .int .i64 m.weekday, .int .i64 m.style, .string m.king]] w fun e w' => e = .returned (.string (txt1 m)) ∧ Below w.heap.size w w' := by
  have hbd := okCl_bd hok
  clear hok
  have hT : Hid (txt1 m = (((⟨#[111, 110, 32, 116, 104, 101, 32]⟩ : ByteArray) ++ nameN wkL 0 m.weekday) ++ (⟨#[32, 98, 101, 102, 111, 114, 101, 32]⟩ : ByteArray)) ++ nameN feL 0 m.feast) := by unfold Hid; unfold txt1; rw [if_neg (show ¬ m.relation = 0 by omega), if_neg (show ¬ m.relation = 1 by omega), if_neg (show ¬ m.relation = 2 by omega), if_neg (show ¬ m.relation = 3 by omega)]
  generalize txt1 m = TT at hT ⊢
  rw [h0, hr]
  have s1 := s_fe m.feast
  have s2 := s_wk m.weekday
  have e0 : (9223372036854775807 < 7 + (nameN wkL 0 m.weekday).size) = False := eq_false (by omega)
  have e1 : (9223372036854775807 < 7 + (nameN wkL 0 m.weekday).size + 8) = False := eq_false (by omega)
  have e2 : (9223372036854775807 < 7 + (nameN wkL 0 m.weekday).size + 8 + (nameN feL 0 m.feast).size) = False := eq_false (by omega)
  clear hbd h0 hr s1 s2
  have hA : At w [.int .i64 1, .int .i64 m.number, .int .i64 m.month, .int .i64 m.feast, .int .i64 4, .int .i64 m.weekday, .int .i64 m.style, .string m.king] (w.alloc (.cells #[.int .i64 1, .int .i64 m.number, .int .i64 m.month, .int .i64 m.feast, .int .i64 4, .int .i64 m.weekday, .int .i64 m.style, .string m.king] 31)) := At.start _ _ _
  go_enter Tryz.func44, Tryz.ntmps44
  go_upto_region 5 with (fail)
  generalize w.alloc (.cells #[.int .i64 1, .int .i64 m.number, .int .i64 m.month, .int .i64 m.feast, .int .i64 4, .int .i64 m.weekday, .int .i64 m.style, .string m.king] 31) = W at hA ⊢
  have c3 := hA.cell 3 _ rfl
  go_wp2_with fail
  refine (implFeastName_any _ _).mono ?_
  rintro e w1 ⟨rfl, hB1⟩
  replace hA := hA.step hB1
  clear c3
  have c4 := hA.cell 4 _ rfl
  have c5 := hA.cell 5 _ rfl
  go_wp2_with fail
  refine (implWeekdayName_any _ _).mono ?_
  rintro e w2 ⟨rfl, hB2⟩
  replace hA := hA.step hB2
  clear c4 c5
  go_wp2
  go_ret
  rw [hT.out]
  exact ⟨rfl, hA.below⟩
theorem implTxt_any (m : Cl) (w : World) (hok : okCl m = true) (ht : Lib.TabIs Tryz.prog w "internal/strconv.uint64pow10" .u64 Lib.pow10Tab) :
    Calls Tryz.prog 44 #[.agg #[.int .i64 m.kind, .int .i64 m.number, .int .i64 m.month, .int .i64 m.feast, .int .i64 m.relation, .int .i64 m.weekday, .int .i64 m.style, .string m.king]] w fun e w' => e = .returned (.string (txtB m)) ∧ Below w.heap.size w w' := by
  have hbd := okCl_bd hok
  unfold txtB
  by_cases h0 : m.kind = 0
  · rw [if_pos h0]; exact implTxt0_any m w hok h0
  rw [if_neg h0]
  by_cases h1 : m.kind = 1
  · rw [if_pos h1]
    have hr := hbd.2.2.1 h1
    by_cases r0 : m.relation = 0
    · exact implTxt10_any m w hok h1 r0
    by_cases r1 : m.relation = 1
    · exact implTxt11_any m w hok h1 r1
    by_cases r2 : m.relation = 2
    · exact implTxt12_any m w hok h1 r2
    by_cases r3 : m.relation = 3
    · exact implTxt13_any m w hok h1 r3
    exact implTxt14_any m w hok h1 (by omega)
  rw [if_neg h1]
  by_cases h2 : m.kind = 2
  · rw [if_pos h2]; exact implTxt2_any m w hok h2 ht
  rw [if_neg h2]
  by_cases h3 : m.kind = 3
  · rw [if_pos h3]; exact implTxt3_any m w hok h3 ht
  rw [if_neg h3]
  by_cases h4 : m.kind = 4
  · rw [if_pos h4]; exact implTxt4_any m w hok h4 ht
  rw [if_neg h4]
  exact implTxt5_any m w hok (by omega)
set_option maxRecDepth 100000 in
set_option maxHeartbeats 2000000 in
theorem specTxt0_any (m : Cl) (w : World) (hok : okCl m = true) (h0 : m.kind = 0) :
    Calls Tryz.prog 46 #[.agg #[.int .i64 m.kind, .int .i64 m.number, .int .i64 m.month, .int .i64 m.feast, .int .i64 m.relation, .int .i64 m.weekday, .int .i64 m.style, .string m.king]] w fun e w' => e = .returned (.string (txt0 m)) ∧ Below w.heap.size w w' := by
  have hbd := okCl_bd hok
  clear hok
  rw [h0]
  have s1 := s_ord m.number
  have s2 := s_mon m.month
  have e0 : (9223372036854775807 < 7 + (nameN ordL 1 m.number).size) = False := eq_false (by omega)
  have e1 : (9223372036854775807 < 7 + (nameN ordL 1 m.number).size + 4) = False := eq_false (by omega)
  have e2 : (9223372036854775807 < 7 + (nameN ordL 1 m.number).size + 4 + (nameN monL 1 m.month).size) = False := eq_false (by omega)
  clear hbd h0
  have hA : At w [.int .i64 0, .int .i64 m.number, .int .i64 m.month, .int .i64 m.feast, .int .i64 m.relation, .int .i64 m.weekday, .int .i64 m.style, .string m.king] (w.alloc (.cells #[.int .i64 0, .int .i64 m.number, .int .i64 m.month, .int .i64 m.feast, .int .i64 m.relation, .int .i64 m.weekday, .int .i64 m.style, .string m.king] 31)) := At.start _ _ _
  go_enter Tryz.func46, Tryz.ntmps46
  go_upto_region 3 with (fail)
  generalize w.alloc (.cells #[.int .i64 0, .int .i64 m.number, .int .i64 m.month, .int .i64 m.feast, .int .i64 m.relation, .int .i64 m.weekday, .int .i64 m.style, .string m.king] 31) = W at hA ⊢
  have D1 := Later.cell (hA.cell 1 _ rfl) hA.size
  have D2 := Later.cell (hA.cell 2 _ rfl) hA.size
  refine wp_region_later W (by kernel_rfl) (by kernel_rfl) ?_
  repeat (go_big_quiet_step ((first | (go_at_call 106; exact Later.call (Nat.le_refl _) (specOrdinalText_any _ _)) | (go_at_call 22; exact Later.call (Nat.le_refl _) (specMonthName_any _ _)))))
  refine wpQuiet_nil ?_
  intro z
  have hz := z.prop
  generalize z.val = w3 at hz
  clear D1 D2
  go_wp2
  go_ret
  exact ⟨rfl, stepB hA.below hz hA.below.size⟩
set_option maxRecDepth 100000 in
set_option maxHeartbeats 2000000 in
theorem specTxt2_any (m : Cl) (w : World) (hok : okCl m = true) (h0 : m.kind = 2) :
    Calls Tryz.prog 46 #[.agg #[.int .i64 m.kind, .int .i64 m.number, .int .i64 m.month, .int .i64 m.feast, .int .i64 m.relation, .int .i64 m.weekday, .int .i64 m.style, .string m.king]] w fun e w' => e = .returned (.string (txt2 m)) ∧ Below w.heap.size w w' := by
  have hbd := okCl_bd hok
  clear hok
  obtain ⟨-, -, -, hb, -, -⟩ := hbd
  obtain ⟨hb1, hb2, hb3⟩ := hb h0
  rw [h0]
  have hsd := decB_sz (z := m.number) (by omega) (by omega)
  have hn0 : 0 ≤ m.number := by omega
  have hn1 : m.number ≤ 2000 := by omega
  have e0 : (9223372036854775807 < 12 + (decB m.number).size) = False := eq_false (by omega)
  have e1 : (9223372036854775807 < 12 + (decB m.number).size + 4) = False := eq_false (by omega)
  have e2 : (9223372036854775807 < 12 + (decB m.number).size + 4 + m.king.size) = False := eq_false (by omega)
  clear hb1 hb2 hb3 hb h0 hsd
  have hA : At w [.int .i64 2, .int .i64 m.number, .int .i64 m.month, .int .i64 m.feast, .int .i64 m.relation, .int .i64 m.weekday, .int .i64 m.style, .string m.king] (w.alloc (.cells #[.int .i64 2, .int .i64 m.number, .int .i64 m.month, .int .i64 m.feast, .int .i64 m.relation, .int .i64 m.weekday, .int .i64 m.style, .string m.king] 31)) := At.start _ _ _
  go_enter Tryz.func46, Tryz.ntmps46
  go_upto_region 5 with (fail)
  generalize w.alloc (.cells #[.int .i64 2, .int .i64 m.number, .int .i64 m.month, .int .i64 m.feast, .int .i64 m.relation, .int .i64 m.weekday, .int .i64 m.style, .string m.king] 31) = W at hA ⊢
  have D1 := Later.cell (hA.cell 1 _ rfl) hA.size
  have D7 := Later.cell (hA.cell 7 _ rfl) hA.size
  refine wp_region_later W (by kernel_rfl) (by kernel_rfl) ?_
  repeat (go_big_quiet_step ((first | (go_at_call 52; exact Later.call (Nat.le_refl _) (l01DecJ _ hn0 hn1 _)))))
  refine wpQuiet_nil ?_
  intro z
  have hz := z.prop
  generalize z.val = w3 at hz
  clear D1 D7
  go_wp2
  go_ret
  exact ⟨rfl, stepB hA.below hz hA.below.size⟩
set_option maxRecDepth 100000 in
set_option maxHeartbeats 2000000 in
theorem specTxt3_any (m : Cl) (w : World) (hok : okCl m = true) (h0 : m.kind = 3) :
    Calls Tryz.prog 46 #[.agg #[.int .i64 m.kind, .int .i64 m.number, .int .i64 m.month, .int .i64 m.feast, .int .i64 m.relation, .int .i64 m.weekday, .int .i64 m.style, .string m.king]] w fun e w' => e = .returned (.string (txt3 m)) ∧ Below w.heap.size w w' := by
  have hbd := okCl_bd hok
  clear hok
  obtain ⟨-, -, -, -, hb, -⟩ := hbd
  obtain ⟨hb1, hb2⟩ := hb h0
  rw [h0]
  have s1 := s_sty m.style
  have hsd := decB_sz (z := m.number) (by omega) (by omega)
  have hn0 : 0 ≤ m.number := by omega
  have hn1 : m.number ≤ 2000 := by omega
  have e0 : (9223372036854775807 < 12 + (decB m.number).size) = False := eq_false (by omega)
  have e1 : (9223372036854775807 < 12 + (decB m.number).size + 4) = False := eq_false (by omega)
  have e2 : (9223372036854775807 < 12 + (decB m.number).size + 4 + (nameN styL 0 m.style).size) = False := eq_false (by omega)
  clear hb1 hb2 hb h0 hsd s1
  have hA : At w [.int .i64 3, .int .i64 m.number, .int .i64 m.month, .int .i64 m.feast, .int .i64 m.relation, .int .i64 m.weekday, .int .i64 m.style, .string m.king] (w.alloc (.cells #[.int .i64 3, .int .i64 m.number, .int .i64 m.month, .int .i64 m.feast, .int .i64 m.relation, .int .i64 m.weekday, .int .i64 m.style, .string m.king] 31)) := At.start _ _ _
  go_enter Tryz.func46, Tryz.ntmps46
  go_upto_region 7 with (fail)
  generalize w.alloc (.cells #[.int .i64 3, .int .i64 m.number, .int .i64 m.month, .int .i64 m.feast, .int .i64 m.relation, .int .i64 m.weekday, .int .i64 m.style, .string m.king] 31) = W at hA ⊢
  have D1 := Later.cell (hA.cell 1 _ rfl) hA.size
  have D6 := Later.cell (hA.cell 6 _ rfl) hA.size
  refine wp_region_later W (by kernel_rfl) (by kernel_rfl) ?_
  repeat (go_big_quiet_step ((first | (go_at_call 52; exact Later.call (Nat.le_refl _) (l01DecJ _ hn0 hn1 _)) | (go_at_call 107; exact Later.call (Nat.le_refl _) (specStyleName_any _ _)))))
  refine wpQuiet_nil ?_
  intro z
  have hz := z.prop
  generalize z.val = w3 at hz
  clear D1 D6
  go_wp2
  go_ret
  exact ⟨rfl, stepB hA.below hz hA.below.size⟩
set_option maxRecDepth 100000 in
set_option maxHeartbeats 2000000 in
theorem specTxt4_any (m : Cl) (w : World) (hok : okCl m = true) (h0 : m.kind = 4) :
    Calls Tryz.prog 46 #[.agg #[.int .i64 m.kind, .int .i64 m.number, .int .i64 m.month, .int .i64 m.feast, .int .i64 m.relation, .int .i64 m.weekday, .int .i64 m.style, .string m.king]] w fun e w' => e = .returned (.string (txt4 m)) ∧ Below w.heap.size w w' := by
  have hbd := okCl_bd hok
  clear hok
  obtain ⟨-, -, -, -, -, hb⟩ := hbd
  obtain ⟨hb1, hb2, hb3, hb4⟩ := hb h0
  obtain ⟨j, hj⟩ := Int.eq_ofNat_of_zero_le hb3
  have hxj := List.getElem?_eq_getElem (show j < inL.length by show j < 3; omega)
  have hxe : Hid (nameN inL 0 m.style = inL[j]'(show j < 3 by omega)) := nameN_is (hi := 2) rfl (by unfold inB; simp; omega) (by omega) hxj
  have hxs := in_size _ (List.mem_of_getElem? hxj)
  generalize inL[j]'(show j < 3 by omega) = x at hxj hxe hxs
  have hj3 : (j : Int) < 3 := by omega
  have hT : Hid (txt4 m = (((⟨#[105, 110, 32, 116, 104, 101, 32, 105, 110, 100, 105, 99, 116, 105, 111, 110, 32]⟩ : ByteArray) ++ decB m.number) ++ (⟨#[32, 98, 121, 32]⟩ : ByteArray)) ++ x) := by unfold Hid txt4; rw [hxe.out]
  generalize txt4 m = TT at hT ⊢
  rw [h0, hj]
  have hsd := decB_sz (z := m.number) (by omega) (by omega)
  have hn0 : 0 ≤ m.number := by omega
  have hn1 : m.number ≤ 2000 := by omega
  have e0 : (9223372036854775807 < 17 + (decB m.number).size) = False := eq_false (by omega)
  have e1 : (9223372036854775807 < 17 + (decB m.number).size + 4) = False := eq_false (by omega)
  have e2 : (9223372036854775807 < 17 + (decB m.number).size + 4 + x.size) = False := eq_false (by omega)
  replace hxj := Lib.hid hxj
  clear hb1 hb2 hb3 hb4 hb h0 hsd hj hxe hxs
  have hA : At w [.int .i64 4, .int .i64 m.number, .int .i64 m.month, .int .i64 m.feast, .int .i64 m.relation, .int .i64 m.weekday, .int .i64 (j : Int), .string m.king] (w.alloc (.cells #[.int .i64 4, .int .i64 m.number, .int .i64 m.month, .int .i64 m.feast, .int .i64 m.relation, .int .i64 m.weekday, .int .i64 (j : Int), .string m.king] 31)) := At.start _ _ _
  go_enter Tryz.func46, Tryz.ntmps46
  go_upto_region 9 with (fail)
  generalize w.alloc (.cells #[.int .i64 4, .int .i64 m.number, .int .i64 m.month, .int .i64 m.feast, .int .i64 m.relation, .int .i64 m.weekday, .int .i64 (j : Int), .string m.king] 31) = W at hA ⊢
  refine MAny.region (S := fun w' => w'.cell? ⟨w.heap.size, 1, none⟩ = some (.int .i64 m.number) ∧ w'.cell? ⟨w.heap.size, 6, none⟩ = some (.int .i64 (j : Int))) (last := 11) (by kernel_rfl) ?_
  replace hA := hA.step (Below.refl _ W).drew
  generalize W.drew = W0 at hA ⊢
  have hHeld := And.intro (hA.cell 1 _ rfl) (hA.cell 6 _ rfl)
  refine MAny.take (i := 0) (v := ?_) rfl (by kernel_rfl) (by kernel_rfl) (by kernel_rfl) (fun _ _ _ h => h) (by kernel_rfl) (Or.inl ⟨by rfl, ?_⟩) (by assumption) ?_
  rotate_left
  · (intro w' hSw; (try dsimp only at hSw); go_simp; try (with_reducible rfl))
  try simp only [Act.put, List.setIfInBounds_toArray]
  refine MAny.take (i := 1) (v := ?_) rfl (by kernel_rfl) (by kernel_rfl) (by kernel_rfl) (fun _ _ _ h => h) (by kernel_rfl) (Or.inl ⟨by rfl, ?_⟩) (by assumption) ?_
  rotate_left
  · (intro w' hSw; (try dsimp only at hSw); go_simp; try (with_reducible rfl))
  try simp only [Act.put]
  refine MAny.take (i := 6) (v := ?_) rfl (by kernel_rfl) (by kernel_rfl) (by kernel_rfl) (fun _ _ _ h => h) (by kernel_rfl) (Or.inl ⟨by rfl, ?_⟩) (by assumption) ?_
  rotate_left
  · (intro w' hSw; (try dsimp only at hSw); go_simp; try (with_reducible rfl))
  try simp only [Act.put]
  refine MAny.take (i := 7) (v := ?_) rfl (by kernel_rfl) (by kernel_rfl) (by kernel_rfl) (fun _ _ _ h => h) (by kernel_rfl) (Or.inl ⟨by rfl, ?_⟩) (by assumption) ?_
  rotate_left
  · (intro w' hSw; (try dsimp only at hSw); go_simp; try (with_reducible rfl))
  try simp only [Act.put]
  refine MAny.ready (rs := [2]) (by kernel_rfl) (by simp) ?_
  refine MReady.cons rfl (fun K hK => ?_) MReady.nil
  go_simp
  go_wp2_with (go_at_call 52; refine (l01DecJ _ hn0 hn1 _).mono ?_; rintro e W1 ⟨rfl, hB1⟩)
  replace hA := hA.step hB1
  have hHeld := And.intro (hA.cell 1 _ rfl) (hA.cell 6 _ rfl)
  refine hK.out _ _ (.inr hHeld) ?_
  clear hK K
  refine MAny.take (i := 3) (v := ?_) rfl (by kernel_rfl) (by kernel_rfl) (by kernel_rfl) (fun _ _ _ h => h) (by kernel_rfl) (Or.inl ⟨by rfl, ?_⟩) (by assumption) ?_
  rotate_left
  · (intro w' hSw; (try dsimp only at hSw); go_simp; try (with_reducible rfl))
  try simp only [Act.put, List.setIfInBounds_toArray]
  refine MAny.take (i := 4) (v := ?_) rfl (by kernel_rfl) (by kernel_rfl) (by kernel_rfl) (fun _ _ _ h => h) (by kernel_rfl) (Or.inl ⟨by rfl, ?_⟩) (by assumption) ?_
  rotate_left
  · (intro w' hSw; (try dsimp only at hSw); go_simp; try (with_reducible rfl))
  try simp only [Act.put]
  refine MAny.ready (rs := [5]) (by kernel_rfl) (by simp) ?_
  refine MReady.cons rfl (fun K hK => ?_) MReady.nil
  go_simp
  go_wp2_with (go_at_call 108; refine (l11Indictions_any _).mono ?_; rintro e W2 ⟨g, c, rfl, own, hB2⟩)
  replace hA := hA.step hB2
  have hHeld := And.intro (hA.cell 1 _ rfl) (hA.cell 6 _ rfl)
  have hc0 := own_at encS_len own hxj.out (j := 0) rfl
  rw [Nat.mul_one, Nat.add_zero] at hc0
  refine hK.out _ _ (.inr hHeld) ?_
  clear hK K
  refine MAny.take (i := 8) (v := ?_) rfl (by kernel_rfl) (by kernel_rfl) (by kernel_rfl) (fun _ _ _ h => h) (by kernel_rfl) (Or.inl ⟨by rfl, ?_⟩) (by assumption) ?_
  rotate_left
  · (intro w' hSw; (try dsimp only at hSw); go_simp; try (with_reducible rfl))
  try simp only [Act.put, List.setIfInBounds_toArray]
  refine MAny.ready (rs := [9]) (by kernel_rfl) (by simp) ?_
  refine MReady.cons rfl (fun K hK => ?_) MReady.nil
  go_simp
  refine hK.out _ _ (.inr hHeld) ?_
  clear hK K
  refine MAny.ready (rs := [10]) (by kernel_rfl) (by simp) ?_
  refine MReady.cons rfl (fun K hK => ?_) MReady.nil
  go_simp
  refine hK.out _ _ (.inr hHeld) ?_
  clear hK K
  refine MAny.ready (rs := [11]) (by kernel_rfl) (by simp) ?_
  refine MReady.cons rfl (fun K hK => ?_) MReady.nil
  go_simp
  refine hK.out _ _ (.inl rfl) ?_
  clear hK K
  refine MAny.done (by kernel_rfl) ?_ _
  try simp only [List.getElem_toArray, List.getElem_cons_succ, List.getElem_cons_zero]
  go_wp2
  go_ret
  rw [hT.out]
  exact ⟨rfl, hA.below⟩
set_option maxRecDepth 100000 in
set_option maxHeartbeats 2000000 in
theorem specTxt5_any (m : Cl) (w : World) (hok : okCl m = true) (h0 : m.kind = 5) :
    Calls Tryz.prog 46 #[.agg #[.int .i64 m.kind, .int .i64 m.number, .int .i64 m.month, .int .i64 m.feast, .int .i64 m.relation, .int .i64 m.weekday, .int .i64 m.style, .string m.king]] w fun e w' => e = .returned (.string (txt5 m)) ∧ Below w.heap.size w w' := by
  have hbd := okCl_bd hok
  clear hok
  rw [h0]
  have s1 := s_wk m.weekday
  have e0 : (9223372036854775807 < 5 + (nameN wkL 0 m.weekday).size) = False := eq_false (by omega)
  clear hbd h0 s1
  have hA : At w [.int .i64 5, .int .i64 m.number, .int .i64 m.month, .int .i64 m.feast, .int .i64 m.relation, .int .i64 m.weekday, .int .i64 m.style, .string m.king] (w.alloc (.cells #[.int .i64 5, .int .i64 m.number, .int .i64 m.month, .int .i64 m.feast, .int .i64 m.relation, .int .i64 m.weekday, .int .i64 m.style, .string m.king] 31)) := At.start _ _ _
  go_enter Tryz.func46, Tryz.ntmps46
  go_upto_region 11 with (fail)
  generalize w.alloc (.cells #[.int .i64 5, .int .i64 m.number, .int .i64 m.month, .int .i64 m.feast, .int .i64 m.relation, .int .i64 m.weekday, .int .i64 m.style, .string m.king] 31) = W at hA ⊢
  have c5 := hA.cell 5 _ rfl
  go_wp2_with fail
  refine (specWeekdayName_any _ _).mono ?_
  rintro e w1 ⟨rfl, hB1⟩
  replace hA := hA.step hB1
  clear c5
  go_wp2
  go_ret
  exact ⟨rfl, hA.below⟩
set_option maxRecDepth 100000 in
set_option maxHeartbeats 2000000 in
theorem specTxt10_any (m : Cl) (w : World) (hok : okCl m = true) (h0 : m.kind = 1) (hr : m.relation = 0) :
    Calls Tryz.prog 46 #[.agg #[.int .i64 m.kind, .int .i64 m.number, .int .i64 m.month, .int .i64 m.feast, .int .i64 m.relation, .int .i64 m.weekday, .int .i64 m.style, .string m.king]] w fun e w' => e = .returned (.string (txt1 m)) ∧ Below w.heap.size w w' := by
  have hbd := okCl_bd hok
  clear hok
  have hT : Hid (txt1 m = (⟨#[97, 116, 32]⟩ : ByteArray) ++ nameN feL 0 m.feast) := by unfold Hid; unfold txt1; rw [if_pos hr]
  generalize txt1 m = TT at hT ⊢
  rw [h0, hr]
  have s1 := s_fe m.feast
  have s2 := s_wk m.weekday
  have e0 : (9223372036854775807 < 3 + (nameN feL 0 m.feast).size) = False := eq_false (by omega)
  clear hbd h0 hr s1 s2
  have hA : At w [.int .i64 1, .int .i64 m.number, .int .i64 m.month, .int .i64 m.feast, .int .i64 0, .int .i64 m.weekday, .int .i64 m.style, .string m.king] (w.alloc (.cells #[.int .i64 1, .int .i64 m.number, .int .i64 m.month, .int .i64 m.feast, .int .i64 0, .int .i64 m.weekday, .int .i64 m.style, .string m.king] 31)) := At.start _ _ _
  go_enter Tryz.func46, Tryz.ntmps46
  go_upto_region 12 with (fail)
  generalize w.alloc (.cells #[.int .i64 1, .int .i64 m.number, .int .i64 m.month, .int .i64 m.feast, .int .i64 0, .int .i64 m.weekday, .int .i64 m.style, .string m.king] 31) = W at hA ⊢
  have c3 := hA.cell 3 _ rfl
  have c4 := hA.cell 4 _ rfl
  go_wp2_with fail
  refine (specFeastName_any _ _).mono ?_
  rintro e w1 ⟨rfl, hB1⟩
  replace hA := hA.step hB1
  clear c3 c4
  go_wp2
  go_ret
  rw [hT.out]
  exact ⟨rfl, hA.below⟩
set_option maxRecDepth 100000 in
set_option maxHeartbeats 2000000 in
theorem specTxt11_any (m : Cl) (w : World) (hok : okCl m = true) (h0 : m.kind = 1) (hr : m.relation = 1) :
    Calls Tryz.prog 46 #[.agg #[.int .i64 m.kind, .int .i64 m.number, .int .i64 m.month, .int .i64 m.feast, .int .i64 m.relation, .int .i64 m.weekday, .int .i64 m.style, .string m.king]] w fun e w' => e = .returned (.string (txt1 m)) ∧ Below w.heap.size w w' := by
  have hbd := okCl_bd hok
  clear hok
  have hT : Hid (txt1 m = (⟨#[97, 116, 32, 116, 104, 101, 32, 101, 118, 101, 32, 111, 102, 32]⟩ : ByteArray) ++ nameN feL 0 m.feast) := by unfold Hid; unfold txt1; rw [if_neg (show ¬ m.relation = 0 by omega), if_pos hr]
  generalize txt1 m = TT at hT ⊢
  rw [h0, hr]
  have s1 := s_fe m.feast
  have s2 := s_wk m.weekday
  have e0 : (9223372036854775807 < 14 + (nameN feL 0 m.feast).size) = False := eq_false (by omega)
  clear hbd h0 hr s1 s2
  have hA : At w [.int .i64 1, .int .i64 m.number, .int .i64 m.month, .int .i64 m.feast, .int .i64 1, .int .i64 m.weekday, .int .i64 m.style, .string m.king] (w.alloc (.cells #[.int .i64 1, .int .i64 m.number, .int .i64 m.month, .int .i64 m.feast, .int .i64 1, .int .i64 m.weekday, .int .i64 m.style, .string m.king] 31)) := At.start _ _ _
  go_enter Tryz.func46, Tryz.ntmps46
  go_upto_region 12 with (fail)
  generalize w.alloc (.cells #[.int .i64 1, .int .i64 m.number, .int .i64 m.month, .int .i64 m.feast, .int .i64 1, .int .i64 m.weekday, .int .i64 m.style, .string m.king] 31) = W at hA ⊢
  have c3 := hA.cell 3 _ rfl
  have c4 := hA.cell 4 _ rfl
  go_wp2_with fail
  refine (specFeastName_any _ _).mono ?_
  rintro e w1 ⟨rfl, hB1⟩
  replace hA := hA.step hB1
  clear c3 c4
  go_wp2
  go_ret
  rw [hT.out]
  exact ⟨rfl, hA.below⟩
set_option maxRecDepth 100000 in
set_option maxHeartbeats 2000000 in
theorem specTxt12_any (m : Cl) (w : World) (hok : okCl m = true) (h0 : m.kind = 1) (hr : m.relation = 2) :
    Calls Tryz.prog 46 #[.agg #[.int .i64 m.kind, .int .i64 m.number, .int .i64 m.month, .int .i64 m.feast, .int .i64 m.relation, .int .i64 m.weekday, .int .i64 m.style, .string m.king]] w fun e w' => e = .returned (.string (txt1 m)) ∧ Below w.heap.size w w' := by
  have hbd := okCl_bd hok
  clear hok
  have hT : Hid (txt1 m = (⟨#[97, 116, 32, 116, 104, 101, 32, 111, 99, 116, 97, 118, 101, 32, 111, 102, 32]⟩ : ByteArray) ++ nameN feL 0 m.feast) := by unfold Hid; unfold txt1; rw [if_neg (show ¬ m.relation = 0 by omega), if_neg (show ¬ m.relation = 1 by omega), if_pos hr]
  generalize txt1 m = TT at hT ⊢
  rw [h0, hr]
  have s1 := s_fe m.feast
  have s2 := s_wk m.weekday
  have e0 : (9223372036854775807 < 17 + (nameN feL 0 m.feast).size) = False := eq_false (by omega)
  clear hbd h0 hr s1 s2
  have hA : At w [.int .i64 1, .int .i64 m.number, .int .i64 m.month, .int .i64 m.feast, .int .i64 2, .int .i64 m.weekday, .int .i64 m.style, .string m.king] (w.alloc (.cells #[.int .i64 1, .int .i64 m.number, .int .i64 m.month, .int .i64 m.feast, .int .i64 2, .int .i64 m.weekday, .int .i64 m.style, .string m.king] 31)) := At.start _ _ _
  go_enter Tryz.func46, Tryz.ntmps46
  go_upto_region 12 with (fail)
  generalize w.alloc (.cells #[.int .i64 1, .int .i64 m.number, .int .i64 m.month, .int .i64 m.feast, .int .i64 2, .int .i64 m.weekday, .int .i64 m.style, .string m.king] 31) = W at hA ⊢
  have c3 := hA.cell 3 _ rfl
  have c4 := hA.cell 4 _ rfl
  go_wp2_with fail
  refine (specFeastName_any _ _).mono ?_
  rintro e w1 ⟨rfl, hB1⟩
  replace hA := hA.step hB1
  clear c3 c4
  go_wp2
  go_ret
  rw [hT.out]
  exact ⟨rfl, hA.below⟩
set_option maxRecDepth 100000 in
set_option maxHeartbeats 2000000 in
theorem specTxt13_any (m : Cl) (w : World) (hok : okCl m = true) (h0 : m.kind = 1) (hr : m.relation = 3) :
    Calls Tryz.prog 46 #[.agg #[.int .i64 m.kind, .int .i64 m.number, .int .i64 m.month, .int .i64 m.feast, .int .i64 m.relation, .int .i64 m.weekday, .int .i64 m.style, .string m.king]] w fun e w' => e = .returned (.string (txt1 m)) ∧ Below w.heap.size w w' := by
  have hbd := okCl_bd hok
  clear hok
  have hT : Hid (txt1 m = (((⟨#[111, 110, 32, 116, 104, 101, 32]⟩ : ByteArray) ++ nameN wkL 0 m.weekday) ++ (⟨#[32, 97, 102, 116, 101, 114, 32]⟩ : ByteArray)) ++ nameN feL 0 m.feast) := by unfold Hid; unfold txt1; rw [if_neg (show ¬ m.relation = 0 by omega), if_neg (show ¬ m.relation = 1 by omega), if_neg (show ¬ m.relation = 2 by omega), if_pos hr]
  generalize txt1 m = TT at hT ⊢
  rw [h0, hr]
  have s1 := s_fe m.feast
  have s2 := s_wk m.weekday
  have e0 : (9223372036854775807 < 7 + (nameN wkL 0 m.weekday).size) = False := eq_false (by omega)
  have e1 : (9223372036854775807 < 7 + (nameN wkL 0 m.weekday).size + 7) = False := eq_false (by omega)
  have e2 : (9223372036854775807 < 7 + (nameN wkL 0 m.weekday).size + 7 + (nameN feL 0 m.feast).size) = False := eq_false (by omega)
  clear hbd h0 hr s1 s2
  have hA : At w [.int .i64 1, .int .i64 m.number, .int .i64 m.month, .int .i64 m.feast, .int .i64 3, .int .i64 m.weekday, .int .i64 m.style, .string m.king] (w.alloc (.cells #[.int .i64 1, .int .i64 m.number, .int .i64 m.month, .int .i64 m.feast, .int .i64 3, .int .i64 m.weekday, .int .i64 m.style, .string m.king] 31)) := At.start _ _ _
  go_enter Tryz.func46, Tryz.ntmps46
  go_upto_region 12 with (fail)
  generalize w.alloc (.cells #[.int .i64 1, .int .i64 m.number, .int .i64 m.month, .int .i64 m.feast, .int .i64 3, .int .i64 m.weekday, .int .i64 m.style, .string m.king] 31) = W at hA ⊢
  have c3 := hA.cell 3 _ rfl
  have c4 := hA.cell 4 _ rfl
  go_upto_region 18 with (fail)
  clear c3 c4
  have D3 := Later.cell (hA.cell 3 _ rfl) hA.size
  have D5 := Later.cell (hA.cell 5 _ rfl) hA.size
  refine wp_region_later W (by kernel_rfl) (by kernel_rfl) ?_
  repeat (go_big_quiet_step ((first | (go_at_call 24; exact Later.call (Nat.le_refl _) (specWeekdayName_any _ _)) | (go_at_call 109; exact Later.call (Nat.le_refl _) (specFeastName_any _ _)))))
  refine wpQuiet_nil ?_
  intro z
  have hz := z.prop
  generalize z.val = w3 at hz
  clear D3 D5
  go_wp2
  go_ret
  exact ⟨by rw [hT.out]; rfl, stepB hA.below hz hA.below.size⟩
set_option maxRecDepth 100000 in
set_option maxHeartbeats 2000000 in
theorem specTxt14_any (m : Cl) (w : World) (hok : okCl m = true) (h0 : m.kind = 1) (hr : m.relation = 4) :
    Calls Tryz.prog 46 #[.agg #[.int .i64 m.kind, .int .i64 m.number, .int .i64 m.month, .int .i64 m.feast, .int .i64 m.relation, .int .i64 m.weekday, .int .i64 m.style, .string m.king]] w fun e w' => e = .returned (.string (txt1 m)) ∧ Below w.heap.size w w' := by
  have hbd := okCl_bd hok
  clear hok
  have hT : Hid (txt1 m = (((⟨#[111, 110, 32, 116, 104, 101, 32]⟩ : ByteArray) ++ nameN wkL 0 m.weekday) ++ (⟨#[32, 98, 101, 102, 111, 114, 101, 32]⟩ : ByteArray)) ++ nameN feL 0 m.feast) := by unfold Hid; unfold txt1; rw [if_neg (show ¬ m.relation = 0 by omega), if_neg (show ¬ m.relation = 1 by omega), if_neg (show ¬ m.relation = 2 by omega), if_neg (show ¬ m.relation = 3 by omega)]
  generalize txt1 m = TT at hT ⊢
  rw [h0, hr]
  have s1 := s_fe m.feast
  have s2 := s_wk m.weekday
  have e0 : (9223372036854775807 < 7 + (nameN wkL 0 m.weekday).size) = False := eq_false (by omega)
  have e1 : (9223372036854775807 < 7 + (nameN wkL 0 m.weekday).size + 8) = False := eq_false (by omega)
  have e2 : (9223372036854775807 < 7 + (nameN wkL 0 m.weekday).size + 8 + (nameN feL 0 m.feast).size) = False := eq_false (by omega)
  clear hbd h0 hr s1 s2
  have hA : At w [.int .i64 1, .int .i64 m.number, .int .i64 m.month, .int .i64 m.feast, .int .i64 4, .int .i64 m.weekday, .int .i64 m.style, .string m.king] (w.alloc (.cells #[.int .i64 1, .int .i64 m.number, .int .i64 m.month, .int .i64 m.feast, .int .i64 4, .int .i64 m.weekday, .int .i64 m.style, .string m.king] 31)) := At.start _ _ _
  go_enter Tryz.func46, Tryz.ntmps46
  go_upto_region 12 with (fail)
  generalize w.alloc (.cells #[.int .i64 1, .int .i64 m.number, .int .i64 m.month, .int .i64 m.feast, .int .i64 4, .int .i64 m.weekday, .int .i64 m.style, .string m.king] 31) = W at hA ⊢
  have c3 := hA.cell 3 _ rfl
  have c4 := hA.cell 4 _ rfl
  go_upto_region 20 with (fail)
  clear c3 c4
  have D3 := Later.cell (hA.cell 3 _ rfl) hA.size
  have D5 := Later.cell (hA.cell 5 _ rfl) hA.size
  refine wp_region_later W (by kernel_rfl) (by kernel_rfl) ?_
  repeat (go_big_quiet_step ((first | (go_at_call 24; exact Later.call (Nat.le_refl _) (specWeekdayName_any _ _)) | (go_at_call 109; exact Later.call (Nat.le_refl _) (specFeastName_any _ _)))))
  refine wpQuiet_nil ?_
  intro z
  have hz := z.prop
  generalize z.val = w3 at hz
  clear D3 D5
  go_wp2
  go_ret
  exact ⟨by rw [hT.out]; rfl, stepB hA.below hz hA.below.size⟩
theorem specTxt_any (m : Cl) (w : World) (hok : okCl m = true) :
    Calls Tryz.prog 46 #[.agg #[.int .i64 m.kind, .int .i64 m.number, .int .i64 m.month, .int .i64 m.feast, .int .i64 m.relation, .int .i64 m.weekday, .int .i64 m.style, .string m.king]] w fun e w' => e = .returned (.string (txtB m)) ∧ Below w.heap.size w w' := by
  have hbd := okCl_bd hok
  unfold txtB
  by_cases h0 : m.kind = 0
  · rw [if_pos h0]; exact specTxt0_any m w hok h0
  rw [if_neg h0]
  by_cases h1 : m.kind = 1
  · rw [if_pos h1]
    have hr := hbd.2.2.1 h1
    by_cases r0 : m.relation = 0
    · exact specTxt10_any m w hok h1 r0
    by_cases r1 : m.relation = 1
    · exact specTxt11_any m w hok h1 r1
    by_cases r2 : m.relation = 2
    · exact specTxt12_any m w hok h1 r2
    by_cases r3 : m.relation = 3
    · exact specTxt13_any m w hok h1 r3
    exact specTxt14_any m w hok h1 (by omega)
  rw [if_neg h1]
  by_cases h2 : m.kind = 2
  · rw [if_pos h2]; exact specTxt2_any m w hok h2
  rw [if_neg h2]
  by_cases h3 : m.kind = 3
  · rw [if_pos h3]; exact specTxt3_any m w hok h3
  rw [if_neg h3]
  by_cases h4 : m.kind = 4
  · rw [if_pos h4]; exact specTxt4_any m w hok h4
  rw [if_neg h4]
  exact specTxt5_any m w hok (by omega)
end Go.Proofs.YteajkofgcmfaoaaGreatDoor
