/- Walks: numbers in decimal. Printed by gen_dect.py. -/
import Derived.Test.YteajkofgcmfaoaaGreatDoorBase
import Derived.Test.YteajkofgcmfaoaaGreatDoorPlain
import Derived.Test.YteajkofgcmfaoaaGreatDoorShelf
import Derived.Lib.AppendIntMem
import Derived.Test.YteajkofgcmfaoaaGreatDoorShelf5
import Derived.Test.YteajkofgcmfaoaaGreatDoorBB
namespace Go.Proofs.YteajkofgcmfaoaaGreatDoor
section
open Go.ChangeShapes Go.WideShapes Go.ChangeAt Go.RowKit

theorem l01In_any (n lo hi : Int) (w : World) : Calls Tryz.prog 55 #[.int .i64 n, .int .i64 lo, .int .i64 hi] w fun e w' => e = .returned (.bool (inB n lo hi)) ∧ w = w' := by
  go_enter Tryz.func55, Tryz.ntmps55
  go_wp2
  all_goals go_ret
  all_goals (simp [inB, *]; try omega)
theorem within_any (n lo hi : Int) (w : World) : Calls Tryz.prog 53 #[.int .i64 n, .int .i64 lo, .int .i64 hi] w fun e w' => e = .returned (.bool (inB n lo hi)) ∧ w = w' := by
  go_enter Tryz.func53, Tryz.ntmps53
  go_wp2
  all_goals go_ret
  all_goals (simp [inB, *]; try omega)
theorem l01Day_any (n : Int) (w : World) : Calls Tryz.prog 121 #[.int .i64 n] w fun e w' => e = .returned (.bool (dayB n)) ∧ w = w' := by
  go_enter Tryz.func121, Tryz.ntmps121
  go_wp2_with (go_at_call 55; refine (l01In_any _ _ _ _).mono ?_; rintro e w' ⟨rfl, rfl⟩)
  go_ret
  exact ⟨rfl, rfl⟩
theorem isDay_any (n : Int) (w : World) : Calls Tryz.prog 175 #[.int .i64 n] w fun e w' => e = .returned (.bool (dayB n)) ∧ w = w' := by
  go_enter Tryz.func175, Tryz.ntmps175
  go_wp2_with (go_at_call 53; refine (within_any _ _ _ _).mono ?_; rintro e w' ⟨rfl, rfl⟩)
  go_ret
  exact ⟨rfl, rfl⟩
theorem isSmall_any (s : ByteArray) (most : Int) (w : World) (hs : s.size ≤ 9223372036854775807) :
    Calls Tryz.prog 61 #[.string s, .int .i64 most] w fun e w' => e = .returned (.bool (nameB s.data.toList most)) ∧ Below w.heap.size w w' := by
  have hcon := Any.strings_Trim_laid Tryz.lays160 (by kernel_rfl) s ⟨letters.toArray⟩ w hs (by decide) (Proofs.ascii_of_all (by decide))
  have ht := trimS_low s.data.toList
  change Calls Tryz.prog 119 _ _ (fun e w' => e = .returned (.string ⟨(Lib.trimS s.data.toList letters).toArray⟩) ∧ Below w.heap.size w w') at hcon
  have he : (⟨(Lib.trimS s.data.toList letters).toArray⟩ : ByteArray).toList = Lib.trimS s.data.toList letters := by rw [Lib.toList_data]
  have h2 : (Lib.trimS s.data.toList letters).isEmpty = allLow s.data.toList := trimS_low _
  generalize (⟨(Lib.trimS s.data.toList letters).toArray⟩ : ByteArray) = r at hcon he
  rw [← he] at h2
  clear he ht
  by_cases h3 : 1 ≤ (s.size : Int) <;> by_cases h4 : (s.size : Int) ≤ most
  all_goals
    go_enter Tryz.func61, Tryz.ntmps61
    go_wp2_with (go_at_call 119; refine hcon.mono ?_; rintro e w' ⟨rfl, hB⟩)
    all_goals go_ret
    all_goals refine ⟨?_, by first | exact Below.refl _ _ | assumption⟩
    all_goals
      have e0 : (s.data.toList.length : Int) = s.size := by rw [Lib.size_eq]
      simp only [nameB, e0]
      simp [*]
      try omega

set_option maxHeartbeats 400000 in
theorem l01Name_any (s : ByteArray) (most : Int) (w : World) (hs : s.size ≤ 9223372036854775807) :
    Calls Tryz.prog 102 #[.string s, .int .i64 most] w fun e w' => e = .returned (.bool (nameB s.data.toList most)) ∧ Below w.heap.size w w' := by
  go_enter Tryz.func102, Tryz.ntmps102
  go_wp2
  go_loop [5] (fun i => ∃ k : Nat, k ≤ s.size ∧ i = .int .i64 k ∧ allLow (s.data.toList.take k) = true) (fun i => s.size - (intOf i).toNat)
  case atStart => exact ⟨0, Nat.zero_le _, rfl, rfl⟩
  case round =>
    obtain ⟨k, hk, rfl, hA⟩ := hrel
    have HA := Lib.hid hA; clear hA
    by_cases hlt : k < s.size
    · have H1 := Lib.hid (take_snoc s k hlt)
      have H2 := Lib.hid (allLow_snoc (s.data.toList.take k) s[k])
      have H3 : Hid (allLow s.data.toList = true → lowB s[k] = true) := fun h => by
        have := List.all_eq_true.1 h s[k] (Array.getElem_mem_toList _)
        exact this
      by_cases h1 : (s[k].toNat : Int) < 97
      · go_wp2
        go_ret
        refine ⟨?_, Below.refl _ _⟩
        have : allLow s.data.toList = false := by
          cases h : allLow s.data.toList with
          | false => rfl
          | true => have := H3.out h; simp [lowB] at this; omega
        simp [nameB, this]
      · by_cases h2 : 122 < (s[k].toNat : Int)
        · go_wp2
          go_ret
          refine ⟨?_, Below.refl _ _⟩
          have : allLow s.data.toList = false := by
            cases h : allLow s.data.toList with
            | false => rfl
            | true => have := H3.out h; simp [lowB] at this; omega
          simp [nameB, this]
        · go_wp2
          go_round
          case rel =>
            refine ⟨k + 1, by omega, by go_num, ?_⟩
            rw [H1.out, H2.out, HA.out]
            simp [lowB]; omega
          case measure => simp [intOf]; omega
    · have e1 : s.data.toList.take k = s.data.toList := List.take_of_length_le (by rw [← Lib.size_eq]; omega)
      have HA' := Lib.hid (e1 ▸ HA.out)
      clear e1 HA
      by_cases h3 : 1 ≤ (s.size : Int) <;> by_cases h4 : (s.size : Int) ≤ most
      all_goals
        go_wp2
        go_ret
        refine ⟨?_, Below.refl _ _⟩
        have e0 : (s.data.toList.length : Int) = s.size := by rw [Lib.size_eq]
        simp only [nameB, e0, HA'.out]
        simp [*]
        try omega
end

section
open Go.ChangeShapes Go.WideShapes Go.ChangeAt Go.RowKit
theorem byte_text {P : Program} (src dst e : TypeId) (hs : P.underlying src = some (.slice e)) (he : P.underlying e = some (.int .u8)) (hd : P.underlying dst = some .string) (W : World) (v : Int) :
    (convert src dst (.slice (some ⟨W.heap.size, 0, none⟩) 1 1)).run P (W.alloc (.cells #[.int .u8 v] e)) = .ok (.string ⟨#[UInt8.ofNat v.toNat]⟩) (W.alloc (.cells #[.int .u8 v] e)) := by
  rw [run_convert_bytes_string _ src dst e _ _ _ hs he hd]
  have := run_bytesToString (P := P) (W.alloc (.cells #[.int .u8 v] e)) ⟨W.heap.size, 0, none⟩ 1 1 [v] (by simp [go_sem, loadCells, loadCellsFrom])
  rw [this]
  rfl
end

section
open Go.ChangeShapes Go.WideShapes Go.ChangeAt Go.RowKit Go.IntWalk

def decB (n : Int) : ByteArray := ⟨(Lib.itoa n).toArray⟩
theorem grow_below (w : World) (k : Nat) (os : Array Obj) : Below w.heap.size w (Sort.grow (w.drewN k) os) :=
  ⟨rfl, rfl, rfl, by show w.heap.size ≤ (w.heap ++ os).size; rw [Array.size_append]; omega, fun j hj => by
    show (w.heap ++ os)[j]? = w.heap[j]?
    rw [Array.getElem?_append_left hj]⟩
theorem decimal_any (n : Int) (h0 : 0 ≤ n) (h1 : n ≤ 1000000000000) (w : World) (ht : Lib.TabIs Tryz.prog w "internal/strconv.uint64pow10" .u64 Lib.pow10Tab) :
    Calls Tryz.prog 97 #[.int .i64 n] w fun e w' => e = .returned (.string (decB n)) ∧ Below w.heap.size w w' := by
  have HF := Lib.hid (Tryz.strconv_FormatInt_10 n (by omega) (by omega) w ht)
  clear ht
  go_enter Tryz.func97, Tryz.ntmps97
  go_wp2_with (go_at_call 152; refine HF.out.mono ?_; rintro e w' ⟨rfl, k, os, rfl⟩)
  go_ret
  exact ⟨rfl, grow_below _ _ _⟩
theorem byte_text_at {P : Program} (src dst e : TypeId) (hs : P.underlying src = some (.slice e)) (he : P.underlying e = some (.int .u8)) (hd : P.underlying dst = some .string) (W : World) (b : Nat) (v : Int) (h : W.cell? ⟨b, 0, none⟩ = some (.int .u8 v)) :
    (convert src dst (.slice (some ⟨b, 0, none⟩) 1 1)).run P W = .ok (.string ⟨#[UInt8.ofNat v.toNat]⟩) W := by
  rw [run_convert_bytes_string _ src dst e _ _ _ hs he hd]
  have := run_bytesToString (P := P) W ⟨b, 0, none⟩ 1 1 [v] (by simp [go_sem, loadCells, loadCellsFrom, h])
  rw [this]
  rfl
theorem decB_small {n : Nat} (h : n < 10) : decB n = ⟨#[UInt8.ofNat (48 + n)]⟩ := by
  unfold decB
  rw [Lib.itoa_nonneg, Lib.decDigits_one h]
theorem decB_big {n : Nat} (h : ¬ n < 10) : decB n = decB ((n / 10 : Nat) : Int) ++ ⟨#[UInt8.ofNat (48 + n % 10)]⟩ := by
  unfold decB
  rw [Lib.itoa_nonneg, Lib.itoa_nonneg, Lib.decDigits, dif_neg h]
  rw [ByteArray.mk_append_mk]
theorem digits_len (u : Nat) : (Lib.decDigits u).length ≤ u + 1 := by
  induction u using Nat.strongRecOn with
  | _ u ih =>
    rw [Lib.decDigits]
    split
    · simp
    · have := ih (u / 10) (by omega)
      simp
      omega
theorem decB_size (n : Nat) : (decB (n : Int)).size ≤ n + 1 := by
  unfold decB
  rw [Lib.itoa_nonneg]
  exact digits_len n
set_option maxRecDepth 100000 in
set_option maxHeartbeats 2000000 in
theorem l01Dec_any : ∀ (n : Nat), n ≤ 1000000000 → ∀ w : World,
    Calls Tryz.prog 52 #[.int .i64 n] w fun e w' => e = .returned (.string (decB n)) ∧ Below w.heap.size w w' := by
  intro n
  induction n using Nat.strongRecOn with
  | _ n ih =>
    intro hn w
    by_cases h10 : n < 10
    · have hR := Lib.hid (decB_small h10)
      have hlt : (n : Int) < 10 := by omega
      have hcv := byte_text (P := Tryz.prog) 28 9 5 Tryz.underlying28 Tryz.underlying5 Tryz.underlying9 w (48 + (n : Int))
      have hw8 : IntKind.u8.wrap (48 + (n : Int)) = 48 + (n : Int) := by rw [IntKind.wrap_u8]; omega
      have hv8 : UInt8.ofNat (48 + (n : Int)).toNat = UInt8.ofNat (48 + n) := by congr 1
      have HV := Lib.hid hv8
      clear hv8
      go_enter Tryz.func52, Tryz.ntmps52
      go_wp2
      go_ret
      refine ⟨?_, (Below.refl _ _).alloc (Nat.le_refl _) _⟩
      rw [hR.out, ← HV.out]
      rfl
    · have hR := Lib.hid (decB_big h10)
      have hlt : decide ((n : Int) < 10) = false := by simp; omega
      have HI0 := Lib.hid (fun W => ih (n / 10) (by omega) (by omega) W)
      obtain ⟨q, hq⟩ : ∃ q : Nat, n / 10 = q := ⟨_, rfl⟩
      obtain ⟨r, hr⟩ : ∃ r : Nat, n % 10 = r := ⟨_, rfl⟩
      have HI : Hid (∀ W, Calls Tryz.prog 52 #[.int .i64 (q : Int)] W fun e w' => e = .returned (.string (decB q)) ∧ Below W.heap.size W w') := by rw [← hq]; exact HI0.out
      rw [hq, hr] at hR
      have v1 : IntKind.i64.wrap ((n : Int) / 10) = (q : Int) := by rw [IntKind.wrap_i64]; omega
      have v2 : (n : Int).tmod 10 = (r : Int) := by rw [Int.tmod_eq_emod_of_nonneg (by omega)]; omega
      have v3 := i64_in (48 + (r : Int)) (by omega)
      have hw8 : IntKind.u8.wrap (48 + (r : Int)) = 48 + (r : Int) := by rw [IntKind.wrap_u8]; omega
      have hv8 : UInt8.ofNat (48 + (r : Int)).toNat = UInt8.ofNat (48 + r) := by congr 1
      have HV := Lib.hid hv8
      have HCV := Lib.hid (fun W b h => byte_text_at (P := Tryz.prog) 28 9 5 Tryz.underlying28 Tryz.underlying5 Tryz.underlying9 W b (48 + (r : Int)) h)
      have hsz := decB_size q
      have hsz2 : (9223372036854775807 < (decB (q : Int)).size + 1) = False := eq_false (by omega)
      clear HI0 hq hr hsz
      clear hv8 ih h10
      go_enter Tryz.func52, Tryz.ntmps52
      go_upto_region 3 with (fail)
      refine MAny.region (S := fun _ => True) (last := 10) (by kernel_rfl) ?_
      have hB := (Below.refl w.heap.size w).drew
      generalize w.drew = W0 at hB ⊢
      have hHeld := True.intro
      refine MAny.take (i := 0) (v := ?_) rfl (by kernel_rfl) (by kernel_rfl) (by kernel_rfl) (fun _ _ _ h => h) (by kernel_rfl) (Or.inl ⟨by rfl, ?_⟩) (by assumption) ?_
      rotate_left
      · (intro w' hSw; (try dsimp only at hSw); go_simp; try (with_reducible rfl))
      try simp only [Act.put, List.setIfInBounds_toArray]
      refine MAny.take (i := 1) (v := ?_) rfl (by kernel_rfl) (by kernel_rfl) (by kernel_rfl) (fun _ _ _ h => h) (by kernel_rfl) (Or.inl ⟨by rfl, ?_⟩) (by assumption) ?_
      rotate_left
      · (intro w' hSw; (try dsimp only at hSw); go_simp; try (with_reducible rfl))
      try simp only [Act.put]
      refine MAny.take (i := 3) (v := ?_) rfl (by kernel_rfl) (by kernel_rfl) (by kernel_rfl) (fun _ _ _ h => h) (by kernel_rfl) (Or.inl ⟨by rfl, ?_⟩) (by assumption) ?_
      rotate_left
      · (intro w' hSw; (try dsimp only at hSw); go_simp; try (with_reducible rfl))
      try simp only [Act.put]
      refine MAny.take (i := 4) (v := ?_) rfl (by kernel_rfl) (by kernel_rfl) (by kernel_rfl) (fun _ _ _ h => h) (by kernel_rfl) (Or.inl ⟨by rfl, ?_⟩) (by assumption) ?_
      rotate_left
      · (intro w' hSw; (try dsimp only at hSw); go_simp; try (with_reducible rfl))
      try simp only [Act.put]
      refine MAny.take (i := 5) (v := ?_) rfl (by kernel_rfl) (by kernel_rfl) (by kernel_rfl) (fun _ _ _ h => h) (by kernel_rfl) (Or.inl ⟨by rfl, ?_⟩) (by assumption) ?_
      rotate_left
      · (intro w' hSw; (try dsimp only at hSw); go_simp; try (with_reducible rfl))
      try simp only [Act.put]
      refine MAny.take (i := 6) (v := ?_) rfl (by kernel_rfl) (by kernel_rfl) (by kernel_rfl) (fun _ _ _ h => h) (by kernel_rfl) (Or.inl ⟨by rfl, ?_⟩) (by assumption) ?_
      rotate_left
      · (intro w' hSw; (try dsimp only at hSw); go_simp; try (with_reducible rfl))
      try simp only [Act.put]
      refine MAny.ready (rs := [2, 7]) (by kernel_rfl) (by simp) ?_
      refine MReady.cons rfl (fun K hK => ?_) (MReady.cons rfl (fun K hK => ?_) MReady.nil)
      · go_simp
        go_wp2_with (go_at_call 52; refine (HI.out W0).mono ?_; rintro e Wa ⟨rfl, hB1⟩)
        replace hB := stepB hB hB1 hB.size
        clear hB1
        refine hK.out _ _ (.inr hHeld) ?_
        clear hK K
        refine MAny.ready (rs := [7]) (by kernel_rfl) (by simp) ?_
        refine MReady.cons rfl (fun K hK => ?_) MReady.nil
        go_simp
        have xb := Box.new Wa 5 [.int .u8 (48 + (r : Int))] w.heap.size hB.size (by simp)
        have hz : Below Wa.heap.size Wa (Wa.alloc (.cells #[.int .u8 (48 + (r : Int))] 5)) := (Below.refl _ _).alloc (Nat.le_refl _) _
        replace hB := stepB hB hz hB.size
        change Box _ (Wa.alloc (.cells #[.int .u8 (48 + (r : Int))] 5)) _ _ _ at xb
        generalize Wa.alloc (.cells #[.int .u8 (48 + (r : Int))] 5) = Wb at xb hB ⊢
        generalize Wa.heap.size = xg at xb ⊢
        clear hz
        refine hK.out _ _ (.inr hHeld) ?_
        clear hK K
        refine MAny.ready (rs := [8]) (by kernel_rfl) (by simp) ?_
        refine MReady.cons rfl (fun K hK => ?_) MReady.nil
        have hcv := HCV.out Wb xg (Box.cell xb 0 _ rfl)
        go_simp
        refine hK.out _ _ (.inr hHeld) ?_
        clear hK K
        refine MAny.take (i := 9) (v := ?_) rfl (by kernel_rfl) (by kernel_rfl) (by kernel_rfl) (fun _ _ _ h => h) (by kernel_rfl) (Or.inl ⟨by rfl, ?_⟩) (by assumption) ?_
        rotate_left
        · (intro w' hSw; (try dsimp only at hSw); go_simp; try (with_reducible rfl))
        try simp only [Act.put, List.setIfInBounds_toArray]
        refine MAny.ready (rs := [10]) (by kernel_rfl) (by simp) ?_
        refine MReady.cons rfl (fun K hK => ?_) MReady.nil
        go_simp
        refine hK.out _ _ (.inl rfl) ?_
        clear hK K
        refine MAny.done (by kernel_rfl) ?_ _
        try simp only [List.getElem_toArray, List.getElem_cons_succ, List.getElem_cons_zero]
        go_wp2
        go_ret
        exact ⟨by rw [hR.out, ← HV.out]; rfl, hB⟩
      · go_simp
        have xb := Box.new W0 5 [.int .u8 (48 + (r : Int))] w.heap.size hB.size (by simp)
        have hz : Below W0.heap.size W0 (W0.alloc (.cells #[.int .u8 (48 + (r : Int))] 5)) := (Below.refl _ _).alloc (Nat.le_refl _) _
        replace hB := stepB hB hz hB.size
        change Box _ (W0.alloc (.cells #[.int .u8 (48 + (r : Int))] 5)) _ _ _ at xb
        generalize W0.alloc (.cells #[.int .u8 (48 + (r : Int))] 5) = Wa at xb hB ⊢
        generalize W0.heap.size = xg at xb ⊢
        clear hz
        refine hK.out _ _ (.inr hHeld) ?_
        clear hK K
        refine MAny.ready (rs := [2, 8]) (by kernel_rfl) (by simp) ?_
        refine MReady.cons rfl (fun K hK => ?_) (MReady.cons rfl (fun K hK => ?_) MReady.nil)
        · go_simp
          go_wp2_with (go_at_call 52; refine (HI.out Wa).mono ?_; rintro e Wb ⟨rfl, hB1⟩)
          replace xb := Box.below xb hB1
          replace hB := stepB hB hB1 hB.size
          clear hB1
          refine hK.out _ _ (.inr hHeld) ?_
          clear hK K
          refine MAny.ready (rs := [8]) (by kernel_rfl) (by simp) ?_
          refine MReady.cons rfl (fun K hK => ?_) MReady.nil
          have hcv := HCV.out Wb xg (Box.cell xb 0 _ rfl)
          go_simp
          refine hK.out _ _ (.inr hHeld) ?_
          clear hK K
          refine MAny.take (i := 9) (v := ?_) rfl (by kernel_rfl) (by kernel_rfl) (by kernel_rfl) (fun _ _ _ h => h) (by kernel_rfl) (Or.inl ⟨by rfl, ?_⟩) (by assumption) ?_
          rotate_left
          · (intro w' hSw; (try dsimp only at hSw); go_simp; try (with_reducible rfl))
          try simp only [Act.put, List.setIfInBounds_toArray]
          refine MAny.ready (rs := [10]) (by kernel_rfl) (by simp) ?_
          refine MReady.cons rfl (fun K hK => ?_) MReady.nil
          go_simp
          refine hK.out _ _ (.inl rfl) ?_
          clear hK K
          refine MAny.done (by kernel_rfl) ?_ _
          try simp only [List.getElem_toArray, List.getElem_cons_succ, List.getElem_cons_zero]
          go_wp2
          go_ret
          exact ⟨by rw [hR.out, ← HV.out]; rfl, hB⟩
        · have hcv := HCV.out Wa xg (Box.cell xb 0 _ rfl)
          go_simp
          refine hK.out _ _ (.inr hHeld) ?_
          clear hK K
          refine MAny.ready (rs := [2]) (by kernel_rfl) (by simp) ?_
          refine MReady.cons rfl (fun K hK => ?_) MReady.nil
          go_simp
          go_wp2_with (go_at_call 52; refine (HI.out Wa).mono ?_; rintro e Wb ⟨rfl, hB1⟩)
          replace xb := Box.below xb hB1
          replace hB := stepB hB hB1 hB.size
          clear hB1
          refine hK.out _ _ (.inr hHeld) ?_
          clear hK K
          refine MAny.take (i := 9) (v := ?_) rfl (by kernel_rfl) (by kernel_rfl) (by kernel_rfl) (fun _ _ _ h => h) (by kernel_rfl) (Or.inl ⟨by rfl, ?_⟩) (by assumption) ?_
          rotate_left
          · (intro w' hSw; (try dsimp only at hSw); go_simp; try (with_reducible rfl))
          try simp only [Act.put, List.setIfInBounds_toArray]
          refine MAny.ready (rs := [10]) (by kernel_rfl) (by simp) ?_
          refine MReady.cons rfl (fun K hK => ?_) MReady.nil
          go_simp
          refine hK.out _ _ (.inl rfl) ?_
          clear hK K
          refine MAny.done (by kernel_rfl) ?_ _
          try simp only [List.getElem_toArray, List.getElem_cons_succ, List.getElem_cons_zero]
          go_wp2
          go_ret
          exact ⟨by rw [hR.out, ← HV.out]; rfl, hB⟩
end
end Go.Proofs.YteajkofgcmfaoaaGreatDoor
