/- Walk: the law FnClauses. Printed by gen_clslaw.py. -/
import Derived.Test.YteajkofgcmfaoaaGreatDoorDr1
import Derived.Test.YteajkofgcmfaoaaGreatDoorRd1
import Derived.Test.YteajkofgcmfaoaaGreatDoorRdF
import Derived.Deep.CutRange
import Derived.Deep.CutBlock
import Derived.Lib.EndianBits
import Derived.Laws.BitsLemmas
namespace Go.Proofs.YteajkofgcmfaoaaGreatDoor
section
open Go.ChangeShapes Go.WideShapes Go.ChangeAt Go.RowKit Go.IntWalk

def dmC : Array Value := #[.string ⟨#[48]⟩, .string ⟨#[49]⟩, .string ⟨#[32]⟩, .string ⟨#[45]⟩, .string ⟨#[44]⟩, .string ⟨#[118]⟩, .string ⟨#[10]⟩, .string ⟨#[97]⟩]
theorem dmC_at {r : Nat} (h : r < 8) : ∃ x : ByteArray, dmC[r]? = some (.string x) ∧ x.size = 1 := by
  match r, h with
  | 0, _ => exact ⟨_, rfl, rfl⟩
  | 1, _ => exact ⟨_, rfl, rfl⟩
  | 2, _ => exact ⟨_, rfl, rfl⟩
  | 3, _ => exact ⟨_, rfl, rfl⟩
  | 4, _ => exact ⟨_, rfl, rfl⟩
  | 5, _ => exact ⟨_, rfl, rfl⟩
  | 6, _ => exact ⟨_, rfl, rfl⟩
  | 7, _ => exact ⟨_, rfl, rfl⟩
set_option maxRecDepth 100000 in
set_option maxHeartbeats 4000000 in
theorem l01Damage_any (w0 : World) (cs : Option Addr) (cap : Nat) (bs : List Int) (p : Nat) (t : ByteArray) (w : World) (hx : Rd encB w0 cs bs) (hb : ∀ m ∈ bs, goodB m) (hl : bs.length ≤ 4096) (ht : t.size ≤ 900000) (hs : Src w0 cs cap bs p w) :
    Calls Tryz.prog 50 #[.pointer (some ⟨p, 0, none⟩), .string t] w fun e w' => ∃ u : ByteArray, e = .returned (.string u) ∧ u.size ≤ t.size + 1 ∧ Src w0 cs cap bs p w' ∧ w.grownBy w' (some p) := by
  have D := Drw.start hs
  have HN := Lib.hid (fun n W hn1 hn2 hs => l01Next_any w0 cs cap bs p n W hx hb hl hn1 hn2 hs)
  have v0 : IntKind.i64.wrap ((t.size : Int) + 1) = (t.size : Int) + 1 := by rw [IntKind.wrap_i64]; omega
  go_enter Tryz.func50, Tryz.ntmps50
  go_wp2_with fail
  refine (HN.out ((t.size : Int) + 1) _ (by omega) (by omega) D.src).mono ?_
  rintro e w1 ⟨r1, rfl, hr0, hr1, hs2, hG⟩
  replace D := D.call hs2 hG
  clear hs2 hG v0
  obtain ⟨k, rfl⟩ := Int.eq_ofNat_of_zero_le hr0
  have hk : k ≤ t.size := by omega
  clear hr0 hr1
  go_wp2_with fail
  refine (HN.out 8 _ (by omega) (by omega) D.src).mono ?_
  rintro e w2 ⟨r2, rfl, hq0, hq1, hs2, hG⟩
  replace D := D.call hs2 hG
  clear hs2 hG
  have b1 : (0 : Int) ≤ (k : Int) := by omega
  have b2 : (k : Int) ≤ (t.size : Int) := by omega
  have z1 : (t.extract 0 k).size = k := by rw [ByteArray.size_extract]; omega
  have z2 : (t.extract k t.size).size = t.size - k := by rw [ByteArray.size_extract]; omega
  by_cases c0 : r2 = 0
  · subst c0
    go_wp2
    go_ret
    exact ⟨_, rfl, by rw [z1]; omega, D.src, D.gr⟩
  have g0 : (r2 == 0) = false := by simpa using c0
  by_cases c1 : r2 = 1
  · subst c1
    clear g0 c0
    go_upto_region 6 with (fail)
    refine MAny.region (S := fun _ => True) (last := 13) (by kernel_rfl) ?_
    have hHeld := True.intro
    have D0 := D.below ((Below.refl _ w2).drew)
    clear D
    have D := D0
    clear D0
    generalize w2.drew = W0 at D ⊢
    refine MAny.take (i := 0) (v := ?_) rfl (by kernel_rfl) (by kernel_rfl) (by kernel_rfl) (fun _ _ _ h => h) (by kernel_rfl) (Or.inl ⟨by rfl, ?_⟩) (by assumption) ?_
    rotate_left
    · (intro w' hSw; (try dsimp only at hSw); go_simp; try (with_reducible rfl))
    try simp only [Act.put, List.setIfInBounds_toArray]
    refine MAny.take (i := 1) (v := ?_) rfl (by kernel_rfl) (by kernel_rfl) (by kernel_rfl) (fun _ _ _ h => h) (by kernel_rfl) (Or.inl ⟨by rfl, ?_⟩) (by assumption) ?_
    rotate_left
    · (intro w' hSw; (try dsimp only at hSw); go_simp; try (with_reducible rfl))
    try simp only [Act.put]
    refine MAny.take (i := 2) (v := ?_) rfl (by kernel_rfl) (by kernel_rfl) (by kernel_rfl) (fun _ _ _ h => h) (by kernel_rfl) (Or.inl ⟨by rfl, ?_⟩) (by assumption) ?_
    rotate_left
    · (intro w' hSw; (try dsimp only at hSw); go_simp; try (with_reducible rfl))
    try simp only [Act.put]
    refine MAny.take (i := 4) (v := ?_) rfl (by kernel_rfl) (by kernel_rfl) (by kernel_rfl) (fun _ _ _ h => h) (by kernel_rfl) (Or.inl ⟨by rfl, ?_⟩) (by assumption) ?_
    rotate_left
    · (intro w' hSw; (try dsimp only at hSw); go_simp; try (with_reducible rfl))
    try simp only [Act.put]
    refine MAny.take (i := 9) (v := ?_) rfl (by kernel_rfl) (by kernel_rfl) (by kernel_rfl) (fun _ _ _ h => h) (by kernel_rfl) (Or.inl ⟨by rfl, ?_⟩) (by assumption) ?_
    rotate_left
    · (intro w' hSw; (try dsimp only at hSw); go_simp; try (with_reducible rfl))
    try simp only [Act.put]
    refine MAny.take (i := 10) (v := ?_) rfl (by kernel_rfl) (by kernel_rfl) (by kernel_rfl) (fun _ _ _ h => h) (by kernel_rfl) (Or.inl ⟨by rfl, ?_⟩) (by assumption) ?_
    rotate_left
    · (intro w' hSw; (try dsimp only at hSw); go_simp; try (with_reducible rfl))
    try simp only [Act.put]
    refine MAny.take (i := 11) (v := ?_) rfl (by kernel_rfl) (by kernel_rfl) (by kernel_rfl) (fun _ _ _ h => h) (by kernel_rfl) (Or.inl ⟨by rfl, ?_⟩) (by assumption) ?_
    rotate_left
    · (intro w' hSw; (try dsimp only at hSw); go_simp; try (with_reducible rfl))
    try simp only [Act.put]
    refine MAny.ready (rs := [3, 5]) (by kernel_rfl) (by simp) ?_
    refine MReady.cons rfl (fun K hK => ?_) (MReady.cons rfl (fun K hK => ?_) MReady.nil)
    · go_simp
      refine hK.out _ _ (.inr trivial) ?_
      clear hK K
      obtain ⟨N, hN⟩ : ∃ N, W0.heap.size = N := ⟨_, rfl⟩
      have hNp : N ≠ p := by have := D.src.lt; omega
      have hzA : Below W0.heap.size W0 (W0.alloc (.cells dmC 9)) := (Below.refl _ _).alloc (Nat.le_refl _) _
      have cA : ∀ j x, dmC[j]? = some x → (W0.alloc (.cells dmC 9)).cell? ⟨N, j, none⟩ = some x := fun j x h => by rw [← hN, World.cell?_alloc_at _ _ _ _ rfl]; exact h
      have hNl : N < (W0.alloc (.cells dmC 9)).heap.size := by rw [← hN]; simp
      replace D := D.below hzA
      change MAny _ _ _ _ _ _ _ _ _ (W0.alloc (.cells dmC 9))
      generalize W0.alloc (.cells dmC 9) = W1 at D cA hNl ⊢
      clear hzA
      try rw [hN]
      refine MAny.ready (rs := [5]) (by kernel_rfl) (by simp) ?_
      refine MReady.cons rfl (fun K hK => ?_) MReady.nil
      go_simp
      go_wp2_with (go_at_call 47; refine (HN.out 8 _ (by omega) (by omega) D.src).mono ?_; rintro e W3 ⟨r3, rfl, hu0, hu1, hs2, hG⟩)
      replace D := D.call hs2 hG
      obtain ⟨j, rfl⟩ := Int.eq_ofNat_of_zero_le hu0
      have hj : j < 8 := by omega
      obtain ⟨x, hxc, hx1⟩ := dmC_at hj
      have cx : W3.cell? ⟨N, j, none⟩ = some (.string x) := (gcell hG (p := ⟨N, j, none⟩) hNl (fun g e => by cases e; exact hNp)).trans (cA j _ hxc)
      have j1 : (j : Int) < 8 := by omega
      refine hK.out _ _ (.inr trivial) ?_
      clear hK K
      clear hs2 hG cA
      have e1 : (9223372036854775807 < (t.extract 0 k).size + x.size) = False := eq_false (by omega)
      have e2 : (9223372036854775807 < (t.extract 0 k).size + x.size + (t.extract k t.size).size) = False := eq_false (by omega)
      have e3 : (9223372036854775807 < k + x.size) = False := eq_false (by omega)
      have e4 : (9223372036854775807 < k + x.size + (t.size - k)) = False := eq_false (by omega)
      replace z1 := Lib.hid z1
      replace z2 := Lib.hid z2
      replace hx1 := Lib.hid hx1
      refine MAny.ready (rs := [6]) (by kernel_rfl) (by simp) ?_
      refine MReady.cons rfl (fun K hK => ?_) MReady.nil
      go_simp
      refine hK.out _ _ (.inr trivial) ?_
      clear hK K
      refine MAny.ready (rs := [7]) (by kernel_rfl) (by simp) ?_
      refine MReady.cons rfl (fun K hK => ?_) MReady.nil
      go_simp
      refine hK.out _ _ (.inr trivial) ?_
      clear hK K
      refine MAny.ready (rs := [8]) (by kernel_rfl) (by simp) ?_
      refine MReady.cons rfl (fun K hK => ?_) MReady.nil
      go_simp
      go_wp2
      refine hK.out _ _ (.inr trivial) ?_
      clear hK K
      refine MAny.ready (rs := [12]) (by kernel_rfl) (by simp) ?_
      refine MReady.cons rfl (fun K hK => ?_) MReady.nil
      go_simp
      go_wp2
      refine hK.out _ _ (.inr trivial) ?_
      clear hK K
      refine MAny.ready (rs := [13]) (by kernel_rfl) (by simp) ?_
      refine MReady.cons rfl (fun K hK => ?_) MReady.nil
      go_simp
      refine hK.out _ _ (.inl rfl) ?_
      clear hK K
      refine MAny.done (by kernel_rfl) ?_ _
      try simp only [List.getElem_toArray, List.getElem_cons_succ, List.getElem_cons_zero]
      go_wp2
      go_ret
      exact ⟨_, rfl, by rw [ByteArray.size_append, ByteArray.size_append, z1.out, z2.out, hx1.out]; omega, D.src, D.gr⟩
    · go_simp
      go_wp2_with (go_at_call 47; refine (HN.out 8 _ (by omega) (by omega) D.src).mono ?_; rintro e W3 ⟨r3, rfl, hu0, hu1, hs2, hG⟩)
      replace D := D.call hs2 hG
      clear hs2 hG
      refine hK.out _ _ (.inr trivial) ?_
      clear hK K
      obtain ⟨N, hN⟩ : ∃ N, W3.heap.size = N := ⟨_, rfl⟩
      refine MAny.ready (rs := [3]) (by kernel_rfl) (by simp) ?_
      refine MReady.cons rfl (fun K hK => ?_) MReady.nil
      go_simp
      refine hK.out _ _ (.inr trivial) ?_
      clear hK K
      have hzA : Below W3.heap.size W3 (W3.alloc (.cells dmC 9)) := (Below.refl _ _).alloc (Nat.le_refl _) _
      have cA : ∀ j x, dmC[j]? = some x → (W3.alloc (.cells dmC 9)).cell? ⟨N, j, none⟩ = some x := fun j x h => by rw [← hN, World.cell?_alloc_at _ _ _ _ rfl]; exact h
      replace D := D.below hzA
      change MAny _ _ _ _ _ _ _ _ _ (W3.alloc (.cells dmC 9))
      generalize W3.alloc (.cells dmC 9) = W1 at D cA ⊢
      clear hzA
      try rw [hN]
      obtain ⟨j, rfl⟩ := Int.eq_ofNat_of_zero_le hu0
      have hj : j < 8 := by omega
      obtain ⟨x, hxc, hx1⟩ := dmC_at hj
      have cx : W1.cell? ⟨N, j, none⟩ = some (.string x) := cA j _ hxc
      have j1 : (j : Int) < 8 := by omega
      clear cA
      have e1 : (9223372036854775807 < (t.extract 0 k).size + x.size) = False := eq_false (by omega)
      have e2 : (9223372036854775807 < (t.extract 0 k).size + x.size + (t.extract k t.size).size) = False := eq_false (by omega)
      have e3 : (9223372036854775807 < k + x.size) = False := eq_false (by omega)
      have e4 : (9223372036854775807 < k + x.size + (t.size - k)) = False := eq_false (by omega)
      replace z1 := Lib.hid z1
      replace z2 := Lib.hid z2
      replace hx1 := Lib.hid hx1
      refine MAny.ready (rs := [6]) (by kernel_rfl) (by simp) ?_
      refine MReady.cons rfl (fun K hK => ?_) MReady.nil
      go_simp
      refine hK.out _ _ (.inr trivial) ?_
      clear hK K
      refine MAny.ready (rs := [7]) (by kernel_rfl) (by simp) ?_
      refine MReady.cons rfl (fun K hK => ?_) MReady.nil
      go_simp
      refine hK.out _ _ (.inr trivial) ?_
      clear hK K
      refine MAny.ready (rs := [8]) (by kernel_rfl) (by simp) ?_
      refine MReady.cons rfl (fun K hK => ?_) MReady.nil
      go_simp
      go_wp2
      refine hK.out _ _ (.inr trivial) ?_
      clear hK K
      refine MAny.ready (rs := [12]) (by kernel_rfl) (by simp) ?_
      refine MReady.cons rfl (fun K hK => ?_) MReady.nil
      go_simp
      go_wp2
      refine hK.out _ _ (.inr trivial) ?_
      clear hK K
      refine MAny.ready (rs := [13]) (by kernel_rfl) (by simp) ?_
      refine MReady.cons rfl (fun K hK => ?_) MReady.nil
      go_simp
      refine hK.out _ _ (.inl rfl) ?_
      clear hK K
      refine MAny.done (by kernel_rfl) ?_ _
      try simp only [List.getElem_toArray, List.getElem_cons_succ, List.getElem_cons_zero]
      go_wp2
      go_ret
      exact ⟨_, rfl, by rw [ByteArray.size_append, ByteArray.size_append, z1.out, z2.out, hx1.out]; omega, D.src, D.gr⟩
  have g1 : (r2 == 1) = false := by simpa using c1
  by_cases c2 : r2 = 2
  · subst c2
    clear g0 g1 c0 c1
    by_cases hlt : k < t.size
    · have hk1 : (k : Int) < (t.size : Int) := by omega
      have v1 : IntKind.i64.wrap ((k : Int) + 1) = ((k + 1 : Nat) : Int) := by rw [IntKind.wrap_i64]; omega
      have b3 : ((k + 1 : Nat) : Int) ≤ (t.size : Int) := by omega
      have z3 : (t.extract (k + 1) t.size).size = t.size - (k + 1) := by rw [ByteArray.size_extract]; omega
      have e1 : (9223372036854775807 < (t.extract 0 k).size + (t.extract (k + 1) t.size).size) = False := eq_false (by omega)
      go_upto_region 9 with (fail)
      refine wp_region_later w2 (by kernel_rfl) (by kernel_rfl) ?_
      repeat (go_big_quiet_step (fail))
      refine wpQuiet_nil ?_
      intro z
      have hz := z.prop
      generalize z.val = w3 at hz
      replace D := D.below hz
      go_wp2
      go_ret
      exact ⟨_, rfl, by rw [ByteArray.size_append]; omega, D.src, D.gr⟩
    · have hk1 : ¬ (k : Int) < (t.size : Int) := by omega
      go_wp2
      go_ret
      exact ⟨_, rfl, by omega, D.src, D.gr⟩
  · have g2 : (r2 == 2) = false := by simpa using c2
    go_wp2
    go_ret
    exact ⟨_, rfl, by omega, D.src, D.gr⟩
end

section
open Go.ChangeShapes Go.WideShapes Go.ChangeAt Go.RowKit Go.IntWalk

theorem digL_pos {d : Nat} (a b c : UInt8) (h : 1 ≤ d) : 1 ≤ (digL d a b c true).length := by
  unfold digL
  simp only [Bool.true_eq_false, and_false, if_false]
  split
  · simp
  · simp; omega
theorem formL_len {n : Nat} (h1 : 1 ≤ n) (h2 : n ≤ 3999) : 1 ≤ (formL n true).length ∧ (formL n true).length ≤ 30 := by
  have l1 := digL_len (d := n / 100 % 10) 99 100 109 true (by omega)
  have l2 := digL_len (d := n / 10 % 10) 120 108 99 true (by omega)
  have l3 := digL_len (d := n % 10) 105 118 120 true (by omega)
  unfold formL
  simp only [List.length_append, List.length_replicate]
  refine ⟨?_, by omega⟩
  by_cases a : 1 ≤ n / 1000
  · omega
  by_cases b : 1 ≤ n / 100 % 10
  · have := digL_pos 99 100 109 b; omega
  by_cases c : 1 ≤ n / 10 % 10
  · have := digL_pos 120 108 99 c; omega
  · have := digL_pos 105 118 120 (show 1 ≤ n % 10 by omega); omega
set_option maxRecDepth 100000 in
set_option maxHeartbeats 2000000 in
theorem oldNumeral_any (n : Nat) (h1 : 1 ≤ n) (h2 : n ≤ 3999) (w : World) :
    Calls Tryz.prog 48 #[.int .i64 (n : Int)] w fun e w' => (∃ R : ByteArray, e = .returned (.string R) ∧ R.size ≤ 30) ∧ Below w.heap.size w w' := by
  have hB := Lib.hid (show ∀ W, Calls Tryz.prog 110 #[.int .i64 (n : Int)] W fun e w' => e = .returned (.bool true) ∧ w' = W from fun W => (show inB (n : Int) 1 3999 = true by unfold inB; simp; omega) ▸ l09Number_any (n : Int) W)
  have HF := Lib.hid (fun W => l09Form_any n h2 true W)
  obtain ⟨hs1, hs2⟩ := formL_len h1 h2
  have hsz : (⟨(formL n true).toArray⟩ : ByteArray).size = (formL n true).length := by
    show ((formL n true).toArray).size = _
    simp
  generalize (⟨(formL n true).toArray⟩ : ByteArray) = s at HF hsz
  rw [← hsz] at hs1 hs2
  clear hsz h1 h2
  have hcv := Lib.run_convert_string_bytes (P := Tryz.prog) w 9 28 5 s Tryz.underlying9 Tryz.underlying28 Tryz.underlying5
  have hO := ob_new w 5 s
  have hBw := Lib.bytesWorld_below w 5 s
  have hlS : s.data.toList.length = s.size := (Lib.size_eq s).symm
  generalize grownCap w s.size 0 5 = cp at hcv
  generalize Lib.bytesWorld w 5 s = w1 at hcv hO hBw
  generalize s.data.toList = L0 at hO hlS
  go_enter Tryz.func48, Tryz.ntmps48
  go_wp2_with fail
  refine (hB.out _).mono ?_
  rintro e w' ⟨rfl, hw⟩
  subst hw
  go_wp2_with fail
  refine (HF.out _).mono ?_
  rintro e w' ⟨rfl, hw⟩
  subst hw
  go_wp2
  clear hcv
  go_loopw [4] (fun i wr => ∃ (k : Nat) (L : List UInt8), k ≤ s.size ∧ i = .int .i64 k ∧ Hid (L.length = s.size) ∧ Hid (OB wr w'.heap.size L) ∧ Below w'.heap.size w' wr) (fun i _ => s.size - (intOf i).toNat)
  case atStart => exact ⟨0, L0, Nat.zero_le _, rfl, Lib.hid hlS, Lib.hid hO, hBw⟩
  case round =>
    clear hO hBw hlS
    obtain ⟨k, L, hk, rfl, hL, hO, hB⟩ := hrel
    generalize hg : w'.heap.size = g at hO hB ⊢
    by_cases hlt : k < s.size
    · have hk1 : (k : Int) < (s.size : Int) := by omega
      have v0 : IntKind.i64.wrap ((k : Int) + 1) = ((k + 1 : Nat) : Int) := by rw [IntKind.wrap_i64]; omega
      have hLk : k < L.length := by rw [hL.out]; exact hlt
      have hc := List.getElem?_eq_getElem hLk
      generalize L[k] = c at hc
      obtain ⟨c0, f0⟩ := hO.out k c hc
      by_cases h1 : c = 118
      · subst h1
        have hN := Lib.hid (ob_set hO.out k 117 117 rfl hLk)
        have hB2 := below_set hB k (.int .u8 117)
        replace c0 : wr.cell? ⟨g, k, none⟩ = some (.int .u8 118) := c0
        have hL2 := Lib.hid (show (L.set k 117).length = s.size by rw [List.length_set]; exact hL.out)
        clear hc hO
        go_wp2
        go_roundw
        case rel => exact ⟨k + 1, L.set k 117, by omega, rfl, hL2, hN, hB2⟩
        case measure => simp only [intOf]; omega
      · have n1 : ¬ (c.toNat : Int) = 118 := fun h => h1 (UInt8.toNat_inj.1 (by show c.toNat = 118; omega))
        clear hc
        go_wp2
        go_roundw
        case rel => exact ⟨k + 1, L, by omega, rfl, hL, hO, hB⟩
        case measure => simp only [intOf]; omega
    · have hk1 : ¬ (k : Int) < (s.size : Int) := by omega
      obtain rfl : k = s.size := by omega
      obtain ⟨q, hq⟩ : ∃ q : Nat, s.size = q + 1 := ⟨s.size - 1, by omega⟩
      have hLq : q < L.length := by rw [hL.out]; omega
      have hc := List.getElem?_eq_getElem hLq
      generalize L[q] = c at hc
      obtain ⟨c0, f0⟩ := hO.out q c hc
      have v6 : IntKind.i64.wrap ((s.size : Int) - 1) = (q : Int) := by rw [IntKind.wrap_i64]; omega
      have hql : q < s.size := by omega
      have hcv2 := fun (M : List UInt8) (W : World) (hM : M.length = s.size) (hOM : OB W g M) => hM ▸ run_convert_bytes_back (P := Tryz.prog) W 28 9 5 ⟨g, 0, none⟩ cp M Tryz.underlying28 Tryz.underlying5 Tryz.underlying9 (fun j hj => by
        have := (hOM j M[j] (List.getElem?_eq_getElem hj)).1
        by_cases e : j = 0
        · subst e; simpa [Addr.add] using this
        · simpa [Addr.add, e] using this)
      have hRs : ∀ M : List UInt8, M.length = s.size → (⟨M.toArray⟩ : ByteArray).size ≤ 30 := fun M hM => by
        show M.toArray.size ≤ 30
        simp; omega
      replace hq := Lib.hid hq
      by_cases h1 : c = 105
      · subst h1
        have hN := ob_set hO.out q 106 106 rfl hLq
        have hB2 := below_set hB q (.int .u8 106)
        have hL2 : (L.set q 106).length = s.size := by rw [List.length_set]; exact hL.out
        have hcv3 := hcv2 _ _ hL2 hN
        have hR := hRs _ hL2
        replace c0 : wr.cell? ⟨g, q, none⟩ = some (.int .u8 105) := c0
        clear hcv2 hRs hc hO hN hL2
        generalize (⟨(L.set q 106).toArray⟩ : ByteArray) = R at hcv3 hR
        go_wp2
        go_ret
        exact ⟨⟨R, rfl, hR⟩, hB2⟩
      · have n1 : ¬ (c.toNat : Int) = 105 := fun h => h1 (UInt8.toNat_inj.1 (by show c.toNat = 105; omega))
        have hcv3 := hcv2 _ _ hL.out hO.out
        have hR := hRs _ hL.out
        clear hcv2 hRs hc
        generalize (⟨L.toArray⟩ : ByteArray) = R at hcv3 hR
        go_wp2
        go_ret
        exact ⟨⟨R, rfl, hR⟩, hB⟩
end

section
theorem wsB_jnS {L : List ByteArray} (h : L ≠ []) (hf : ∀ x ∈ L, Fr x) : wsB 32 (jnS 32 L) = L := by
  apply map_data_inj
  rw [wsB_data]
  unfold jnS
  rw [show (⟨(Lib.join (L.map (·.data.toList)) [32]).toArray⟩ : ByteArray).data.toList = Lib.join (L.map (·.data.toList)) [32] by simp]
  exact spl_join 32 (by simpa using h) (fun x hx => by obtain ⟨y, hy, rfl⟩ := List.mem_map.1 hx; exact hf y hy)
theorem ix_name {L : List ByteArray} {lo n hi : Int} (hh : lo + L.length - 1 = hi) (hnd : L.Nodup) (h : inB n lo hi = true) : ix L (nameN L lo n) = n - lo := by
  obtain ⟨j, h1, h2, h3, h4⟩ := nameN_in hh h
  rcases ix_or L (nameN L lo n) with e | ⟨k, e, hk, hx⟩
  · have := ix_mem (List.mem_of_getElem? h4); omega
  · have hjk : j = k := (List.getElem?_inj h3 hnd).1 (h4.trans hx.symm)
    rw [e, ← hjk]; omega
theorem king_nil {k : ByteArray} (h : k.toList = []) : k = ⟨#[]⟩ := by
  rw [Lib.toList_data] at h
  exact ba_inj (by rw [h])
theorem rn_dec {n : Int} (h0 : 1 ≤ n) (h1 : n ≤ 3999) : rnB (decB n) = n := rnB_parsed h0 h1 rfl
theorem nd_ord : ordL.Nodup := by decide +kernel
theorem nd_mon : monL.Nodup := by decide +kernel
theorem nd_fe : feL.Nodup := by decide +kernel
theorem nd_wk : wkL.Nodup := by decide +kernel
theorem nd_sty : styL.Nodup := by decide +kernel
theorem nd_in : inL.Nodup := by decide +kernel
theorem ord_back {n : Int} (h : inB n 1 31 = true) : rdOrd (nameN ordL 1 n) = n := by
  unfold rdOrd
  rw [ix_name (by decide) nd_ord h]
  unfold inB at h
  simp only [Bool.and_eq_true, decide_eq_true_eq] at h
  rw [if_neg (by omega)]; omega
theorem fe_back {n : Int} (h : inB n 0 19 = true) : ix feL (nameN feL 0 n) = n := by rw [ix_name (by decide) nd_fe h]; omega
theorem wk_back {n : Int} (h : inB n 0 6 = true) : ix wkL (nameN wkL 0 n) = n := by rw [ix_name (by decide) nd_wk h]; omega
theorem sty_back {n : Int} (h : inB n 0 6 = true) : ix styL (nameN styL 0 n) = n := by rw [ix_name (by decide) nd_sty h]; omega
theorem in_back {n : Int} (h : inB n 0 2 = true) : ix inL (nameN inL 0 n) = n := by rw [ix_name (by decide) nd_in h]; omega
theorem mon_back {n : Int} (h : inB n 1 12 = true) : ix monL (nameN monL 1 n) + 1 = n := by rw [ix_name (by decide) nd_mon h]; omega
theorem inB_of {n lo hi : Int} (h0 : lo ≤ n) (h1 : n ≤ hi) : inB n lo hi = true := by unfold inB; simp; omega
theorem rd_back {m : Cl} (h : okCl m = true) : readI rnB (wdsO m) = m := by
  obtain ⟨k, n, mo, f, r, wd, st, kg⟩ := m
  unfold okCl at h
  unfold wdsO
  simp only at h ⊢
  by_cases h0 : k = 0
  · subst h0
    rw [if_pos rfl] at h ⊢
    unfold okCl0 dateB inB at h
    simp only [Bool.and_eq_true, decide_eq_true_eq] at h
    obtain ⟨⟨⟨⟨⟨rfl, rfl⟩, rfl⟩, rfl⟩, hk⟩, hd⟩ := h
    obtain rfl := king_nil hk
    have hle : lenM mo ≤ 31 := by unfold lenM; repeat' split; all_goals omega
    rw [readI_0, ord_back (inB_of (by omega) (by omega)), mon_back (inB_of (by omega) (by omega))]
  rw [if_neg h0] at h ⊢
  by_cases h1 : k = 1
  · subst h1
    rw [if_pos rfl] at h ⊢
    unfold okCl1 relB at h
    simp only [Bool.and_eq_true, decide_eq_true_eq] at h
    obtain ⟨⟨⟨⟨rfl, rfl⟩, rfl⟩, hk⟩, hf, hr⟩ := h
    obtain rfl := king_nil hk
    obtain ⟨⟨hr0, hw⟩, hrw⟩ := hr
    have hr1 := hr0
    unfold inB at hr1
    simp only [Bool.and_eq_true, decide_eq_true_eq] at hr1
    simp only [Bool.or_eq_true, decide_eq_true_eq, beq_iff_eq] at hrw
    rcases (show r = 0 ∨ r = 1 ∨ r = 2 ∨ r = 3 ∨ r = 4 by omega) with rfl | rfl | rfl | rfl | rfl
    · obtain rfl : wd = 0 := by omega
      rw [if_pos rfl, readI_1, fe_back hf]
    · obtain rfl : wd = 0 := by omega
      rw [if_neg (by decide), if_pos rfl, readI_2, fe_back hf]
    · obtain rfl : wd = 0 := by omega
      rw [if_neg (by decide), if_neg (by decide), if_pos rfl, readI_3, fe_back hf]
    · rw [if_neg (by decide), if_neg (by decide), if_neg (by decide), if_pos rfl, readI_4, fe_back hf, wk_back hw]
    · rw [if_neg (by decide), if_neg (by decide), if_neg (by decide), if_neg (by decide), readI_5, fe_back hf, wk_back hw]
  rw [if_neg h1] at h ⊢
  by_cases h2 : k = 2
  · subst h2
    rw [if_pos rfl] at h ⊢
    unfold okCl2 inB at h
    simp only [Bool.and_eq_true, decide_eq_true_eq] at h
    obtain ⟨⟨⟨⟨⟨rfl, rfl⟩, rfl⟩, rfl⟩, rfl⟩, hn, _⟩ := h
    rw [readI_6, rn_dec (by omega) (by omega)]
  rw [if_neg h2] at h ⊢
  by_cases h3 : k = 3
  · subst h3
    rw [if_pos rfl] at h ⊢
    unfold okCl3 at h
    simp only [Bool.and_eq_true, decide_eq_true_eq] at h
    obtain ⟨⟨⟨⟨⟨rfl, rfl⟩, rfl⟩, rfl⟩, hk⟩, hn, hs⟩ := h
    obtain rfl := king_nil hk
    unfold inB at hn
    simp only [Bool.and_eq_true, decide_eq_true_eq] at hn
    rw [readI_7, rn_dec (by omega) (by omega), sty_back hs]
  rw [if_neg h3] at h ⊢
  by_cases h4 : k = 4
  · subst h4
    rw [if_pos rfl] at h ⊢
    unfold okCl4 at h
    simp only [Bool.and_eq_true, decide_eq_true_eq] at h
    obtain ⟨⟨⟨⟨⟨rfl, rfl⟩, rfl⟩, rfl⟩, hk⟩, hn, hs⟩ := h
    obtain rfl := king_nil hk
    unfold inB at hn
    simp only [Bool.and_eq_true, decide_eq_true_eq] at hn
    rw [readI_8, rn_dec (by omega) (by omega), in_back hs]
  rw [if_neg h4] at h ⊢
  by_cases h5 : k = 5
  · subst h5
    rw [if_pos rfl] at h
    unfold okCl5 at h
    simp only [Bool.and_eq_true, decide_eq_true_eq] at h
    obtain ⟨⟨⟨⟨⟨⟨rfl, rfl⟩, rfl⟩, rfl⟩, rfl⟩, hk⟩, hw⟩ := h
    obtain rfl := king_nil hk
    rw [readI_9, wk_back hw]
  · rw [if_neg h5] at h; cases h
/-- A clause's text is read as the clause. -/
theorem read_txt {m : Cl} (h : okCl m = true) : rdR (txtB m) = (m, 0) := by
  have e : readI rnB (wsB 32 (txtB m)) = m := by
    rw [txt_wds, wsB_jnS (wds_ne m) (wds_fr h), rd_back h]
  unfold rdR
  rw [e, if_pos h]
theorem rdR_okCl {s : ByteArray} (h : (rdR s).2 = 0) : okCl (rdR s).1 = true := by
  unfold rdR at h ⊢
  split
  · rename_i h1; exact h1
  · rename_i h1; rw [if_neg h1] at h; cases h
theorem txtB_small {m : Cl} (h : okCl m = true) : (txtB m).size ≤ 4000 := by
  have hb := okCl_bd h
  have s1 := s_ord m.number
  have s2 := s_mon m.month
  have s3 := s_fe m.feast
  have s4 := s_wk m.weekday
  have s5 := s_sty m.style
  have s6 := s_in m.style
  have z0 : (⟨#[111, 110, 32, 116, 104, 101, 32]⟩ : ByteArray).size = 7 := rfl
  have z1 : (⟨#[32, 111, 102, 32]⟩ : ByteArray).size = 4 := rfl
  have z2 : (⟨#[32, 98, 121, 32]⟩ : ByteArray).size = 4 := rfl
  have z3 : (⟨#[105, 110, 32, 116, 104, 101, 32, 121, 101, 97, 114, 32]⟩ : ByteArray).size = 12 := rfl
  have z4 : (⟨#[105, 110, 32, 116, 104, 101, 32, 105, 110, 100, 105, 99, 116, 105, 111, 110, 32]⟩ : ByteArray).size = 17 := rfl
  have z5 : (⟨#[111, 110, 32, 97, 32]⟩ : ByteArray).size = 5 := rfl
  have z6 : (⟨#[97, 116, 32]⟩ : ByteArray).size = 3 := rfl
  have z7 : (⟨#[97, 116, 32, 116, 104, 101, 32, 101, 118, 101, 32, 111, 102, 32]⟩ : ByteArray).size = 14 := rfl
  have z8 : (⟨#[97, 116, 32, 116, 104, 101, 32, 111, 99, 116, 97, 118, 101, 32, 111, 102, 32]⟩ : ByteArray).size = 17 := rfl
  have z9 : (⟨#[32, 97, 102, 116, 101, 114, 32]⟩ : ByteArray).size = 7 := rfl
  have z10 : (⟨#[32, 98, 101, 102, 111, 114, 101, 32]⟩ : ByteArray).size = 8 := rfl
  unfold txtB
  split
  · unfold txt0; simp only [ByteArray.size_append]; omega
  split
  · unfold txt1
    repeat' split
    all_goals (simp only [ByteArray.size_append]; omega)
  split
  · have h2 : m.kind = 2 := by assumption
    have hd := decB_sz (z := m.number) (by omega) (by omega)
    unfold txt2; simp only [ByteArray.size_append]; omega
  split
  · have h2 : m.kind = 3 := by assumption
    have hd := decB_sz (z := m.number) (by omega) (by omega)
    unfold txt3; simp only [ByteArray.size_append]; omega
  split
  · have h2 : m.kind = 4 := by assumption
    have hd := decB_sz (z := m.number) (by omega) (by omega)
    unfold txt4; simp only [ByteArray.size_append]; omega
  · unfold txt5; simp only [ByteArray.size_append]; omega
end

section
open Go.ChangeShapes Go.WideShapes Go.ChangeAt Go.RowKit Go.IntWalk

theorem big_any (cs : Option Addr) (cap n : Nat) (w : World) : Calls Tryz.prog 12 #[.slice cs n cap] w fun e w' => e = .returned (.bool (decide (4096 < n))) ∧ w = w' := by
  go_enter Tryz.func12, Tryz.ntmps12
  go_wp2
  go_ret
  exact ⟨ret_bool (by simp; omega), rfl⟩
set_option maxHeartbeats 400000 in
theorem likeInts_self (a b : Option Addr) (ca cb : Nat) (xs : List Int) (w : World) (hl : xs.length ≤ 2097152) (hx : Rd encI w a xs) (hy : Rd encI w b xs) :
    Calls Tryz.prog 33 #[.slice a xs.length ca, .slice b xs.length cb] w fun e w' =>
      e = .returned (.bool true) ∧ Below w.heap.size w w' := by
  have hne : (((xs.length : Nat) : Int) != (xs.length : Nat)) = false := by simp
  go_enter Tryz.func33, Tryz.ntmps33
  go_wp2
  go_loopw [5] (fun i wr => ∃ (k : Nat), k ≤ xs.length ∧ i = .int .i64 k ∧ Below w.heap.size w wr) (fun i _ => xs.length - (intOf i).toNat)
  case atStart => exact ⟨0, Nat.zero_le _, rfl, Below.refl _ _⟩
  case round =>
    obtain ⟨k, hk, rfl, hB⟩ := hrel
    by_cases hlt : k < xs.length
    · have hm := List.getElem?_eq_getElem hlt
      generalize xs[k] = m at hm
      obtain ⟨b, off, rfl, hb, c0⟩ := (hx.below hB).i hm
      obtain ⟨b', off', rfl, hb', d0⟩ := (hy.below hB).i hm
      have C0 := Later.cell c0 hb
      have D0 := Later.cell d0 hb'
      have hk1 : (k : Int) < (xs.length : Int) := by omega
      clear hm c0 d0
      go_wp2_with fail
      refine wp_region_later wr (by kernel_rfl) (by kernel_rfl) ?_
      repeat (go_big_quiet_step (fail))
      refine wpQuiet_nil ?_
      intro z
      have hz := z.prop
      generalize z.val = w2 at hz
      clear C0 D0
      try simp only [beq_self_eq_true, bne_self_eq_false, Bool.not_true]
      go_wp2
      go_roundw
      case rel => exact ⟨k + 1, by omega, by go_num, stepB hB hz hB.size⟩
      case measure => simp [intOf]; omega
    · go_wp2
      go_ret
      exact ⟨rfl, hB⟩


theorem mask24 (x : Int) (h₀ : 0 ≤ x) (h₁ : x < 18446744073709551616) : bits .and .u64 x 16777215 = x % 16777216 := by
  have h := bits_mask .u64 64 (by decide) wraps_u64 24 (by decide) x h₀ (by omega)
  simpa using h
theorem u64_bd (n : Int) : 0 ≤ IntKind.u64.wrap n ∧ IntKind.u64.wrap n ≤ 18446744073709551615 := by
  rw [IntKind.wrap_u64]; omega








































































































































































end

section
open Go.ChangeShapes Go.WideShapes Go.ChangeAt Go.RowKit Go.IntWalk

theorem wds_six {m : Cl} (h : m.kind = 2 ∨ m.kind = 3 ∨ m.kind = 4) : (wdsO m).length = 6 := by
  unfold wdsO
  rcases h with h | h | h
  · rw [if_neg (by omega), if_neg (by omega), if_pos h]; rfl
  · rw [if_neg (by omega), if_neg (by omega), if_neg (by omega), if_pos h]; rfl
  · rw [if_neg (by omega), if_neg (by omega), if_neg (by omega), if_neg (by omega), if_pos h]; rfl
theorem okCl_num {m : Cl} (h : okCl m = true) (hn : 0 < m.number) (hk : m.kind ≠ 0) : (m.kind = 2 ∨ m.kind = 3 ∨ m.kind = 4) ∧ m.number ≤ 3999 := by
  have hb := okCl_bd h
  unfold okCl at h
  rw [if_neg hk] at h
  by_cases h1 : m.kind = 1
  · rw [if_pos h1] at h
    unfold okCl1 at h
    simp only [Bool.and_eq_true, decide_eq_true_eq] at h
    have := h.1.1.1.1
    omega
  rw [if_neg h1] at h
  by_cases h2 : m.kind = 2
  · exact ⟨.inl h2, by have := hb.2.2.2.1 h2; omega⟩
  by_cases h3 : m.kind = 3
  · exact ⟨.inr (.inl h3), by have := hb.2.2.2.2.1 h3; omega⟩
  by_cases h4 : m.kind = 4
  · exact ⟨.inr (.inr h4), by have := hb.2.2.2.2.2 h4; omega⟩
  rw [if_neg h2, if_neg h3, if_neg h4] at h
  by_cases h5 : m.kind = 5
  · rw [if_pos h5] at h
    unfold okCl5 at h
    simp only [Bool.and_eq_true, decide_eq_true_eq] at h
    have := h.1.1.1.1.1.1
    omega
  · rw [if_neg h5] at h; cases h
set_option maxRecDepth 100000 in
set_option maxHeartbeats 1600000 in
theorem drawReadClause_any (cs : Option Addr) (cap : Nat) (bs : List Int) (w : World) (hx : Rd encB w cs bs) (hb : ∀ m ∈ bs, goodB m) (hl : bs.length ≤ 4096) :
    Calls Tryz.prog 16 #[.slice cs bs.length cap] w fun e w' => (∃ t : ByteArray, e = .returned (.string t) ∧ t.size ≤ 1048576) ∧ Below w.heap.size w w' := by
  go_enter Tryz.func16, Tryz.ntmps16
  go_wp2_with fail
  refine (l01From_any cs cap bs w hx hb).mono ?_
  rintro e w1 ⟨p, rfl, hs⟩
  have D := Drw.start hs
  clear hs
  have HN := Lib.hid (fun n W hn1 hn2 hs => l01Next_any w cs cap bs p n W hx hb hl hn1 hn2 hs)
  have HDM := Lib.hid (fun t W ht hs => l01Damage_any w cs cap bs p t W hx hb hl ht hs)
  go_wp2_with fail
  refine (l11Draw_any w cs cap bs p _ hx hb hl D.src).mono ?_
  rintro e w2 ⟨m, rfl, hmk, hs2, hG⟩
  replace D := D.call hs2 hG
  clear hs2 hG
  have res := Box.new w2 31 [.int .i64 m.kind, .int .i64 m.number, .int .i64 m.month, .int .i64 m.feast, .int .i64 m.relation, .int .i64 m.weekday, .int .i64 m.style, .string m.king] w1.heap.size D.size (by simp)
  replace D := D.below (belowA w2 (.cells #[.int .i64 m.kind, .int .i64 m.number, .int .i64 m.month, .int .i64 m.feast, .int .i64 m.relation, .int .i64 m.weekday, .int .i64 m.style, .string m.king] 31))
  go_upto_region 3 with (fail)
  change Box w1.heap.size (w2.alloc (.cells #[.int .i64 m.kind, .int .i64 m.number, .int .i64 m.month, .int .i64 m.feast, .int .i64 m.relation, .int .i64 m.weekday, .int .i64 m.style, .string m.king] 31)) _ _ _ at res
  generalize w2.alloc (.cells #[.int .i64 m.kind, .int .i64 m.number, .int .i64 m.month, .int .i64 m.feast, .int .i64 m.relation, .int .i64 m.weekday, .int .i64 m.style, .string m.king] 31) = w3 at res D ⊢
  generalize w2.heap.size = b at res ⊢
  have HX := Lib.hid (fun W => specClauseText_any m W (by omega))
  have HM := Lib.hid (fun W => specClause_any m W (by omega))
  have hT : (okCl m = true → (ctxR m).1 = txtB m) ∧ (ctxR m).1.size ≤ 4000 := by
    unfold ctxR
    cases hok : okCl m
    · exact ⟨fun h => (by cases h), Nat.zero_le _⟩
    · exact ⟨fun _ => rfl, txtB_small hok⟩
  obtain ⟨hT1, hT2⟩ := hT
  generalize ctxR m = RR at HX hT1 hT2
  obtain ⟨T, cd⟩ := RR
  simp only at HX hT1 hT2
  replace hT1 := Lib.hid hT1
  have c0 := Box.cell res 0 _ rfl
  have c1 := Box.cell res 1 _ rfl
  have c2 := Box.cell res 2 _ rfl
  have c3 := Box.cell res 3 _ rfl
  have c4 := Box.cell res 4 _ rfl
  have c5 := Box.cell res 5 _ rfl
  have c6 := Box.cell res 6 _ rfl
  have c7 := Box.cell res 7 _ rfl
  go_wp2_with fail
  refine (HX.out _).mono ?_
  rintro e w4 ⟨rfl, hB4⟩
  replace res := Box.below res hB4
  replace D := D.below hB4
  clear hB4 HX c0 c1 c2 c3 c4 c5 c6 c7
  have c0 := Box.cell res 0 _ rfl
  have c1 := Box.cell res 1 _ rfl
  have c2 := Box.cell res 2 _ rfl
  have c3 := Box.cell res 3 _ rfl
  have c4 := Box.cell res 4 _ rfl
  have c5 := Box.cell res 5 _ rfl
  have c6 := Box.cell res 6 _ rfl
  have c7 := Box.cell res 7 _ rfl
  by_cases hn : 0 < m.number
  · have gn : decide (0 < m.number) = true := by simpa using hn
    cases hok : okCl m with
    | false =>
      rw [hok] at HM
      go_wp2_with fail
      refine (HM.out _).mono ?_
      rintro e w5 ⟨rfl, hB5⟩
      replace res := Box.below res hB5
      replace D := D.below hB5
      clear hB5 HM c0 c1 c2 c3 c4 c5 c6 c7
      go_wp2_with fail
      refine (HN.out 3 _ (by omega) (by omega) D.src).mono ?_
      rintro e w8 ⟨rr, rfl, hu0, hu1, hs2, hG⟩
      replace D := D.call hs2 hG
      clear hs2 hG
      by_cases hr : rr = 0
      · subst hr
        go_wp2_with fail
        refine (HDM.out T _ (by omega) D.src).mono ?_
        rintro e w9 ⟨u, rfl, hu, hs2, hG⟩
        replace D := D.call hs2 hG
        clear hs2 hG
        go_wp2
        go_ret
        exact ⟨⟨u, rfl, by omega⟩, D.base⟩
      · have hr1 : (rr == 0) = false := by simpa using hr
        go_wp2
        go_ret
        exact ⟨⟨T, rfl, by omega⟩, D.base⟩
    | true =>
      rw [hok] at HM
      by_cases hk : m.kind = 0
      · have gk : (m.kind != 0) = false := by simpa using hk
        replace hk := Lib.hid hk
        go_wp2_with fail
        refine (HM.out _).mono ?_
        rintro e w5 ⟨rfl, hB5⟩
        replace res := Box.below res hB5
        replace D := D.below hB5
        clear hB5 HM c0 c1 c2 c3 c4 c5 c6 c7
        have c0 := Box.cell res 0 _ rfl
        have c1 := Box.cell res 1 _ rfl
        have c2 := Box.cell res 2 _ rfl
        have c3 := Box.cell res 3 _ rfl
        have c4 := Box.cell res 4 _ rfl
        have c5 := Box.cell res 5 _ rfl
        have c6 := Box.cell res 6 _ rfl
        have c7 := Box.cell res 7 _ rfl
        go_wp2_with fail
        refine (HN.out 3 _ (by omega) (by omega) D.src).mono ?_
        rintro e w8 ⟨rr, rfl, hu0, hu1, hs2, hG⟩
        replace D := D.call hs2 hG
        clear hs2 hG
        by_cases hr : rr = 0
        · subst hr
          go_wp2_with fail
          refine (HDM.out T _ (by omega) D.src).mono ?_
          rintro e w9 ⟨u, rfl, hu, hs2, hG⟩
          replace D := D.call hs2 hG
          clear hs2 hG
          go_wp2
          go_ret
          exact ⟨⟨u, rfl, by omega⟩, D.base⟩
        · have hr1 : (rr == 0) = false := by simpa using hr
          go_wp2
          go_ret
          exact ⟨⟨T, rfl, by omega⟩, D.base⟩
      · have gk : (m.kind != 0) = true := by simpa using hk
        obtain ⟨h234, h39⟩ := okCl_num hok hn hk
        obtain rfl := hT1.out hok
        have hw6 := wds_six h234
        have hws : wsB 32 (txtB m) = wdsO m := by rw [txt_wds, wsB_jnS (wds_ne m) (wds_fr hok)]
        have HSP := Lib.hid (fun W => show Calls Tryz.prog 38 #[.string (txtB m), .int .u8 32] W _ from l01Split_any (txtB m) 32 W (by omega))
        have hpz : ∀ x ∈ wdsO m, x.size ≤ 4000 := fun x hx => by rw [← hws] at hx; exact Nat.le_trans (wsB_part 32 _ x hx) hT2
        rw [hws] at HSP
        generalize wdsO m = L at HSP hw6 hpz
        generalize txtB m = T at HSP hT2 ⊢
        clear hws hT1 h234 hk
        go_wp2_with fail
        refine (HM.out _).mono ?_
        rintro e w5 ⟨rfl, hB5⟩
        replace res := Box.below res hB5
        replace D := D.below hB5
        clear hB5 HM c0 c1 c2 c3 c4 c5 c6 c7
        have c0 := Box.cell res 0 _ rfl
        have c1 := Box.cell res 1 _ rfl
        have c2 := Box.cell res 2 _ rfl
        have c3 := Box.cell res 3 _ rfl
        have c4 := Box.cell res 4 _ rfl
        have c5 := Box.cell res 5 _ rfl
        have c6 := Box.cell res 6 _ rfl
        have c7 := Box.cell res 7 _ rfl
        go_wp2_with fail
        refine (HN.out 3 _ (by omega) (by omega) D.src).mono ?_
        rintro e w6 ⟨r, rfl, hq0, hq1, hs2, hG⟩
        replace res := Box.keepA res hG D.hp
        replace D := D.call hs2 hG
        clear hs2 hG c0 c1 c2 c3 c4 c5 c6 c7
        have c0 := Box.cell res 0 _ rfl
        have c1 := Box.cell res 1 _ rfl
        have c2 := Box.cell res 2 _ rfl
        have c3 := Box.cell res 3 _ rfl
        have c4 := Box.cell res 4 _ rfl
        have c5 := Box.cell res 5 _ rfl
        have c6 := Box.cell res 6 _ rfl
        have c7 := Box.cell res 7 _ rfl
        by_cases hr0 : r = 0
        · subst hr0
          go_wp2_with fail
          refine (HSP.out _).mono ?_
          rintro e w7 ⟨g, cp, rfl, ow, hB7⟩
          have hbs := (own_lt ow).1
          replace res := Box.below res hB7
          have hD6 := D.size
          replace D := D.below hB7
          clear hB7 HSP c0 c1 c2 c3 c4 c5 c6 c7
          have c0 := Box.cell res 0 _ rfl
          have c1 := Box.cell res 1 _ rfl
          have c2 := Box.cell res 2 _ rfl
          have c3 := Box.cell res 3 _ rfl
          have c4 := Box.cell res 4 _ rfl
          have c5 := Box.cell res 5 _ rfl
          have c6 := Box.cell res 6 _ rfl
          have c7 := Box.cell res 7 _ rfl
          obtain ⟨N, hN⟩ := Int.eq_ofNat_of_zero_le (show 0 ≤ m.number by omega)
          have HO := Lib.hid (fun W => oldNumeral_any N (by omega) (by omega) W)
          rw [← hN] at HO
          replace hN := Lib.hid hN
          go_wp2_with fail
          refine (HO.out _).mono ?_
          rintro e w8 ⟨⟨R, rfl, hRs⟩, hB8⟩
          replace ow := own_below ow hB8
          replace D := D.below hB8
          clear hB8 HO c0 c1 c2 c3 c4 c5 c6 c7 res
          obtain ⟨v3, cv3, fv3⟩ := own_cell ow 3 (by omega)
          have h3 : 3 < L.length := by omega
          go_upto_region 7 with (fail)
          clear cv3 fv3
          have hst := ow.stored 3 (.string R)
          rw [set_enc] at hst
          have hg1 : w1.heap.size ≤ g := by omega
          replace D := D.store hst.2 hg1
          clear ow
          obtain ⟨ow, -⟩ := hst
          generalize w8.setCell ⟨g, 3, none⟩ (.string R) = w9 at ow D ⊢
          have hsz2 : ∀ x ∈ L.set 3 R, x.size ≤ 4000 := fun x hx => by
            rcases List.mem_or_eq_of_mem_set hx with h | h
            · exact hpz x h
            · rw [h]; omega
          have hjl := jnC_size hsz2
          rw [List.length_set, hw6] at hjl
          have hJ0 := l01JoinC_any (some ⟨g, 0, none⟩) cp (L.set 3 R) w9 (by rw [List.length_set]; omega) (Rd.of_own encS_len (by decide) ow) (fun x hx => Nat.le_trans (hsz2 x hx) (by decide))
          rw [List.length_set, hw6] at hJ0
          have HJ := Lib.hid hJ0
          clear hJ0
          generalize jnC (L.set 3 R) = J at HJ hjl
          clear ow hsz2 hpz
          go_wp2_with fail
          refine HJ.out.mono ?_
          rintro e w10 ⟨rfl, hB10⟩
          replace D := D.below hB10
          clear hB10 HJ
          go_wp2_with fail
          refine (HN.out 3 _ (by omega) (by omega) D.src).mono ?_
          rintro e w11 ⟨rr, rfl, hu0, hu1, hs2, hG⟩
          replace D := D.call hs2 hG
          clear hs2 hG
          by_cases hr : rr = 0
          · subst hr
            go_wp2_with fail
            refine (HDM.out J _ (by omega) D.src).mono ?_
            rintro e w12 ⟨u, rfl, hu, hs2, hG⟩
            replace D := D.call hs2 hG
            clear hs2 hG
            go_wp2
            go_ret
            exact ⟨⟨u, rfl, by omega⟩, D.base⟩
          · have hr1 : (rr == 0) = false := by simpa using hr
            go_wp2
            go_ret
            exact ⟨⟨J, rfl, by omega⟩, D.base⟩
        · have hr1 : (r == 0) = false := by simpa using hr0
          clear HSP hpz
          go_wp2_with fail
          refine (HN.out 3 _ (by omega) (by omega) D.src).mono ?_
          rintro e w8 ⟨rr, rfl, hu0, hu1, hs2, hG⟩
          replace D := D.call hs2 hG
          clear hs2 hG
          by_cases hr : rr = 0
          · subst hr
            go_wp2_with fail
            refine (HDM.out T _ (by omega) D.src).mono ?_
            rintro e w9 ⟨u, rfl, hu, hs2, hG⟩
            replace D := D.call hs2 hG
            clear hs2 hG
            go_wp2
            go_ret
            exact ⟨⟨u, rfl, by omega⟩, D.base⟩
          · have hr1 : (rr == 0) = false := by simpa using hr
            go_wp2
            go_ret
            exact ⟨⟨T, rfl, by omega⟩, D.base⟩
  · have gn : decide (0 < m.number) = false := by simpa using hn
    clear HM
    go_wp2_with fail
    refine (HN.out 3 _ (by omega) (by omega) D.src).mono ?_
    rintro e w8 ⟨rr, rfl, hu0, hu1, hs2, hG⟩
    replace D := D.call hs2 hG
    clear hs2 hG
    by_cases hr : rr = 0
    · subst hr
      go_wp2_with fail
      refine (HDM.out T _ (by omega) D.src).mono ?_
      rintro e w9 ⟨u, rfl, hu, hs2, hG⟩
      replace D := D.call hs2 hG
      clear hs2 hG
      go_wp2
      go_ret
      exact ⟨⟨u, rfl, by omega⟩, D.base⟩
    · have hr1 : (rr == 0) = false := by simpa using hr
      go_wp2
      go_ret
      exact ⟨⟨T, rfl, by omega⟩, D.base⟩
set_option maxRecDepth 100000 in
theorem drawClauseText_any (cs : Option Addr) (cap : Nat) (bs : List Int) (w : World) (hx : Rd encB w cs bs) (hb : ∀ m ∈ bs, goodB m) (hl : bs.length ≤ 4096) :
    Calls Tryz.prog 13 #[.slice cs bs.length cap] w fun e w' => (∃ m : Cl, e = .returned (.agg #[.int .i64 m.kind, .int .i64 m.number, .int .i64 m.month, .int .i64 m.feast, .int .i64 m.relation, .int .i64 m.weekday, .int .i64 m.style, .string m.king]) ∧ m.king.size ≤ 13) ∧ Below w.heap.size w w' := by
  have hR0 := RP.start w
  go_enter Tryz.func13, Tryz.ntmps13
  go_wp2_with fail
  generalize w.alloc (.cells #[.int .i64 0, .int .i64 0, .int .i64 0, .int .i64 0, .int .i64 0, .int .i64 0, .int .i64 0, .string ⟨#[]⟩] 31) = w0 at hR0 ⊢
  have res := hR0.res
  have hB0 := hR0.below
  refine (l01From_any cs cap bs w0 (hx.below hB0) hb).mono ?_
  rintro e w1 ⟨p, rfl, hs⟩
  replace res := Box.below res hs.base
  go_wp2_with fail
  refine (l11Draw_any w0 cs cap bs p _ (hx.below hB0) hb hl hs).mono ?_
  rintro e w2 ⟨m, rfl, hmk, hs2, hG⟩
  have hp0 : w.heap.size ≠ p := by have := hs.lt.1; have := hR0.res.lt.2; omega
  have R : RP w w2 := ⟨Box.keep res hG hp0, stepB hB0 hs2.base hB0.size⟩
  have res := R.res
  have r0 := Box.cell res 0 _ rfl
  have r1 := Box.cell res 1 _ rfl
  have r2 := Box.cell res 2 _ rfl
  have r3 := Box.cell res 3 _ rfl
  have r4 := Box.cell res 4 _ rfl
  have r5 := Box.cell res 5 _ rfl
  have r6 := Box.cell res 6 _ rfl
  have r7 := Box.cell res 7 _ rfl
  have f0 := World.ownsRow.frozenAt res 0
  have f1 := World.ownsRow.frozenAt res 1
  have f2 := World.ownsRow.frozenAt res 2
  have f3 := World.ownsRow.frozenAt res 3
  have f4 := World.ownsRow.frozenAt res 4
  have f5 := World.ownsRow.frozenAt res 5
  have f6 := World.ownsRow.frozenAt res 6
  have f7 := World.ownsRow.frozenAt res 7
  have HP8 := Lib.hid (Box.put8 res (.int .i64 m.kind) (.int .i64 m.number) (.int .i64 m.month) (.int .i64 m.feast) (.int .i64 m.relation) (.int .i64 m.weekday) (.int .i64 m.style) (.string m.king))
  go_wp2
  have hp := HP8.out
  have hGf := RP.fin R hp.2
  generalize (((((((w2.setCell ⟨w.heap.size, 0, none⟩ (.int .i64 m.kind)).setCell ⟨w.heap.size, 1, none⟩ (.int .i64 m.number)).setCell ⟨w.heap.size, 2, none⟩ (.int .i64 m.month)).setCell ⟨w.heap.size, 3, none⟩ (.int .i64 m.feast)).setCell ⟨w.heap.size, 4, none⟩ (.int .i64 m.relation)).setCell ⟨w.heap.size, 5, none⟩ (.int .i64 m.weekday)).setCell ⟨w.heap.size, 6, none⟩ (.int .i64 m.style)).setCell ⟨w.heap.size, 7, none⟩ (.string m.king) = Wf at hp hGf ⊢
  have z0 := hp.1.cell 0 _ rfl
  have z1 := hp.1.cell 1 _ rfl
  have z2 := hp.1.cell 2 _ rfl
  have z3 := hp.1.cell 3 _ rfl
  have z4 := hp.1.cell 4 _ rfl
  have z5 := hp.1.cell 5 _ rfl
  have z6 := hp.1.cell 6 _ rfl
  have z7 := hp.1.cell 7 _ rfl
  refine bodyPost_ret_by (v := .agg #[.int .i64 m.kind, .int .i64 m.number, .int .i64 m.month, .int .i64 m.feast, .int .i64 m.relation, .int .i64 m.weekday, .int .i64 m.style, .string m.king]) ?_ rfl ⟨⟨m, rfl, hmk⟩, hGf⟩
  simp [results, go_sem, z0, z1, z2, z3, z4, z5, z6, z7]
set_option maxRecDepth 100000 in
theorem drawMonthName_any (cs : Option Addr) (cap : Nat) (bs : List Int) (w : World) (hx : Rd encB w cs bs) (hb : ∀ m ∈ bs, goodB m) (hl : bs.length ≤ 4096) :
    Calls Tryz.prog 19 #[.slice cs bs.length cap] w fun e w' => (∃ z : Int, e = .returned (.int .i64 z)) ∧ Below w.heap.size w w' := by
  go_enter Tryz.func19, Tryz.ntmps19
  go_wp2_with fail
  refine (l01From_any cs cap bs w hx hb).mono ?_
  rintro e w1 ⟨p, rfl, hs⟩
  go_wp2_with fail
  refine (l01Next_any w cs cap bs p 15 _ hx hb hl (by decide) (by decide) hs).mono ?_
  rintro e w2 ⟨r, rfl, h0, h1, hs2, hG⟩
  have v1 : IntKind.i64.wrap (r - 1) = r - 1 := by rw [IntKind.wrap_i64]; omega
  go_wp2
  go_ret
  exact ⟨⟨_, rfl⟩, hs2.base⟩
set_option maxRecDepth 100000 in
theorem drawWeekdayName_any (cs : Option Addr) (cap : Nat) (bs : List Int) (w : World) (hx : Rd encB w cs bs) (hb : ∀ m ∈ bs, goodB m) (hl : bs.length ≤ 4096) :
    Calls Tryz.prog 20 #[.slice cs bs.length cap] w fun e w' => (∃ z : Int, e = .returned (.int .i64 z)) ∧ Below w.heap.size w w' := by
  go_enter Tryz.func20, Tryz.ntmps20
  go_wp2_with fail
  refine (l01From_any cs cap bs w hx hb).mono ?_
  rintro e w1 ⟨p, rfl, hs⟩
  go_wp2_with fail
  refine (l01Next_any w cs cap bs p 9 _ hx hb hl (by decide) (by decide) hs).mono ?_
  rintro e w2 ⟨r, rfl, h0, h1, hs2, hG⟩
  have v1 : IntKind.i64.wrap (r - 1) = r - 1 := by rw [IntKind.wrap_i64]; omega
  go_wp2
  go_ret
  exact ⟨⟨_, rfl⟩, hs2.base⟩
end

section
open Go.ChangeShapes Go.WideShapes Go.ChangeAt Go.RowKit Go.IntWalk

theorem rdR_king (s : ByteArray) : (rdR s).1.king.size ≤ s.size := by
  unfold rdR
  split
  · exact readI_king rnB s.size (wsB 32 s) (wsB_part 32 s)
  · exact Nat.zero_le _
theorem ctx_yes {m : Cl} (h : okCl m = true) : ctxR m = (txtB m, 0) := by unfold ctxR; rw [h]; rfl
theorem ctx_no {m : Cl} (h : okCl m = false) : ctxR m = (⟨#[]⟩, 1) := by unfold ctxR; rw [h]; rfl
set_option maxRecDepth 100000 in
set_option maxHeartbeats 2000000 in
theorem lawClauses_any (cs : Option Addr) (cap : Nat) (bs : List Int) (w : World) (_hl : bs.length ≤ maxLen) (hx : Rd encB w cs bs) (hb : ∀ m ∈ bs, goodB m) (hN : NumW w) :
    Calls Tryz.prog 4 #[.slice cs bs.length cap] w fun e w' => e = .returned (.bool true) ∧ Below w.heap.size w w' := by
  have HBIG := Lib.hid (big_any cs cap bs.length w)
  by_cases hbig : 4096 < bs.length
  · have HBIG := Lib.hid ((show decide (4096 < bs.length) = true by simpa using hbig) ▸ HBIG.out)
    go_enter Tryz.func4, Tryz.ntmps4
    go_wp2_with fail
    refine HBIG.out.mono ?_
    rintro e w1 ⟨rfl, rfl⟩
    go_wp2
    go_ret
    exact ⟨rfl, Below.refl _ _⟩
  have HBIG := Lib.hid ((show decide (4096 < bs.length) = false by simpa using hbig) ▸ HBIG.out)
  have hl : bs.length ≤ 4096 := by omega
  have HR := Lib.hid (fun (t : ByteArray) (h : t.size ≤ 1048576) W (hB : Below w.heap.size w W) => implReadClause_any t h W (hN.below hB))
  have HS := Lib.hid (fun (t : ByteArray) (h : t.size ≤ 1048576) W => specReadClause_any t h W)
  have HT := Lib.hid (fun (m : Cl) (h : m.king.size ≤ 9223372036854775807) W (hB : Below w.heap.size w W) => implClauseText_any m W h (hN.below hB).tab)
  clear hN
  go_enter Tryz.func4, Tryz.ntmps4
  go_wp2_with fail
  refine HBIG.out.mono ?_
  rintro e w0 ⟨rfl, rfl⟩
  clear HBIG hbig
  go_wp2_with fail
  refine (drawClauseText_any cs cap bs w hx hb hl).mono ?_
  rintro e W1 ⟨⟨m, rfl, hmk⟩, hB⟩
  have hA := At.start W1 [.int .i64 m.kind, .int .i64 m.number, .int .i64 m.month, .int .i64 m.feast, .int .i64 m.relation, .int .i64 m.weekday, .int .i64 m.style, .string m.king] 31
  go_upto_region 4 with (fail)
  generalize hW : W1.alloc (.cells #[.int .i64 m.kind, .int .i64 m.number, .int .i64 m.month, .int .i64 m.feast, .int .i64 m.relation, .int .i64 m.weekday, .int .i64 m.style, .string m.king] 31) = W2 at hA ⊢
  clear hW
  have hB1 := hA.below
  replace hB := stepB hB hB1 hB.size
  clear hB1
  have hT := Lib.hid (HT.out m (by omega))
  have hTs := Lib.hid (fun W => specClauseText_any m W (by omega))
  have hIC := Lib.hid (fun W => implClause_any m W (by omega))
  have hsmall : okCl m = true → (ctxR m).1.size ≤ 1048576 := fun h => by rw [ctx_yes h]; exact Nat.le_trans (txtB_small h) (by decide)
  have hctx : (okCl m = true ∧ ctxR m = (txtB m, 0)) ∨ (okCl m = false ∧ ctxR m = (⟨#[]⟩, 1)) := by
    cases h : okCl m
    · exact .inr ⟨rfl, ctx_no h⟩
    · exact .inl ⟨rfl, ctx_yes h⟩
  generalize ctxR m = RR at hT hTs hsmall hctx
  obtain ⟨T, cd⟩ := RR
  simp only at hsmall
  have a0 := hA.cell 0 _ rfl
  have a1 := hA.cell 1 _ rfl
  have a2 := hA.cell 2 _ rfl
  have a3 := hA.cell 3 _ rfl
  have a4 := hA.cell 4 _ rfl
  have a5 := hA.cell 5 _ rfl
  have a6 := hA.cell 6 _ rfl
  have a7 := hA.cell 7 _ rfl
  go_wp2_with fail
  refine (hT.out _ hB).mono ?_
  rintro e W3 ⟨rfl, hB1⟩
  replace hA := hA.step hB1
  replace hB := stepB hB hB1 hB.size
  clear hB1
  clear a0 a1 a2 a3 a4 a5 a6 a7
  have a0 := hA.cell 0 _ rfl
  have a1 := hA.cell 1 _ rfl
  have a2 := hA.cell 2 _ rfl
  have a3 := hA.cell 3 _ rfl
  have a4 := hA.cell 4 _ rfl
  have a5 := hA.cell 5 _ rfl
  have a6 := hA.cell 6 _ rfl
  have a7 := hA.cell 7 _ rfl
  go_wp2_with fail
  refine (hTs.out _).mono ?_
  rintro e W4 ⟨rfl, hB1⟩
  replace hA := hA.step hB1
  replace hB := stepB hB hB1 hB.size
  clear hB1
  clear a0 a1 a2 a3 a4 a5 a6 a7
  clear hT hTs
  go_wp2_with fail
  refine (drawReadClause_any cs cap bs _ (hx.below hB) hb hl).mono ?_
  rintro e W5 ⟨⟨s, rfl, hss⟩, hB1⟩
  replace hA := hA.step hB1
  replace hB := stepB hB hB1 hB.size
  clear hB1
  have hR := HR.out s hss
  have hS := HS.out s hss
  have hxk := rdR_king s
  have hxok := rdR_okCl (s := s)
  generalize rdR s = RR at hR hS hxk hxok
  obtain ⟨x, one⟩ := RR
  unfold clV at hR hS
  simp only at hR hS hxk hxok
  replace hR := Lib.hid hR
  replace hS := Lib.hid hS
  go_wp2_with fail
  refine (hR.out _ hB).mono ?_
  rintro e W6 ⟨rfl, hB1⟩
  replace hA := hA.step hB1
  replace hB := stepB hB hB1 hB.size
  clear hB1
  have hC := At.start W6 [.int .i64 x.kind, .int .i64 x.number, .int .i64 x.month, .int .i64 x.feast, .int .i64 x.relation, .int .i64 x.weekday, .int .i64 x.style, .string x.king] 31
  go_upto_region 8 with (fail)
  generalize hW : W6.alloc (.cells #[.int .i64 x.kind, .int .i64 x.number, .int .i64 x.month, .int .i64 x.feast, .int .i64 x.relation, .int .i64 x.weekday, .int .i64 x.style, .string x.king] 31) = W7 at hC ⊢
  clear hW
  have hB1 := hC.below
  replace hA := hA.step hB1
  replace hB := stepB hB hB1 hB.size
  clear hB1
  go_wp2_with fail
  refine (hS.out _).mono ?_
  rintro e W8 ⟨rfl, hB1⟩
  replace hA := hA.step hB1
  replace hC := hC.step hB1
  replace hB := stepB hB hB1 hB.size
  clear hB1
  have hD := At.start W8 [.int .i64 x.kind, .int .i64 x.number, .int .i64 x.month, .int .i64 x.feast, .int .i64 x.relation, .int .i64 x.weekday, .int .i64 x.style, .string x.king] 31
  go_upto_region 9 with (fail)
  generalize hW : W8.alloc (.cells #[.int .i64 x.kind, .int .i64 x.number, .int .i64 x.month, .int .i64 x.feast, .int .i64 x.relation, .int .i64 x.weekday, .int .i64 x.style, .string x.king] 31) = W9 at hD ⊢
  clear hW
  have hB1 := hD.below
  replace hA := hA.step hB1
  replace hC := hC.step hB1
  replace hB := stepB hB hB1 hB.size
  clear hB1
  clear hR hS
  go_wp2_with fail
  refine (drawMonthName_any cs cap bs _ (hx.below hB) hb hl).mono ?_
  rintro e W10 ⟨⟨mo, rfl⟩, hB1⟩
  replace hA := hA.step hB1
  replace hC := hC.step hB1
  replace hD := hD.step hB1
  replace hB := stepB hB hB1 hB.size
  clear hB1
  go_wp2_with fail
  refine (drawWeekdayName_any cs cap bs _ (hx.below hB) hb hl).mono ?_
  rintro e W11 ⟨⟨we, rfl⟩, hB1⟩
  replace hA := hA.step hB1
  replace hC := hC.step hB1
  replace hD := hD.step hB1
  replace hB := stepB hB hB1 hB.size
  clear hB1
  have q1 : (cd != cd) = false := by simp
  have q2 : (T.toList == T.toList) = true := by simp
  have q3 : (one != one) = false := by simp
  have q4 : ((nameN monL 1 mo).toList == (nameN monL 1 mo).toList) = true := by simp
  have q5 : ((nameN wkL 0 we).toList == (nameN wkL 0 we).toList) = true := by simp
  have HM1 := Lib.hid (fun W => implMonthName_any mo W)
  have HM2 := Lib.hid (fun W => specMonthName_any mo W)
  have HW1 := Lib.hid (fun W => implWeekdayName_any we W)
  have HW2 := Lib.hid (fun W => specWeekdayName_any we W)
  generalize nameN monL 1 mo = MN at q4 HM1 HM2
  generalize nameN wkL 0 we = WN at q5 HW1 HW2
  have a0 := hA.cell 0 _ rfl
  have a1 := hA.cell 1 _ rfl
  have a2 := hA.cell 2 _ rfl
  have a3 := hA.cell 3 _ rfl
  have a4 := hA.cell 4 _ rfl
  have a5 := hA.cell 5 _ rfl
  have a6 := hA.cell 6 _ rfl
  have a7 := hA.cell 7 _ rfl
  have c0 := hC.cell 0 _ rfl
  have c1 := hC.cell 1 _ rfl
  have c2 := hC.cell 2 _ rfl
  have c3 := hC.cell 3 _ rfl
  have c4 := hC.cell 4 _ rfl
  have c5 := hC.cell 5 _ rfl
  have c6 := hC.cell 6 _ rfl
  have c7 := hC.cell 7 _ rfl
  have d0 := hD.cell 0 _ rfl
  have d1 := hD.cell 1 _ rfl
  have d2 := hD.cell 2 _ rfl
  have d3 := hD.cell 3 _ rfl
  have d4 := hD.cell 4 _ rfl
  have d5 := hD.cell 5 _ rfl
  have d6 := hD.cell 6 _ rfl
  have d7 := hD.cell 7 _ rfl
  go_wp2_with fail
  refine (HM1.out _).mono ?_
  rintro e W12 ⟨rfl, hB1⟩
  replace hA := hA.step hB1
  replace hC := hC.step hB1
  replace hD := hD.step hB1
  replace hB := stepB hB hB1 hB.size
  clear hB1
  clear a0 a1 a2 a3 a4 a5 a6 a7
  have a0 := hA.cell 0 _ rfl
  have a1 := hA.cell 1 _ rfl
  have a2 := hA.cell 2 _ rfl
  have a3 := hA.cell 3 _ rfl
  have a4 := hA.cell 4 _ rfl
  have a5 := hA.cell 5 _ rfl
  have a6 := hA.cell 6 _ rfl
  have a7 := hA.cell 7 _ rfl
  clear c0 c1 c2 c3 c4 c5 c6 c7
  have c0 := hC.cell 0 _ rfl
  have c1 := hC.cell 1 _ rfl
  have c2 := hC.cell 2 _ rfl
  have c3 := hC.cell 3 _ rfl
  have c4 := hC.cell 4 _ rfl
  have c5 := hC.cell 5 _ rfl
  have c6 := hC.cell 6 _ rfl
  have c7 := hC.cell 7 _ rfl
  clear d0 d1 d2 d3 d4 d5 d6 d7
  have d0 := hD.cell 0 _ rfl
  have d1 := hD.cell 1 _ rfl
  have d2 := hD.cell 2 _ rfl
  have d3 := hD.cell 3 _ rfl
  have d4 := hD.cell 4 _ rfl
  have d5 := hD.cell 5 _ rfl
  have d6 := hD.cell 6 _ rfl
  have d7 := hD.cell 7 _ rfl
  go_wp2_with fail
  refine (HM2.out _).mono ?_
  rintro e W13 ⟨rfl, hB1⟩
  replace hA := hA.step hB1
  replace hC := hC.step hB1
  replace hD := hD.step hB1
  replace hB := stepB hB hB1 hB.size
  clear hB1
  clear a0 a1 a2 a3 a4 a5 a6 a7
  have a0 := hA.cell 0 _ rfl
  have a1 := hA.cell 1 _ rfl
  have a2 := hA.cell 2 _ rfl
  have a3 := hA.cell 3 _ rfl
  have a4 := hA.cell 4 _ rfl
  have a5 := hA.cell 5 _ rfl
  have a6 := hA.cell 6 _ rfl
  have a7 := hA.cell 7 _ rfl
  clear c0 c1 c2 c3 c4 c5 c6 c7
  have c0 := hC.cell 0 _ rfl
  have c1 := hC.cell 1 _ rfl
  have c2 := hC.cell 2 _ rfl
  have c3 := hC.cell 3 _ rfl
  have c4 := hC.cell 4 _ rfl
  have c5 := hC.cell 5 _ rfl
  have c6 := hC.cell 6 _ rfl
  have c7 := hC.cell 7 _ rfl
  clear d0 d1 d2 d3 d4 d5 d6 d7
  have d0 := hD.cell 0 _ rfl
  have d1 := hD.cell 1 _ rfl
  have d2 := hD.cell 2 _ rfl
  have d3 := hD.cell 3 _ rfl
  have d4 := hD.cell 4 _ rfl
  have d5 := hD.cell 5 _ rfl
  have d6 := hD.cell 6 _ rfl
  have d7 := hD.cell 7 _ rfl
  go_wp2_with fail
  refine (HW1.out _).mono ?_
  rintro e W14 ⟨rfl, hB1⟩
  replace hA := hA.step hB1
  replace hC := hC.step hB1
  replace hD := hD.step hB1
  replace hB := stepB hB hB1 hB.size
  clear hB1
  clear a0 a1 a2 a3 a4 a5 a6 a7
  have a0 := hA.cell 0 _ rfl
  have a1 := hA.cell 1 _ rfl
  have a2 := hA.cell 2 _ rfl
  have a3 := hA.cell 3 _ rfl
  have a4 := hA.cell 4 _ rfl
  have a5 := hA.cell 5 _ rfl
  have a6 := hA.cell 6 _ rfl
  have a7 := hA.cell 7 _ rfl
  clear c0 c1 c2 c3 c4 c5 c6 c7
  have c0 := hC.cell 0 _ rfl
  have c1 := hC.cell 1 _ rfl
  have c2 := hC.cell 2 _ rfl
  have c3 := hC.cell 3 _ rfl
  have c4 := hC.cell 4 _ rfl
  have c5 := hC.cell 5 _ rfl
  have c6 := hC.cell 6 _ rfl
  have c7 := hC.cell 7 _ rfl
  clear d0 d1 d2 d3 d4 d5 d6 d7
  have d0 := hD.cell 0 _ rfl
  have d1 := hD.cell 1 _ rfl
  have d2 := hD.cell 2 _ rfl
  have d3 := hD.cell 3 _ rfl
  have d4 := hD.cell 4 _ rfl
  have d5 := hD.cell 5 _ rfl
  have d6 := hD.cell 6 _ rfl
  have d7 := hD.cell 7 _ rfl
  go_wp2_with fail
  refine (HW2.out _).mono ?_
  rintro e W15 ⟨rfl, hB1⟩
  replace hA := hA.step hB1
  replace hC := hC.step hB1
  replace hD := hD.step hB1
  replace hB := stepB hB hB1 hB.size
  clear hB1
  clear a0 a1 a2 a3 a4 a5 a6 a7
  have a0 := hA.cell 0 _ rfl
  have a1 := hA.cell 1 _ rfl
  have a2 := hA.cell 2 _ rfl
  have a3 := hA.cell 3 _ rfl
  have a4 := hA.cell 4 _ rfl
  have a5 := hA.cell 5 _ rfl
  have a6 := hA.cell 6 _ rfl
  have a7 := hA.cell 7 _ rfl
  clear c0 c1 c2 c3 c4 c5 c6 c7
  have c0 := hC.cell 0 _ rfl
  have c1 := hC.cell 1 _ rfl
  have c2 := hC.cell 2 _ rfl
  have c3 := hC.cell 3 _ rfl
  have c4 := hC.cell 4 _ rfl
  have c5 := hC.cell 5 _ rfl
  have c6 := hC.cell 6 _ rfl
  have c7 := hC.cell 7 _ rfl
  clear d0 d1 d2 d3 d4 d5 d6 d7
  have d0 := hD.cell 0 _ rfl
  have d1 := hD.cell 1 _ rfl
  have d2 := hD.cell 2 _ rfl
  have d3 := hD.cell 3 _ rfl
  have d4 := hD.cell 4 _ rfl
  have d5 := hD.cell 5 _ rfl
  have d6 := hD.cell 6 _ rfl
  have d7 := hD.cell 7 _ rfl
  clear HM1 HM2 HW1 HW2
  replace hsmall := Lib.hid hsmall
  rcases hctx with ⟨hok, hce⟩ | ⟨hok, hce⟩
  · have hTe := Lib.hid (show T = txtB m from congrArg Prod.fst hce)
    obtain rfl : cd = 0 := congrArg Prod.snd hce
    replace hIC := Lib.hid (fun W => hok ▸ hIC.out W)
    clear hce
    replace hok := Lib.hid hok
    go_wp2_with fail
    refine (hIC.out _).mono ?_
    rintro e W16 ⟨rfl, hB1⟩
    replace hA := hA.step hB1
    replace hC := hC.step hB1
    replace hD := hD.step hB1
    replace hB := stepB hB hB1 hB.size
    clear hB1
    clear a0 a1 a2 a3 a4 a5 a6 a7
    have a0 := hA.cell 0 _ rfl
    have a1 := hA.cell 1 _ rfl
    have a2 := hA.cell 2 _ rfl
    have a3 := hA.cell 3 _ rfl
    have a4 := hA.cell 4 _ rfl
    have a5 := hA.cell 5 _ rfl
    have a6 := hA.cell 6 _ rfl
    have a7 := hA.cell 7 _ rfl
    clear c0 c1 c2 c3 c4 c5 c6 c7
    have c0 := hC.cell 0 _ rfl
    have c1 := hC.cell 1 _ rfl
    have c2 := hC.cell 2 _ rfl
    have c3 := hC.cell 3 _ rfl
    have c4 := hC.cell 4 _ rfl
    have c5 := hC.cell 5 _ rfl
    have c6 := hC.cell 6 _ rfl
    have c7 := hC.cell 7 _ rfl
    clear d0 d1 d2 d3 d4 d5 d6 d7
    have d0 := hD.cell 0 _ rfl
    have d1 := hD.cell 1 _ rfl
    have d2 := hD.cell 2 _ rfl
    have d3 := hD.cell 3 _ rfl
    have d4 := hD.cell 4 _ rfl
    have d5 := hD.cell 5 _ rfl
    have d6 := hD.cell 6 _ rfl
    have d7 := hD.cell 7 _ rfl
    clear hIC
    by_cases hone : one = 0
    · subst hone
      have hxo := hxok rfl
      have hT2 := HT.out x (by omega)
      rw [ctx_yes hxo] at hT2
      have hR2 := HR.out (txtB x) (Nat.le_trans (txtB_small hxo) (by decide))
      rw [read_txt hxo] at hR2
      unfold clV at hR2
      simp only at hR2 hT2
      replace hR2 := Lib.hid hR2
      replace hT2 := Lib.hid hT2
      clear hxok hxo
      generalize txtB x = TX at hR2 hT2
      go_wp2_with fail
      refine (hT2.out _ hB).mono ?_
      rintro e W17 ⟨rfl, hB1⟩
      replace hA := hA.step hB1
      replace hC := hC.step hB1
      replace hD := hD.step hB1
      replace hB := stepB hB hB1 hB.size
      clear hB1
      clear a0 a1 a2 a3 a4 a5 a6 a7
      clear c0 c1 c2 c3 c4 c5 c6 c7
      clear d0 d1 d2 d3 d4 d5 d6 d7
      go_wp2_with fail
      refine (hR2.out _ hB).mono ?_
      rintro e W18 ⟨rfl, hB1⟩
      replace hA := hA.step hB1
      replace hC := hC.step hB1
      replace hD := hD.step hB1
      replace hB := stepB hB hB1 hB.size
      clear hB1
      have hG := At.start W18 [.int .i64 x.kind, .int .i64 x.number, .int .i64 x.month, .int .i64 x.feast, .int .i64 x.relation, .int .i64 x.weekday, .int .i64 x.style, .string x.king] 31
      go_upto_region 15 with (fail)
      generalize hW : W18.alloc (.cells #[.int .i64 x.kind, .int .i64 x.number, .int .i64 x.month, .int .i64 x.feast, .int .i64 x.relation, .int .i64 x.weekday, .int .i64 x.style, .string x.king] 31) = W19 at hG ⊢
      clear hW
      have hB1 := hG.below
      replace hA := hA.step hB1
      replace hC := hC.step hB1
      replace hD := hD.step hB1
      replace hB := stepB hB hB1 hB.size
      clear hB1
      clear hR2 hT2
      have c0 := hC.cell 0 _ rfl
      have c1 := hC.cell 1 _ rfl
      have c2 := hC.cell 2 _ rfl
      have c3 := hC.cell 3 _ rfl
      have c4 := hC.cell 4 _ rfl
      have c5 := hC.cell 5 _ rfl
      have c6 := hC.cell 6 _ rfl
      have c7 := hC.cell 7 _ rfl
      have g0 := hG.cell 0 _ rfl
      have g1 := hG.cell 1 _ rfl
      have g2 := hG.cell 2 _ rfl
      have g3 := hG.cell 3 _ rfl
      have g4 := hG.cell 4 _ rfl
      have g5 := hG.cell 5 _ rfl
      have g6 := hG.cell 6 _ rfl
      have g7 := hG.cell 7 _ rfl
      go_upto_region 17 with (fail)
      clear g0 g1 g2 g3 g4 g5 g6 g7
      clear c0 c1 c2 c3 c4 c5 c6 c7
      have a0 := hA.cell 0 _ rfl
      have a1 := hA.cell 1 _ rfl
      have a2 := hA.cell 2 _ rfl
      have a3 := hA.cell 3 _ rfl
      have a4 := hA.cell 4 _ rfl
      have a5 := hA.cell 5 _ rfl
      have a6 := hA.cell 6 _ rfl
      have a7 := hA.cell 7 _ rfl
      have c0 := hC.cell 0 _ rfl
      have c1 := hC.cell 1 _ rfl
      have c2 := hC.cell 2 _ rfl
      have c3 := hC.cell 3 _ rfl
      have c4 := hC.cell 4 _ rfl
      have c5 := hC.cell 5 _ rfl
      have c6 := hC.cell 6 _ rfl
      have c7 := hC.cell 7 _ rfl
      have d0 := hD.cell 0 _ rfl
      have d1 := hD.cell 1 _ rfl
      have d2 := hD.cell 2 _ rfl
      have d3 := hD.cell 3 _ rfl
      have d4 := hD.cell 4 _ rfl
      have d5 := hD.cell 5 _ rfl
      have d6 := hD.cell 6 _ rfl
      have d7 := hD.cell 7 _ rfl
      have hR := HR.out T (hsmall.out hok.out)
      rw [show rdR T = (m, 0) by rw [hTe.out]; exact read_txt hok.out] at hR
      unfold clV at hR
      simp only at hR
      replace hR := Lib.hid hR
      clear a0 a1 a2 a3 a4 a5 a6 a7
      clear c0 c1 c2 c3 c4 c5 c6 c7
      clear d0 d1 d2 d3 d4 d5 d6 d7
      go_wp2_with fail
      refine (hR.out _ hB).mono ?_
      rintro e W20 ⟨rfl, hB1⟩
      replace hA := hA.step hB1
      replace hC := hC.step hB1
      replace hD := hD.step hB1
      replace hG := hG.step hB1
      replace hB := stepB hB hB1 hB.size
      clear hB1
      have hE := At.start W20 [.int .i64 m.kind, .int .i64 m.number, .int .i64 m.month, .int .i64 m.feast, .int .i64 m.relation, .int .i64 m.weekday, .int .i64 m.style, .string m.king] 31
      go_upto_region 20 with (fail)
      generalize hW : W20.alloc (.cells #[.int .i64 m.kind, .int .i64 m.number, .int .i64 m.month, .int .i64 m.feast, .int .i64 m.relation, .int .i64 m.weekday, .int .i64 m.style, .string m.king] 31) = W21 at hE ⊢
      clear hW
      have hB1 := hE.below
      replace hA := hA.step hB1
      replace hC := hC.step hB1
      replace hD := hD.step hB1
      replace hG := hG.step hB1
      replace hB := stepB hB hB1 hB.size
      clear hB1
      clear hR
      have a0 := hA.cell 0 _ rfl
      have a1 := hA.cell 1 _ rfl
      have a2 := hA.cell 2 _ rfl
      have a3 := hA.cell 3 _ rfl
      have a4 := hA.cell 4 _ rfl
      have a5 := hA.cell 5 _ rfl
      have a6 := hA.cell 6 _ rfl
      have a7 := hA.cell 7 _ rfl
      have f0 := hE.cell 0 _ rfl
      have f1 := hE.cell 1 _ rfl
      have f2 := hE.cell 2 _ rfl
      have f3 := hE.cell 3 _ rfl
      have f4 := hE.cell 4 _ rfl
      have f5 := hE.cell 5 _ rfl
      have f6 := hE.cell 6 _ rfl
      have f7 := hE.cell 7 _ rfl
      go_wp2
      go_ret
      exact ⟨rfl, hB⟩
    · have hone1 : (one == 0) = false := by simpa using hone
      clear hxok
      have hR := HR.out T (hsmall.out hok.out)
      rw [show rdR T = (m, 0) by rw [hTe.out]; exact read_txt hok.out] at hR
      unfold clV at hR
      simp only at hR
      replace hR := Lib.hid hR
      clear a0 a1 a2 a3 a4 a5 a6 a7
      clear c0 c1 c2 c3 c4 c5 c6 c7
      clear d0 d1 d2 d3 d4 d5 d6 d7
      go_wp2_with fail
      refine (hR.out _ hB).mono ?_
      rintro e W17 ⟨rfl, hB1⟩
      replace hA := hA.step hB1
      replace hC := hC.step hB1
      replace hD := hD.step hB1
      replace hB := stepB hB hB1 hB.size
      clear hB1
      have hE := At.start W17 [.int .i64 m.kind, .int .i64 m.number, .int .i64 m.month, .int .i64 m.feast, .int .i64 m.relation, .int .i64 m.weekday, .int .i64 m.style, .string m.king] 31
      go_upto_region 20 with (fail)
      generalize hW : W17.alloc (.cells #[.int .i64 m.kind, .int .i64 m.number, .int .i64 m.month, .int .i64 m.feast, .int .i64 m.relation, .int .i64 m.weekday, .int .i64 m.style, .string m.king] 31) = W18 at hE ⊢
      clear hW
      have hB1 := hE.below
      replace hA := hA.step hB1
      replace hC := hC.step hB1
      replace hD := hD.step hB1
      replace hB := stepB hB hB1 hB.size
      clear hB1
      clear hR
      have a0 := hA.cell 0 _ rfl
      have a1 := hA.cell 1 _ rfl
      have a2 := hA.cell 2 _ rfl
      have a3 := hA.cell 3 _ rfl
      have a4 := hA.cell 4 _ rfl
      have a5 := hA.cell 5 _ rfl
      have a6 := hA.cell 6 _ rfl
      have a7 := hA.cell 7 _ rfl
      have f0 := hE.cell 0 _ rfl
      have f1 := hE.cell 1 _ rfl
      have f2 := hE.cell 2 _ rfl
      have f3 := hE.cell 3 _ rfl
      have f4 := hE.cell 4 _ rfl
      have f5 := hE.cell 5 _ rfl
      have f6 := hE.cell 6 _ rfl
      have f7 := hE.cell 7 _ rfl
      go_wp2
      go_ret
      exact ⟨rfl, hB⟩
  · obtain rfl : cd = 1 := congrArg Prod.snd hce
    replace hIC := Lib.hid (fun W => hok ▸ hIC.out W)
    clear hce hok
    go_wp2_with fail
    refine (hIC.out _).mono ?_
    rintro e W16 ⟨rfl, hB1⟩
    replace hA := hA.step hB1
    replace hC := hC.step hB1
    replace hD := hD.step hB1
    replace hB := stepB hB hB1 hB.size
    clear hB1
    clear a0 a1 a2 a3 a4 a5 a6 a7
    have a0 := hA.cell 0 _ rfl
    have a1 := hA.cell 1 _ rfl
    have a2 := hA.cell 2 _ rfl
    have a3 := hA.cell 3 _ rfl
    have a4 := hA.cell 4 _ rfl
    have a5 := hA.cell 5 _ rfl
    have a6 := hA.cell 6 _ rfl
    have a7 := hA.cell 7 _ rfl
    clear c0 c1 c2 c3 c4 c5 c6 c7
    have c0 := hC.cell 0 _ rfl
    have c1 := hC.cell 1 _ rfl
    have c2 := hC.cell 2 _ rfl
    have c3 := hC.cell 3 _ rfl
    have c4 := hC.cell 4 _ rfl
    have c5 := hC.cell 5 _ rfl
    have c6 := hC.cell 6 _ rfl
    have c7 := hC.cell 7 _ rfl
    clear d0 d1 d2 d3 d4 d5 d6 d7
    have d0 := hD.cell 0 _ rfl
    have d1 := hD.cell 1 _ rfl
    have d2 := hD.cell 2 _ rfl
    have d3 := hD.cell 3 _ rfl
    have d4 := hD.cell 4 _ rfl
    have d5 := hD.cell 5 _ rfl
    have d6 := hD.cell 6 _ rfl
    have d7 := hD.cell 7 _ rfl
    clear hIC
    by_cases hone : one = 0
    · subst hone
      have hxo := hxok rfl
      have hT2 := HT.out x (by omega)
      rw [ctx_yes hxo] at hT2
      have hR2 := HR.out (txtB x) (Nat.le_trans (txtB_small hxo) (by decide))
      rw [read_txt hxo] at hR2
      unfold clV at hR2
      simp only at hR2 hT2
      replace hR2 := Lib.hid hR2
      replace hT2 := Lib.hid hT2
      clear hxok hxo
      generalize txtB x = TX at hR2 hT2
      go_wp2_with fail
      refine (hT2.out _ hB).mono ?_
      rintro e W17 ⟨rfl, hB1⟩
      replace hA := hA.step hB1
      replace hC := hC.step hB1
      replace hD := hD.step hB1
      replace hB := stepB hB hB1 hB.size
      clear hB1
      clear a0 a1 a2 a3 a4 a5 a6 a7
      clear c0 c1 c2 c3 c4 c5 c6 c7
      clear d0 d1 d2 d3 d4 d5 d6 d7
      go_wp2_with fail
      refine (hR2.out _ hB).mono ?_
      rintro e W18 ⟨rfl, hB1⟩
      replace hA := hA.step hB1
      replace hC := hC.step hB1
      replace hD := hD.step hB1
      replace hB := stepB hB hB1 hB.size
      clear hB1
      have hG := At.start W18 [.int .i64 x.kind, .int .i64 x.number, .int .i64 x.month, .int .i64 x.feast, .int .i64 x.relation, .int .i64 x.weekday, .int .i64 x.style, .string x.king] 31
      go_upto_region 15 with (fail)
      generalize hW : W18.alloc (.cells #[.int .i64 x.kind, .int .i64 x.number, .int .i64 x.month, .int .i64 x.feast, .int .i64 x.relation, .int .i64 x.weekday, .int .i64 x.style, .string x.king] 31) = W19 at hG ⊢
      clear hW
      have hB1 := hG.below
      replace hA := hA.step hB1
      replace hC := hC.step hB1
      replace hD := hD.step hB1
      replace hB := stepB hB hB1 hB.size
      clear hB1
      clear hR2 hT2
      have c0 := hC.cell 0 _ rfl
      have c1 := hC.cell 1 _ rfl
      have c2 := hC.cell 2 _ rfl
      have c3 := hC.cell 3 _ rfl
      have c4 := hC.cell 4 _ rfl
      have c5 := hC.cell 5 _ rfl
      have c6 := hC.cell 6 _ rfl
      have c7 := hC.cell 7 _ rfl
      have g0 := hG.cell 0 _ rfl
      have g1 := hG.cell 1 _ rfl
      have g2 := hG.cell 2 _ rfl
      have g3 := hG.cell 3 _ rfl
      have g4 := hG.cell 4 _ rfl
      have g5 := hG.cell 5 _ rfl
      have g6 := hG.cell 6 _ rfl
      have g7 := hG.cell 7 _ rfl
      go_upto_region 17 with (fail)
      clear g0 g1 g2 g3 g4 g5 g6 g7
      clear c0 c1 c2 c3 c4 c5 c6 c7
      have a0 := hA.cell 0 _ rfl
      have a1 := hA.cell 1 _ rfl
      have a2 := hA.cell 2 _ rfl
      have a3 := hA.cell 3 _ rfl
      have a4 := hA.cell 4 _ rfl
      have a5 := hA.cell 5 _ rfl
      have a6 := hA.cell 6 _ rfl
      have a7 := hA.cell 7 _ rfl
      have c0 := hC.cell 0 _ rfl
      have c1 := hC.cell 1 _ rfl
      have c2 := hC.cell 2 _ rfl
      have c3 := hC.cell 3 _ rfl
      have c4 := hC.cell 4 _ rfl
      have c5 := hC.cell 5 _ rfl
      have c6 := hC.cell 6 _ rfl
      have c7 := hC.cell 7 _ rfl
      have d0 := hD.cell 0 _ rfl
      have d1 := hD.cell 1 _ rfl
      have d2 := hD.cell 2 _ rfl
      have d3 := hD.cell 3 _ rfl
      have d4 := hD.cell 4 _ rfl
      have d5 := hD.cell 5 _ rfl
      have d6 := hD.cell 6 _ rfl
      have d7 := hD.cell 7 _ rfl
      go_wp2
      go_ret
      exact ⟨rfl, hB⟩
    · have hone1 : (one == 0) = false := by simpa using hone
      clear hxok
      go_wp2
      go_ret
      exact ⟨rfl, hB⟩
end
end Go.Proofs.YteajkofgcmfaoaaGreatDoor
