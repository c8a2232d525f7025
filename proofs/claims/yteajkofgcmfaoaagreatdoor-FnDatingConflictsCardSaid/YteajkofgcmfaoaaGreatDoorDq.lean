/- Walk: a text is damaged (l01Damage). Printed by gen_dmg.py. -/
import Derived.Deep.CutRange
import Derived.Deep.CutBlock
import Derived.Lib.EndianBits
import Derived.Laws.BitsLemmas
import Derived.Test.YteajkofgcmfaoaaGreatDoorDr1
namespace Go.Proofs.YteajkofgcmfaoaaGreatDoor
section
open Go.ChangeShapes Go.WideShapes Go.ChangeAt Go.RowKit Go.IntWalk

theorem big_any (cs : Option Addr) (cap n : Nat) (w : World) : Calls Tryz.prog 12 #[.slice cs n cap] w fun e w' => e = .returned (.bool (decide (4096 < n))) ∧ w = w' := by
  go_enter Tryz.func12, Tryz.ntmps12
  go_wp2
  go_ret
  exact ⟨ret_bool (by simp; omega), rfl⟩
set_option maxHeartbeats 400000 in
theorem likeInts_self (a b : Option Addr) (ca cb : Nat) (xs : List Int) (w : World) (hl : xs.length ≤ 2097152) (hx : Rd encI w a xs) (hy : Rd encI w b xs) :
    Calls Tryz.prog 33 #[.slice a xs.length ca, .slice b xs.length cb] w fun e w' =>
      e = .returned (.bool true) ∧ Below w.heap.size w w' := by
  have hne : (((xs.length : Nat) : Int) != (xs.length : Nat)) = false := by simp
  go_enter Tryz.func33, Tryz.ntmps33
  go_wp2
  go_loopw [5] (fun i wr => ∃ (k : Nat), k ≤ xs.length ∧ i = .int .i64 k ∧ Below w.heap.size w wr) (fun i _ => xs.length - (intOf i).toNat)
  case atStart => exact ⟨0, Nat.zero_le _, rfl, Below.refl _ _⟩
  case round =>
    obtain ⟨k, hk, rfl, hB⟩ := hrel
    by_cases hlt : k < xs.length
    · have hm := List.getElem?_eq_getElem hlt
      generalize xs[k] = m at hm
      obtain ⟨b, off, rfl, hb, c0⟩ := (hx.below hB).i hm
      obtain ⟨b', off', rfl, hb', d0⟩ := (hy.below hB).i hm
      have C0 := Later.cell c0 hb
      have D0 := Later.cell d0 hb'
      have hk1 : (k : Int) < (xs.length : Int) := by omega
      clear hm c0 d0
      go_wp2_with fail
      refine wp_region_later wr (by kernel_rfl) (by kernel_rfl) ?_
      repeat (go_big_quiet_step (fail))
      refine wpQuiet_nil ?_
      intro z
      have hz := z.prop
      generalize z.val = w2 at hz
      clear C0 D0
      try simp only [beq_self_eq_true, bne_self_eq_false, Bool.not_true]
      go_wp2
      go_roundw
      case rel => exact ⟨k + 1, by omega, by go_num, stepB hB hz hB.size⟩
      case measure => simp [intOf]; omega
    · go_wp2
      go_ret
      exact ⟨rfl, hB⟩
end

section
open Go.ChangeShapes Go.WideShapes Go.ChangeAt Go.RowKit Go.IntWalk

def dmC : Array Value := #[.string ⟨#[48]⟩, .string ⟨#[49]⟩, .string ⟨#[32]⟩, .string ⟨#[45]⟩, .string ⟨#[44]⟩, .string ⟨#[118]⟩, .string ⟨#[10]⟩, .string ⟨#[97]⟩]
theorem dmC_at {r : Nat} (h : r < 8) : ∃ x : ByteArray, dmC[r]? = some (.string x) ∧ x.size = 1 := by
  match r, h with
  | 0, _ => exact ⟨_, rfl, rfl⟩
  | 1, _ => exact ⟨_, rfl, rfl⟩
  | 2, _ => exact ⟨_, rfl, rfl⟩
  | 3, _ => exact ⟨_, rfl, rfl⟩
  | 4, _ => exact ⟨_, rfl, rfl⟩
  | 5, _ => exact ⟨_, rfl, rfl⟩
  | 6, _ => exact ⟨_, rfl, rfl⟩
  | 7, _ => exact ⟨_, rfl, rfl⟩
set_option maxRecDepth 100000 in
set_option maxHeartbeats 4000000 in
theorem l01Damage_any (w0 : World) (cs : Option Addr) (cap : Nat) (bs : List Int) (p : Nat) (t : ByteArray) (w : World) (hx : Rd encB w0 cs bs) (hb : ∀ m ∈ bs, goodB m) (hl : bs.length ≤ 4096) (ht : t.size ≤ 900000) (hs : Src w0 cs cap bs p w) :
    Calls Tryz.prog 50 #[.pointer (some ⟨p, 0, none⟩), .string t] w fun e w' => ∃ u : ByteArray, e = .returned (.string u) ∧ u.size ≤ t.size + 1 ∧ Src w0 cs cap bs p w' ∧ w.grownBy w' (some p) := by
  have D := Drw.start hs
  have HN := Lib.hid (fun n W hn1 hn2 hs => l01Next_any w0 cs cap bs p n W hx hb hl hn1 hn2 hs)
  have v0 : IntKind.i64.wrap ((t.size : Int) + 1) = (t.size : Int) + 1 := by rw [IntKind.wrap_i64]; omega
  go_enter Tryz.func50, Tryz.ntmps50
  go_wp2_with fail
  refine (HN.out ((t.size : Int) + 1) _ (by omega) (by omega) D.src).mono ?_
  rintro e w1 ⟨r1, rfl, hr0, hr1, hs2, hG⟩
  replace D := D.call hs2 hG
  clear hs2 hG v0
  obtain ⟨k, rfl⟩ := Int.eq_ofNat_of_zero_le hr0
  have hk : k ≤ t.size := by omega
  clear hr0 hr1
  go_wp2_with fail
  refine (HN.out 8 _ (by omega) (by omega) D.src).mono ?_
  rintro e w2 ⟨r2, rfl, hq0, hq1, hs2, hG⟩
  replace D := D.call hs2 hG
  clear hs2 hG
  have b1 : (0 : Int) ≤ (k : Int) := by omega
  have b2 : (k : Int) ≤ (t.size : Int) := by omega
  have z1 : (t.extract 0 k).size = k := by rw [ByteArray.size_extract]; omega
  have z2 : (t.extract k t.size).size = t.size - k := by rw [ByteArray.size_extract]; omega
  by_cases c0 : r2 = 0
  · subst c0
    go_wp2
    go_ret
    exact ⟨_, rfl, by rw [z1]; omega, D.src, D.gr⟩
  have g0 : (r2 == 0) = false := by simpa using c0
  by_cases c1 : r2 = 1
  · subst c1
    clear g0 c0
    go_upto_region 6 with (fail)
    refine MAny.region (S := fun _ => True) (last := 13) (by kernel_rfl) ?_
    have hHeld := True.intro
    have D0 := D.below ((Below.refl _ w2).drew)
    clear D
    have D := D0
    clear D0
    generalize w2.drew = W0 at D ⊢
    refine MAny.take (i := 0) (v := ?_) rfl (by kernel_rfl) (by kernel_rfl) (by kernel_rfl) (fun _ _ _ h => h) (by kernel_rfl) (Or.inl ⟨by rfl, ?_⟩) (by assumption) ?_
    rotate_left
    · (intro w' hSw; (try dsimp only at hSw); go_simp; try (with_reducible rfl))
    try simp only [Act.put, List.setIfInBounds_toArray]
    refine MAny.take (i := 1) (v := ?_) rfl (by kernel_rfl) (by kernel_rfl) (by kernel_rfl) (fun _ _ _ h => h) (by kernel_rfl) (Or.inl ⟨by rfl, ?_⟩) (by assumption) ?_
    rotate_left
    · (intro w' hSw; (try dsimp only at hSw); go_simp; try (with_reducible rfl))
    try simp only [Act.put]
    refine MAny.take (i := 2) (v := ?_) rfl (by kernel_rfl) (by kernel_rfl) (by kernel_rfl) (fun _ _ _ h => h) (by kernel_rfl) (Or.inl ⟨by rfl, ?_⟩) (by assumption) ?_
    rotate_left
    · (intro w' hSw; (try dsimp only at hSw); go_simp; try (with_reducible rfl))
    try simp only [Act.put]
    refine MAny.take (i := 4) (v := ?_) rfl (by kernel_rfl) (by kernel_rfl) (by kernel_rfl) (fun _ _ _ h => h) (by kernel_rfl) (Or.inl ⟨by rfl, ?_⟩) (by assumption) ?_
    rotate_left
    · (intro w' hSw; (try dsimp only at hSw); go_simp; try (with_reducible rfl))
    try simp only [Act.put]
    refine MAny.take (i := 9) (v := ?_) rfl (by kernel_rfl) (by kernel_rfl) (by kernel_rfl) (fun _ _ _ h => h) (by kernel_rfl) (Or.inl ⟨by rfl, ?_⟩) (by assumption) ?_
    rotate_left
    · (intro w' hSw; (try dsimp only at hSw); go_simp; try (with_reducible rfl))
    try simp only [Act.put]
    refine MAny.take (i := 10) (v := ?_) rfl (by kernel_rfl) (by kernel_rfl) (by kernel_rfl) (fun _ _ _ h => h) (by kernel_rfl) (Or.inl ⟨by rfl, ?_⟩) (by assumption) ?_
    rotate_left
    · (intro w' hSw; (try dsimp only at hSw); go_simp; try (with_reducible rfl))
    try simp only [Act.put]
    refine MAny.take (i := 11) (v := ?_) rfl (by kernel_rfl) (by kernel_rfl) (by kernel_rfl) (fun _ _ _ h => h) (by kernel_rfl) (Or.inl ⟨by rfl, ?_⟩) (by assumption) ?_
    rotate_left
    · (intro w' hSw; (try dsimp only at hSw); go_simp; try (with_reducible rfl))
    try simp only [Act.put]
    refine MAny.ready (rs := [3, 5]) (by kernel_rfl) (by simp) ?_
    refine MReady.cons rfl (fun K hK => ?_) (MReady.cons rfl (fun K hK => ?_) MReady.nil)
    · go_simp
      refine hK.out _ _ (.inr trivial) ?_
      clear hK K
      obtain ⟨N, hN⟩ : ∃ N, W0.heap.size = N := ⟨_, rfl⟩
      have hNp : N ≠ p := by have := D.src.lt; omega
      have hzA : Below W0.heap.size W0 (W0.alloc (.cells dmC 9)) := (Below.refl _ _).alloc (Nat.le_refl _) _
      have cA : ∀ j x, dmC[j]? = some x → (W0.alloc (.cells dmC 9)).cell? ⟨N, j, none⟩ = some x := fun j x h => by rw [← hN, World.cell?_alloc_at _ _ _ _ rfl]; exact h
      have hNl : N < (W0.alloc (.cells dmC 9)).heap.size := by rw [← hN]; simp
      replace D := D.below hzA
      change MAny _ _ _ _ _ _ _ _ _ (W0.alloc (.cells dmC 9))
      generalize W0.alloc (.cells dmC 9) = W1 at D cA hNl ⊢
      clear hzA
      try rw [hN]
      refine MAny.ready (rs := [5]) (by kernel_rfl) (by simp) ?_
      refine MReady.cons rfl (fun K hK => ?_) MReady.nil
      go_simp
      go_wp2_with (go_at_call 47; refine (HN.out 8 _ (by omega) (by omega) D.src).mono ?_; rintro e W3 ⟨r3, rfl, hu0, hu1, hs2, hG⟩)
      replace D := D.call hs2 hG
      obtain ⟨j, rfl⟩ := Int.eq_ofNat_of_zero_le hu0
      have hj : j < 8 := by omega
      obtain ⟨x, hxc, hx1⟩ := dmC_at hj
      have cx : W3.cell? ⟨N, j, none⟩ = some (.string x) := (gcell hG (p := ⟨N, j, none⟩) hNl (fun g e => by cases e; exact hNp)).trans (cA j _ hxc)
      have j1 : (j : Int) < 8 := by omega
      refine hK.out _ _ (.inr trivial) ?_
      clear hK K
      clear hs2 hG cA
      have e1 : (9223372036854775807 < (t.extract 0 k).size + x.size) = False := eq_false (by omega)
      have e2 : (9223372036854775807 < (t.extract 0 k).size + x.size + (t.extract k t.size).size) = False := eq_false (by omega)
      have e3 : (9223372036854775807 < k + x.size) = False := eq_false (by omega)
      have e4 : (9223372036854775807 < k + x.size + (t.size - k)) = False := eq_false (by omega)
      replace z1 := Lib.hid z1
      replace z2 := Lib.hid z2
      replace hx1 := Lib.hid hx1
      refine MAny.ready (rs := [6]) (by kernel_rfl) (by simp) ?_
      refine MReady.cons rfl (fun K hK => ?_) MReady.nil
      go_simp
      refine hK.out _ _ (.inr trivial) ?_
      clear hK K
      refine MAny.ready (rs := [7]) (by kernel_rfl) (by simp) ?_
      refine MReady.cons rfl (fun K hK => ?_) MReady.nil
      go_simp
      refine hK.out _ _ (.inr trivial) ?_
      clear hK K
      refine MAny.ready (rs := [8]) (by kernel_rfl) (by simp) ?_
      refine MReady.cons rfl (fun K hK => ?_) MReady.nil
      go_simp
      go_wp2
      refine hK.out _ _ (.inr trivial) ?_
      clear hK K
      refine MAny.ready (rs := [12]) (by kernel_rfl) (by simp) ?_
      refine MReady.cons rfl (fun K hK => ?_) MReady.nil
      go_simp
      go_wp2
      refine hK.out _ _ (.inr trivial) ?_
      clear hK K
      refine MAny.ready (rs := [13]) (by kernel_rfl) (by simp) ?_
      refine MReady.cons rfl (fun K hK => ?_) MReady.nil
      go_simp
      refine hK.out _ _ (.inl rfl) ?_
      clear hK K
      refine MAny.done (by kernel_rfl) ?_ _
      try simp only [List.getElem_toArray, List.getElem_cons_succ, List.getElem_cons_zero]
      go_wp2
      go_ret
      exact ⟨_, rfl, by rw [ByteArray.size_append, ByteArray.size_append, z1.out, z2.out, hx1.out]; omega, D.src, D.gr⟩
    · go_simp
      go_wp2_with (go_at_call 47; refine (HN.out 8 _ (by omega) (by omega) D.src).mono ?_; rintro e W3 ⟨r3, rfl, hu0, hu1, hs2, hG⟩)
      replace D := D.call hs2 hG
      clear hs2 hG
      refine hK.out _ _ (.inr trivial) ?_
      clear hK K
      obtain ⟨N, hN⟩ : ∃ N, W3.heap.size = N := ⟨_, rfl⟩
      refine MAny.ready (rs := [3]) (by kernel_rfl) (by simp) ?_
      refine MReady.cons rfl (fun K hK => ?_) MReady.nil
      go_simp
      refine hK.out _ _ (.inr trivial) ?_
      clear hK K
      have hzA : Below W3.heap.size W3 (W3.alloc (.cells dmC 9)) := (Below.refl _ _).alloc (Nat.le_refl _) _
      have cA : ∀ j x, dmC[j]? = some x → (W3.alloc (.cells dmC 9)).cell? ⟨N, j, none⟩ = some x := fun j x h => by rw [← hN, World.cell?_alloc_at _ _ _ _ rfl]; exact h
      replace D := D.below hzA
      change MAny _ _ _ _ _ _ _ _ _ (W3.alloc (.cells dmC 9))
      generalize W3.alloc (.cells dmC 9) = W1 at D cA ⊢
      clear hzA
      try rw [hN]
      obtain ⟨j, rfl⟩ := Int.eq_ofNat_of_zero_le hu0
      have hj : j < 8 := by omega
      obtain ⟨x, hxc, hx1⟩ := dmC_at hj
      have cx : W1.cell? ⟨N, j, none⟩ = some (.string x) := cA j _ hxc
      have j1 : (j : Int) < 8 := by omega
      clear cA
      have e1 : (9223372036854775807 < (t.extract 0 k).size + x.size) = False := eq_false (by omega)
      have e2 : (9223372036854775807 < (t.extract 0 k).size + x.size + (t.extract k t.size).size) = False := eq_false (by omega)
      have e3 : (9223372036854775807 < k + x.size) = False := eq_false (by omega)
      have e4 : (9223372036854775807 < k + x.size + (t.size - k)) = False := eq_false (by omega)
      replace z1 := Lib.hid z1
      replace z2 := Lib.hid z2
      replace hx1 := Lib.hid hx1
      refine MAny.ready (rs := [6]) (by kernel_rfl) (by simp) ?_
      refine MReady.cons rfl (fun K hK => ?_) MReady.nil
      go_simp
      refine hK.out _ _ (.inr trivial) ?_
      clear hK K
      refine MAny.ready (rs := [7]) (by kernel_rfl) (by simp) ?_
      refine MReady.cons rfl (fun K hK => ?_) MReady.nil
      go_simp
      refine hK.out _ _ (.inr trivial) ?_
      clear hK K
      refine MAny.ready (rs := [8]) (by kernel_rfl) (by simp) ?_
      refine MReady.cons rfl (fun K hK => ?_) MReady.nil
      go_simp
      go_wp2
      refine hK.out _ _ (.inr trivial) ?_
      clear hK K
      refine MAny.ready (rs := [12]) (by kernel_rfl) (by simp) ?_
      refine MReady.cons rfl (fun K hK => ?_) MReady.nil
      go_simp
      go_wp2
      refine hK.out _ _ (.inr trivial) ?_
      clear hK K
      refine MAny.ready (rs := [13]) (by kernel_rfl) (by simp) ?_
      refine MReady.cons rfl (fun K hK => ?_) MReady.nil
      go_simp
      refine hK.out _ _ (.inl rfl) ?_
      clear hK K
      refine MAny.done (by kernel_rfl) ?_ _
      try simp only [List.getElem_toArray, List.getElem_cons_succ, List.getElem_cons_zero]
      go_wp2
      go_ret
      exact ⟨_, rfl, by rw [ByteArray.size_append, ByteArray.size_append, z1.out, z2.out, hx1.out]; omega, D.src, D.gr⟩
  have g1 : (r2 == 1) = false := by simpa using c1
  by_cases c2 : r2 = 2
  · subst c2
    clear g0 g1 c0 c1
    by_cases hlt : k < t.size
    · have hk1 : (k : Int) < (t.size : Int) := by omega
      have v1 : IntKind.i64.wrap ((k : Int) + 1) = ((k + 1 : Nat) : Int) := by rw [IntKind.wrap_i64]; omega
      have b3 : ((k + 1 : Nat) : Int) ≤ (t.size : Int) := by omega
      have z3 : (t.extract (k + 1) t.size).size = t.size - (k + 1) := by rw [ByteArray.size_extract]; omega
      have e1 : (9223372036854775807 < (t.extract 0 k).size + (t.extract (k + 1) t.size).size) = False := eq_false (by omega)
      go_upto_region 9 with (fail)
      refine wp_region_later w2 (by kernel_rfl) (by kernel_rfl) ?_
      repeat (go_big_quiet_step (fail))
      refine wpQuiet_nil ?_
      intro z
      have hz := z.prop
      generalize z.val = w3 at hz
      replace D := D.below hz
      go_wp2
      go_ret
      exact ⟨_, rfl, by rw [ByteArray.size_append]; omega, D.src, D.gr⟩
    · have hk1 : ¬ (k : Int) < (t.size : Int) := by omega
      go_wp2
      go_ret
      exact ⟨_, rfl, by omega, D.src, D.gr⟩
  · have g2 : (r2 == 2) = false := by simpa using c2
    go_wp2
    go_ret
    exact ⟨_, rfl, by omega, D.src, D.gr⟩
end
end Go.Proofs.YteajkofgcmfaoaaGreatDoor
