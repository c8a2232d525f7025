/- The contract of slices.symMergeCmpFunc for stays. Printed by gen_stabe.py. -/
import Derived.Test.YtipdcgfdejmjfaaGreatDoorTSt
import Derived.Test.YtipdcgfdejmjfaaGreatDoorRSp
import Derived.Test.YtipdcgfdejmjfaaGreatDoorDrB
import Derived.Test.YtipdcgfdejmjfaaGreatDoorBox
import Derived.Test.YtipdcgfdejmjfaaGreatDoorCmp
import Derived.Sort.Grow
import Derived.Deep.Draws
import Derived.Deep.CutRange
import Derived.Deep.CutBlock
namespace Go.Proofs.YtipdcgfdejmjfaaGreatDoor
section
open Go.ChangeShapes Go.WideShapes Go.ChangeAt Go.RowKit Go.IntWalk

/-- New memory and draws, and nothing else. -/
def Gs (w W : World) : Prop := ∃ q os, W = Sort.grow (w.drewN q) os
theorem Gs.below {w W : World} (h : Gs w W) : Below w.heap.size w W := by
  obtain ⟨k, os, rfl⟩ := h
  exact ⟨rfl, rfl, rfl, by show w.heap.size ≤ (w.heap ++ os).size; rw [Array.size_append]; omega, fun j hj => by
    show (w.heap ++ os)[j]? = w.heap[j]?
    rw [Array.getElem?_append_left hj]⟩
set_option maxHeartbeats 1000000 in
theorem addStay1_any (x y : St) (W : World) : Calls Tryz.prog 59 #[.agg #[.int .i64 x.place, .int .i64 x.fr, .int .i64 x.to], .agg #[.int .i64 y.place, .int .i64 y.fr, .int .i64 y.to]] W fun e w' => e = .returned (.int .i64 (cmpI x.fr y.fr)) ∧ Gs W w' := by
  have HC := Lib.hid (fun W' => cmpI_any x.fr y.fr W')
  go_enter Tryz.func59, Tryz.ntmps59
  go_wp2_with fail
  refine (HC.out _).mono ?_
  rintro e w1 ⟨rfl, rfl⟩
  go_wp2
  go_ret
  exact ⟨rfl, 0, _, by rw [Sort.alloc_eq_grow, Sort.alloc_eq_grow, Sort.grow_grow]; rfl⟩
theorem at_mid {P Q : List St} {x : St} {i : Nat} (hi : i = P.length) : (P ++ x :: Q)[i]? = some x := by subst hi; simp
/-- Two rows of an own slice are exchanged: the first is written first. -/
theorem own_swapF {W : World} {base : Nat} {T : TypeId} {g n c : Nat} {P Q R : List St} {x y : St} {i j : Nat} (h : W.ownsRow base T 3 (.slice (some ⟨g, 0, none⟩) n c) n ((P ++ x :: (Q ++ y :: R)).flatMap encSt)) (hi : i = P.length) (hj : j = P.length + 1 + Q.length) :
    ((W.setCells g (i * 3) (encSt y)).setCells g (j * 3) (encSt x)).ownsRow base T 3 (.slice (some ⟨g, 0, none⟩) n c) n ((P ++ y :: (Q ++ x :: R)).flatMap encSt) ∧ W.grownBy ((W.setCells g (i * 3) (encSt y)).setCells g (j * 3) (encSt x)) (some g) ∧
      (∀ r v, (encSt y)[r]? = some v → (W.setCells g (i * 3) (encSt y)).cell? ⟨g, j * 3 + r, none⟩ = some v) ∧ (∀ q, (W.setCells g (i * 3) (encSt y)).frozen? ⟨g, q, none⟩ = false) := by
  have h1 := own_putRow encSt_len h hi y
  have e : P ++ y :: (Q ++ y :: R) = (P ++ y :: Q) ++ y :: R := by simp
  have h1' := h1.1
  rw [e] at h1'
  have h2 := own_putRow encSt_len h1' (i := j) (by simp; omega) x
  refine ⟨by simpa using h2.1, gT h1.2 h2.2, fun r v hv => ?_, fun q => h1'.frozenAt q⟩
  exact own_at encSt_len h1' (i := j) (at_mid (by simp; omega)) hv
/-- .. the last is written first. -/
theorem own_swapB {W : World} {base : Nat} {T : TypeId} {g n c : Nat} {P Q R : List St} {x y : St} {i j : Nat} (h : W.ownsRow base T 3 (.slice (some ⟨g, 0, none⟩) n c) n ((P ++ x :: (Q ++ y :: R)).flatMap encSt)) (hi : i = P.length) (hj : j = P.length + 1 + Q.length) :
    ((W.setCells g (j * 3) (encSt x)).setCells g (i * 3) (encSt y)).ownsRow base T 3 (.slice (some ⟨g, 0, none⟩) n c) n ((P ++ y :: (Q ++ x :: R)).flatMap encSt) ∧ W.grownBy ((W.setCells g (j * 3) (encSt x)).setCells g (i * 3) (encSt y)) (some g) ∧
      (∀ r v, (encSt x)[r]? = some v → (W.setCells g (j * 3) (encSt x)).cell? ⟨g, i * 3 + r, none⟩ = some v) ∧ (∀ q, (W.setCells g (j * 3) (encSt x)).frozen? ⟨g, q, none⟩ = false) := by
  have e : P ++ x :: (Q ++ y :: R) = (P ++ x :: Q) ++ y :: R := by simp
  rw [e] at h
  have h1 := own_putRow encSt_len h (i := j) (by simp; omega) x
  have e1 : (P ++ x :: Q) ++ x :: R = P ++ x :: (Q ++ x :: R) := by simp
  have h1' := h1.1
  rw [e1] at h1'
  have h2 := own_putRow encSt_len h1' (i := i) hi y
  refine ⟨h2.1, gT h1.2 h2.2, fun r v hv => ?_, fun q => h1'.frozenAt q⟩
  exact own_at encSt_len h1' (i := i) (at_mid hi) hv
set_option maxRecDepth 100000 in
set_option maxHeartbeats 4000000 in
theorem swapRange_any (base g n c a b k : Nat) (Pre U Mid V Post : List St) (w : World) (fv : Value) (own : w.ownsRow base 49 3 (.slice (some ⟨g, 0, none⟩) n c) n ((Pre ++ U ++ Mid ++ V ++ Post).flatMap encSt)) (hn : n ≤ 1000) (hl : (Pre ++ U ++ Mid ++ V ++ Post).length = n) (ha : a = Pre.length) (hU : U.length = k) (hV : V.length = k) (hb : b = a + k + Mid.length) :
    Calls Tryz.prog 185 #[.slice (some ⟨g, 0, none⟩) n c, .int .i64 a, .int .i64 b, .int .i64 k, fv] w fun e w' => e = .returned (.tuple #[]) ∧ w'.ownsRow base 49 3 (.slice (some ⟨g, 0, none⟩) n c) n ((Pre ++ V ++ Mid ++ U ++ Post).flatMap encSt) ∧ w.grownBy w' (some g) := by
  have hB : w.grownBy w (some g) := World.grownBy.refl w _
  have hx := Lib.hid (And.intro ha (And.intro hU (And.intro hV (And.intro hb hl))))
  clear ha hU hV hb hl
  go_enter Tryz.func185, Tryz.ntmps185
  go_wp2
  go_loopw [10] (fun i wr => ∃ (q : Nat) (U1 U2 V1 V2 : List St), i = .int .i64 q ∧ q ≤ k ∧ U = U1 ++ U2 ∧ V = V1 ++ V2 ∧ U1.length = q ∧ V1.length = q ∧ wr.ownsRow base 49 3 (.slice (some ⟨g, 0, none⟩) n c) n ((Pre ++ V1 ++ U2 ++ Mid ++ U1 ++ V2 ++ Post).flatMap encSt) ∧ w.grownBy wr (some g)) (fun i _ => k - (intOf i).toNat)
  case atStart => exact ⟨0, [], U, [], V, rfl, Nat.zero_le _, rfl, rfl, rfl, rfl, by simpa using own, hB⟩
  case round =>
    clear own hB
    obtain ⟨q, U1, U2, V1, V2, rfl, hq, rfl, rfl, hu1, hv1, own, hB⟩ := hrel
    obtain ⟨ha, hU, hV, hb, hl⟩ := hx.out
    simp only [List.length_append] at hU hV hl
    by_cases hlt : q < k
    · have hq1 : (q : Int) < (k : Int) := by omega
      obtain ⟨x, U2, rfl⟩ : ∃ x U', U2 = x :: U' := by
        cases U2 with
        | nil => simp at hU; omega
        | cons x U' => exact ⟨x, U', rfl⟩
      obtain ⟨y, V2, rfl⟩ : ∃ y V', V2 = y :: V' := by
        cases V2 with
        | nil => simp at hV; omega
        | cons y V' => exact ⟨y, V', rfl⟩
      simp only [List.length_cons] at hU hV hl
      obtain ⟨i, hi⟩ : ∃ i, a + q = i := ⟨_, rfl⟩
      obtain ⟨j, hj⟩ : ∃ j, b + q = j := ⟨_, rfl⟩
      have v1 : IntKind.i64.wrap ((a : Int) + (q : Int)) = (i : Int) := by rw [IntKind.wrap_i64]; omega
      have v2 : IntKind.i64.wrap ((b : Int) + (q : Int)) = (j : Int) := by rw [IntKind.wrap_i64]; omega
      have b1 : (i : Int) < (n : Int) := by omega
      have b2 : (j : Int) < (n : Int) := by omega
      have own : wr.ownsRow base 49 3 (.slice (some ⟨g, 0, none⟩) n c) n (((Pre ++ V1) ++ x :: ((U2 ++ Mid ++ U1) ++ y :: (V2 ++ Post))).flatMap encSt) := by
        have e : Pre ++ V1 ++ x :: U2 ++ Mid ++ U1 ++ y :: V2 ++ Post = (Pre ++ V1) ++ x :: ((U2 ++ Mid ++ U1) ++ y :: (V2 ++ Post)) := by simp
        rw [← e]; exact own
      have hpi : i = (Pre ++ V1).length := by rw [List.length_append]; omega
      have hpj : j = (Pre ++ V1).length + 1 + (U2 ++ Mid ++ U1).length := by simp only [List.length_append]; omega
      replace hpi := Lib.hid hpi
      replace hpj := Lib.hid hpj
      replace hu1 := Lib.hid (And.intro hu1 hv1)
      have hk : k ≤ 1000 := by omega
      clear hi hj ha hU hV hb hl hv1
      go_upto_region 3 with (fail)
      have hz := (Below.refl wr.heap.size wr).drew
      replace own := own_below own hz
      replace hB := gB hB hz
      clear hz
      refine MAny.region (S := fun w' => w'.cell? ⟨g, j * 3, none⟩ = some (.int .i64 y.place) ∧ w'.cell? ⟨g, j * 3 + 1, none⟩ = some (.int .i64 y.fr) ∧ w'.cell? ⟨g, j * 3 + 2, none⟩ = some (.int .i64 y.to)) (last := 23) (by kernel_rfl) ?_
      generalize wr.drew = W0 at own hB ⊢
      have hE := own_at encSt_len own (i := j) (x := y) (by rw [show (Pre ++ V1) ++ x :: ((U2 ++ Mid ++ U1) ++ y :: (V2 ++ Post)) = ((Pre ++ V1) ++ x :: (U2 ++ Mid ++ U1)) ++ y :: (V2 ++ Post) by simp]; exact at_mid (by rw [hpj.out]; simp only [List.length_append, List.length_cons]; omega)) (j := 0) rfl
      have hE1 := own_at encSt_len own (i := j) (x := y) (by rw [show (Pre ++ V1) ++ x :: ((U2 ++ Mid ++ U1) ++ y :: (V2 ++ Post)) = ((Pre ++ V1) ++ x :: (U2 ++ Mid ++ U1)) ++ y :: (V2 ++ Post) by simp]; exact at_mid (by rw [hpj.out]; simp only [List.length_append, List.length_cons]; omega)) (j := 1) rfl
      have hE2 := own_at encSt_len own (i := j) (x := y) (by rw [show (Pre ++ V1) ++ x :: ((U2 ++ Mid ++ U1) ++ y :: (V2 ++ Post)) = ((Pre ++ V1) ++ x :: (U2 ++ Mid ++ U1)) ++ y :: (V2 ++ Post) by simp]; exact at_mid (by rw [hpj.out]; simp only [List.length_append, List.length_cons]; omega)) (j := 2) rfl
      have hL := own_at encSt_len own (i := i) (x := x) (at_mid hpi.out) (j := 0) rfl
      have hL1 := own_at encSt_len own (i := i) (x := x) (at_mid hpi.out) (j := 1) rfl
      have hL2 := own_at encSt_len own (i := i) (x := x) (at_mid hpi.out) (j := 2) rfl
      rw [Nat.add_zero] at hE hL
      have fz := fun q => own.frozenAt q
      have fL0 := fz (i * 3)
      have fL1 := fz (i * 3 + 1)
      have fL2 := fz (i * 3 + 2)
      have hSW := own_swapF own hpi.out hpj.out
      obtain ⟨own2, hG, hc, hf⟩ := hSW
      have hHeld := And.intro hE (And.intro hE1 hE2)
      replace own2 := Lib.hid own2
      replace hG := Lib.hid hG
      have g0 := hc 0 _ rfl
      have g1 := hc 1 _ rfl
      have g2 := hc 2 _ rfl
      rw [Nat.add_zero] at g0
      have k0 := hf (j * 3)
      have k1 := hf (j * 3 + 1)
      have k2 := hf (j * 3 + 2)
      clear hc hf fz
      change ((((W0.setCell ⟨g, i * 3, none⟩ (.int .i64 y.place)).setCell ⟨g, i * 3 + 1, none⟩ (.int .i64 y.fr)).setCell ⟨g, i * 3 + 2, none⟩ (.int .i64 y.to))).cell? _ = _ at g0 g1 g2
      change ((((W0.setCell ⟨g, i * 3, none⟩ (.int .i64 y.place)).setCell ⟨g, i * 3 + 1, none⟩ (.int .i64 y.fr)).setCell ⟨g, i * 3 + 2, none⟩ (.int .i64 y.to))).frozen? _ = _ at k0 k1 k2
      have hHeld2 := And.intro g0 (And.intro g1 g2)
      clear own
      refine MAny.take (i := 0) (v := ?_) rfl (by kernel_rfl) (by kernel_rfl) (by kernel_rfl) (fun _ _ _ h => h) (by kernel_rfl) (Or.inl ⟨by rfl, ?_⟩) (by assumption) ?_
      rotate_left
      · (intro w' hSw; (try dsimp only at hSw); go_simp; try (with_reducible rfl))
      try simp only [Act.put, List.setIfInBounds_toArray]
      refine MAny.take (i := 1) (v := ?_) rfl (by kernel_rfl) (by kernel_rfl) (by kernel_rfl) (fun _ _ _ h => h) (by kernel_rfl) (Or.inl ⟨by rfl, ?_⟩) (by assumption) ?_
      rotate_left
      · (intro w' hSw; (try dsimp only at hSw); go_simp; try (with_reducible rfl))
      try simp only [Act.put]
      refine MAny.take (i := 2) (v := ?_) rfl (by kernel_rfl) (by kernel_rfl) (by kernel_rfl) (fun _ _ _ h => h) (by kernel_rfl) (Or.inl ⟨by rfl, ?_⟩) (by assumption) ?_
      rotate_left
      · (intro w' hSw; (try dsimp only at hSw); go_simp; try (with_reducible rfl))
      try simp only [Act.put]
      refine MAny.take (i := 3) (v := ?_) rfl (by kernel_rfl) (by kernel_rfl) (by kernel_rfl) (fun _ _ _ h => h) (by kernel_rfl) (Or.inl ⟨by rfl, ?_⟩) (by assumption) ?_
      rotate_left
      · (intro w' hSw; (try dsimp only at hSw); go_simp; try (with_reducible rfl))
      try simp only [Act.put]
      refine MAny.take (i := 4) (v := ?_) rfl (by kernel_rfl) (by kernel_rfl) (by kernel_rfl) (fun _ _ _ h => h) (by kernel_rfl) (Or.inl ⟨by rfl, ?_⟩) (by assumption) ?_
      rotate_left
      · (intro w' hSw; (try dsimp only at hSw); go_simp; try (with_reducible rfl))
      try simp only [Act.put]
      refine MAny.take (i := 5) (v := ?_) rfl (by kernel_rfl) (by kernel_rfl) (by kernel_rfl) (fun _ _ _ h => h) (by kernel_rfl) (Or.inl ⟨by rfl, ?_⟩) (by assumption) ?_
      rotate_left
      · (intro w' hSw; (try dsimp only at hSw); go_simp; try (with_reducible rfl))
      try simp only [Act.put]
      refine MAny.take (i := 6) (v := ?_) rfl (by kernel_rfl) (by kernel_rfl) (by kernel_rfl) (fun _ _ _ h => h) (by kernel_rfl) (Or.inl ⟨by rfl, ?_⟩) (by assumption) ?_
      rotate_left
      · (intro w' hSw; (try dsimp only at hSw); go_simp; try (with_reducible rfl))
      try simp only [Act.put]
      refine MAny.take (i := 7) (v := ?_) rfl (by kernel_rfl) (by kernel_rfl) (by kernel_rfl) (fun _ _ _ h => h) (by kernel_rfl) (Or.inl ⟨by rfl, ?_⟩) (by assumption) ?_
      rotate_left
      · (intro w' hSw; (try dsimp only at hSw); go_simp; try (with_reducible rfl))
      try simp only [Act.put]
      refine MAny.take (i := 8) (v := ?_) rfl (by kernel_rfl) (by kernel_rfl) (by kernel_rfl) (fun _ _ _ h => h) (by kernel_rfl) (Or.inl ⟨by rfl, ?_⟩) (by assumption) ?_
      rotate_left
      · (intro w' hSw; (try dsimp only at hSw); go_simp; try (with_reducible rfl))
      try simp only [Act.put]
      refine MAny.take (i := 9) (v := ?_) rfl (by kernel_rfl) (by kernel_rfl) (by kernel_rfl) (fun _ _ _ h => h) (by kernel_rfl) (Or.inl ⟨by rfl, ?_⟩) (by assumption) ?_
      rotate_left
      · (intro w' hSw; (try dsimp only at hSw); go_simp; try (with_reducible rfl))
      try simp only [Act.put]
      refine MAny.take (i := 10) (v := ?_) rfl (by kernel_rfl) (by kernel_rfl) (by kernel_rfl) (fun _ _ _ h => h) (by kernel_rfl) (Or.inl ⟨by rfl, ?_⟩) (by assumption) ?_
      rotate_left
      · (intro w' hSw; (try dsimp only at hSw); go_simp; try (with_reducible rfl))
      try simp only [Act.put]
      refine MAny.take (i := 11) (v := ?_) rfl (by kernel_rfl) (by kernel_rfl) (by kernel_rfl) (fun _ _ _ h => h) (by kernel_rfl) (Or.inl ⟨by rfl, ?_⟩) (by assumption) ?_
      rotate_left
      · (intro w' hSw; (try dsimp only at hSw); go_simp; try (with_reducible rfl))
      try simp only [Act.put]
      refine MAny.take (i := 12) (v := ?_) rfl (by kernel_rfl) (by kernel_rfl) (by kernel_rfl) (fun _ _ _ h => h) (by kernel_rfl) (Or.inl ⟨by rfl, ?_⟩) (by assumption) ?_
      rotate_left
      · (intro w' hSw; (try dsimp only at hSw); go_simp; try (with_reducible rfl))
      try simp only [Act.put]
      refine MAny.take (i := 13) (v := ?_) rfl (by kernel_rfl) (by kernel_rfl) (by kernel_rfl) (fun _ _ _ h => h) (by kernel_rfl) (Or.inl ⟨by rfl, ?_⟩) (by assumption) ?_
      rotate_left
      · (intro w' hSw; (try dsimp only at hSw); go_simp; try (with_reducible rfl))
      try simp only [Act.put]
      refine MAny.take (i := 14) (v := ?_) rfl (by kernel_rfl) (by kernel_rfl) (by kernel_rfl) (fun _ _ _ h => h) (by kernel_rfl) (Or.inl ⟨by rfl, ?_⟩) (by assumption) ?_
      rotate_left
      · (intro w' hSw; (try dsimp only at hSw); go_simp; try (with_reducible rfl))
      try simp only [Act.put]
      refine MAny.take (i := 15) (v := ?_) rfl (by kernel_rfl) (by kernel_rfl) (by kernel_rfl) (fun _ _ _ h => h) (by kernel_rfl) (Or.inl ⟨by rfl, ?_⟩) (by assumption) ?_
      rotate_left
      · (intro w' hSw; (try dsimp only at hSw); go_simp; try (with_reducible rfl))
      try simp only [Act.put]
      refine MAny.take (i := 16) (v := ?_) rfl (by kernel_rfl) (by kernel_rfl) (by kernel_rfl) (fun _ _ _ h => h) (by kernel_rfl) (Or.inl ⟨by rfl, ?_⟩) (by assumption) ?_
      rotate_left
      · (intro w' hSw; (try dsimp only at hSw); go_simp; try (with_reducible rfl))
      try simp only [Act.put]
      refine MAny.take (i := 17) (v := ?_) rfl (by kernel_rfl) (by kernel_rfl) (by kernel_rfl) (fun _ _ _ h => h) (by kernel_rfl) (Or.inl ⟨by rfl, ?_⟩) (by assumption) ?_
      rotate_left
      · (intro w' hSw; (try dsimp only at hSw); go_simp; try (with_reducible rfl))
      try simp only [Act.put]
      refine MAny.take (i := 18) (v := ?_) rfl (by kernel_rfl) (by kernel_rfl) (by kernel_rfl) (fun _ _ _ h => h) (by kernel_rfl) (Or.inl ⟨by rfl, ?_⟩) (by assumption) ?_
      rotate_left
      · (intro w' hSw; (try dsimp only at hSw); go_simp; try (with_reducible rfl))
      try simp only [Act.put]
      refine MAny.ready (rs := [19]) (by kernel_rfl) (by simp) ?_
      refine MReady.cons rfl (fun K hK => ?_) MReady.nil
      go_simp
      refine hK.out _ _ (.inr hHeld) ?_
      clear hK K
      refine MAny.ready (rs := [20]) (by kernel_rfl) (by simp) ?_
      refine MReady.cons rfl (fun K hK => ?_) MReady.nil
      go_simp
      refine hK.out _ _ (.inr hHeld) ?_
      clear hK K
      refine MAny.ready (rs := [21]) (by kernel_rfl) (by simp) ?_
      refine MReady.cons rfl (fun K hK => ?_) MReady.nil
      go_simp
      refine hK.out _ _ (.inr hHeld2) ?_
      clear hK K
      refine MAny.ready (rs := [22]) (by kernel_rfl) (by simp) ?_
      refine MReady.cons rfl (fun K hK => ?_) MReady.nil
      go_simp
      refine hK.out _ _ (.inr hHeld2) ?_
      clear hK K
      refine MAny.ready (rs := [23]) (by kernel_rfl) (by simp) ?_
      refine MReady.cons rfl (fun K hK => ?_) MReady.nil
      go_simp
      refine hK.out _ _ (.inl rfl) ?_
      clear hK K
      refine MAny.done (by kernel_rfl) ?_ _
      try simp only [List.getElem_toArray, List.getElem_cons_succ, List.getElem_cons_zero]
      clear hE hE1 hE2 hL hL1 hL2 fL0 fL1 fL2 g0 g1 g2 k0 k1 k2 hHeld hHeld2
      go_wp2
      go_roundw
      case rel => exact ⟨q + 1, U1 ++ [x], U2, V1 ++ [y], V2, rfl, by omega, by simp, by simp, by rw [List.length_append, hu1.out.1]; rfl, by rw [List.length_append, hu1.out.2]; rfl, by rw [show Pre ++ (V1 ++ [y]) ++ U2 ++ Mid ++ (U1 ++ [x]) ++ V2 ++ Post = (Pre ++ V1) ++ y :: ((U2 ++ Mid ++ U1) ++ x :: (V2 ++ Post)) by simp]; exact own2.out, gT hB hG.out⟩
      case measure => simp only [intOf]; omega
    · obtain rfl : q = k := by omega
      have hU2 : U2 = [] := List.length_eq_zero_iff.1 (by omega)
      have hV2 : V2 = [] := List.length_eq_zero_iff.1 (by omega)
      subst hU2; subst hV2
      have hq1 : decide ((q : Int) < (q : Int)) = false := by simp
      go_wp2
      go_end0
      exact ⟨rfl, by simpa using own, hB⟩
end

section
open Go.ChangeShapes Go.WideShapes Go.ChangeAt Go.RowKit Go.IntWalk
theorem split_at (X : List St) {j : Nat} (h : j ≤ X.length) : ∃ X1 X2, X = X1 ++ X2 ∧ X1.length = j := ⟨X.take j, X.drop j, (List.take_append_drop j X).symm, by simp; omega⟩
set_option maxRecDepth 100000 in
set_option maxHeartbeats 4000000 in
theorem rotate_any (base g n c a m b : Nat) (L X Y R : List St) (w : World) (fv : Value) (own : w.ownsRow base 49 3 (.slice (some ⟨g, 0, none⟩) n c) n ((L ++ X ++ Y ++ R).flatMap encSt)) (hn : n ≤ 1000) (hl : (L ++ X ++ Y ++ R).length = n) (ha : a = L.length) (hm : m = a + X.length) (hb : b = m + Y.length) (hX : 0 < X.length) (hY : 0 < Y.length) :
    Calls Tryz.prog 159 #[.slice (some ⟨g, 0, none⟩) n c, .int .i64 a, .int .i64 m, .int .i64 b, fv] w fun e w' => e = .returned (.tuple #[]) ∧ w'.ownsRow base 49 3 (.slice (some ⟨g, 0, none⟩) n c) n ((L ++ Y ++ X ++ R).flatMap encSt) ∧ w.grownBy w' (some g) := by
  have hB : w.grownBy w (some g) := World.grownBy.refl w _
  have hmn : m ≤ 1000 := by simp only [List.length_append] at hl; omega
  have hx := Lib.hid (And.intro ha (And.intro hm (And.intro hb (And.intro hl (And.intro hX hY)))))
  have i1 : IntKind.i64.wrap ((m : Int) - (a : Int)) = ((X.length : Nat) : Int) := by simp only [List.length_append] at hl; rw [IntKind.wrap_i64]; omega
  have i2 : IntKind.i64.wrap ((b : Int) - (m : Int)) = ((Y.length : Nat) : Int) := by simp only [List.length_append] at hl; rw [IntKind.wrap_i64]; omega
  clear ha hm hb hl hX hY
  go_enter Tryz.func159, Tryz.ntmps159
  go_wp2
  go_loopw [10, 11] (fun i j wr => ∃ (L' X' Y' R' : List St) (p q : Nat), i = .int .i64 p ∧ j = .int .i64 q ∧ Hid (L' ++ Y' ++ X' ++ R' = L ++ Y ++ X ++ R ∧ X'.length = p ∧ Y'.length = q ∧ 0 < p ∧ 0 < q ∧ L'.length + p = m ∧ (L' ++ X' ++ Y' ++ R').length = n) ∧ wr.ownsRow base 49 3 (.slice (some ⟨g, 0, none⟩) n c) n ((L' ++ X' ++ Y' ++ R').flatMap encSt) ∧ w.grownBy wr (some g)) (fun i j _ => (intOf i).toNat + (intOf j).toNat)
  case atStart => exact ⟨L, X, Y, R, _, _, rfl, rfl, ⟨rfl, rfl, rfl, hx.out.2.2.2.2.1, hx.out.2.2.2.2.2, by have := hx.out; omega, hx.out.2.2.2.1⟩, own, hB⟩
  case round =>
    clear own hB i1 i2
    obtain ⟨L', X', Y', R', p, q, rfl, rfl, hI, own, hB⟩ := hrel
    have hb0 : p ≤ m ∧ m + q ≤ n := by obtain ⟨_, h1, h2, _, _, h3, h4⟩ := hI.out; simp only [List.length_append] at h4; omega
    by_cases hne : p = q
    · subst hne
      have c1 : decide ((p : Int) ≠ (p : Int)) = false := by simp
      have v1 : IntKind.i64.wrap ((m : Int) - (p : Int)) = ((m - p : Nat) : Int) := by rw [IntKind.wrap_i64]; omega
      have HC := Lib.hid (swapRange_any base g n c (m - p) m p L' X' [] Y' R' wr fv (by simpa using own) hn (by have := hI.out.2.2.2.2.2.2; simpa using this) (by have := hI.out; omega) hI.out.2.1 hI.out.2.2.1 (by have := hI.out; simp; omega))
      go_wp2_with (go_at_call 185; refine HC.out.mono ?_; rintro e w1 ⟨rfl, hw, hG⟩)
      replace hw := Lib.hid hw
      replace hG := Lib.hid hG
      clear own HC
      go_wp2
      go_end0
      exact ⟨rfl, by rw [← hI.out.1]; simpa using hw.out, gT hB hG.out⟩
    · have c1 : (p : Int) ≠ (q : Int) := by omega
      by_cases hgt : q < p
      · have c2 : (q : Int) < (p : Int) := by omega
        have v1 : IntKind.i64.wrap ((m : Int) - (p : Int)) = ((m - p : Nat) : Int) := by rw [IntKind.wrap_i64]; omega
        have v2 : IntKind.i64.wrap ((p : Int) - (q : Int)) = ((p - q : Nat) : Int) := by rw [IntKind.wrap_i64]; omega
        obtain ⟨X1, X2, rfl, hX1⟩ := split_at X' (j := q) (by have := hI.out; omega)
        replace hX1 := Lib.hid hX1
        have HC := Lib.hid (swapRange_any base g n c (m - p) m q L' X1 X2 Y' R' wr fv (by rw [← List.append_assoc L' X1 X2] at own; exact own) hn (by have := hI.out.2.2.2.2.2.2; simpa using this) (by have := hI.out; omega) hX1.out hI.out.2.2.1 (by have h1 := hI.out; have h2 := hX1.out; simp only [List.length_append] at h1; omega))
        go_wp2_with (go_at_call 185; refine HC.out.mono ?_; rintro e w1 ⟨rfl, hw, hG⟩)
        replace hw := Lib.hid hw
        replace hG := Lib.hid hG
        clear own HC
        go_wp2
        go_roundw
        case rel => exact ⟨L' ++ Y', X2, X1, R', p - q, q, rfl, rfl, ⟨by rw [← hI.out.1]; simp, by have h1 := hI.out; have h2 := hX1.out; simp only [List.length_append] at h1; omega, hX1.out, by omega, by have := hI.out; omega, by have h1 := hI.out; simp only [List.length_append] at h1 ⊢; omega, by have h1 := hI.out.2.2.2.2.2.2; simp only [List.length_append] at h1 ⊢; omega⟩, hw.out, gT hB hG.out⟩
        case measure => have := hI.out; simp only [intOf, Int.toNat_natCast]; omega
      · have c2 : decide ((q : Int) < (p : Int)) = false := by simp; omega
        have v1 : IntKind.i64.wrap ((m : Int) - (p : Int)) = ((m - p : Nat) : Int) := by rw [IntKind.wrap_i64]; omega
        have v2 : IntKind.i64.wrap ((q : Int) - (p : Int)) = ((q - p : Nat) : Int) := by rw [IntKind.wrap_i64]; omega
        obtain ⟨s, hs⟩ : ∃ s, s = m + q := ⟨_, rfl⟩
        obtain ⟨t, ht⟩ : ∃ t, t + p = m + q := ⟨m + q - p, by omega⟩
        have v3 : IntKind.i64.wrap ((m : Int) + (q : Int)) = (s : Int) := by rw [IntKind.wrap_i64]; omega
        have v4 : IntKind.i64.wrap ((s : Int) - (p : Int)) = (t : Int) := by rw [IntKind.wrap_i64]; omega
        replace ht := Lib.hid ht
        clear hs
        obtain ⟨Y1, Y2, rfl, hY1⟩ := split_at Y' (j := q - p) (by have := hI.out; omega)
        replace hY1 := Lib.hid hY1
        have HC := Lib.hid (swapRange_any base g n c (m - p) t p L' X' Y1 Y2 R' wr fv (by rw [← List.append_assoc (L' ++ X') Y1 Y2] at own; exact own) hn (by have := hI.out.2.2.2.2.2.2; simpa using this) (by have := hI.out; omega) hI.out.2.1 (by have h1 := hI.out; have h2 := hY1.out; simp only [List.length_append] at h1; omega) (by have h1 := hI.out; have h2 := hY1.out; have h3 := ht.out; simp only [List.length_append] at h1; omega))
        go_wp2_with (go_at_call 185; refine HC.out.mono ?_; rintro e w1 ⟨rfl, hw, hG⟩)
        replace hw := Lib.hid hw
        replace hG := Lib.hid hG
        clear own HC
        go_wp2
        go_roundw
        case rel => exact ⟨L', Y2, Y1, X' ++ R', p, q - p, rfl, rfl, ⟨by rw [← hI.out.1]; simp, by have h1 := hI.out; have h2 := hY1.out; simp only [List.length_append] at h1; omega, hY1.out, by have := hI.out; omega, by omega, by have h1 := hI.out; simp only [List.length_append] at h1 ⊢; omega, by have h1 := hI.out.2.2.2.2.2.2; simp only [List.length_append] at h1 ⊢; omega⟩, by have := hw.out; simpa using this, gT hB hG.out⟩
        case measure => have := hI.out; simp only [intOf, Int.toNat_natCast]; omega
end

section
def Srt (l : List St) : Prop := l.Pairwise fun x y => x.fr ≤ y.fr
theorem Srt.last {A : List St} (h : Srt A) {z : St} (hz : A[A.length - 1]? = some z) : ∀ x ∈ A, x.fr ≤ z.fr := by
  intro x hx
  obtain ⟨i, hi, rfl⟩ := List.getElem_of_mem hx
  obtain ⟨hz1, hz2⟩ := List.getElem?_eq_some_iff.1 hz
  subst hz2
  by_cases e : i = A.length - 1
  · subst e; exact Int.le_refl _
  · exact List.pairwise_iff_getElem.1 h i (A.length - 1) hi hz1 (by omega)
theorem Srt.head {A : List St} (h : Srt A) {z : St} (hz : A[0]? = some z) : ∀ x ∈ A, z.fr ≤ x.fr := by
  intro x hx
  obtain ⟨i, hi, rfl⟩ := List.getElem_of_mem hx
  obtain ⟨hz1, hz2⟩ := List.getElem?_eq_some_iff.1 hz
  subst hz2
  by_cases e : i = 0
  · subst e; exact Int.le_refl _
  · exact List.pairwise_iff_getElem.1 h 0 i hz1 hi (by omega)
theorem cross {A B : List St} (hA : Srt A) (hB : Srt B) (h : A = [] ∨ B = [] ∨ ∃ x y, A[A.length - 1]? = some x ∧ B[0]? = some y ∧ x.fr ≤ y.fr) : ∀ x ∈ A, ∀ y ∈ B, x.fr ≤ y.fr := by
  intro x hx y hy
  rcases h with rfl | rfl | ⟨u, v, hu, hv, huv⟩
  · cases hx
  · cases hy
  · have := hA.last hu x hx
    have := hB.head hv y hy
    omega
theorem Srt.left {A B : List St} (h : Srt (A ++ B)) : Srt A := (List.pairwise_append.1 h).1
theorem Srt.right {A B : List St} (h : Srt (A ++ B)) : Srt B := (List.pairwise_append.1 h).2.1
theorem Srt.mid {A B : List St} (h : Srt (A ++ B)) : ∀ x ∈ A, ∀ y ∈ B, x.fr ≤ y.fr := (List.pairwise_append.1 h).2.2
theorem srt_one (x : St) : Srt [x] := List.pairwise_singleton _ _
theorem srt_nil : Srt [] := List.Pairwise.nil
theorem Srt.append {A B : List St} (hA : Srt A) (hB : Srt B) (h : ∀ x ∈ A, ∀ y ∈ B, x.fr ≤ y.fr) : Srt (A ++ B) := List.pairwise_append.2 ⟨hA, hB, h⟩
theorem srt_merge {A1 A2 B1 B2 C1 C2 : List St} (hA : Srt (A1 ++ A2)) (hB : Srt (B1 ++ B2)) (h1 : ∀ x ∈ A1, ∀ y ∈ B2, x.fr ≤ y.fr) (h2 : ∀ x ∈ B1, ∀ y ∈ A2, x.fr ≤ y.fr)
    (p1 : C1.Perm (A1 ++ B1)) (p2 : C2.Perm (A2 ++ B2)) (s1 : Srt C1) (s2 : Srt C2) : Srt (C1 ++ C2) := by
  refine s1.append s2 fun x hx y hy => ?_
  rcases List.mem_append.1 (p1.mem_iff.1 hx) with hx | hx <;> rcases List.mem_append.1 (p2.mem_iff.1 hy) with hy | hy
  · exact hA.mid x hx y hy
  · exact h1 x hx y hy
  · exact h2 x hx y hy
  · exact hB.mid x hx y hy
/-- One stay put among sorted ones. -/
theorem srt_put {B1 B2 : List St} {x : St} (hB : Srt (B1 ++ B2)) (h1 : ∀ y ∈ B1, y.fr ≤ x.fr) (h2 : ∀ y ∈ B2, x.fr ≤ y.fr) : Srt (B1 ++ x :: B2) := by
  refine hB.left.append (List.pairwise_cons.2 ⟨h2, hB.right⟩) fun a ha b hb => ?_
  rcases List.mem_cons.1 hb with rfl | hb
  · exact h1 a ha
  · exact hB.mid a ha b hb
end

section
open Go.ChangeShapes Go.WideShapes Go.ChangeAt Go.RowKit Go.IntWalk
theorem at_two {P Q R : List St} {x y : St} {j : Nat} (hj : j = P.length + 1 + Q.length) : (P ++ x :: (Q ++ y :: R))[j]? = some y := by
  rw [show P ++ x :: (Q ++ y :: R) = (P ++ x :: Q) ++ y :: R by simp]
  exact at_mid (by simp only [List.length_append, List.length_cons]; omega)
theorem addStay1_lt {x y : St} (h : x.fr < y.fr) : ∃ v : Int, v < 0 ∧ ∀ W, Calls Tryz.prog 59 #[.agg #[.int .i64 x.place, .int .i64 x.fr, .int .i64 x.to], .agg #[.int .i64 y.place, .int .i64 y.fr, .int .i64 y.to]] W fun e w' => e = .returned (.int .i64 v) ∧ Below W.heap.size W w' :=
  ⟨_, by unfold cmpI; rw [if_pos h]; decide, fun W => (addStay1_any x y W).mono fun _ _ h => ⟨h.1, h.2.below⟩⟩
theorem addStay1_ge {x y : St} (h : ¬ x.fr < y.fr) : ∃ v : Int, decide (v < 0) = false ∧ ∀ W, Calls Tryz.prog 59 #[.agg #[.int .i64 x.place, .int .i64 x.fr, .int .i64 x.to], .agg #[.int .i64 y.place, .int .i64 y.fr, .int .i64 y.to]] W fun e w' => e = .returned (.int .i64 v) ∧ Below W.heap.size W w' :=
  ⟨_, by unfold cmpI; rw [if_neg h]; split <;> decide, fun W => (addStay1_any x y W).mono fun _ _ h => ⟨h.1, h.2.below⟩⟩
set_option maxRecDepth 100000 in
set_option maxHeartbeats 4000000 in
theorem symMerge1_any (base g n c a m b : Nat) (Pre : List St) (x : St) (B Post : List St) (w : World) (own : w.ownsRow base 49 3 (.slice (some ⟨g, 0, none⟩) n c) n ((Pre ++ x :: (B ++ Post)).flatMap encSt)) (hn : n ≤ 1000) (hl : (Pre ++ x :: (B ++ Post)).length = n) (ha : a = Pre.length) (hm : m = a + 1) (hb : b = m + B.length) (hs : Srt B) :
    Calls Tryz.prog 139 #[.slice (some ⟨g, 0, none⟩) n c, .int .i64 a, .int .i64 m, .int .i64 b, .func (.func 59) #[] #[]] w fun e w' => ∃ C : List St, C.Perm (x :: B) ∧ Srt C ∧ e = .returned (.tuple #[]) ∧ w'.ownsRow base 49 3 (.slice (some ⟨g, 0, none⟩) n c) n ((Pre ++ C ++ Post).flatMap encSt) ∧ w.grownBy w' (some g) := by
  have hB : w.grownBy w (some g) := World.grownBy.refl w _
  have hmn : m ≤ b ∧ b ≤ n := by simp only [List.length_append, List.length_cons] at hl; omega
  have hx := Lib.hid (And.intro ha (And.intro hm (And.intro hb (And.intro hl hs))))
  have i1 : IntKind.i64.wrap ((m : Int) - (a : Int)) = 1 := by rw [IntKind.wrap_i64]; omega
  have a1 : (a : Int) < (n : Int) := by omega
  have hxa : Hid ((Pre ++ x :: (B ++ Post))[a]? = some x) := by subst ha; simp [Hid]
  have hgB : Hid (∀ k, m ≤ k → (Pre ++ x :: (B ++ Post))[k]? = (B ++ Post)[k - m]?) := by
    intro k hk
    rw [List.getElem?_append_right (by omega), ← ha, show k - a = (k - m) + 1 by omega, List.getElem?_cons_succ]
  clear ha hm hb hl hs
  go_enter Tryz.func139, Tryz.ntmps139
  go_wp2
  go_loopw [10, 11] (fun i j wr => ∃ (p q : Nat), i = .int .i64 p ∧ j = .int .i64 q ∧ m ≤ p ∧ p ≤ q ∧ q ≤ b ∧ Hid ((p = m ∨ ∃ z, (B ++ Post)[p - m - 1]? = some z ∧ z.fr ≤ x.fr) ∧ (q = b ∨ ∃ z, (B ++ Post)[q - m]? = some z ∧ x.fr ≤ z.fr)) ∧ wr.ownsRow base 49 3 (.slice (some ⟨g, 0, none⟩) n c) n ((Pre ++ x :: (B ++ Post)).flatMap encSt) ∧ w.grownBy wr (some g)) (fun i j _ => (intOf j).toNat - (intOf i).toNat)
  case atStart => exact ⟨m, b, rfl, rfl, Nat.le_refl _, hmn.1, Nat.le_refl _, ⟨.inl rfl, .inl rfl⟩, own, hB⟩
  case round =>
    clear own hB i1
    obtain ⟨p, q, rfl, rfl, hp, hpq, hq, hI, own, hB⟩ := hrel
    by_cases hlt : p < q
    · have c1 : (p : Int) < (q : Int) := by omega
      obtain ⟨h, hh⟩ : ∃ h, h = (p + q) / 2 := ⟨_, rfl⟩
      have hh1 : p ≤ h ∧ h < q := by omega
      have v1 : IntKind.i64.wrap ((p : Int) + (q : Int)) = (p : Int) + (q : Int) := by rw [IntKind.wrap_i64]; omega
      have h1 : (h : Int) < (n : Int) := by omega
      obtain ⟨y, hy⟩ : ∃ y, (B ++ Post)[h - m]? = some y := ⟨_, List.getElem?_eq_getElem (by have := hx.out; simp only [List.length_append, List.length_cons] at this ⊢; omega)⟩
      replace hy := Lib.hid hy
      have v2 : IntKind.u64.wrap ((p : Int) + (q : Int)) = (p : Int) + (q : Int) := by rw [IntKind.wrap_u64]; omega
      have v3 : ((p : Int) + (q : Int)) / 2 = (h : Int) := by omega
      clear hh

      have hx0 := own_at encSt_len own (i := a) hxa.out (j := 0) rfl
      have hx1 := own_at encSt_len own (i := a) hxa.out (j := 1) rfl
      have hx2 := own_at encSt_len own (i := a) hxa.out (j := 2) rfl
      have hy0 := own_at encSt_len own (i := h) ((hgB.out h (by omega)).trans hy.out) (j := 0) rfl
      have hy1 := own_at encSt_len own (i := h) ((hgB.out h (by omega)).trans hy.out) (j := 1) rfl
      have hy2 := own_at encSt_len own (i := h) ((hgB.out h (by omega)).trans hy.out) (j := 2) rfl
      rw [Nat.add_zero] at hx0 hy0
      have hgl := (own_lt own).2
      have X0 := Later.cell hx0 hgl
      have X1 := Later.cell hx1 hgl
      have X2 := Later.cell hx2 hgl
      have Y0 := Later.cell hy0 hgl
      have Y1 := Later.cell hy1 hgl
      have Y2 := Later.cell hy2 hgl
      clear hx0 hx1 hx2 hy0 hy1 hy2
      by_cases hcc : y.fr < x.fr
      · obtain ⟨v, hv, HA⟩ := addStay1_lt hcc
        replace HA := Lib.hid HA
        replace hcc := Lib.hid hcc
        go_wp2_with fail
        refine wp_region_later _ (by kernel_rfl) (by kernel_rfl) ?_
        repeat (go_big_quiet_step ((go_at_call 59; exact Later.call (Nat.le_refl _) (HA.out _))))
        refine wpQuiet_nil ?_
        intro z'
        have hz := z'.prop
        generalize z'.val = w3 at hz
        replace own := own_below own hz
        replace hB := gB hB hz
        clear X0 X1 X2 Y0 Y1 Y2 hz hgl
        go_wp2
        go_roundw
        case rel => exact ⟨h + 1, q, by go_num, rfl, by omega, by omega, hq, ⟨.inr ⟨y, by rw [show h + 1 - m - 1 = h - m by omega]; exact hy.out, by have := hcc.out; omega⟩, hI.out.2⟩, own, hB⟩
        case measure => simp only [intOf]; omega
      · obtain ⟨v, hv, HA⟩ := addStay1_ge hcc
        replace HA := Lib.hid HA
        replace hcc := Lib.hid hcc
        go_wp2_with fail
        refine wp_region_later _ (by kernel_rfl) (by kernel_rfl) ?_
        repeat (go_big_quiet_step ((go_at_call 59; exact Later.call (Nat.le_refl _) (HA.out _))))
        refine wpQuiet_nil ?_
        intro z'
        have hz := z'.prop
        generalize z'.val = w3 at hz
        replace own := own_below own hz
        replace hB := gB hB hz
        clear X0 X1 X2 Y0 Y1 Y2 hz hgl
        go_wp2
        go_roundw
        case rel => exact ⟨p, h, rfl, rfl, hp, by omega, by omega, ⟨hI.out.1, .inr ⟨y, hy.out, by have := hcc.out; omega⟩⟩, own, hB⟩
        case measure => simp only [intOf]; omega
    · obtain rfl : p = q := by omega
      have c1 : decide ((p : Int) < (p : Int)) = false := by simp
      obtain ⟨B1, B2, rfl, hB1⟩ := split_at B (j := p - m) (by have := hx.out; omega)
      obtain ⟨p', hp'⟩ : ∃ p', p = p' + 1 := ⟨p - 1, by have := hx.out; omega⟩
      have v4 : IntKind.i64.wrap ((p : Int) - 1) = (p' : Int) := by rw [IntKind.wrap_i64]; omega
      have hap : a ≤ p' := by have := hx.out; omega
      have hpn : p' < n := by omega
      have hfin : Hid (p' - a = B1.length ∧ Srt (B1 ++ x :: B2)) := by
        obtain ⟨h1, h2, h3, h4, h5⟩ := hx.out
        obtain ⟨e1, e2⟩ := hI.out
        simp only [List.length_append] at h3
        have h6 : p' - a = B1.length := by clear e1 e2 v4 h5; omega
        refine ⟨h6, srt_put h5 ?_ ?_⟩
        · rcases e1 with e1 | ⟨z, hz, hzx⟩
          · have : B1 = [] := List.length_eq_zero_iff.1 (by omega)
            subst this; intro y hy; cases hy
          · intro y hy
            have hz' : B1[B1.length - 1]? = some z := by
              rw [hB1]
              rw [List.append_assoc, List.getElem?_append_left (by have : 0 < B1.length := List.length_pos_of_mem hy; omega)] at hz
              exact hz
            have := h5.left.last hz' y hy
            omega
        · rcases e2 with e2 | ⟨z, hz, hzx⟩
          · have : B2 = [] := List.length_eq_zero_iff.1 (by omega)
            subst this; intro y hy; cases hy
          · intro y hy
            have hz' : B2[0]? = some z := by
              rw [List.append_assoc, List.getElem?_append_right (by omega), show p - m - B1.length = 0 by omega, List.getElem?_append_left (List.length_pos_of_mem hy)] at hz
              exact hz
            have := h5.right.head hz' y hy
            omega
      have hn4 := Lib.hid hx.out.2.2.2.1
      replace hx := Lib.hid hx.out.1
      clear hI hxa hgB hB1 hp' hpq hq hp hmn a1
      go_wp2
      go_loopw [13] (fun i wr => ∃ (k : Nat) (Ba Bb : List St), i = .int .i64 k ∧ a ≤ k ∧ k ≤ p' ∧ Hid (B1 = Ba ++ Bb ∧ k = a + Ba.length) ∧ wr.ownsRow base 49 3 (.slice (some ⟨g, 0, none⟩) n c) n ((Pre ++ Ba ++ x :: (Bb ++ B2 ++ Post)).flatMap encSt) ∧ w.grownBy wr (some g)) (fun i _ => p' - (intOf i).toNat)
      case atStart => exact ⟨a, [], B1, rfl, Nat.le_refl _, hap, ⟨rfl, rfl⟩, by simpa using own, hB⟩
      case round =>
        clear own hB
        obtain ⟨k, Ba, Bb, rfl, hak, hkp, hI, own, hB⟩ := hrel
        by_cases hlt : k < p'
        · have c2 : (k : Int) < (p' : Int) := by omega
          obtain ⟨y, Bb, rfl⟩ : ∃ y B', Bb = y :: B' := by
            cases Bb with
            | nil => have h1 := hI.out; have h2 := hfin.out.1; rw [h1.1] at h2; simp at h2; omega
            | cons y B' => exact ⟨y, B', rfl⟩
          obtain ⟨j, hj⟩ : ∃ j, j = k + 1 := ⟨_, rfl⟩
          have v5 : IntKind.i64.wrap ((k : Int) + 1) = (j : Int) := by rw [IntKind.wrap_i64]; omega
          have b1 : (k : Int) < (n : Int) := by omega
          have b2 : (j : Int) < (n : Int) := by omega
          have own : wr.ownsRow base 49 3 (.slice (some ⟨g, 0, none⟩) n c) n (((Pre ++ Ba) ++ x :: ([] ++ y :: (Bb ++ B2 ++ Post))).flatMap encSt) := by
            have e : Pre ++ Ba ++ x :: (y :: Bb ++ B2 ++ Post) = (Pre ++ Ba) ++ x :: ([] ++ y :: (Bb ++ B2 ++ Post)) := by simp
            rw [← e]; exact own
          have hpi := Lib.hid (show k = (Pre ++ Ba).length by rw [List.length_append, ← hx.out]; exact hI.out.2)
          have hpj := Lib.hid (show j = (Pre ++ Ba).length + 1 + ([] : List St).length by rw [← hpi.out]; exact hj)
          replace hj := Lib.hid hj
          go_upto_region 11 with (fail)
          have hz := (Below.refl wr.heap.size wr).drew
          replace own := own_below own hz
          replace hB := gB hB hz
          clear hz
          refine MAny.region (S := fun w' => w'.cell? ⟨g, j * 3, none⟩ = some (.int .i64 y.place) ∧ w'.cell? ⟨g, j * 3 + 1, none⟩ = some (.int .i64 y.fr) ∧ w'.cell? ⟨g, j * 3 + 2, none⟩ = some (.int .i64 y.to)) (last := 17) (by kernel_rfl) ?_
          generalize wr.drew = W0 at own hB ⊢
          have hE := own_at encSt_len own (i := j) (x := y) (at_two hpj.out) (j := 0) rfl
          have hE1 := own_at encSt_len own (i := j) (x := y) (at_two hpj.out) (j := 1) rfl
          have hE2 := own_at encSt_len own (i := j) (x := y) (at_two hpj.out) (j := 2) rfl
          have hL := own_at encSt_len own (i := k) (x := x) (at_mid hpi.out) (j := 0) rfl
          have hL1 := own_at encSt_len own (i := k) (x := x) (at_mid hpi.out) (j := 1) rfl
          have hL2 := own_at encSt_len own (i := k) (x := x) (at_mid hpi.out) (j := 2) rfl
          rw [Nat.add_zero] at hE hL
          have fz := fun q => own.frozenAt q
          have fL0 := fz (k * 3)
          have fL1 := fz (k * 3 + 1)
          have fL2 := fz (k * 3 + 2)
          have hSW := own_swapF own hpi.out hpj.out
          obtain ⟨own2, hG, hc, hf⟩ := hSW
          have hHeld := And.intro hE (And.intro hE1 hE2)
          replace own2 := Lib.hid own2
          replace hG := Lib.hid hG
          have g0 := hc 0 _ rfl
          have g1 := hc 1 _ rfl
          have g2 := hc 2 _ rfl
          rw [Nat.add_zero] at g0
          have k0 := hf (j * 3)
          have k1 := hf (j * 3 + 1)
          have k2 := hf (j * 3 + 2)
          clear hc hf fz
          change ((((W0.setCell ⟨g, k * 3, none⟩ (.int .i64 y.place)).setCell ⟨g, k * 3 + 1, none⟩ (.int .i64 y.fr)).setCell ⟨g, k * 3 + 2, none⟩ (.int .i64 y.to))).cell? _ = _ at g0 g1 g2
          change ((((W0.setCell ⟨g, k * 3, none⟩ (.int .i64 y.place)).setCell ⟨g, k * 3 + 1, none⟩ (.int .i64 y.fr)).setCell ⟨g, k * 3 + 2, none⟩ (.int .i64 y.to))).frozen? _ = _ at k0 k1 k2
          have hHeld2 := And.intro g0 (And.intro g1 g2)
          clear own
          refine MAny.take (i := 0) (v := ?_) rfl (by kernel_rfl) (by kernel_rfl) (by kernel_rfl) (fun _ _ _ h => h) (by kernel_rfl) (Or.inl ⟨by rfl, ?_⟩) (by assumption) ?_
          rotate_left
          · (intro w' hSw; (try dsimp only at hSw); go_simp; try (with_reducible rfl))
          try simp only [Act.put, List.setIfInBounds_toArray]
          refine MAny.take (i := 1) (v := ?_) rfl (by kernel_rfl) (by kernel_rfl) (by kernel_rfl) (fun _ _ _ h => h) (by kernel_rfl) (Or.inl ⟨by rfl, ?_⟩) (by assumption) ?_
          rotate_left
          · (intro w' hSw; (try dsimp only at hSw); go_simp; try (with_reducible rfl))
          try simp only [Act.put]
          refine MAny.take (i := 2) (v := ?_) rfl (by kernel_rfl) (by kernel_rfl) (by kernel_rfl) (fun _ _ _ h => h) (by kernel_rfl) (Or.inl ⟨by rfl, ?_⟩) (by assumption) ?_
          rotate_left
          · (intro w' hSw; (try dsimp only at hSw); go_simp; try (with_reducible rfl))
          try simp only [Act.put]
          refine MAny.take (i := 3) (v := ?_) rfl (by kernel_rfl) (by kernel_rfl) (by kernel_rfl) (fun _ _ _ h => h) (by kernel_rfl) (Or.inl ⟨by rfl, ?_⟩) (by assumption) ?_
          rotate_left
          · (intro w' hSw; (try dsimp only at hSw); go_simp; try (with_reducible rfl))
          try simp only [Act.put]
          refine MAny.take (i := 4) (v := ?_) rfl (by kernel_rfl) (by kernel_rfl) (by kernel_rfl) (fun _ _ _ h => h) (by kernel_rfl) (Or.inl ⟨by rfl, ?_⟩) (by assumption) ?_
          rotate_left
          · (intro w' hSw; (try dsimp only at hSw); go_simp; try (with_reducible rfl))
          try simp only [Act.put]
          refine MAny.take (i := 5) (v := ?_) rfl (by kernel_rfl) (by kernel_rfl) (by kernel_rfl) (fun _ _ _ h => h) (by kernel_rfl) (Or.inl ⟨by rfl, ?_⟩) (by assumption) ?_
          rotate_left
          · (intro w' hSw; (try dsimp only at hSw); go_simp; try (with_reducible rfl))
          try simp only [Act.put]
          refine MAny.take (i := 6) (v := ?_) rfl (by kernel_rfl) (by kernel_rfl) (by kernel_rfl) (fun _ _ _ h => h) (by kernel_rfl) (Or.inl ⟨by rfl, ?_⟩) (by assumption) ?_
          rotate_left
          · (intro w' hSw; (try dsimp only at hSw); go_simp; try (with_reducible rfl))
          try simp only [Act.put]
          refine MAny.take (i := 7) (v := ?_) rfl (by kernel_rfl) (by kernel_rfl) (by kernel_rfl) (fun _ _ _ h => h) (by kernel_rfl) (Or.inl ⟨by rfl, ?_⟩) (by assumption) ?_
          rotate_left
          · (intro w' hSw; (try dsimp only at hSw); go_simp; try (with_reducible rfl))
          try simp only [Act.put]
          refine MAny.take (i := 8) (v := ?_) rfl (by kernel_rfl) (by kernel_rfl) (by kernel_rfl) (fun _ _ _ h => h) (by kernel_rfl) (Or.inl ⟨by rfl, ?_⟩) (by assumption) ?_
          rotate_left
          · (intro w' hSw; (try dsimp only at hSw); go_simp; try (with_reducible rfl))
          try simp only [Act.put]
          refine MAny.take (i := 9) (v := ?_) rfl (by kernel_rfl) (by kernel_rfl) (by kernel_rfl) (fun _ _ _ h => h) (by kernel_rfl) (Or.inl ⟨by rfl, ?_⟩) (by assumption) ?_
          rotate_left
          · (intro w' hSw; (try dsimp only at hSw); go_simp; try (with_reducible rfl))
          try simp only [Act.put]
          refine MAny.take (i := 10) (v := ?_) rfl (by kernel_rfl) (by kernel_rfl) (by kernel_rfl) (fun _ _ _ h => h) (by kernel_rfl) (Or.inl ⟨by rfl, ?_⟩) (by assumption) ?_
          rotate_left
          · (intro w' hSw; (try dsimp only at hSw); go_simp; try (with_reducible rfl))
          try simp only [Act.put]
          refine MAny.take (i := 11) (v := ?_) rfl (by kernel_rfl) (by kernel_rfl) (by kernel_rfl) (fun _ _ _ h => h) (by kernel_rfl) (Or.inl ⟨by rfl, ?_⟩) (by assumption) ?_
          rotate_left
          · (intro w' hSw; (try dsimp only at hSw); go_simp; try (with_reducible rfl))
          try simp only [Act.put]
          refine MAny.take (i := 12) (v := ?_) rfl (by kernel_rfl) (by kernel_rfl) (by kernel_rfl) (fun _ _ _ h => h) (by kernel_rfl) (Or.inl ⟨by rfl, ?_⟩) (by assumption) ?_
          rotate_left
          · (intro w' hSw; (try dsimp only at hSw); go_simp; try (with_reducible rfl))
          try simp only [Act.put]
          refine MAny.ready (rs := [13]) (by kernel_rfl) (by simp) ?_
          refine MReady.cons rfl (fun K hK => ?_) MReady.nil
          go_simp
          refine hK.out _ _ (.inr hHeld) ?_
          clear hK K
          refine MAny.ready (rs := [14]) (by kernel_rfl) (by simp) ?_
          refine MReady.cons rfl (fun K hK => ?_) MReady.nil
          go_simp
          refine hK.out _ _ (.inr hHeld) ?_
          clear hK K
          refine MAny.ready (rs := [15]) (by kernel_rfl) (by simp) ?_
          refine MReady.cons rfl (fun K hK => ?_) MReady.nil
          go_simp
          refine hK.out _ _ (.inr hHeld2) ?_
          clear hK K
          refine MAny.ready (rs := [16]) (by kernel_rfl) (by simp) ?_
          refine MReady.cons rfl (fun K hK => ?_) MReady.nil
          go_simp
          refine hK.out _ _ (.inr hHeld2) ?_
          clear hK K
          refine MAny.ready (rs := [17]) (by kernel_rfl) (by simp) ?_
          refine MReady.cons rfl (fun K hK => ?_) MReady.nil
          go_simp
          refine hK.out _ _ (.inl rfl) ?_
          clear hK K
          refine MAny.done (by kernel_rfl) ?_ _
          try simp only [List.getElem_toArray, List.getElem_cons_succ, List.getElem_cons_zero]
          clear hE hE1 hE2 hL hL1 hL2 fL0 fL1 fL2 g0 g1 g2 k0 k1 k2 hHeld hHeld2
          go_wp2
          go_roundw
          case rel => exact ⟨j, Ba ++ [y], Bb, rfl, by rw [hj.out]; omega, by rw [hj.out]; omega, ⟨by rw [hI.out.1]; simp, by rw [hj.out, List.length_append, hI.out.2]; rfl⟩, by rw [show Pre ++ (Ba ++ [y]) ++ x :: (Bb ++ B2 ++ Post) = (Pre ++ Ba) ++ y :: ([] ++ x :: (Bb ++ B2 ++ Post)) by simp]; exact own2.out, gT hB hG.out⟩
          case measure => have := hj.out; simp only [intOf]; omega
        · obtain rfl : k = p' := by omega
          have c2 : decide ((k : Int) < (k : Int)) = false := by simp
          go_wp2
          (try simp only [Exit.inBlock, Exit.then]); refine bodyPost_ret (results_none rfl _ _ _) rfl ?_
          obtain ⟨h1, h2⟩ := hI.out
          obtain ⟨h3, h4⟩ := hfin.out
          have : Bb = [] := List.length_eq_zero_iff.1 (by rw [h1, List.length_append] at h3; omega)
          subst this
          rw [List.append_nil] at h1
          subst h1
          exact ⟨B1 ++ x :: B2, List.perm_middle, h4, rfl, by rw [show Pre ++ (B1 ++ x :: B2) ++ Post = Pre ++ B1 ++ x :: ([] ++ B2 ++ Post) by simp]; exact own, hB⟩
end

section
open Go.ChangeShapes Go.WideShapes Go.ChangeAt Go.RowKit Go.IntWalk
set_option maxRecDepth 100000 in
set_option maxHeartbeats 4000000 in
theorem symMerge2_any (base g n c a m b : Nat) (Pre A : List St) (x : St) (Post : List St) (w : World) (own : w.ownsRow base 49 3 (.slice (some ⟨g, 0, none⟩) n c) n ((Pre ++ (A ++ x :: Post)).flatMap encSt)) (hn : n ≤ 1000) (hl : (Pre ++ (A ++ x :: Post)).length = n) (ha : a = Pre.length) (hm : m = a + A.length) (hb : b = m + 1) (hA1 : A.length ≠ 1) (hs : Srt A) :
    Calls Tryz.prog 139 #[.slice (some ⟨g, 0, none⟩) n c, .int .i64 a, .int .i64 m, .int .i64 b, .func (.func 59) #[] #[]] w fun e w' => ∃ C : List St, C.Perm (A ++ [x]) ∧ Srt C ∧ e = .returned (.tuple #[]) ∧ w'.ownsRow base 49 3 (.slice (some ⟨g, 0, none⟩) n c) n ((Pre ++ C ++ Post).flatMap encSt) ∧ w.grownBy w' (some g) := by
  have hB : w.grownBy w (some g) := World.grownBy.refl w _
  have hmn : a ≤ m ∧ m < n := by simp only [List.length_append, List.length_cons] at hl; omega
  have hx := Lib.hid (And.intro ha (And.intro hm (And.intro hb (And.intro hl hs))))
  have i1 : (((m : Int) - (a : Int)) == 1) = false := by simp; omega
  have i2 : IntKind.i64.wrap ((b : Int) - (m : Int)) = 1 := by rw [IntKind.wrap_i64]; omega
  have a1 : (m : Int) < (n : Int) := by omega
  have hxa : Hid ((Pre ++ (A ++ x :: Post))[m]? = some x) := by
    show _ = _
    rw [← List.append_assoc]; exact at_mid (by rw [List.length_append]; omega)
  have hgB : Hid (∀ k, a ≤ k → k < m → (Pre ++ (A ++ x :: Post))[k]? = A[k - a]?) := by
    intro k hk hkm
    rw [List.getElem?_append_right (by omega), ← ha, List.getElem?_append_left (by omega)]
  clear ha hm hb hl hs hA1
  go_enter Tryz.func139, Tryz.ntmps139
  go_wp2
  go_loopw [14, 15] (fun i j wr => ∃ (p q : Nat), i = .int .i64 p ∧ j = .int .i64 q ∧ a ≤ p ∧ p ≤ q ∧ q ≤ m ∧ Hid ((p = a ∨ ∃ z, A[p - a - 1]? = some z ∧ z.fr ≤ x.fr) ∧ (q = m ∨ ∃ z, A[q - a]? = some z ∧ x.fr ≤ z.fr)) ∧ wr.ownsRow base 49 3 (.slice (some ⟨g, 0, none⟩) n c) n ((Pre ++ (A ++ x :: Post)).flatMap encSt) ∧ w.grownBy wr (some g)) (fun i j _ => (intOf j).toNat - (intOf i).toNat)
  case atStart => exact ⟨a, m, rfl, rfl, Nat.le_refl _, hmn.1, Nat.le_refl _, ⟨.inl rfl, .inl rfl⟩, own, hB⟩
  case round =>
    clear own hB i1 i2
    obtain ⟨p, q, rfl, rfl, hp, hpq, hq, hI, own, hB⟩ := hrel
    by_cases hlt : p < q
    · have c1 : (p : Int) < (q : Int) := by omega
      obtain ⟨h, hh⟩ : ∃ h, h = (p + q) / 2 := ⟨_, rfl⟩
      have hh1 : p ≤ h ∧ h < q := by omega
      have v1 : IntKind.i64.wrap ((p : Int) + (q : Int)) = (p : Int) + (q : Int) := by rw [IntKind.wrap_i64]; omega
      have h1 : (h : Int) < (n : Int) := by omega
      obtain ⟨y, hy⟩ : ∃ y, A[h - a]? = some y := ⟨_, List.getElem?_eq_getElem (by have := hx.out; omega)⟩
      replace hy := Lib.hid hy
      have v2 : IntKind.u64.wrap ((p : Int) + (q : Int)) = (p : Int) + (q : Int) := by rw [IntKind.wrap_u64]; omega
      have v3 : ((p : Int) + (q : Int)) / 2 = (h : Int) := by omega
      clear hh

      have hx0 := own_at encSt_len own (i := m) hxa.out (j := 0) rfl
      have hx1 := own_at encSt_len own (i := m) hxa.out (j := 1) rfl
      have hx2 := own_at encSt_len own (i := m) hxa.out (j := 2) rfl
      have hy0 := own_at encSt_len own (i := h) ((hgB.out h (by omega) (by omega)).trans hy.out) (j := 0) rfl
      have hy1 := own_at encSt_len own (i := h) ((hgB.out h (by omega) (by omega)).trans hy.out) (j := 1) rfl
      have hy2 := own_at encSt_len own (i := h) ((hgB.out h (by omega) (by omega)).trans hy.out) (j := 2) rfl
      rw [Nat.add_zero] at hx0 hy0
      have hgl := (own_lt own).2
      have X0 := Later.cell hx0 hgl
      have X1 := Later.cell hx1 hgl
      have X2 := Later.cell hx2 hgl
      have Y0 := Later.cell hy0 hgl
      have Y1 := Later.cell hy1 hgl
      have Y2 := Later.cell hy2 hgl
      clear hx0 hx1 hx2 hy0 hy1 hy2
      by_cases hcc : x.fr < y.fr
      · obtain ⟨v, hv, HA⟩ := addStay1_lt hcc
        replace HA := Lib.hid HA
        replace hcc := Lib.hid hcc
        go_wp2_with fail
        refine wp_region_later _ (by kernel_rfl) (by kernel_rfl) ?_
        repeat (go_big_quiet_step ((go_at_call 59; exact Later.call (Nat.le_refl _) (HA.out _))))
        refine wpQuiet_nil ?_
        intro z'
        have hz := z'.prop
        generalize z'.val = w3 at hz
        replace own := own_below own hz
        replace hB := gB hB hz
        clear X0 X1 X2 Y0 Y1 Y2 hz hgl
        go_wp2
        go_roundw
        case rel => exact ⟨p, h, rfl, rfl, hp, by omega, by omega, ⟨hI.out.1, .inr ⟨y, hy.out, by have := hcc.out; omega⟩⟩, own, hB⟩
        case measure => simp only [intOf]; omega
      · obtain ⟨v, hv, HA⟩ := addStay1_ge hcc
        replace HA := Lib.hid HA
        replace hcc := Lib.hid hcc
        go_wp2_with fail
        refine wp_region_later _ (by kernel_rfl) (by kernel_rfl) ?_
        repeat (go_big_quiet_step ((go_at_call 59; exact Later.call (Nat.le_refl _) (HA.out _))))
        refine wpQuiet_nil ?_
        intro z'
        have hz := z'.prop
        generalize z'.val = w3 at hz
        replace own := own_below own hz
        replace hB := gB hB hz
        clear X0 X1 X2 Y0 Y1 Y2 hz hgl
        go_wp2
        go_roundw
        case rel => exact ⟨h + 1, q, by go_num, rfl, by omega, by omega, hq, ⟨.inr ⟨y, by rw [show h + 1 - a - 1 = h - a by omega]; exact hy.out, by have := hcc.out; omega⟩, hI.out.2⟩, own, hB⟩
        case measure => simp only [intOf]; omega
    · obtain rfl : p = q := by omega
      have c1 : decide ((p : Int) < (p : Int)) = false := by simp
      obtain ⟨A1, A2, rfl, hA1⟩ := split_at A (j := p - a) (by have := hx.out; omega)
      have hfin : Hid (Srt (A1 ++ x :: A2)) := by
        obtain ⟨h1, h2, h3, h4, h5⟩ := hx.out
        obtain ⟨e1, e2⟩ := hI.out
        simp only [List.length_append] at h2
        refine srt_put h5 ?_ ?_
        · rcases e1 with e1 | ⟨z, hz, hzx⟩
          · have : A1 = [] := List.length_eq_zero_iff.1 (by omega)
            subst this; intro y hy; cases hy
          · intro y hy
            have hz' : A1[A1.length - 1]? = some z := by
              rw [hA1]
              rw [List.getElem?_append_left (by have : 0 < A1.length := List.length_pos_of_mem hy; omega)] at hz
              exact hz
            have := h5.left.last hz' y hy
            omega
        · rcases e2 with e2 | ⟨z, hz, hzx⟩
          · have : A2 = [] := List.length_eq_zero_iff.1 (by omega)
            subst this; intro y hy; cases hy
          · intro y hy
            have hz' : A2[0]? = some z := by
              rw [List.getElem?_append_right (by omega), show p - a - A1.length = 0 by omega] at hz
              exact hz
            have := h5.right.head hz' y hy
            omega
      have hpa : Hid (p = a + A1.length ∧ m = p + A2.length) := ⟨by omega, by have := hx.out.2.1; simp only [List.length_append] at this; omega⟩
      replace hx := Lib.hid hx.out.1
      replace hmn := hmn.2
      clear hI hxa hgB hA1 hpq a1
      go_wp2
      go_loopw [17] (fun i wr => ∃ (k : Nat) (Ba Bb : List St), i = .int .i64 k ∧ p ≤ k ∧ k ≤ m ∧ Hid (A2 = Ba ++ Bb ∧ k = p + Ba.length) ∧ wr.ownsRow base 49 3 (.slice (some ⟨g, 0, none⟩) n c) n ((Pre ++ A1 ++ Ba ++ x :: (Bb ++ Post)).flatMap encSt) ∧ w.grownBy wr (some g)) (fun i _ => (intOf i).toNat - p)
      case atStart => exact ⟨m, A2, [], rfl, hq, Nat.le_refl _, ⟨by simp, hpa.out.2⟩, by simpa using own, hB⟩
      case round =>
        clear own hB
        obtain ⟨k, Ba, Bb, rfl, hak, hkp, hI, own, hB⟩ := hrel
        by_cases hlt : p < k
        · have c2 : (p : Int) < (k : Int) := by omega
          obtain ⟨y, Ba, rfl⟩ : ∃ y B', Ba = B' ++ [y] := by
            have h1 := hI.out
            rcases List.eq_nil_or_concat Ba with rfl | ⟨B', y, rfl⟩
            · simp at h1; omega
            · exact ⟨y, B', by simp⟩
          obtain ⟨i, hi⟩ : ∃ i, k = i + 1 := ⟨k - 1, by omega⟩
          have v5 : IntKind.i64.wrap ((k : Int) - 1) = (i : Int) := by rw [IntKind.wrap_i64]; omega
          have b1 : (k : Int) < (n : Int) := by omega
          have b2 : (i : Int) < (n : Int) := by omega
          have own : wr.ownsRow base 49 3 (.slice (some ⟨g, 0, none⟩) n c) n (((Pre ++ A1 ++ Ba) ++ y :: ([] ++ x :: (Bb ++ Post))).flatMap encSt) := by
            have e : Pre ++ A1 ++ (Ba ++ [y]) ++ x :: (Bb ++ Post) = (Pre ++ A1 ++ Ba) ++ y :: ([] ++ x :: (Bb ++ Post)) := by simp
            rw [← e]; exact own
          have hpi := Lib.hid (show i = (Pre ++ A1 ++ Ba).length by have h1 := hI.out.2; have h2 := hpa.out.1; have h3 := hx.out; simp only [List.length_append, List.length_cons, List.length_nil] at h1 ⊢; omega)
          have hpj := Lib.hid (show k = (Pre ++ A1 ++ Ba).length + 1 + ([] : List St).length by rw [← hpi.out]; exact hi)
          replace hi := Lib.hid hi
          go_upto_region 23 with (fail)
          have hz := (Below.refl wr.heap.size wr).drew
          replace own := own_below own hz
          replace hB := gB hB hz
          clear hz
          refine MAny.region (S := fun w' => w'.cell? ⟨g, i * 3, none⟩ = some (.int .i64 y.place) ∧ w'.cell? ⟨g, i * 3 + 1, none⟩ = some (.int .i64 y.fr) ∧ w'.cell? ⟨g, i * 3 + 2, none⟩ = some (.int .i64 y.to)) (last := 17) (by kernel_rfl) ?_
          generalize wr.drew = W0 at own hB ⊢
          have hE := own_at encSt_len own (i := i) (x := y) (at_mid hpi.out) (j := 0) rfl
          have hE1 := own_at encSt_len own (i := i) (x := y) (at_mid hpi.out) (j := 1) rfl
          have hE2 := own_at encSt_len own (i := i) (x := y) (at_mid hpi.out) (j := 2) rfl
          have hL := own_at encSt_len own (i := k) (x := x) (at_two hpj.out) (j := 0) rfl
          have hL1 := own_at encSt_len own (i := k) (x := x) (at_two hpj.out) (j := 1) rfl
          have hL2 := own_at encSt_len own (i := k) (x := x) (at_two hpj.out) (j := 2) rfl
          rw [Nat.add_zero] at hE hL
          have fz := fun q => own.frozenAt q
          have fL0 := fz (k * 3)
          have fL1 := fz (k * 3 + 1)
          have fL2 := fz (k * 3 + 2)
          have hSW := own_swapB own hpi.out hpj.out
          obtain ⟨own2, hG, hc, hf⟩ := hSW
          have hHeld := And.intro hE (And.intro hE1 hE2)
          replace own2 := Lib.hid own2
          replace hG := Lib.hid hG
          have g0 := hc 0 _ rfl
          have g1 := hc 1 _ rfl
          have g2 := hc 2 _ rfl
          rw [Nat.add_zero] at g0
          have k0 := hf (i * 3)
          have k1 := hf (i * 3 + 1)
          have k2 := hf (i * 3 + 2)
          clear hc hf fz
          change ((((W0.setCell ⟨g, k * 3, none⟩ (.int .i64 y.place)).setCell ⟨g, k * 3 + 1, none⟩ (.int .i64 y.fr)).setCell ⟨g, k * 3 + 2, none⟩ (.int .i64 y.to))).cell? _ = _ at g0 g1 g2
          change ((((W0.setCell ⟨g, k * 3, none⟩ (.int .i64 y.place)).setCell ⟨g, k * 3 + 1, none⟩ (.int .i64 y.fr)).setCell ⟨g, k * 3 + 2, none⟩ (.int .i64 y.to))).frozen? _ = _ at k0 k1 k2
          have hHeld2 := And.intro g0 (And.intro g1 g2)
          clear own
          refine MAny.take (i := 0) (v := ?_) rfl (by kernel_rfl) (by kernel_rfl) (by kernel_rfl) (fun _ _ _ h => h) (by kernel_rfl) (Or.inl ⟨by rfl, ?_⟩) (by assumption) ?_
          rotate_left
          · (intro w' hSw; (try dsimp only at hSw); go_simp; try (with_reducible rfl))
          try simp only [Act.put, List.setIfInBounds_toArray]
          refine MAny.take (i := 1) (v := ?_) rfl (by kernel_rfl) (by kernel_rfl) (by kernel_rfl) (fun _ _ _ h => h) (by kernel_rfl) (Or.inl ⟨by rfl, ?_⟩) (by assumption) ?_
          rotate_left
          · (intro w' hSw; (try dsimp only at hSw); go_simp; try (with_reducible rfl))
          try simp only [Act.put]
          refine MAny.take (i := 2) (v := ?_) rfl (by kernel_rfl) (by kernel_rfl) (by kernel_rfl) (fun _ _ _ h => h) (by kernel_rfl) (Or.inl ⟨by rfl, ?_⟩) (by assumption) ?_
          rotate_left
          · (intro w' hSw; (try dsimp only at hSw); go_simp; try (with_reducible rfl))
          try simp only [Act.put]
          refine MAny.take (i := 3) (v := ?_) rfl (by kernel_rfl) (by kernel_rfl) (by kernel_rfl) (fun _ _ _ h => h) (by kernel_rfl) (Or.inl ⟨by rfl, ?_⟩) (by assumption) ?_
          rotate_left
          · (intro w' hSw; (try dsimp only at hSw); go_simp; try (with_reducible rfl))
          try simp only [Act.put]
          refine MAny.take (i := 4) (v := ?_) rfl (by kernel_rfl) (by kernel_rfl) (by kernel_rfl) (fun _ _ _ h => h) (by kernel_rfl) (Or.inl ⟨by rfl, ?_⟩) (by assumption) ?_
          rotate_left
          · (intro w' hSw; (try dsimp only at hSw); go_simp; try (with_reducible rfl))
          try simp only [Act.put]
          refine MAny.take (i := 5) (v := ?_) rfl (by kernel_rfl) (by kernel_rfl) (by kernel_rfl) (fun _ _ _ h => h) (by kernel_rfl) (Or.inl ⟨by rfl, ?_⟩) (by assumption) ?_
          rotate_left
          · (intro w' hSw; (try dsimp only at hSw); go_simp; try (with_reducible rfl))
          try simp only [Act.put]
          refine MAny.take (i := 6) (v := ?_) rfl (by kernel_rfl) (by kernel_rfl) (by kernel_rfl) (fun _ _ _ h => h) (by kernel_rfl) (Or.inl ⟨by rfl, ?_⟩) (by assumption) ?_
          rotate_left
          · (intro w' hSw; (try dsimp only at hSw); go_simp; try (with_reducible rfl))
          try simp only [Act.put]
          refine MAny.take (i := 7) (v := ?_) rfl (by kernel_rfl) (by kernel_rfl) (by kernel_rfl) (fun _ _ _ h => h) (by kernel_rfl) (Or.inl ⟨by rfl, ?_⟩) (by assumption) ?_
          rotate_left
          · (intro w' hSw; (try dsimp only at hSw); go_simp; try (with_reducible rfl))
          try simp only [Act.put]
          refine MAny.take (i := 8) (v := ?_) rfl (by kernel_rfl) (by kernel_rfl) (by kernel_rfl) (fun _ _ _ h => h) (by kernel_rfl) (Or.inl ⟨by rfl, ?_⟩) (by assumption) ?_
          rotate_left
          · (intro w' hSw; (try dsimp only at hSw); go_simp; try (with_reducible rfl))
          try simp only [Act.put]
          refine MAny.take (i := 9) (v := ?_) rfl (by kernel_rfl) (by kernel_rfl) (by kernel_rfl) (fun _ _ _ h => h) (by kernel_rfl) (Or.inl ⟨by rfl, ?_⟩) (by assumption) ?_
          rotate_left
          · (intro w' hSw; (try dsimp only at hSw); go_simp; try (with_reducible rfl))
          try simp only [Act.put]
          refine MAny.take (i := 10) (v := ?_) rfl (by kernel_rfl) (by kernel_rfl) (by kernel_rfl) (fun _ _ _ h => h) (by kernel_rfl) (Or.inl ⟨by rfl, ?_⟩) (by assumption) ?_
          rotate_left
          · (intro w' hSw; (try dsimp only at hSw); go_simp; try (with_reducible rfl))
          try simp only [Act.put]
          refine MAny.take (i := 11) (v := ?_) rfl (by kernel_rfl) (by kernel_rfl) (by kernel_rfl) (fun _ _ _ h => h) (by kernel_rfl) (Or.inl ⟨by rfl, ?_⟩) (by assumption) ?_
          rotate_left
          · (intro w' hSw; (try dsimp only at hSw); go_simp; try (with_reducible rfl))
          try simp only [Act.put]
          refine MAny.take (i := 12) (v := ?_) rfl (by kernel_rfl) (by kernel_rfl) (by kernel_rfl) (fun _ _ _ h => h) (by kernel_rfl) (Or.inl ⟨by rfl, ?_⟩) (by assumption) ?_
          rotate_left
          · (intro w' hSw; (try dsimp only at hSw); go_simp; try (with_reducible rfl))
          try simp only [Act.put]
          refine MAny.ready (rs := [13]) (by kernel_rfl) (by simp) ?_
          refine MReady.cons rfl (fun K hK => ?_) MReady.nil
          go_simp
          refine hK.out _ _ (.inr hHeld) ?_
          clear hK K
          refine MAny.ready (rs := [14]) (by kernel_rfl) (by simp) ?_
          refine MReady.cons rfl (fun K hK => ?_) MReady.nil
          go_simp
          refine hK.out _ _ (.inr hHeld) ?_
          clear hK K
          refine MAny.ready (rs := [15]) (by kernel_rfl) (by simp) ?_
          refine MReady.cons rfl (fun K hK => ?_) MReady.nil
          go_simp
          refine hK.out _ _ (.inr hHeld2) ?_
          clear hK K
          refine MAny.ready (rs := [16]) (by kernel_rfl) (by simp) ?_
          refine MReady.cons rfl (fun K hK => ?_) MReady.nil
          go_simp
          refine hK.out _ _ (.inr hHeld2) ?_
          clear hK K
          refine MAny.ready (rs := [17]) (by kernel_rfl) (by simp) ?_
          refine MReady.cons rfl (fun K hK => ?_) MReady.nil
          go_simp
          refine hK.out _ _ (.inl rfl) ?_
          clear hK K
          refine MAny.done (by kernel_rfl) ?_ _
          try simp only [List.getElem_toArray, List.getElem_cons_succ, List.getElem_cons_zero]
          clear hE hE1 hE2 hL hL1 hL2 fL0 fL1 fL2 g0 g1 g2 k0 k1 k2 hHeld hHeld2
          go_wp2
          go_roundw
          case rel => exact ⟨i, Ba, y :: Bb, rfl, by have := hi.out; omega, by have := hi.out; omega, ⟨by rw [hI.out.1]; simp, by have h1 := hI.out.2; have h2 := hi.out; simp only [List.length_append, List.length_cons, List.length_nil] at h1; omega⟩, by rw [show Pre ++ A1 ++ Ba ++ x :: (y :: Bb ++ Post) = (Pre ++ A1 ++ Ba) ++ x :: ([] ++ y :: (Bb ++ Post)) by simp]; exact own2.out, gT hB hG.out⟩
          case measure => have := hi.out; simp only [intOf]; omega
        · obtain rfl : k = p := by omega
          have c2 : decide ((k : Int) < (k : Int)) = false := by simp
          go_wp2
          (try simp only [Exit.inBlock, Exit.then]); refine bodyPost_ret (results_none rfl _ _ _) rfl ?_
          obtain ⟨h1, h2⟩ := hI.out
          have : Ba = [] := List.length_eq_zero_iff.1 (by omega)
          subst this
          rw [List.nil_append] at h1
          subst h1
          exact ⟨A1 ++ x :: A2, by rw [List.append_assoc]; exact (List.perm_append_left_iff A1).2 (List.perm_append_singleton x A2).symm, hfin.out, rfl, by rw [show Pre ++ (A1 ++ x :: A2) ++ Post = Pre ++ A1 ++ [] ++ x :: (A2 ++ Post) by simp]; exact own, hB⟩
end

section
open Go.ChangeShapes Go.WideShapes Go.ChangeAt Go.RowKit Go.IntWalk
/-- symMerge of ranges that are not longer than N. -/
def SM (base g n c N : Nat) : Prop := ∀ (a m b : Nat) (Pre A B Post : List St) (w : World), w.ownsRow base 49 3 (.slice (some ⟨g, 0, none⟩) n c) n ((Pre ++ (A ++ (B ++ Post))).flatMap encSt) → (Pre ++ (A ++ (B ++ Post))).length = n → a = Pre.length → m = a + A.length → b = m + B.length → 0 < A.length → 0 < B.length → Srt A → Srt B → b - a ≤ N →
  Calls Tryz.prog 139 #[.slice (some ⟨g, 0, none⟩) n c, .int .i64 a, .int .i64 m, .int .i64 b, .func (.func 59) #[] #[]] w fun e w' => ∃ C : List St, C.Perm (A ++ B) ∧ Srt C ∧ e = .returned (.tuple #[]) ∧ w'.ownsRow base 49 3 (.slice (some ⟨g, 0, none⟩) n c) n ((Pre ++ (C ++ Post)).flatMap encSt) ∧ w.grownBy w' (some g)
theorem own_re {W : World} {base : Nat} {T : TypeId} {k g n c : Nat} {l l' : List St} (h : W.ownsRow base T k (.slice (some ⟨g, 0, none⟩) n c) n (l.flatMap encSt)) (e : l = l') : W.ownsRow base T k (.slice (some ⟨g, 0, none⟩) n c) n (l'.flatMap encSt) := e ▸ h
theorem srt_nn {A B : List St} (hA : Srt A) (hB : Srt B) (h : A = [] ∨ B = []) : Srt (A ++ B) := by
  rcases h with rfl | rfl
  · exact hB
  · rw [List.append_nil]; exact hA
theorem swap_nn {A B R : List St} (h : A = [] ∨ B = []) : A ++ (B ++ R) = B ++ (A ++ R) := by
  rcases h with rfl | rfl <;> simp
end
end Go.Proofs.YtipdcgfdejmjfaaGreatDoor
