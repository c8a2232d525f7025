/- Walks: FailingClauses and BestDay of the reference and of the program. Printed by gen_fail.py. -/
import Derived.Test.YtdbgnbohdplndaaGreatDoorBestP
namespace Go.Proofs.YtdbgnbohdplndaaGreatDoor
open Go.ChangeShapes Go.WideShapes Go.ChangeAt Go.RowKit Go.IntWalk

set_option maxHeartbeats 1000000 in
theorem specFailing_any (a0 a1 : Option Addr) (cap0 cap1 : Nat) (rs : List Rg) (f t : Int) (cs : List Cl) (n : Int) (w : World) (hl0 : rs.length ≤ 1048576) (hx0 : Rd encRg w a0 rs) (hs0 : ∀ m ∈ rs, m.king.size ≤ 1048576) (hl1 : cs.length ≤ 1048576) (hx1 : Rd encCl w a1 cs) (hs1 : ∀ m ∈ cs, szCl m ≤ 1048576) :
    Calls Tryz.prog 20 #[.agg #[.slice a0 rs.length cap0, .int .i64 f, .int .i64 t], .slice a1 cs.length cap1, .int .i64 n] w fun e w' => ∃ b c, e = .returned (.tuple #[.slice b (failR rs f t cs n).1.length c, .int .i64 (failR rs f t cs n).2]) ∧ w'.ownsRow w.heap.size 2 1 (.slice b (failR rs f t cs n).1.length c) (failR rs f t cs n).1.length ((failR rs f t cs n).1.flatMap encI) ∧ Below w.heap.size w w' := by
  have hA := At.start w [.slice a0 rs.length cap0, .int .i64 f, .int .i64 t] 32
  have HV := Lib.hid (fun W (h : At w [.slice a0 rs.length cap0, .int .i64 f, .int .i64 t] W) => l12Valid_any a0 a1 cap0 cap1 rs f t cs W hl0 (hx0.below h.below) hs0 hl1 (hx1.below h.below) hs1)
  have c0 := hA.cell 0 _ rfl
  have c1 := hA.cell 1 _ rfl
  have c2 := hA.cell 2 _ rfl
  cases hd : datedB rs f t cs
  · have hR : Hid (failR rs f t cs n = ([], 1)) := by unfold Hid failR; rw [hd]; rfl
    generalize failR rs f t cs n = V at hR ⊢
    have HV := Lib.hid (fun W h => hd ▸ HV.out W h)
    go_enter Tryz.func20, Tryz.ntmps20
    go_wp2_with fail
    refine (HV.out _ hA).mono ?_
    rintro e w1 ⟨rfl, hB1⟩
    have hA := hA.step hB1
    clear c0 c1 c2 hB1
    have c0 := hA.cell 0 _ rfl
    have c1 := hA.cell 1 _ rfl
    have c2 := hA.cell 2 _ rfl
    go_wp2
    go_ret2
    rw [hR.out]
    exact ⟨none, 0, rfl, World.ownsRow_nil _ _ _ _, hA.below⟩
  obtain ⟨hfr, hok, hl8, hf0, hft, ht, htf⟩ := dated_facts hd
  have HV := Lib.hid (fun W h => hd ▸ HV.out W h)
  cases hn : inB n f t
  · have hR : Hid (failR rs f t cs n = ([], 2)) := by unfold Hid failR; rw [hd, hn]; rfl
    generalize failR rs f t cs n = V at hR ⊢
    clear hd
    go_enter Tryz.func20, Tryz.ntmps20
    go_wp2_with fail
    refine (HV.out _ hA).mono ?_
    rintro e w1 ⟨rfl, hB1⟩
    have hA := hA.step hB1
    clear c0 c1 c2 hB1
    have c0 := hA.cell 0 _ rfl
    have c1 := hA.cell 1 _ rfl
    have c2 := hA.cell 2 _ rfl
    go_wp2_with fail
    refine (l01In_any n f t _).mono ?_
    rintro e w1' ⟨rfl, rfl⟩
    rw [hn]
    go_wp2
    go_ret2
    rw [hR.out]
    exact ⟨none, 0, rfl, World.ownsRow_nil _ _ _ _, hA.below⟩
  have hR : Hid (failR rs f t cs n = (idxGo 0 (failL rs cs n), 0)) := by unfold Hid failR; rw [hd, hn]; rfl
  have hn2 : f ≤ n ∧ n ≤ t := by simpa [inB] using hn
  have HF := Lib.hid (fun W (h : At w [.slice a0 rs.length cap0, .int .i64 f, .int .i64 t] W) => l12Failing_any a0 a1 cap0 cap1 rs f t cs n W hl0 (hx0.below h.below) hfr hl8 (hx1.below h.below) hok (by omega) (by omega))
  generalize failR rs f t cs n = V at hR ⊢
  generalize idxGo 0 (failL rs cs n) = xs at HF hR
  clear hd
  go_enter Tryz.func20, Tryz.ntmps20
  go_wp2_with fail
  refine (HV.out _ hA).mono ?_
  rintro e w1 ⟨rfl, hB1⟩
  have hA := hA.step hB1
  clear c0 c1 c2 hB1
  have c0 := hA.cell 0 _ rfl
  have c1 := hA.cell 1 _ rfl
  have c2 := hA.cell 2 _ rfl
  go_wp2_with fail
  refine (l01In_any n f t _).mono ?_
  rintro e w1' ⟨rfl, rfl⟩
  rw [hn]
  go_wp2_with fail
  refine (HF.out _ hA).mono ?_
  rintro e w2 ⟨g, c, rfl, hown, hB2⟩
  have hown := own_base hown hA.below.size
  have hA := hA.step hB2
  clear c0 c1 c2 hB2
  go_wp2
  go_ret2
  rw [hR.out]
  exact ⟨_, c, rfl, hown, hA.below⟩
set_option maxHeartbeats 1000000 in
theorem implFailing_any (a0 a1 : Option Addr) (cap0 cap1 : Nat) (rs : List Rg) (f t : Int) (cs : List Cl) (n : Int) (w : World) (hl0 : rs.length ≤ 1048576) (hx0 : Rd encRg w a0 rs) (hs0 : ∀ m ∈ rs, m.king.size ≤ 1048576) (hl1 : cs.length ≤ 1048576) (hx1 : Rd encCl w a1 cs) (hs1 : ∀ m ∈ cs, szCl m ≤ 1048576) :
    Calls Tryz.prog 21 #[.agg #[.slice a0 rs.length cap0, .int .i64 f, .int .i64 t], .slice a1 cs.length cap1, .int .i64 n] w fun e w' => ∃ b c, e = .returned (.tuple #[.slice b (failR rs f t cs n).1.length c, .int .i64 (failR rs f t cs n).2]) ∧ w'.ownsRow w.heap.size 2 1 (.slice b (failR rs f t cs n).1.length c) (failR rs f t cs n).1.length ((failR rs f t cs n).1.flatMap encI) ∧ Below w.heap.size w w' := by
  have hA := At.start w [.slice a0 rs.length cap0, .int .i64 f, .int .i64 t] 32
  have HV := Lib.hid (fun W (h : At w [.slice a0 rs.length cap0, .int .i64 f, .int .i64 t] W) => isDated_any a0 a1 cap0 cap1 rs f t cs W hl0 (hx0.below h.below) hs0 hl1 (hx1.below h.below) hs1)
  have c0 := hA.cell 0 _ rfl
  have c1 := hA.cell 1 _ rfl
  have c2 := hA.cell 2 _ rfl
  cases hd : datedB rs f t cs
  · have hR : Hid (failR rs f t cs n = ([], 1)) := by unfold Hid failR; rw [hd]; rfl
    generalize failR rs f t cs n = V at hR ⊢
    have HV := Lib.hid (fun W h => hd ▸ HV.out W h)
    go_enter Tryz.func21, Tryz.ntmps21
    go_wp2_with fail
    refine (HV.out _ hA).mono ?_
    rintro e w1 ⟨rfl, hB1⟩
    have hA := hA.step hB1
    clear c0 c1 c2 hB1
    have c0 := hA.cell 0 _ rfl
    have c1 := hA.cell 1 _ rfl
    have c2 := hA.cell 2 _ rfl
    go_wp2
    go_ret2
    rw [hR.out]
    exact ⟨none, 0, rfl, World.ownsRow_nil _ _ _ _, hA.below⟩
  obtain ⟨hfr, hok, hl8, hf0, hft, ht, htf⟩ := dated_facts hd
  have HV := Lib.hid (fun W h => hd ▸ HV.out W h)
  cases hn : inB n f t
  · have hR : Hid (failR rs f t cs n = ([], 2)) := by unfold Hid failR; rw [hd, hn]; rfl
    generalize failR rs f t cs n = V at hR ⊢
    clear hd
    go_enter Tryz.func21, Tryz.ntmps21
    go_wp2_with fail
    refine (HV.out _ hA).mono ?_
    rintro e w1 ⟨rfl, hB1⟩
    have hA := hA.step hB1
    clear c0 c1 c2 hB1
    have c0 := hA.cell 0 _ rfl
    have c1 := hA.cell 1 _ rfl
    have c2 := hA.cell 2 _ rfl
    go_wp2_with fail
    refine (within_any n f t _).mono ?_
    rintro e w1' ⟨rfl, rfl⟩
    rw [hn]
    go_wp2
    go_ret2
    rw [hR.out]
    exact ⟨none, 0, rfl, World.ownsRow_nil _ _ _ _, hA.below⟩
  have hR : Hid (failR rs f t cs n = (idxGo 0 (failL rs cs n), 0)) := by unfold Hid failR; rw [hd, hn]; rfl
  have hn2 : f ≤ n ∧ n ≤ t := by simpa [inB] using hn
  have HF := Lib.hid (fun W (h : At w [.slice a0 rs.length cap0, .int .i64 f, .int .i64 t] W) => failing_any a0 a1 cap0 cap1 rs f t cs n W hl0 (hx0.below h.below) hfr hl8 (hx1.below h.below) hok (by omega) (by omega))
  have hL := ones_mask (failL rs cs n) (by rw [failL_len]; omega)
  have hM := maskB_lt (failL rs cs n)
  have hM : maskB (failL rs cs n) < 256 := Nat.lt_of_lt_of_le hM (by rw [failL_len]; exact (Nat.pow_le_pow_right (by decide) hl8 : 2 ^ cs.length ≤ 2 ^ 8))
  rw [← hL] at hR
  generalize failR rs f t cs n = V at hR ⊢
  generalize maskB (failL rs cs n) = m at HF hR hM
  clear hL hd
  go_enter Tryz.func21, Tryz.ntmps21
  go_wp2_with fail
  refine (HV.out _ hA).mono ?_
  rintro e w1 ⟨rfl, hB1⟩
  have hA := hA.step hB1
  clear c0 c1 c2 hB1
  have c0 := hA.cell 0 _ rfl
  have c1 := hA.cell 1 _ rfl
  have c2 := hA.cell 2 _ rfl
  go_wp2_with fail
  refine (within_any n f t _).mono ?_
  rintro e w1' ⟨rfl, rfl⟩
  rw [hn]
  go_wp2_with fail
  refine (HF.out _ hA).mono ?_
  rintro e w2 ⟨rfl, hB2⟩
  have hA := hA.step hB2
  clear c0 c1 c2 hB2
  go_wp2_with fail
  refine (bitsOf_any m _ hM).mono ?_
  rintro e w3 ⟨g, c, rfl, hown, hB3⟩
  have hown := own_base hown hA.below.size
  have hA := hA.step hB3
  clear hB3
  go_wp2
  go_ret2
  rw [hR.out]
  exact ⟨_, c, rfl, hown, hA.below⟩
set_option maxRecDepth 100000 in
set_option maxHeartbeats 1000000 in
theorem specBest_any (a0 a1 : Option Addr) (cap0 cap1 : Nat) (rs : List Rg) (f t : Int) (cs : List Cl) (w : World) (hl0 : rs.length ≤ 1048576) (hx0 : Rd encRg w a0 rs) (hs0 : ∀ m ∈ rs, m.king.size ≤ 1048576) (hl1 : cs.length ≤ 1048576) (hx1 : Rd encCl w a1 cs) (hs1 : ∀ m ∈ cs, szCl m ≤ 1048576) :
    Calls Tryz.prog 18 #[.agg #[.slice a0 rs.length cap0, .int .i64 f, .int .i64 t], .slice a1 cs.length cap1] w fun e w' => e = .returned (.tuple #[.int .i64 (bestF rs f t cs).1, .int .i64 ((bestF rs f t cs).2.1 : Nat), .int .i64 (bestF rs f t cs).2.2]) ∧ Below w.heap.size w w' := by
  have hA := At.start w [.slice a0 rs.length cap0, .int .i64 f, .int .i64 t] 32
  have HV := Lib.hid (fun W (h : At w [.slice a0 rs.length cap0, .int .i64 f, .int .i64 t] W) => l12Valid_any a0 a1 cap0 cap1 rs f t cs W hl0 (hx0.below h.below) hs0 hl1 (hx1.below h.below) hs1)
  have c0 := hA.cell 0 _ rfl
  have c1 := hA.cell 1 _ rfl
  have c2 := hA.cell 2 _ rfl
  cases hd : datedB rs f t cs
  · have hR : Hid (bestF rs f t cs = (0, 0, 1)) := by unfold Hid bestF; rw [hd]; rfl
    generalize bestF rs f t cs = V at hR ⊢
    have HV := Lib.hid (fun W h => hd ▸ HV.out W h)
    go_enter Tryz.func18, Tryz.ntmps18
    go_wp2_with fail
    refine (HV.out _ hA).mono ?_
    rintro e w1 ⟨rfl, hB1⟩
    have hA := hA.step hB1
    clear c0 c1 c2 hB1
    have c0 := hA.cell 0 _ rfl
    have c1 := hA.cell 1 _ rfl
    have c2 := hA.cell 2 _ rfl
    go_wp2
    go_ret3
    rw [hR.out]
    exact ⟨rfl, hA.below⟩
  obtain ⟨hfr, hok, hl8, hf0, hft, ht, htf⟩ := dated_facts hd
  have HV := Lib.hid (fun W h => hd ▸ HV.out W h)
  have hR : Hid (bestF rs f t cs = ((bestGo (failN rs cs) f (t - f + 1).toNat f (cs.length + 1)).1, (bestGo (failN rs cs) f (t - f + 1).toNat f (cs.length + 1)).2, 0)) := by unfold Hid bestF; rw [hd]; rfl
  generalize bestF rs f t cs = V at hR ⊢
  have hq := Lib.hid (fun y => failN_le rs cs y)
  have HF := Lib.hid (fun y W (h : At w [.slice a0 rs.length cap0, .int .i64 f, .int .i64 t] W) h0 h4 => (l12Failing_any a0 a1 cap0 cap1 rs f t cs y W hl0 (hx0.below h.below) hfr hl8 (hx1.below h.below) hok h0 h4).mono (show ∀ e w', _ → (∃ g c, e = .returned (.slice (some ⟨g, 0, none⟩) (failN rs cs y) c) ∧ Below W.heap.size W w') from fun e w' ⟨g, c, h1, _, h3⟩ => ⟨g, c, h1, h3⟩))
  generalize failN rs cs = q at HF hR hq
  clear hd
  generalize hS : bestGo q f (t - f + 1).toNat f (cs.length + 1) = R at hR
  have hS := Lib.hid hS
  go_enter Tryz.func18, Tryz.ntmps18
  go_wp2_with fail
  refine (HV.out _ hA).mono ?_
  rintro e w1 ⟨rfl, hB1⟩
  have hA := hA.step hB1
  clear c0 c1 c2 hB1
  have c0 := hA.cell 0 _ rfl
  have c1 := hA.cell 1 _ rfl
  have c2 := hA.cell 2 _ rfl
  go_wp2
  go_loopw [7, 8, 9] (fun b l i wr => ∃ (y bb : Int) (k ll : Nat), f ≤ y ∧ y + k = t + 1 ∧ i = .int .i64 y ∧ b = .int .i64 bb ∧ l = .int .i64 (ll : Nat) ∧ ll ≤ 9 ∧ Hid (bestGo q y k bb ll = R) ∧ At w [.slice a0 rs.length cap0, .int .i64 f, .int .i64 t] wr) (fun _ _ i _ => (730500 - intOf i).toNat)
  case atStart => exact ⟨f, f, (t - f + 1).toNat, cs.length + 1, Int.le_refl _, by omega, rfl, rfl, by simp, by omega, hS.out, hA⟩
  case round =>
    clear hA hS c0 c1 c2
    obtain ⟨y, bb, k, ll, hfy, hyk, rfl, rfl, rfl, hl9, hM, hA⟩ := hrel
    have c0 := hA.cell 0 _ rfl
    have c1 := hA.cell 1 _ rfl
    have c2 := hA.cell 2 _ rfl
    by_cases hlt : y ≤ t
    · obtain ⟨k, rfl⟩ : ∃ k', k = k' + 1 := ⟨k - 1, by omega⟩
      have v3 := i64_in (y + 1) (by omega)
      have HFy := Lib.hid (fun W h => HF.out y W h (by omega) (by omega))
      have hqy := hq.out y
      by_cases h1 : q y < ll
      · have hM := Lib.hid (best_hit (b := bb) k h1 ▸ hM.out)
        have h1' : (q y : Int) < (ll : Int) := by omega
        go_wp2_with fail
        refine (HFy.out _ hA).mono ?_
        rintro e w2 ⟨g, c, rfl, hB2⟩
        have hA := hA.step hB2
        clear c0 c1 c2 hB2
        go_wp2
        go_roundw
        case rel => exact ⟨y + 1, y, k, q y, by omega, by omega, rfl, rfl, rfl, by omega, hM.out, hA⟩
        case measure => simp [intOf]; omega
      · have hM := Lib.hid (best_no (b := bb) k h1 ▸ hM.out)
        have h1' : decide ((q y : Int) < (ll : Int)) = false := by simp; omega
        go_wp2_with fail
        refine (HFy.out _ hA).mono ?_
        rintro e w2 ⟨g, c, rfl, hB2⟩
        have hA := hA.step hB2
        clear c0 c1 c2 hB2
        go_wp2
        go_roundw
        case rel => exact ⟨y + 1, bb, k, ll, by omega, by omega, rfl, rfl, rfl, hl9, hM.out, hA⟩
        case measure => simp [intOf]; omega
    · have hlt' : decide (y ≤ t) = false := by simpa using hlt
      obtain rfl : k = 0 := by omega
      have hM : (bb, ll) = R := hM.out
      subst hM
      go_wp2
      go_ret3
      rw [hR.out]
      exact ⟨rfl, hA.below⟩
set_option maxRecDepth 100000 in
set_option maxHeartbeats 1000000 in
theorem implBest_any (a0 a1 : Option Addr) (cap0 cap1 : Nat) (rs : List Rg) (f t : Int) (cs : List Cl) (w : World) (hl0 : rs.length ≤ 1048576) (hx0 : Rd encRg w a0 rs) (hs0 : ∀ m ∈ rs, m.king.size ≤ 1048576) (hl1 : cs.length ≤ 1048576) (hx1 : Rd encCl w a1 cs) (hs1 : ∀ m ∈ cs, szCl m ≤ 1048576) :
    Calls Tryz.prog 19 #[.agg #[.slice a0 rs.length cap0, .int .i64 f, .int .i64 t], .slice a1 cs.length cap1] w fun e w' => e = .returned (.tuple #[.int .i64 (bestF rs f t cs).1, .int .i64 ((bestF rs f t cs).2.1 : Nat), .int .i64 (bestF rs f t cs).2.2]) ∧ Below w.heap.size w w' := by
  have hA := At.start w [.slice a0 rs.length cap0, .int .i64 f, .int .i64 t] 32
  have HV := Lib.hid (fun W (h : At w [.slice a0 rs.length cap0, .int .i64 f, .int .i64 t] W) => isDated_any a0 a1 cap0 cap1 rs f t cs W hl0 (hx0.below h.below) hs0 hl1 (hx1.below h.below) hs1)
  have c0 := hA.cell 0 _ rfl
  have c1 := hA.cell 1 _ rfl
  have c2 := hA.cell 2 _ rfl
  cases hd : datedB rs f t cs
  · have hR : Hid (bestF rs f t cs = (0, 0, 1)) := by unfold Hid bestF; rw [hd]; rfl
    generalize bestF rs f t cs = V at hR ⊢
    have HV := Lib.hid (fun W h => hd ▸ HV.out W h)
    go_enter Tryz.func19, Tryz.ntmps19
    go_wp2_with fail
    refine (HV.out _ hA).mono ?_
    rintro e w1 ⟨rfl, hB1⟩
    have hA := hA.step hB1
    clear c0 c1 c2 hB1
    have c0 := hA.cell 0 _ rfl
    have c1 := hA.cell 1 _ rfl
    have c2 := hA.cell 2 _ rfl
    go_wp2
    go_ret3
    rw [hR.out]
    exact ⟨rfl, hA.below⟩
  obtain ⟨hfr, hok, hl8, hf0, hft, ht, htf⟩ := dated_facts hd
  have HV := Lib.hid (fun W h => hd ▸ HV.out W h)
  have hR : Hid (bestF rs f t cs = ((bestGo (failN rs cs) f (t - f + 1).toNat f (cs.length + 1)).1, (bestGo (failN rs cs) f (t - f + 1).toNat f (cs.length + 1)).2, 0)) := by unfold Hid bestF; rw [hd]; rfl
  generalize bestF rs f t cs = V at hR ⊢
  have hS := Lib.hid (best_start (q := failN rs cs) (a := f) (b := 0) (c := f) (l := cs.length + 1) (k := (t - f + 1).toNat) (by omega) (by have := failN_le rs cs f; omega))
  have hq := Lib.hid (fun y => failN_le rs cs y)
  have HF := Lib.hid (fun y W (h : At w [.slice a0 rs.length cap0, .int .i64 f, .int .i64 t] W) h0 h4 => failing_any a0 a1 cap0 cap1 rs f t cs y W hl0 (hx0.below h.below) hfr hl8 (hx1.below h.below) hok h0 h4)
  have HO := Lib.hid (fun y W => (show Calls Tryz.prog 64 #[.int .u64 (maskB (failL rs cs y) : Nat)] W fun e w' => e = .returned (.int .i64 (failN rs cs y : Nat)) ∧ W = w' by
    have h := ones_any (maskB (failL rs cs y)) W (Nat.lt_of_lt_of_le (maskB_lt _) (by rw [failL_len]; exact (Nat.pow_le_pow_right (by decide) hl8 : 2 ^ cs.length ≤ 2 ^ 8)))
    rw [ones8 _ (by rw [failL_len]; exact hl8)] at h
    exact h))
  generalize failN rs cs = q at hR hS HO hq
  clear hd
  generalize bestGo q f (t - f + 1).toNat f (cs.length + 1) = R at hR hS
  go_enter Tryz.func19, Tryz.ntmps19
  go_wp2_with fail
  refine (HV.out _ hA).mono ?_
  rintro e w1 ⟨rfl, hB1⟩
  have hA := hA.step hB1
  clear c0 c1 c2 hB1
  have c0 := hA.cell 0 _ rfl
  have c1 := hA.cell 1 _ rfl
  have c2 := hA.cell 2 _ rfl
  go_wp2
  go_loopw [7, 8, 9] (fun b l i wr => ∃ (y bb : Int) (k ll : Nat), f ≤ y ∧ y + k = t + 1 ∧ i = .int .i64 y ∧ b = .int .i64 bb ∧ l = .int .i64 (ll : Nat) ∧ ll ≤ 9 ∧ Hid (bestGo q y k bb ll = R) ∧ At w [.slice a0 rs.length cap0, .int .i64 f, .int .i64 t] wr) (fun _ _ i _ => (730500 - intOf i).toNat)
  case atStart => exact ⟨f, 0, (t - f + 1).toNat, cs.length + 1, Int.le_refl _, by omega, rfl, rfl, by simp, by omega, hS.out, hA⟩
  case round =>
    clear hA hS c0 c1 c2
    obtain ⟨y, bb, k, ll, hfy, hyk, rfl, rfl, rfl, hl9, hM, hA⟩ := hrel
    have c0 := hA.cell 0 _ rfl
    have c1 := hA.cell 1 _ rfl
    have c2 := hA.cell 2 _ rfl
    by_cases hlt : y ≤ t
    · obtain ⟨k, rfl⟩ : ∃ k', k = k' + 1 := ⟨k - 1, by omega⟩
      have v3 := i64_in (y + 1) (by omega)
      have HFy := Lib.hid (fun W h => HF.out y W h (by omega) (by omega))
      have hqy := hq.out y
      by_cases h1 : q y < ll
      · have hM := Lib.hid (best_hit (b := bb) k h1 ▸ hM.out)
        have h1' : (q y : Int) < (ll : Int) := by omega
        go_wp2_with fail
        refine (HFy.out _ hA).mono ?_
        rintro e w2 ⟨rfl, hB2⟩
        have hA := hA.step hB2
        clear c0 c1 c2 hB2
        go_wp2_with fail
        refine (HO.out y _).mono ?_
        rintro e w3 ⟨rfl, rfl⟩
        go_wp2
        go_roundw
        case rel => exact ⟨y + 1, y, k, q y, by omega, by omega, rfl, rfl, rfl, by omega, hM.out, hA⟩
        case measure => simp [intOf]; omega
      · have hM := Lib.hid (best_no (b := bb) k h1 ▸ hM.out)
        have h1' : decide ((q y : Int) < (ll : Int)) = false := by simp; omega
        go_wp2_with fail
        refine (HFy.out _ hA).mono ?_
        rintro e w2 ⟨rfl, hB2⟩
        have hA := hA.step hB2
        clear c0 c1 c2 hB2
        go_wp2_with fail
        refine (HO.out y _).mono ?_
        rintro e w3 ⟨rfl, rfl⟩
        go_wp2
        go_roundw
        case rel => exact ⟨y + 1, bb, k, ll, by omega, by omega, rfl, rfl, rfl, hl9, hM.out, hA⟩
        case measure => simp [intOf]; omega
    · have hlt' : decide (y ≤ t) = false := by simpa using hlt
      obtain rfl : k = 0 := by omega
      have hM : (bb, ll) = R := hM.out
      subst hM
      go_wp2
      go_ret3
      rw [hR.out]
      exact ⟨rfl, hA.below⟩
end Go.Proofs.YtdbgnbohdplndaaGreatDoor
