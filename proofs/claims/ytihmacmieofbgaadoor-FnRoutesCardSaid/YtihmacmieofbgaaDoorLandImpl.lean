/- Walk: IsLand, the program's. Printed by gen_land.py. -/
import Derived.Test.YtihmacmieofbgaaDoorLandB
namespace Go.Proofs.YtihmacmieofbgaaDoor
open Go.ChangeShapes Go.WideShapes Go.ChangeAt Go.RowKit

set_option maxHeartbeats 4000000 in
theorem implIsLand_any (a0 a1 : Option Addr) (cap0 cap1 : Nat) (xs0 : List ByteArray) (xs1 : List Wy) (w : World) (hc0 : xs0.length ≤ cap0) (_hc1 : cap0 ≤ 9223372036854775807) (hl0 : xs0.length ≤ 1048576) (hx0 : Rd encS w a0 xs0) (hs0 : ∀ m ∈ xs0, m.size ≤ 1048576) (hl1 : xs1.length ≤ 1048576) (hx1 : Rd encWy w a1 xs1) :
    Calls Tryd.prog 27 #[.agg #[.slice a0 xs0.length cap0, .slice a1 xs1.length cap1]] w fun e w' => e = .returned (.bool (isLandB xs0 xs1)) ∧ Below w.heap.size w w' := by
  have hlens : Hid (isLandB xs0 xs1 = (upto (okPl xs0) xs0.length && xs1.all (okWy xs0.length) && decide (1 ≤ xs0.length) && decide (xs0.length ≤ 12) && decide (xs1.length ≤ 40))) := rfl
  generalize isLandB xs0 xs1 = R at hlens ⊢
  by_cases hlA : (xs0.length : Int) < 1
  · go_enter Tryd.func27, Tryd.ntmps27
    go_wp2
    go_ret
    have hd : decide (1 ≤ xs0.length) = false := decide_eq_false (by omega)
    exact ⟨ret_bool (by rw [hlens.out, hd]; simp), by go_grown⟩
  by_cases hlB : 12 < (xs0.length : Int)
  · go_enter Tryd.func27, Tryd.ntmps27
    go_wp2
    go_ret
    have hd : decide (xs0.length ≤ 12) = false := decide_eq_false (by omega)
    exact ⟨ret_bool (by rw [hlens.out, hd]; simp), by go_grown⟩
  by_cases hlC : 40 < (xs1.length : Int)
  · go_enter Tryd.func27, Tryd.ntmps27
    go_wp2
    go_ret
    have hd : decide (xs1.length ≤ 40) = false := decide_eq_false (by omega)
    exact ⟨ret_bool (by rw [hlens.out, hd]; simp), by go_grown⟩
  go_enter Tryd.func27, Tryd.ntmps27
  go_wp2
  have hA : At w [.slice a0 xs0.length cap0, .slice a1 xs1.length cap1] (w.alloc (.cells #[.slice a0 xs0.length cap0, .slice a1 xs1.length cap1] 27)) := At.start _ _ _
  generalize w.alloc (.cells #[.slice a0 xs0.length cap0, .slice a1 xs1.length cap1] 27) = W0 at hA ⊢
  go_loopw [24] (fun i wr => ∃ (k : Nat), k ≤ xs0.length ∧ i = .int .i64 k ∧ Hid (upto (okPl xs0) k = true) ∧ At w [.slice a0 xs0.length cap0, .slice a1 xs1.length cap1] wr) (fun i _ => xs0.length - (intOf i).toNat)
  case atStart => exact ⟨0, Nat.zero_le _, rfl, rfl, hA⟩
  case round =>
    clear hA
    obtain ⟨k, hk, rfl, hH, hA⟩ := hrel
    have b0 := hA.cell 0 _ rfl
    have b1 := hA.cell 1 _ rfl
    have hB := hA.below
    have hn := hA.size
    by_cases hlt : k < xs0.length
    · have hm := List.getElem?_eq_getElem hlt
      generalize xs0[k] = m at hm
      obtain ⟨b, off, rfl, hb, c0⟩ := (hx0.below hB).s hm
      have hsm : m.size ≤ 9223372036854775807 := by have := hs0 m (List.mem_of_getElem? hm); omega
      have bad : Hid (okPl xs0 k = false → R = false) := fun h => by rw [hlens.out, upto_bad h hlt]; rfl
      have hpl : Hid (okPl xs0 k = (nameB m.data.toList 12 && !(xs0.take k).any (isS m))) := by unfold Hid okPl; rw [hm]
      have hk1 : (k : Int) < (xs0.length : Int) := by omega
      have hk2 : (0 : Int) ≤ (k : Int) := by omega
      have hk3 : (k : Int) ≤ (cap0 : Int) := by omega
      have htk : (xs0.take k).length = k := by rw [List.length_take]; omega
      have HTK := Lib.hid htk
      have hxt : Rd encS w (some ⟨b, off, none⟩) (xs0.take k) := fun i x hi => hx0 i x (by rw [List.getElem?_take] at hi; split at hi; exact hi; cases hi)
      have hxt' := hxt.below hB
      clear htk hxt
      have hcn := fun W => isSmall_any m 12 W hsm
      go_upto_region 6 with (fail)
      have C0 := Later.cell c0 hb
      have E0 := Later.cell b0 hn
      have hBW := hB
      clear hm c0 b0 b1 hB
      cases hb0 : nameB m.data.toList 12
      · simp only [hb0] at hcn
        have HCN := Lib.hid hcn
        clear hcn
        refine wp_region_later0 wr ?_
        repeat (go_big_quiet_step ((first | (go_at_call 55; exact Later.same (slContains_any _ _ _ _ _ _ HTK.out (by omega) (hxt'.below (Later.prop _)))) | (go_at_call 54; exact Later.call (Nat.le_refl _) (HCN.out _)))))
        refine wpQuiet_nil ?_
        intro z
        have hz := z.prop
        generalize z.val = w2 at hz
        clear C0 E0
        have hbd : Hid (R = false) := bad.out (by rw [hpl.out, hb0]; simp)
        go_wp2
        go_ret
        exact ⟨ret_bool hbd.out.symm, stepB hBW hz hBW.size⟩
      · simp only [hb0] at hcn
        have HCN := Lib.hid hcn
        clear hcn
        cases hb1 : (xs0.take k).any (isS m)
        · refine wp_region_later0 wr ?_
          repeat (go_big_quiet_step ((first | (go_at_call 55; exact Later.same (slContains_any _ _ _ _ _ _ HTK.out (by omega) (hxt'.below (Later.prop _)))) | (go_at_call 54; exact Later.call (Nat.le_refl _) (HCN.out _)))))
          refine wpQuiet_nil ?_
          intro z
          have hz := z.prop
          generalize z.val = w2 at hz
          clear C0 E0
          have hgo : Hid (okPl xs0 k = true) := by unfold Hid; rw [hpl.out, hb0, hb1]; rfl
          go_wp2
          go_roundw
          case rel => exact ⟨k + 1, by omega, by go_num, by unfold Hid upto; rw [hH.out, hgo.out]; rfl, hA.step hz⟩
          case measure => simp [intOf]; omega
        · refine wp_region_later0 wr ?_
          repeat (go_big_quiet_step ((first | (go_at_call 55; exact Later.same (slContains_any _ _ _ _ _ _ HTK.out (by omega) (hxt'.below (Later.prop _)))) | (go_at_call 54; exact Later.call (Nat.le_refl _) (HCN.out _)))))
          refine wpQuiet_nil ?_
          intro z
          have hz := z.prop
          generalize z.val = w2 at hz
          clear C0 E0
          have hbd : Hid (R = false) := bad.out (by rw [hpl.out, hb1]; simp)
          go_wp2
          go_ret
          exact ⟨ret_bool hbd.out.symm, stepB hBW hz hBW.size⟩
    · obtain rfl : k = xs0.length := by omega
      clear hk hlt
      have hct := fun W (h0 : W.cell? ⟨w.heap.size, 0, none⟩ = some (.slice a0 xs0.length cap0)) (h1 : W.cell? ⟨w.heap.size, 1, none⟩ = some (.slice a1 xs1.length cap1)) (hW : w.heap.size < W.heap.size) (h : Rd encWy W a1 xs1) => containsFunc_IsLand_1 ⟨w.heap.size, 0, none⟩ a1 cap1 xs1 (fun m => !okWy xs0.length m) W hl1 h (fun W' hW' m _ => isLand1_any w.heap.size m a0 a1 cap0 cap1 xs0.length xs1.length W' hl0 ((hW'.cell (p := ⟨w.heap.size, 0, none⟩) hW).trans h0) ((hW'.cell (p := ⟨w.heap.size, 1, none⟩) hW).trans h1))
      have HCT := Lib.hid hct
      have hmf : ∀ (fn : Fn) (first cap : Array Value) (w : World), (Instr.makeFunc fn first cap).run Tryd.prog w = .ok (.func fn first cap) w := fun _ _ _ _ => rfl
      have han := Lib.hid (any_not (n := xs0.length) xs1)
      clear hct
      go_wp2_with fail
      refine (HCT.out _ b0 b1 hn (hx1.below hB)).mono ?_
      rintro e w1 ⟨rfl, hB1⟩
      go_wp2
      go_ret
      refine ⟨ret_bool ?_, stepB hB hB1 hB.size⟩
      have hd1 : decide (1 ≤ xs0.length) = true := decide_eq_true (by omega)
      have hd2 : decide (xs0.length ≤ 12) = true := decide_eq_true (by omega)
      have hd3 : decide (xs1.length ≤ 40) = true := decide_eq_true (by omega)
      rw [han.out, hlens.out, hH.out, hd1, hd2, hd3]
      simp
end Go.Proofs.YtihmacmieofbgaaDoor
