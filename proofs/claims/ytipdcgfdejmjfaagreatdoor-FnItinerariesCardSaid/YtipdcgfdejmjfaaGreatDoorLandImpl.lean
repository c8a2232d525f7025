/- Walks: slices.IndexFunc and slices.ContainsFunc at slices of int64. Printed by gen_fidx.py. -/
import Derived.Test.YtipdcgfdejmjfaaGreatDoorLandB
import Derived.Test.YtipdcgfdejmjfaaGreatDoorTI
import Derived.Test.YtipdcgfdejmjfaaGreatDoorFix
namespace Go.Proofs.YtipdcgfdejmjfaaGreatDoor
section
open Go.ChangeShapes Go.WideShapes Go.ChangeAt Go.RowKit

set_option maxHeartbeats 4000000 in
theorem specIsLand_any (a0 a1 : Option Addr) (cap0 cap1 : Nat) (xs0 : List ByteArray) (xs1 : List Wy) (w : World) (hc0 : xs0.length ≤ cap0) (_hc1 : cap0 ≤ 9223372036854775807) (hl0 : xs0.length ≤ 1048576) (hx0 : Rd encS w a0 xs0) (hs0 : ∀ m ∈ xs0, m.size ≤ 1048576) (hl1 : xs1.length ≤ 1048576) (hx1 : Rd encWy w a1 xs1) :
    Calls Tryz.prog 99 #[.agg #[.slice a0 xs0.length cap0, .slice a1 xs1.length cap1]] w fun e w' => e = .returned (.bool (isLandB xs0 xs1)) ∧ Below w.heap.size w w' := by
  have hlens : Hid (isLandB xs0 xs1 = (upto (okPl xs0) xs0.length && xs1.all (okWy xs0.length) && decide (1 ≤ xs0.length) && decide (xs0.length ≤ 12) && decide (xs1.length ≤ 40))) := rfl
  generalize isLandB xs0 xs1 = R at hlens ⊢
  go_enter Tryz.func99, Tryz.ntmps99
  go_wp2
  have hA : At w [.slice a0 xs0.length cap0, .slice a1 xs1.length cap1] (w.alloc (.cells #[.slice a0 xs0.length cap0, .slice a1 xs1.length cap1] 35)) := At.start _ _ _
  generalize w.alloc (.cells #[.slice a0 xs0.length cap0, .slice a1 xs1.length cap1] 35) = W0 at hA ⊢
  go_loopw [3] (fun i wr => ∃ (k : Nat), k ≤ xs0.length ∧ i = .int .i64 k ∧ Hid (upto (okPl xs0) k = true) ∧ At w [.slice a0 xs0.length cap0, .slice a1 xs1.length cap1] wr) (fun i _ => xs0.length - (intOf i).toNat)
  case atStart => exact ⟨0, Nat.zero_le _, rfl, rfl, hA⟩
  case round =>
    clear hA
    obtain ⟨k, hk, rfl, hH, hA⟩ := hrel
    have b0 := hA.cell 0 _ rfl
    have b1 := hA.cell 1 _ rfl
    have hB := hA.below
    have hn := hA.size
    by_cases hlt : k < xs0.length
    · have hm := List.getElem?_eq_getElem hlt
      generalize xs0[k] = m at hm
      obtain ⟨b, off, rfl, hb, c0⟩ := (hx0.below hB).s hm
      have hsm : m.size ≤ 9223372036854775807 := by have := hs0 m (List.mem_of_getElem? hm); omega
      have bad : Hid (okPl xs0 k = false → R = false) := fun h => by rw [hlens.out, upto_bad h hlt]; rfl
      have hpl : Hid (okPl xs0 k = (nameB m.data.toList 12 && !(xs0.take k).any (isS m))) := by unfold Hid okPl; rw [hm]
      have hk1 : (k : Int) < (xs0.length : Int) := by omega
      have hk2 : (0 : Int) ≤ (k : Int) := by omega
      have hk3 : (k : Int) ≤ (cap0 : Int) := by omega
      have htk : (xs0.take k).length = k := by rw [List.length_take]; omega
      have HTK := Lib.hid htk
      have hxt : Rd encS w (some ⟨b, off, none⟩) (xs0.take k) := fun i x hi => hx0 i x (by rw [List.getElem?_take] at hi; split at hi; exact hi; cases hi)
      have hxt' := hxt.below hB
      clear htk hxt
      have hcn := fun W => l01Name_any m 12 W hsm
      have hfa := Lib.hid (fidx_any (isS m) (xs0.take k))
      go_wp2_with fail
      have C0 := Later.cell c0 hb
      have E0 := Later.cell b0 hn
      have hBW := hB
      clear hm c0 b0 b1 hB
      cases hb0 : nameB m.data.toList 12
      · simp only [hb0] at hcn
        have HCN := Lib.hid hcn
        clear hcn
        refine wp_region_later wr (by kernel_rfl) (by kernel_rfl) ?_
        repeat (go_big_quiet_step ((first | (go_at_call 141; exact Later.same (l01Text_any _ _ _ _ _ _ HTK.out (by omega) (hxt'.below (Later.prop _)))) | (go_at_call 107; exact Later.call (Nat.le_refl _) (HCN.out _)))))
        refine wpQuiet_nil ?_
        intro z
        have hz := z.prop
        generalize z.val = w2 at hz
        clear C0 E0
        have hbd : Hid (R = false) := bad.out (by rw [hpl.out]; rw [hb0]; rfl)
        go_wp2
        go_ret
        exact ⟨ret_bool hbd.out.symm, stepB hBW hz hBW.size⟩
      · simp only [hb0] at hcn
        have HCN := Lib.hid hcn
        clear hcn
        by_cases hb1 : 0 ≤ fidx (isS m) (xs0.take k) 0
        · refine wp_region_later wr (by kernel_rfl) (by kernel_rfl) ?_
          repeat (go_big_quiet_step ((first | (go_at_call 141; exact Later.same (l01Text_any _ _ _ _ _ _ HTK.out (by omega) (hxt'.below (Later.prop _)))) | (go_at_call 107; exact Later.call (Nat.le_refl _) (HCN.out _)))))
          refine wpQuiet_nil ?_
          intro z
          have hz := z.prop
          generalize z.val = w2 at hz
          clear C0 E0
          have hbd : Hid (R = false) := bad.out (by rw [hpl.out]; rw [← hfa.out]; simp [hb1])
          go_wp2
          go_ret
          exact ⟨ret_bool hbd.out.symm, stepB hBW hz hBW.size⟩
        · have hn1 : decide (0 ≤ fidx (isS m) (xs0.take k) 0) = false := by simpa using hb1
          refine wp_region_later wr (by kernel_rfl) (by kernel_rfl) ?_
          repeat (go_big_quiet_step ((first | (go_at_call 141; exact Later.same (l01Text_any _ _ _ _ _ _ HTK.out (by omega) (hxt'.below (Later.prop _)))) | (go_at_call 107; exact Later.call (Nat.le_refl _) (HCN.out _)))))
          refine wpQuiet_nil ?_
          intro z
          have hz := z.prop
          generalize z.val = w2 at hz
          clear C0 E0
          have hgo : Hid (okPl xs0 k = true) := by unfold Hid; rw [hpl.out, ← hfa.out, hb0, hn1]; rfl
          go_wp2
          go_roundw
          case rel => exact ⟨k + 1, by omega, by go_num, by unfold Hid upto; rw [hH.out, hgo.out]; rfl, hA.step hz⟩
          case measure => simp [intOf]; omega
    · obtain rfl : k = xs0.length := by omega
      clear hk hlt
      go_wp2
      go_loopw [4] (fun i wr => ∃ (k : Nat), k ≤ xs1.length ∧ i = .int .i64 k ∧ Hid (xs1.all (okWy xs0.length) = (xs1.drop k).all (okWy xs0.length)) ∧ At w [.slice a0 xs0.length cap0, .slice a1 xs1.length cap1] wr) (fun i _ => xs1.length - (intOf i).toNat)
      case atStart => exact ⟨0, Nat.zero_le _, rfl, rfl, hA⟩
      case round =>
        clear hA b0 b1 hB hn
        rename_i wr0 wr
        obtain ⟨k, hk, rfl, hT, hA⟩ := hrel
        have b0 := hA.cell 0 _ rfl
        have b1 := hA.cell 1 _ rfl
        have hB := hA.below
        have hn := hA.size
        by_cases hlt : k < xs1.length
        · have hm := List.getElem?_eq_getElem hlt
          generalize xs1[k] = m at hm
          obtain ⟨b, off, rfl, hb, c0, c1, c2⟩ := (hx1.below hB).wy hm
          have bad : Hid (okWy xs0.length m = false → R = false) := fun h => by rw [hlens.out, hT.out, all_drop _ hm, h]; simp
          have hd := Lib.hid (all_drop (okWy xs0.length) hm)
          have hk1 : (k : Int) < (xs1.length : Int) := by omega
          clear hm
          go_upto_region 10 with (fail)
          generalize hW : wr.alloc (.cells #[.int .i64 m.a, .int .i64 m.b, .int .i64 m.days] 125) = W
          have hAW := hW ▸ hA.step ((Below.refl _ wr).alloc (Nat.le_refl _) _)
          have hlW : wr.heap.size < W.heap.size := by rw [← hW]; simp
          have D0 := Later.cell (w := W) (by rw [← hW]; exact World.cell?_alloc_at _ _ _ _ rfl : W.cell? ⟨wr.heap.size, 0, none⟩ = some (.int .i64 m.a)) hlW
          have D1 := Later.cell (w := W) (by rw [← hW]; exact World.cell?_alloc_at _ _ _ _ rfl : W.cell? ⟨wr.heap.size, 1, none⟩ = some (.int .i64 m.b)) hlW
          have D2 := Later.cell (w := W) (by rw [← hW]; exact World.cell?_alloc_at _ _ _ _ rfl : W.cell? ⟨wr.heap.size, 2, none⟩ = some (.int .i64 m.days)) hlW
          have E0 := Later.cell (hAW.cell 0 _ rfl) hAW.size
          have E1 := Later.cell (hAW.cell 1 _ rfl) hAW.size
          clear hW b0 b1 c0 c1 c2 hA hB
          cases hb0 : placeB xs0.length m.a
          · refine wp_region_later0 W ?_
            repeat (go_big_quiet_step ((first | (go_at_call 44; exact Later.call (Nat.le_refl _) (l14Place_any _ _ _ _ _ _ _ _ hl0)) | (go_at_call 92; exact Later.same (l01In_any _ _ _ _)))))
            refine wpQuiet_nil ?_
            intro z
            have hz := z.prop
            generalize z.val = w2 at hz
            clear D0 D1 D2 E0 E1
            have hbd : Hid (R = false) := bad.out (by unfold okWy; simp [*])
            go_wp2
            go_ret
            exact ⟨ret_bool hbd.out.symm, stepB hAW.below hz hAW.below.size⟩
          · cases hb1 : placeB xs0.length m.b
            · refine wp_region_later0 W ?_
              repeat (go_big_quiet_step ((first | (go_at_call 44; exact Later.call (Nat.le_refl _) (l14Place_any _ _ _ _ _ _ _ _ hl0)) | (go_at_call 92; exact Later.same (l01In_any _ _ _ _)))))
              refine wpQuiet_nil ?_
              intro z
              have hz := z.prop
              generalize z.val = w2 at hz
              clear D0 D1 D2 E0 E1
              have hbd : Hid (R = false) := bad.out (by unfold okWy; simp [*])
              go_wp2
              go_ret
              exact ⟨ret_bool hbd.out.symm, stepB hAW.below hz hAW.below.size⟩
            · cases hb2 : m.a == m.b
              · cases hb3 : inB m.days 1 60
                · refine wp_region_later0 W ?_
                  repeat (go_big_quiet_step ((first | (go_at_call 44; exact Later.call (Nat.le_refl _) (l14Place_any _ _ _ _ _ _ _ _ hl0)) | (go_at_call 92; exact Later.same (l01In_any _ _ _ _)))))
                  refine wpQuiet_nil ?_
                  intro z
                  have hz := z.prop
                  generalize z.val = w2 at hz
                  clear D0 D1 D2 E0 E1
                  have hbd : Hid (R = false) := bad.out (by unfold okWy; simp [*])
                  go_wp2
                  go_ret
                  exact ⟨ret_bool hbd.out.symm, stepB hAW.below hz hAW.below.size⟩
                · refine wp_region_later0 W ?_
                  repeat (go_big_quiet_step ((first | (go_at_call 44; exact Later.call (Nat.le_refl _) (l14Place_any _ _ _ _ _ _ _ _ hl0)) | (go_at_call 92; exact Later.same (l01In_any _ _ _ _)))))
                  refine wpQuiet_nil ?_
                  intro z
                  have hz := z.prop
                  generalize z.val = w2 at hz
                  clear D0 D1 D2 E0 E1
                  have hgo : Hid (okWy xs0.length m = true) := by unfold Hid okWy; rw [hb0, hb1, hb2, hb3]; rfl
                  go_wp2
                  go_roundw
                  case rel => exact ⟨k + 1, by omega, by go_num, by unfold Hid; rw [hT.out, hd.out, hgo.out]; rfl, hAW.step hz⟩
                  case measure => simp [intOf]; omega
              · refine wp_region_later0 W ?_
                repeat (go_big_quiet_step ((first | (go_at_call 44; exact Later.call (Nat.le_refl _) (l14Place_any _ _ _ _ _ _ _ _ hl0)) | (go_at_call 92; exact Later.same (l01In_any _ _ _ _)))))
                refine wpQuiet_nil ?_
                intro z
                have hz := z.prop
                generalize z.val = w2 at hz
                clear D0 D1 D2 E0 E1
                have hbd : Hid (R = false) := bad.out (by unfold okWy; simp [*])
                go_wp2
                go_ret
                exact ⟨ret_bool hbd.out.symm, stepB hAW.below hz hAW.below.size⟩
        · obtain rfl : k = xs1.length := by omega
          have hts : Hid (xs1.all (okWy xs0.length) = true) := by unfold Hid; rw [hT.out, List.drop_eq_nil_of_le (Nat.le_refl _)]; rfl
          by_cases hf0 : 1 ≤ (xs0.length : Int) <;> by_cases hf1 : (xs0.length : Int) ≤ 12 <;> by_cases hf2 : (xs1.length : Int) ≤ 40
          all_goals first
            | (exfalso; omega)
            | (go_wp2
               go_ret
               refine ⟨ret_bool ?_, hB⟩
               rw [hlens.out, hH.out, hts.out, Bool.true_and, Bool.true_and, Bool.eq_iff_iff]
               simp only [Bool.and_eq_true, decide_eq_true_eq, Bool.false_eq_true, false_iff, true_iff]
               omega)
end

section
open Go.ChangeShapes Go.WideShapes Go.ChangeAt Go.RowKit

set_option maxHeartbeats 4000000 in
theorem implIsLand_any (a0 a1 : Option Addr) (cap0 cap1 : Nat) (xs0 : List ByteArray) (xs1 : List Wy) (w : World) (hc0 : xs0.length ≤ cap0) (_hc1 : cap0 ≤ 9223372036854775807) (hl0 : xs0.length ≤ 1048576) (hx0 : Rd encS w a0 xs0) (hs0 : ∀ m ∈ xs0, m.size ≤ 1048576) (hl1 : xs1.length ≤ 1048576) (hx1 : Rd encWy w a1 xs1) :
    Calls Tryz.prog 63 #[.agg #[.slice a0 xs0.length cap0, .slice a1 xs1.length cap1]] w fun e w' => e = .returned (.bool (isLandB xs0 xs1)) ∧ Below w.heap.size w w' := by
  have hlens : Hid (isLandB xs0 xs1 = (upto (okPl xs0) xs0.length && xs1.all (okWy xs0.length) && decide (1 ≤ xs0.length) && decide (xs0.length ≤ 12) && decide (xs1.length ≤ 40))) := rfl
  generalize isLandB xs0 xs1 = R at hlens ⊢
  by_cases hlA : (xs0.length : Int) < 1
  · go_enter Tryz.func63, Tryz.ntmps63
    go_wp2
    go_ret
    have hd : decide (1 ≤ xs0.length) = false := decide_eq_false (by omega)
    exact ⟨ret_bool (by rw [hlens.out, hd]; simp), by go_grown⟩
  by_cases hlB : 12 < (xs0.length : Int)
  · go_enter Tryz.func63, Tryz.ntmps63
    go_wp2
    go_ret
    have hd : decide (xs0.length ≤ 12) = false := decide_eq_false (by omega)
    exact ⟨ret_bool (by rw [hlens.out, hd]; simp), by go_grown⟩
  by_cases hlC : 40 < (xs1.length : Int)
  · go_enter Tryz.func63, Tryz.ntmps63
    go_wp2
    go_ret
    have hd : decide (xs1.length ≤ 40) = false := decide_eq_false (by omega)
    exact ⟨ret_bool (by rw [hlens.out, hd]; simp), by go_grown⟩
  go_enter Tryz.func63, Tryz.ntmps63
  go_wp2
  have hA : At w [.slice a0 xs0.length cap0, .slice a1 xs1.length cap1] (w.alloc (.cells #[.slice a0 xs0.length cap0, .slice a1 xs1.length cap1] 35)) := At.start _ _ _
  generalize w.alloc (.cells #[.slice a0 xs0.length cap0, .slice a1 xs1.length cap1] 35) = W0 at hA ⊢
  go_loopw [24] (fun i wr => ∃ (k : Nat), k ≤ xs0.length ∧ i = .int .i64 k ∧ Hid (upto (okPl xs0) k = true) ∧ At w [.slice a0 xs0.length cap0, .slice a1 xs1.length cap1] wr) (fun i _ => xs0.length - (intOf i).toNat)
  case atStart => exact ⟨0, Nat.zero_le _, rfl, rfl, hA⟩
  case round =>
    clear hA
    obtain ⟨k, hk, rfl, hH, hA⟩ := hrel
    have b0 := hA.cell 0 _ rfl
    have b1 := hA.cell 1 _ rfl
    have hB := hA.below
    have hn := hA.size
    by_cases hlt : k < xs0.length
    · have hm := List.getElem?_eq_getElem hlt
      generalize xs0[k] = m at hm
      obtain ⟨b, off, rfl, hb, c0⟩ := (hx0.below hB).s hm
      have hsm : m.size ≤ 9223372036854775807 := by have := hs0 m (List.mem_of_getElem? hm); omega
      have bad : Hid (okPl xs0 k = false → R = false) := fun h => by rw [hlens.out, upto_bad h hlt]; rfl
      have hpl : Hid (okPl xs0 k = (nameB m.data.toList 12 && !(xs0.take k).any (isS m))) := by unfold Hid okPl; rw [hm]
      have hk1 : (k : Int) < (xs0.length : Int) := by omega
      have hk2 : (0 : Int) ≤ (k : Int) := by omega
      have hk3 : (k : Int) ≤ (cap0 : Int) := by omega
      have htk : (xs0.take k).length = k := by rw [List.length_take]; omega
      have HTK := Lib.hid htk
      have hxt : Rd encS w (some ⟨b, off, none⟩) (xs0.take k) := fun i x hi => hx0 i x (by rw [List.getElem?_take] at hi; split at hi; exact hi; cases hi)
      have hxt' := hxt.below hB
      clear htk hxt
      have hcn := fun W => isSmall_any m 12 W hsm
      go_upto_region 6 with (fail)
      have C0 := Later.cell c0 hb
      have E0 := Later.cell b0 hn
      have hBW := hB
      clear hm c0 b0 b1 hB
      cases hb0 : nameB m.data.toList 12
      · simp only [hb0] at hcn
        have HCN := Lib.hid hcn
        clear hcn
        refine wp_region_later0 wr ?_
        repeat (go_big_quiet_step ((first | (go_at_call 101; exact Later.same (slContains_any _ _ _ _ _ _ HTK.out (by omega) (hxt'.below (Later.prop _)))) | (go_at_call 100; exact Later.call (Nat.le_refl _) (HCN.out _)))))
        refine wpQuiet_nil ?_
        intro z
        have hz := z.prop
        generalize z.val = w2 at hz
        clear C0 E0
        have hbd : Hid (R = false) := bad.out (by rw [hpl.out, hb0]; simp)
        go_wp2
        go_ret
        exact ⟨ret_bool hbd.out.symm, stepB hBW hz hBW.size⟩
      · simp only [hb0] at hcn
        have HCN := Lib.hid hcn
        clear hcn
        cases hb1 : (xs0.take k).any (isS m)
        · refine wp_region_later0 wr ?_
          repeat (go_big_quiet_step ((first | (go_at_call 101; exact Later.same (slContains_any _ _ _ _ _ _ HTK.out (by omega) (hxt'.below (Later.prop _)))) | (go_at_call 100; exact Later.call (Nat.le_refl _) (HCN.out _)))))
          refine wpQuiet_nil ?_
          intro z
          have hz := z.prop
          generalize z.val = w2 at hz
          clear C0 E0
          have hgo : Hid (okPl xs0 k = true) := by unfold Hid; rw [hpl.out, hb0, hb1]; rfl
          go_wp2
          go_roundw
          case rel => exact ⟨k + 1, by omega, by go_num, by unfold Hid upto; rw [hH.out, hgo.out]; rfl, hA.step hz⟩
          case measure => simp [intOf]; omega
        · refine wp_region_later0 wr ?_
          repeat (go_big_quiet_step ((first | (go_at_call 101; exact Later.same (slContains_any _ _ _ _ _ _ HTK.out (by omega) (hxt'.below (Later.prop _)))) | (go_at_call 100; exact Later.call (Nat.le_refl _) (HCN.out _)))))
          refine wpQuiet_nil ?_
          intro z
          have hz := z.prop
          generalize z.val = w2 at hz
          clear C0 E0
          have hbd : Hid (R = false) := bad.out (by rw [hpl.out, hb1]; simp)
          go_wp2
          go_ret
          exact ⟨ret_bool hbd.out.symm, stepB hBW hz hBW.size⟩
    · obtain rfl : k = xs0.length := by omega
      clear hk hlt
      have hct := fun W (h0 : W.cell? ⟨w.heap.size, 0, none⟩ = some (.slice a0 xs0.length cap0)) (h1 : W.cell? ⟨w.heap.size, 1, none⟩ = some (.slice a1 xs1.length cap1)) (hW : w.heap.size < W.heap.size) (h : Rd encWy W a1 xs1) => containsFunc_IsLand_1 ⟨w.heap.size, 0, none⟩ a1 cap1 xs1 (fun m => !okWy xs0.length m) W hl1 h (fun W' hW' m _ => isLand1_any w.heap.size m a0 a1 cap0 cap1 xs0.length xs1.length W' hl0 ((hW'.cell (p := ⟨w.heap.size, 0, none⟩) hW).trans h0) ((hW'.cell (p := ⟨w.heap.size, 1, none⟩) hW).trans h1))
      have HCT := Lib.hid hct
      have hmf : ∀ (fn : Fn) (first cap : Array Value) (w : World), (Instr.makeFunc fn first cap).run Tryz.prog w = .ok (.func fn first cap) w := fun _ _ _ _ => rfl
      have han := Lib.hid (any_not (n := xs0.length) xs1)
      clear hct
      go_wp2_with fail
      refine (HCT.out _ b0 b1 hn (hx1.below hB)).mono ?_
      rintro e w1 ⟨rfl, hB1⟩
      go_wp2
      go_ret
      refine ⟨ret_bool ?_, stepB hB hB1 hB.size⟩
      have hd1 : decide (1 ≤ xs0.length) = true := decide_eq_true (by omega)
      have hd2 : decide (xs0.length ≤ 12) = true := decide_eq_true (by omega)
      have hd3 : decide (xs1.length ≤ 40) = true := decide_eq_true (by omega)
      rw [han.out, hlens.out, hH.out, hd1, hd2, hd3]
      simp
end

section
open Go.ChangeShapes Go.WideShapes Go.ChangeAt Go.RowKit


























































end
end Go.Proofs.YtipdcgfdejmjfaaGreatDoor
