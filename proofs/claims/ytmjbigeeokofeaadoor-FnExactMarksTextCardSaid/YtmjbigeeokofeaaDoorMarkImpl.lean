/- Walk: the program's AreMarks. -/
import Derived.Test.YtmjbigeeokofeaaDoorMarkCmp
namespace Go.Proofs.YtmjbigeeokofeaaDoor
open Go.ChangeShapes Go.WideShapes Go.ChangeAt Go.RowKit

set_option maxHeartbeats 2000000 in
theorem implAreMarks_any (a : Option Addr) (cap : Nat) (xs : List Mk) (w : World) (hl : xs.length ≤ 1048576) (hx : Rd encMk w a xs) (hs : ∀ m ∈ xs, m.name.size ≤ 1048576) :
    Calls Tryd.prog 52 #[.slice a xs.length cap] w fun e w' => e = .returned (.bool (areMarksB xs)) ∧ Below w.heap.size w w' := by
  go_enter Tryd.func52, Tryd.ntmps52
  go_wp2
  go_loopw [7] (fun i wr => ∃ (k : Nat), k ≤ xs.length ∧ i = .int .i64 k ∧ Hid (upGo okMk ltMk none xs = upGo okMk ltMk (prevOf xs k) (xs.drop k)) ∧ Below w.heap.size w wr) (fun i _ => xs.length - (intOf i).toNat)
  case atStart => exact ⟨0, Nat.zero_le _, rfl, rfl, Below.refl _ _⟩
  case round =>
    obtain ⟨k, hk, rfl, hH, hB⟩ := hrel
    by_cases hlt : k < xs.length
    · have hm := List.getElem?_eq_getElem hlt
      generalize xs[k] = m at hm
      obtain ⟨b, off, rfl, hb, c0, c1, c2⟩ := (hx.below hB).mk hm
      have hsm : m.name.size ≤ 9223372036854775807 := by have := hs m (List.mem_of_getElem? hm); omega
      have bad : Hid (okMk m = false → areMarksB xs = false) := fun h => by unfold areMarksB; rw [hH.out, upGo_bad hm h]; rfl
      have hcn := fun W => isSmall_any m.name 12 W hsm
      have hcf := fun W => isDay_any m.fr W
      have hct := fun W => isDay_any m.to W
      go_wp2_with fail
      generalize hW : wr.alloc (.cells #[.string m.name, .int .i64 m.fr, .int .i64 m.to] 80) = W
      have hBW : Below w.heap.size w W := hW ▸ hB.alloc hB.size _
      have hlW : wr.heap.size < W.heap.size := by rw [← hW]; simp
      have e0 : W.cell? ⟨wr.heap.size, 0, none⟩ = some (.string m.name) := by rw [← hW]; exact World.cell?_alloc_at _ _ _ _ rfl
      have e1 : W.cell? ⟨wr.heap.size, 1, none⟩ = some (.int .i64 m.fr) := by rw [← hW]; exact World.cell?_alloc_at _ _ _ _ rfl
      have e2 : W.cell? ⟨wr.heap.size, 2, none⟩ = some (.int .i64 m.to) := by rw [← hW]; exact World.cell?_alloc_at _ _ _ _ rfl
      have E0 := Later.cell e0 hlW
      have E1 := Later.cell e1 hlW
      have E2 := Later.cell e2 hlW
      clear e0 e1 e2 c0 c1 c2
      cases hn : nameB m.name.data.toList 12
      · simp only [hn] at hcn
        have HCN := Lib.hid hcn
        have HCF := Lib.hid hcf
        have HCT := Lib.hid hct
        clear hcn hcf hct hm
        · refine wp_region_later W (by kernel_rfl) (by kernel_rfl) ?_
          repeat (go_big_quiet_step ((first | (go_at_call 54; exact Later.call (Nat.le_refl _) (HCN.out _)) | (go_at_call_of 53 (Value.int .i64 m.fr); exact Later.same (HCF.out _)) | (go_at_call_of 53 (Value.int .i64 m.to); exact Later.same (HCT.out _)) | (go_at_call 58; exact Later.call (Nat.le_refl _) (compareMarks_any _ _ _)))))
          refine wpQuiet_nil ?_
          intro z
          have hz := z.prop
          generalize z.val = w2 at hz
          clear E0 E1 E2
          go_wp2
          go_ret
          exact ⟨ret_bool (bad.out (by simp [okMk, spanB, *])).symm, stepB hBW hz hBW.size⟩
      simp only [hn] at hcn
      have HCN := Lib.hid hcn
      cases hf : dayB m.fr
      · simp only [hf] at hcf
        have HCF := Lib.hid hcf
        have HCT := Lib.hid hct
        clear hcn hcf hct hm
        · refine wp_region_later W (by kernel_rfl) (by kernel_rfl) ?_
          repeat (go_big_quiet_step ((first | (go_at_call 54; exact Later.call (Nat.le_refl _) (HCN.out _)) | (go_at_call_of 53 (Value.int .i64 m.fr); exact Later.same (HCF.out _)) | (go_at_call_of 53 (Value.int .i64 m.to); exact Later.same (HCT.out _)) | (go_at_call 58; exact Later.call (Nat.le_refl _) (compareMarks_any _ _ _)))))
          refine wpQuiet_nil ?_
          intro z
          have hz := z.prop
          generalize z.val = w2 at hz
          clear E0 E1 E2
          go_wp2
          go_ret
          exact ⟨ret_bool (bad.out (by simp [okMk, spanB, *])).symm, stepB hBW hz hBW.size⟩
      simp only [hf] at hcf
      have HCF := Lib.hid hcf
      cases ht : dayB m.to
      · simp only [ht] at hct
        have HCT := Lib.hid hct
        clear hcn hcf hct hm
        · refine wp_region_later W (by kernel_rfl) (by kernel_rfl) ?_
          repeat (go_big_quiet_step ((first | (go_at_call 54; exact Later.call (Nat.le_refl _) (HCN.out _)) | (go_at_call_of 53 (Value.int .i64 m.fr); exact Later.same (HCF.out _)) | (go_at_call_of 53 (Value.int .i64 m.to); exact Later.same (HCT.out _)) | (go_at_call 58; exact Later.call (Nat.le_refl _) (compareMarks_any _ _ _)))))
          refine wpQuiet_nil ?_
          intro z
          have hz := z.prop
          generalize z.val = w2 at hz
          clear E0 E1 E2
          go_wp2
          go_ret
          exact ⟨ret_bool (bad.out (by simp [okMk, spanB, *])).symm, stepB hBW hz hBW.size⟩
      simp only [ht] at hct
      have HCT := Lib.hid hct
      clear hcn hcf hct
      by_cases hgt : m.to < m.fr
      · clear hm
        · refine wp_region_later W (by kernel_rfl) (by kernel_rfl) ?_
          repeat (go_big_quiet_step ((first | (go_at_call 54; exact Later.call (Nat.le_refl _) (HCN.out _)) | (go_at_call_of 53 (Value.int .i64 m.fr); exact Later.same (HCF.out _)) | (go_at_call_of 53 (Value.int .i64 m.to); exact Later.same (HCT.out _)) | (go_at_call 58; exact Later.call (Nat.le_refl _) (compareMarks_any _ _ _)))))
          refine wpQuiet_nil ?_
          intro z
          have hz := z.prop
          generalize z.val = w2 at hz
          clear E0 E1 E2
          go_wp2
          go_ret
          exact ⟨ret_bool (bad.out (by simp [okMk, spanB, hn, hf, ht, hgt])).symm, stepB hBW hz hBW.size⟩
      have hok : okMk m = true := by simp [okMk, spanB, hn, hf, ht]; omega
      have HOK := Lib.hid hok
      have hgt' : decide (m.to < m.fr) = false := by simpa using hgt
      clear hok bad
      by_cases hk0 : 0 < k
      · have hpl : k - 1 < xs.length := by omega
        have hp := List.getElem?_eq_getElem hpl
        generalize xs[k - 1] = p at hp
        obtain ⟨_, _, e', _, p0, p1, p2⟩ := (hx.below hB).mk hp
        simp only [Option.some.injEq, Addr.mk.injEq, and_true] at e'
        obtain ⟨rfl, rfl⟩ := e'
        have hN := Lib.hid (upGo_at (ok := okMk) (lt := ltMk) hk0 hp hm)
        have hcm := cmpMk_ge p m
        have hbW : b < W.heap.size := by omega
        have P0 := Later.cell (w := W) ((hW ▸ World.cell?_alloc_past _ _ _ hb : W.cell? _ = _).trans p0) hbW
        have P1 := Later.cell (w := W) ((hW ▸ World.cell?_alloc_past _ _ _ hb : W.cell? _ = _).trans p1) hbW
        have P2 := Later.cell (w := W) ((hW ▸ World.cell?_alloc_past _ _ _ hb : W.cell? _ = _).trans p2) hbW
        clear hm hp p0 p1 p2 hB
        have hk1 : (0 : Int) < (k : Int) := by omega
        cases hlm : ltMk p m
        · rw [hlm] at hcm
          have hcm' : 0 ≤ cmpMk p m := by simpa using hcm
          have HLM := Lib.hid hlm
          clear hcm hlm
          refine wp_region_later W (by kernel_rfl) (by kernel_rfl) ?_
          repeat (go_big_quiet_step ((first | (go_at_call 54; exact Later.call (Nat.le_refl _) (HCN.out _)) | (go_at_call_of 53 (Value.int .i64 m.fr); exact Later.same (HCF.out _)) | (go_at_call_of 53 (Value.int .i64 m.to); exact Later.same (HCT.out _)) | (go_at_call 58; exact Later.call (Nat.le_refl _) (compareMarks_any _ _ _)))))
          refine wpQuiet_nil ?_
          intro z
          have hz := z.prop
          generalize z.val = w2 at hz
          clear E0 E1 E2 P0 P1 P2
          go_wp2
          go_ret
          exact ⟨ret_bool (by unfold areMarksB; rw [hH.out, hN.out, HOK.out, HLM.out]; rfl), stepB hBW hz hBW.size⟩
        · rw [hlm] at hcm
          have hcm' : ¬ 0 ≤ cmpMk p m := by simpa using hcm
          have HLM := Lib.hid hlm
          have hcm2 : decide (0 ≤ cmpMk p m) = false := by simpa using hcm'
          clear hcm hlm
          refine wp_region_later W (by kernel_rfl) (by kernel_rfl) ?_
          repeat (go_big_quiet_step ((first | (go_at_call 54; exact Later.call (Nat.le_refl _) (HCN.out _)) | (go_at_call_of 53 (Value.int .i64 m.fr); exact Later.same (HCF.out _)) | (go_at_call_of 53 (Value.int .i64 m.to); exact Later.same (HCT.out _)) | (go_at_call 58; exact Later.call (Nat.le_refl _) (compareMarks_any _ _ _)))))
          refine wpQuiet_nil ?_
          intro z
          have hz := z.prop
          generalize z.val = w2 at hz
          clear E0 E1 E2 P0 P1 P2
          go_wp2
          go_roundw
          case rel => exact ⟨k + 1, by omega, by go_num, by unfold Hid; rw [hH.out, hN.out, HOK.out, HLM.out]; rfl, stepB hBW hz hBW.size⟩
          case measure => simp [intOf]; omega
      · have hk1 : k = 0 := by omega
        have hN := Lib.hid (upGo_at0 (ok := okMk) (lt := ltMk) hk1 hm)
        have hk2 : decide ((0 : Int) < (k : Int)) = false := by simp; omega
        clear hm hk1
        · refine wp_region_later W (by kernel_rfl) (by kernel_rfl) ?_
          repeat (go_big_quiet_step ((first | (go_at_call 54; exact Later.call (Nat.le_refl _) (HCN.out _)) | (go_at_call_of 53 (Value.int .i64 m.fr); exact Later.same (HCF.out _)) | (go_at_call_of 53 (Value.int .i64 m.to); exact Later.same (HCT.out _)) | (go_at_call 58; exact Later.call (Nat.le_refl _) (compareMarks_any _ _ _)))))
          refine wpQuiet_nil ?_
          intro z
          have hz := z.prop
          generalize z.val = w2 at hz
          clear E0 E1 E2
          go_wp2
          go_roundw
          case rel => exact ⟨k + 1, by omega, by go_num, by unfold Hid; rw [hH.out, hN.out, HOK.out]; rfl, stepB hBW hz hBW.size⟩
          case measure => simp [intOf]; omega
    · go_wp2
      go_ret
      exact ⟨ret_bool (by unfold areMarksB; rw [hH.out, upGo_end (by omega)]; simp; omega), hB⟩
end Go.Proofs.YtmjbigeeokofeaaDoor
