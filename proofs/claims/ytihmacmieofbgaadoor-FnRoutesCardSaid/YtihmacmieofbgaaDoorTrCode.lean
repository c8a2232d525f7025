/- Walks: the codes of a land and places. -/
import Derived.Test.YtihmacmieofbgaaDoorLandSpec
import Derived.Test.YtihmacmieofbgaaDoorLandImpl
import Derived.Test.YtihmacmieofbgaaDoorFcheckLand1
import Derived.Test.YtihmacmieofbgaaDoorBf
import Derived.Test.YtihmacmieofbgaaDoorFw
namespace Go.Proofs.YtihmacmieofbgaaDoor
open Go.ChangeShapes Go.WideShapes Go.ChangeAt Go.RowKit

def codeL (ps : List ByteArray) (ws : List Wy) (zs : List Int) : Int := if isLandB ps ws then (if zs.all (placeB ps.length) then 0 else 2) else 1
theorem landOk {ps : List ByteArray} {ws : List Wy} (h : isLandB ps ws = true) : OkWs ps.length ws ∧ 1 ≤ ps.length ∧ ps.length ≤ 12 ∧ ws.length ≤ 40 := by
  unfold isLandB at h
  simp only [Bool.and_eq_true, decide_eq_true_eq, List.all_eq_true] at h
  refine ⟨fun m hm => ?_, h.1.1.2, h.1.2, h.2⟩
  have h1 := h.1.1.1.2 m hm
  unfold okWy placeB inB at h1
  simp at h1
  refine ⟨m.a.toNat, m.b.toNat, by omega, by omega, by omega, by omega, by omega, by omega, by omega⟩
theorem place_nat {n : Nat} {z : Int} (h : placeB n z = true) : ∃ a : Nat, z = a ∧ a < n := by
  unfold placeB inB at h
  simp at h
  exact ⟨z.toNat, by omega, by omega⟩
theorem codeL_zero {ps : List ByteArray} {ws : List Wy} {zs : List Int} (h : codeL ps ws zs = 0) : isLandB ps ws = true ∧ zs.all (placeB ps.length) = true := by
  unfold codeL at h
  cases hA : isLandB ps ws
  · rw [hA] at h; simp at h
  · cases hB : zs.all (placeB ps.length)
    · rw [hA, hB] at h; simp at h
    · exact ⟨rfl, rfl⟩

set_option maxHeartbeats 1000000 in
theorem l14Code_any (a0 a1 : Option Addr) (cap0 cap1 : Nat) (xs0 : List ByteArray) (xs1 : List Wy) (z1 z2 : Int) (w : World) (hc0 : xs0.length ≤ cap0) (hc1 : cap0 ≤ 9223372036854775807) (hl0 : xs0.length ≤ 1048576) (hx0 : Rd encS w a0 xs0) (hs0 : ∀ m ∈ xs0, m.size ≤ 1048576) (hl1 : xs1.length ≤ 1048576) (hx1 : Rd encWy w a1 xs1) :
    Calls Tryd.prog 39 #[.agg #[.slice a0 xs0.length cap0, .slice a1 xs1.length cap1], .int .i64 z1, .int .i64 z2] w fun e w' => e = .returned (.int .i64 (codeL xs0 xs1 [z1, z2])) ∧ Below w.heap.size w w' := by
  have hB0 : Below w.heap.size w (w.alloc (.cells #[.slice a0 xs0.length cap0, .slice a1 xs1.length cap1] 27)) := (Below.refl _ w).alloc (Nat.le_refl _) _
  have hA0 : At w [.slice a0 xs0.length cap0, .slice a1 xs1.length cap1] (w.alloc (.cells #[.slice a0 xs0.length cap0, .slice a1 xs1.length cap1] 27)) := At.start _ _ _
  cases hA : isLandB xs0 xs1
  · have HM := Lib.hid (fun W (h0 : Rd encS W a0 xs0) (h1 : Rd encWy W a1 xs1) => hA ▸ specIsLand_any a0 a1 cap0 cap1 xs0 xs1 W hc0 hc1 hl0 h0 hs0 hl1 h1)
    have hR : Hid (codeL xs0 xs1 [z1, z2] = 1) := by unfold Hid codeL; rw [hA]; rfl
    clear hA hA0
    go_enter Tryd.func39, Tryd.ntmps39
    go_wp2_with fail
    refine (HM.out _ (hx0.below hB0) (hx1.below hB0)).mono ?_
    rintro e w1 ⟨rfl, hB1⟩
    go_wp2
    go_ret
    exact ⟨ret_int hR.out.symm, stepB hB0 hB1 hB0.size⟩
  · have HM := Lib.hid (fun W (h0 : Rd encS W a0 xs0) (h1 : Rd encWy W a1 xs1) => hA ▸ specIsLand_any a0 a1 cap0 cap1 xs0 xs1 W hc0 hc1 hl0 h0 hs0 hl1 h1)
    have hR : Hid (codeL xs0 xs1 [z1, z2] = if [z1, z2].all (placeB xs0.length) then 0 else 2) := by unfold Hid codeL; rw [hA]; rfl
    clear hA
    go_enter Tryd.func39, Tryd.ntmps39
    go_wp2_with fail
    refine (HM.out _ (hx0.below hB0) (hx1.below hB0)).mono ?_
    rintro e w1 ⟨rfl, hB1⟩
    have hA1 := hA0.step hB1
    clear hA0 hB0 hB1
    go_upto_region 3 with (fail)
    have E0 := Later.cell (hA1.cell 0 _ rfl) hA1.size
    have E1 := Later.cell (hA1.cell 1 _ rfl) hA1.size
    cases hb0 : placeB xs0.length z1
    · refine wp_region_later0 w1 ?_
      repeat (go_big_quiet_step ((go_at_call 68; exact Later.call (Nat.le_refl _) (l14Place_any _ _ _ _ _ _ _ _ hl0))))
      refine wpQuiet_nil ?_
      intro z
      have hz := z.prop
      generalize z.val = w2 at hz
      clear E0 E1
      go_wp2
      go_ret
      exact ⟨ret_int (by rw [hR.out]; simp [hb0]), stepB hA1.below hz hA1.below.size⟩
    · cases hb1 : placeB xs0.length z2
      · refine wp_region_later0 w1 ?_
        repeat (go_big_quiet_step ((go_at_call 68; exact Later.call (Nat.le_refl _) (l14Place_any _ _ _ _ _ _ _ _ hl0))))
        refine wpQuiet_nil ?_
        intro z
        have hz := z.prop
        generalize z.val = w2 at hz
        clear E0 E1
        go_wp2
        go_ret
        exact ⟨ret_int (by rw [hR.out]; simp [hb0, hb1]), stepB hA1.below hz hA1.below.size⟩
      · refine wp_region_later0 w1 ?_
        repeat (go_big_quiet_step ((go_at_call 68; exact Later.call (Nat.le_refl _) (l14Place_any _ _ _ _ _ _ _ _ hl0))))
        refine wpQuiet_nil ?_
        intro z
        have hz := z.prop
        generalize z.val = w2 at hz
        clear E0 E1
        go_wp2
        go_ret
        exact ⟨ret_int (by rw [hR.out]; simp [hb0, hb1]), stepB hA1.below hz hA1.below.size⟩

set_option maxHeartbeats 1000000 in
theorem checkLand1_any (q : Nat) (m : Int) (a0 a1 : Option Addr) (cap0 cap1 n0 n1 : Nat) (w : World) (hl : n0 ≤ 1048576) (h0 : w.cell? ⟨q, 0, none⟩ = some (.slice a0 n0 cap0)) (h1 : w.cell? ⟨q, 1, none⟩ = some (.slice a1 n1 cap1)) :
    Calls Tryd.prog 71 #[.int .i64 m, .pointer (some ⟨q, 0, none⟩)] w fun e w' => e = .returned (.bool (!placeB n0 m)) ∧ Below w.heap.size w w' := by
  have HP := Lib.hid (fun W => isPlace_any a0 a1 cap0 cap1 n0 n1 m W hl)
  go_enter Tryd.func71, Tryd.ntmps71
  go_wp2_with fail
  refine (HP.out _).mono ?_
  rintro e w1 ⟨rfl, hB⟩
  go_wp2
  go_ret
  exact ⟨rfl, hB⟩
theorem any_not_place (n : Nat) (zs : List Int) : (zs.any fun m => !placeB n m) = !zs.all (placeB n) := by
  induction zs with
  | nil => rfl
  | cons x xs ih => simp only [List.any_cons, List.all_cons, Bool.not_and, ih]
set_option maxHeartbeats 1000000 in
theorem checkLand_any (a0 a1 a2 : Option Addr) (cap0 cap1 cap2 : Nat) (xs0 : List ByteArray) (xs1 : List Wy) (zs : List Int) (w : World) (hc0 : xs0.length ≤ cap0) (hc1 : cap0 ≤ 9223372036854775807) (hl0 : xs0.length ≤ 1048576) (hx0 : Rd encS w a0 xs0) (hs0 : ∀ m ∈ xs0, m.size ≤ 1048576) (hl1 : xs1.length ≤ 1048576) (hx1 : Rd encWy w a1 xs1) (hl2 : zs.length ≤ 1048576) (hx2 : Rd encI w a2 zs) :
    Calls Tryd.prog 47 #[.agg #[.slice a0 xs0.length cap0, .slice a1 xs1.length cap1], .slice a2 zs.length cap2] w fun e w' => e = .returned (.int .i64 (codeL xs0 xs1 zs)) ∧ Below w.heap.size w w' := by
  have hB0 : Below w.heap.size w (w.alloc (.cells #[.slice a0 xs0.length cap0, .slice a1 xs1.length cap1] 27)) := (Below.refl _ w).alloc (Nat.le_refl _) _
  have hA0 : At w [.slice a0 xs0.length cap0, .slice a1 xs1.length cap1] (w.alloc (.cells #[.slice a0 xs0.length cap0, .slice a1 xs1.length cap1] 27)) := At.start _ _ _
  cases hA : isLandB xs0 xs1
  · have HM := Lib.hid (fun W (h0 : Rd encS W a0 xs0) (h1 : Rd encWy W a1 xs1) => hA ▸ implIsLand_any a0 a1 cap0 cap1 xs0 xs1 W hc0 hc1 hl0 h0 hs0 hl1 h1)
    have hR : Hid (codeL xs0 xs1 zs = 1) := by unfold Hid codeL; rw [hA]; rfl
    clear hA hA0
    go_enter Tryd.func47, Tryd.ntmps47
    go_wp2_with fail
    refine (HM.out _ (hx0.below hB0) (hx1.below hB0)).mono ?_
    rintro e w1 ⟨rfl, hB1⟩
    go_wp2
    go_ret
    exact ⟨ret_int hR.out.symm, stepB hB0 hB1 hB0.size⟩
  · have HM := Lib.hid (fun W (h0 : Rd encS W a0 xs0) (h1 : Rd encWy W a1 xs1) => hA ▸ implIsLand_any a0 a1 cap0 cap1 xs0 xs1 W hc0 hc1 hl0 h0 hs0 hl1 h1)
    have hR : Hid (codeL xs0 xs1 zs = if zs.all (placeB xs0.length) then 0 else 2) := by unfold Hid codeL; rw [hA]; rfl
    have hct := fun W (hAt : At w [.slice a0 xs0.length cap0, .slice a1 xs1.length cap1] W) => containsFunc_checkLand_1 ⟨w.heap.size, 0, none⟩ a2 cap2 zs (fun m => !placeB xs0.length m) W hl2 (hx2.below hAt.below) (fun W' hW' m _ => checkLand1_any w.heap.size m a0 a1 cap0 cap1 xs0.length xs1.length W' hl0 ((hAt.step hW').cell 0 _ rfl) ((hAt.step hW').cell 1 _ rfl))
    rw [any_not_place] at hct
    have HCT := Lib.hid hct
    clear hct
    have hmf : ∀ (fn : Fn) (first cap : Array Value) (w : World), (Instr.makeFunc fn first cap).run Tryd.prog w = .ok (.func fn first cap) w := fun _ _ _ _ => rfl
    clear hA
    cases hb : zs.all (placeB xs0.length)
    · rw [hb] at hR
      have HCT := Lib.hid (fun W h => hb ▸ HCT.out W h)
      clear hb
      go_enter Tryd.func47, Tryd.ntmps47
      go_wp2_with fail
      refine (HM.out _ (hx0.below hB0) (hx1.below hB0)).mono ?_
      rintro e w1 ⟨rfl, hB1⟩
      have hA1 := hA0.step hB1
      clear hA0 hB0 hB1
      go_wp2_with fail
      refine (HCT.out _ hA1).mono ?_
      rintro e w2 ⟨rfl, hB2⟩
      go_wp2
      go_ret
      exact ⟨ret_int hR.out.symm, stepB hA1.below hB2 hA1.below.size⟩
    · rw [hb] at hR
      have HCT := Lib.hid (fun W h => hb ▸ HCT.out W h)
      clear hb
      go_enter Tryd.func47, Tryd.ntmps47
      go_wp2_with fail
      refine (HM.out _ (hx0.below hB0) (hx1.below hB0)).mono ?_
      rintro e w1 ⟨rfl, hB1⟩
      have hA1 := hA0.step hB1
      clear hA0 hB0 hB1
      go_wp2_with fail
      refine (HCT.out _ hA1).mono ?_
      rintro e w2 ⟨rfl, hB2⟩
      go_wp2
      go_ret
      exact ⟨ret_int hR.out.symm, stepB hA1.below hB2 hA1.below.size⟩
end Go.Proofs.YtihmacmieofbgaaDoor
