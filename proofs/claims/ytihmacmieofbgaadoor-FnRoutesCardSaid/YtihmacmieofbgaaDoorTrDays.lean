/- Walks: TravelDays. -/
import Derived.Test.YtihmacmieofbgaaDoorTrCode
namespace Go.Proofs.YtihmacmieofbgaaDoor
open Go.ChangeShapes Go.WideShapes Go.ChangeAt Go.RowKit

def distF (n : Nat) (ws : List Wy) (a v : Nat) : Int := if travM n ws a v < 1000000 then travM n ws a v else -1
theorem fromDist_any (a0 a1 : Option Addr) (cap0 cap1 a : Nat) (xs0 : List ByteArray) (xs1 : List Wy) (w : World) (hA : isLandB xs0 xs1 = true) (ha : a < xs0.length) (hx1 : Rd encWy w a1 xs1) :
    Calls Tryd.prog 40 #[.agg #[.slice a0 xs0.length cap0, .slice a1 xs1.length cap1], .int .i64 a] w fun e w' =>
      ∃ g, e = .returned (.slice (some ⟨g, 0, none⟩) xs0.length xs0.length) ∧ w'.ownsRow w.heap.size 2 1 (.slice (some ⟨g, 0, none⟩) xs0.length xs0.length) xs0.length (rowI xs0.length (distF xs0.length xs1 a)) ∧ Below w.heap.size w w' := by
  obtain ⟨h1, h2, h3, h4⟩ := landOk hA
  refine (l14From_any a0 a1 cap0 cap1 xs0.length a xs1 w h2 h3 ha h4 h1 hx1).mono ?_
  rintro e w' ⟨g, rfl, ho, hB⟩
  rw [rowI_congr (fun v hv => bf_eq h1.ok h3 h4 ha hv)] at ho
  exact ⟨g, rfl, ho, hB⟩
theorem trav_any (a0 a1 : Option Addr) (cap0 cap1 : Nat) (xs0 : List ByteArray) (xs1 : List Wy) (w : World) (hA : isLandB xs0 xs1 = true) (hx1 : Rd encWy w a1 xs1) :
    Calls Tryd.prog 37 #[.agg #[.slice a0 xs0.length cap0, .slice a1 xs1.length cap1]] w fun e w' =>
      ∃ H c g, e = .returned (.slice (some ⟨H, 0, none⟩) xs0.length c) ∧ Mat w.heap.size w' H c xs0.length xs0.length g (travM xs0.length xs1) ∧ Below w.heap.size w w' := by
  obtain ⟨h1, h2, h3, h4⟩ := landOk hA
  exact travels_any a0 a1 cap0 cap1 xs0.length xs1 w h2 h3 h4 h1 hx1
theorem trav_bd {xs0 : List ByteArray} {xs1 : List Wy} (hA : isLandB xs0 xs1 = true) {a b : Nat} (ha : a < xs0.length) (hb : b < xs0.length) : 0 ≤ travM xs0.length xs1 a b ∧ travM xs0.length xs1 a b ≤ 1000000 := by
  obtain ⟨h1, h2, h3, h4⟩ := landOk hA
  have := travM_snd h1.ok a b ha hb
  exact ⟨this.1, this.2.1⟩
def travR (ps : List ByteArray) (ws : List Wy) (a b : Int) : Int × Int :=
  if codeL ps ws [a, b] = 0 then (if travM ps.length ws a.toNat b.toNat < 1000000 then (travM ps.length ws a.toNat b.toNat, 0) else (0, 4)) else (0, codeL ps ws [a, b])
theorem all2 {n : Nat} {a b : Int} (h : [a, b].all (placeB n) = true) : (∃ k : Nat, a = k ∧ k < n) ∧ (∃ k : Nat, b = k ∧ k < n) := by
  simp only [List.all_cons, List.all_nil, Bool.and_true, Bool.and_eq_true] at h
  exact ⟨place_nat h.1, place_nat h.2⟩

set_option maxHeartbeats 2000000 in
theorem specTravelDays_any (a0 a1 : Option Addr) (cap0 cap1 : Nat) (xs0 : List ByteArray) (xs1 : List Wy) (a b : Int) (w : World) (hc0 : xs0.length ≤ cap0) (hc1 : cap0 ≤ 9223372036854775807) (hl0 : xs0.length ≤ 1048576) (hx0 : Rd encS w a0 xs0) (hs0 : ∀ m ∈ xs0, m.size ≤ 1048576) (hl1 : xs1.length ≤ 1048576) (hx1 : Rd encWy w a1 xs1) :
    Calls Tryd.prog 19 #[.agg #[.slice a0 xs0.length cap0, .slice a1 xs1.length cap1], .int .i64 a, .int .i64 b] w fun e w' => e = .returned (.tuple #[.int .i64 (travR xs0 xs1 a b).1, .int .i64 (travR xs0 xs1 a b).2]) ∧ Below w.heap.size w w' := by
  have hB0 : Below w.heap.size w (w.alloc (.cells #[.slice a0 xs0.length cap0, .slice a1 xs1.length cap1] 27)) := (Below.refl _ w).alloc (Nat.le_refl _) _
  have hA0 : At w [.slice a0 xs0.length cap0, .slice a1 xs1.length cap1] (w.alloc (.cells #[.slice a0 xs0.length cap0, .slice a1 xs1.length cap1] 27)) := At.start _ _ _
  have HC := Lib.hid (fun W (h0 : Rd encS W a0 xs0) (h1 : Rd encWy W a1 xs1) => l14Code_any a0 a1 cap0 cap1 xs0 xs1 a b W hc0 hc1 hl0 h0 hs0 hl1 h1)
  by_cases hz : codeL xs0 xs1 [a, b] = 0
  · obtain ⟨hA, hall⟩ := codeL_zero hz
    have HC := Lib.hid (fun W h0 h1 => hz ▸ HC.out W h0 h1)
    obtain ⟨⟨a, rfl, ha⟩, ⟨b, rfl, hb⟩⟩ := all2 hall
    have HF := Lib.hid (fun W (h1 : Rd encWy W a1 xs1) => fromDist_any a0 a1 cap0 cap1 a xs0 xs1 W hA ha h1)
    have hbd := trav_bd hA ha hb
    have hb1 : (b : Int) < (xs0.length : Int) := by omega
    have hR : Hid (travR xs0 xs1 a b = if travM xs0.length xs1 a b < 1000000 then (travM xs0.length xs1 a b, 0) else (0, 4)) := by unfold Hid travR; rw [if_pos hz]; rfl
    clear hz hall hA
    go_enter Tryd.func19, Tryd.ntmps19
    go_wp2_with fail
    refine (HC.out _ (hx0.below hB0) (hx1.below hB0)).mono ?_
    rintro e w1 ⟨rfl, hB1⟩
    have hA1 := hA0.step hB1
    have b0 := hA1.cell 0 _ rfl
    have b1 := hA1.cell 1 _ rfl
    clear hA0 hB0 hB1
    go_wp2_with fail
    refine (HF.out _ (hx1.below hA1.below)).mono ?_
    rintro e w2 ⟨g, rfl, ho, hB2⟩
    have hB := stepB hA1.below hB2 hA1.below.size
    have c := own_rowI ho hb
    clear b0 b1 hA1 hB2 ho
    by_cases hlt : travM xs0.length xs1 a b < 1000000
    · have hd : distF xs0.length xs1 a b = travM xs0.length xs1 a b := if_pos hlt
      rw [hd] at c
      rw [if_pos hlt] at hR
      generalize travM xs0.length xs1 a b = T at *
      have hn : ¬ T < 0 := by omega
      go_wp2
      go_ret2
      rw [hR.out]
      exact ⟨rfl, hB⟩
    · have hd : distF xs0.length xs1 a b = -1 := if_neg hlt
      rw [hd] at c
      rw [if_neg hlt] at hR
      go_wp2
      go_ret2
      rw [hR.out]
      exact ⟨rfl, hB⟩
  · have hR : Hid (travR xs0 xs1 a b = (0, codeL xs0 xs1 [a, b])) := by unfold Hid travR; rw [if_neg hz]
    generalize codeL xs0 xs1 [a, b] = c at hz HC hR
    have hz2 : (c != 0) = true := by simpa using hz
    clear hA0
    go_enter Tryd.func19, Tryd.ntmps19
    go_wp2_with fail
    refine (HC.out _ (hx0.below hB0) (hx1.below hB0)).mono ?_
    rintro e w1 ⟨rfl, hB1⟩
    go_wp2
    go_ret2
    rw [hR.out]
    exact ⟨rfl, stepB hB0 hB1 hB0.size⟩

set_option maxHeartbeats 2000000 in
theorem implTravelDays_any (a0 a1 : Option Addr) (cap0 cap1 : Nat) (xs0 : List ByteArray) (xs1 : List Wy) (a b : Int) (w : World) (hc0 : xs0.length ≤ cap0) (hc1 : cap0 ≤ 9223372036854775807) (hl0 : xs0.length ≤ 1048576) (hx0 : Rd encS w a0 xs0) (hs0 : ∀ m ∈ xs0, m.size ≤ 1048576) (hl1 : xs1.length ≤ 1048576) (hx1 : Rd encWy w a1 xs1) :
    Calls Tryd.prog 17 #[.agg #[.slice a0 xs0.length cap0, .slice a1 xs1.length cap1], .int .i64 a, .int .i64 b] w fun e w' => e = .returned (.tuple #[.int .i64 (travR xs0 xs1 a b).1, .int .i64 (travR xs0 xs1 a b).2]) ∧ Below w.heap.size w w' := by
  have hA0 : At w [.slice a0 xs0.length cap0, .slice a1 xs1.length cap1] ((w.alloc (.cells #[.slice a0 xs0.length cap0, .slice a1 xs1.length cap1] 27)).alloc (.cells #[.int .i64 a, .int .i64 b] 2)) := (At.start w _ _).step ((Below.refl _ _).alloc (Nat.le_refl _) _)
  have hrd : Rd encI ((w.alloc (.cells #[.slice a0 xs0.length cap0, .slice a1 xs1.length cap1] 27)).alloc (.cells #[.int .i64 a, .int .i64 b] 2)) (some ⟨w.heap.size + 1, 0, none⟩) [a, b] := by
    intro i x hi
    refine ⟨w.heap.size + 1, 0, rfl, by simp, fun j v hv => ?_⟩
    rw [World.cell?_alloc_at _ _ _ _ (by simp)]
    match i, hi with
    | 0, hi => cases hi; match j, hv with | 0, hv => cases hv; rfl
    | 1, hi => cases hi; match j, hv with | 0, hv => cases hv; rfl
  have HC := Lib.hid (fun W (h0 : Rd encS W a0 xs0) (h1 : Rd encWy W a1 xs1) (h2 : Rd encI W (some ⟨w.heap.size + 1, 0, none⟩) [a, b]) => checkLand_any a0 a1 (some ⟨w.heap.size + 1, 0, none⟩) cap0 cap1 2 xs0 xs1 [a, b] W hc0 hc1 hl0 h0 hs0 hl1 h1 (by simp) h2)
  have HRD := Lib.hid hrd
  clear hrd
  by_cases hz : codeL xs0 xs1 [a, b] = 0
  · obtain ⟨hA, hall⟩ := codeL_zero hz
    have HC := Lib.hid (fun W h0 h1 h2 => hz ▸ HC.out W h0 h1 h2)
    obtain ⟨⟨a, rfl, ha⟩, ⟨b, rfl, hb⟩⟩ := all2 hall
    have HF := Lib.hid (fun W (h1 : Rd encWy W a1 xs1) => trav_any a0 a1 cap0 cap1 xs0 xs1 W hA h1)
    have hbd := trav_bd hA ha hb
    have hb1 : (b : Int) < (xs0.length : Int) := by omega
    have ha1 : (a : Int) < (xs0.length : Int) := by omega
    have hR : Hid (travR xs0 xs1 a b = if travM xs0.length xs1 a b < 1000000 then (travM xs0.length xs1 a b, 0) else (0, 4)) := by unfold Hid travR; rw [if_pos hz]; rfl
    clear hz hall hA
    go_enter Tryd.func17, Tryd.ntmps17
    go_wp2_with fail
    refine (HC.out _ (hx0.below hA0.below) (hx1.below hA0.below) HRD.out).mono ?_
    rintro e w1 ⟨rfl, hB1⟩
    have hA1 := hA0.step hB1
    have b0 := hA1.cell 0 _ rfl
    have b1 := hA1.cell 1 _ rfl
    clear hA0 hB1 HRD
    go_wp2_with fail
    refine (HF.out _ (hx1.below hA1.below)).mono ?_
    rintro e w2 ⟨H, c, g, rfl, hM, hB2⟩
    have hB := stepB hA1.below hB2 hA1.below.size
    have c1 := hM.hcell ha
    have c2 := hM.cell ha hb
    clear b0 b1 hA1 hB2 hM
    by_cases hlt : travM xs0.length xs1 a b < 1000000
    · rw [if_pos hlt] at hR
      generalize travM xs0.length xs1 a b = T at *
      have hn : ¬ 1000000 ≤ T := by omega
      go_wp2
      go_ret2
      rw [hR.out]
      exact ⟨rfl, hB⟩
    · rw [if_neg hlt] at hR
      generalize travM xs0.length xs1 a b = T at *
      have hn : 1000000 ≤ T := by omega
      go_wp2
      go_ret2
      rw [hR.out]
      exact ⟨rfl, hB⟩
  · have hR : Hid (travR xs0 xs1 a b = (0, codeL xs0 xs1 [a, b])) := by unfold Hid travR; rw [if_neg hz]
    generalize codeL xs0 xs1 [a, b] = c at hz HC hR
    have hz2 : (c != 0) = true := by simpa using hz
    go_enter Tryd.func17, Tryd.ntmps17
    go_wp2_with fail
    refine (HC.out _ (hx0.below hA0.below) (hx1.below hA0.below) HRD.out).mono ?_
    rintro e w1 ⟨rfl, hB1⟩
    go_wp2
    go_ret2
    rw [hR.out]
    exact ⟨rfl, stepB hA0.below hB1 hA0.below.size⟩
end Go.Proofs.YtihmacmieofbgaaDoor
