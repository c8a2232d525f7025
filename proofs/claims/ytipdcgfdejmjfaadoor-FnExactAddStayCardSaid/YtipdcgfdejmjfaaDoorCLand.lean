/- Walk: markLand. -/
import Derived.Test.YtipdcgfdejmjfaaDoorTS
import Derived.Test.YtipdcgfdejmjfaaDoorTWy
import Derived.Test.YtipdcgfdejmjfaaDoorRowI
namespace Go.Proofs.YtipdcgfdejmjfaaDoor
section
open Go.ChangeShapes Go.WideShapes Go.ChangeAt Go.RowKit

def szLand (xs0 : List ByteArray) (xs1 : List Wy) (left : Int) : Int := if szS ByteArray.size xs0 left < 0 then -1 else if clip ((szS ByteArray.size xs0 left) - xs1.length) < 0 then -1 else clip ((szS ByteArray.size xs0 left) - xs1.length)
theorem szLand_ok {xs0 : List ByteArray} {xs1 : List Wy} {left : Int} (h : ¬ szLand xs0 xs1 left < 0) : ¬ szS ByteArray.size xs0 left < 0 ∧ ¬ clip ((szS ByteArray.size xs0 left) - xs1.length) < 0 := by
  unfold szLand at h
  by_cases h0 : szS ByteArray.size xs0 left < 0
  · rw [if_pos h0] at h; omega
  · rw [if_neg h0] at h
    by_cases h1 : clip ((szS ByteArray.size xs0 left) - xs1.length) < 0
    · rw [if_pos h1] at h; omega
    · exact ⟨h0, h1⟩

set_option maxHeartbeats 400000 in
theorem szLand_any (a0 : Option Addr) (cap0 : Nat) (xs0 : List ByteArray) (a1 : Option Addr) (cap1 : Nat) (xs1 : List Wy) (left : Int) (w : World) (h1 : 0 ≤ left) (h2 : left ≤ 1048576) (hl0 : xs0.length ≤ maxLen) (hx0 : Rd encS w a0 xs0) (hs0 : ∀ m ∈ xs0, goodS m) (hl1 : xs1.length ≤ maxLen) :
    Calls Tryd.prog 5 #[.agg #[.slice a0 xs0.length cap0, .slice a1 xs1.length cap1], .int .i64 left] w fun e w' => e = .returned (.int .i64 (szLand xs0 xs1 left)) ∧ Below w.heap.size w w' := by
  by_cases h0 : szS ByteArray.size xs0 left < 0
  · have H := Lib.hid h0
    go_enter Tryd.func5, Tryd.ntmps5
    have hB : Below w.heap.size w (w.alloc (.cells #[.slice a0 xs0.length cap0, .slice a1 xs1.length cap1] 25)) := (Below.refl _ w).alloc (Nat.le_refl _) _
    go_wp2_with fail
    refine (szStringS_any a0 cap0 xs0 (left) _ (by omega) (by omega) hl0 (hx0.below hB) hs0).mono ?_
    rintro e w1 ⟨rfl, hB1⟩
    have e1 := (hB1.cell (p := ⟨w.heap.size, 1, none⟩) (by simp)).trans (World.cell?_alloc_at _ _ _ _ rfl)
    have hB := stepB hB hB1 hB.size
    go_wp2
    go_ret
    exact ⟨ret_int (by unfold szLand; rw [if_pos H.out]), hB⟩
  · have h0' : 0 ≤ szS ByteArray.size xs0 left := by omega
    have g0 : szS ByteArray.size xs0 left ≤ 1048576 := by have := (szS_ok h0').1; omega
    by_cases h1 : clip ((szS ByteArray.size xs0 left) - xs1.length) < 0
    · have H := Lib.hid h1
      go_enter Tryd.func5, Tryd.ntmps5
      have hB : Below w.heap.size w (w.alloc (.cells #[.slice a0 xs0.length cap0, .slice a1 xs1.length cap1] 25)) := (Below.refl _ w).alloc (Nat.le_refl _) _
      go_wp2_with fail
      refine (szStringS_any a0 cap0 xs0 (left) _ (by omega) (by omega) hl0 (hx0.below hB) hs0).mono ?_
      rintro e w1 ⟨rfl, hB1⟩
      have e1 := (hB1.cell (p := ⟨w.heap.size, 1, none⟩) (by simp)).trans (World.cell?_alloc_at _ _ _ _ rfl)
      have hB := stepB hB hB1 hB.size
      go_wp2_with fail
      refine (szWayS_any a1 cap1 xs1 (szS ByteArray.size xs0 left) _ (by omega) (by omega) hl1).mono ?_
      rintro e w2 ⟨rfl, hB2⟩
      have hB := stepB hB hB2 hB.size
      go_wp2
      go_ret
      exact ⟨ret_int (by unfold szLand; rw [if_neg (by omega : ¬ szS ByteArray.size xs0 left < 0)]; rw [if_pos H.out]), hB⟩
    · have h1' : 0 ≤ clip ((szS ByteArray.size xs0 left) - xs1.length) := by omega
      go_enter Tryd.func5, Tryd.ntmps5
      have hB : Below w.heap.size w (w.alloc (.cells #[.slice a0 xs0.length cap0, .slice a1 xs1.length cap1] 25)) := (Below.refl _ w).alloc (Nat.le_refl _) _
      go_wp2_with fail
      refine (szStringS_any a0 cap0 xs0 (left) _ (by omega) (by omega) hl0 (hx0.below hB) hs0).mono ?_
      rintro e w1 ⟨rfl, hB1⟩
      have e1 := (hB1.cell (p := ⟨w.heap.size, 1, none⟩) (by simp)).trans (World.cell?_alloc_at _ _ _ _ rfl)
      have hB := stepB hB hB1 hB.size
      go_wp2_with fail
      refine (szWayS_any a1 cap1 xs1 (szS ByteArray.size xs0 left) _ (by omega) (by omega) hl1).mono ?_
      rintro e w2 ⟨rfl, hB2⟩
      have hB := stepB hB hB2 hB.size
      go_wp2
      go_ret
      exact ⟨ret_int (by unfold szLand; rw [if_neg (by omega : ¬ szS ByteArray.size xs0 left < 0)]; rw [if_neg (by omega : ¬ clip ((szS ByteArray.size xs0 left) - xs1.length) < 0)]), hB⟩

set_option maxHeartbeats 1000000 in
theorem toLand_any (a0 : Option Addr) (cap0 : Nat) (xs0 : List ByteArray) (a1 : Option Addr) (cap1 : Nat) (xs1 : List Wy) (w : World) (hl0 : xs0.length ≤ 1048576) (hx0 : Rd encS w a0 xs0) (hl1 : xs1.length ≤ 1048576) (hx1 : Rd encWy w a1 xs1) :
    Calls Tryd.prog 8 #[.agg #[.slice a0 xs0.length cap0, .slice a1 xs1.length cap1]] w fun e w' => ∃ g0 g1, e = .returned (.agg #[.slice (some ⟨g0, 0, none⟩) xs0.length xs0.length, .slice (some ⟨g1, 0, none⟩) xs1.length xs1.length]) ∧ w'.ownsRow w.heap.size 9 1 (.slice (some ⟨g0, 0, none⟩) xs0.length xs0.length) xs0.length (xs0.flatMap encS) ∧ w'.ownsRow w.heap.size 77 3 (.slice (some ⟨g1, 0, none⟩) xs1.length xs1.length) xs1.length (xs1.flatMap encWy) ∧ Below w.heap.size w w' := by
  go_enter Tryd.func8, Tryd.ntmps8
  go_wp2_with fail
  have hB : Below w.heap.size w (((w.alloc (.cells #[.slice a0 xs0.length cap0, .slice a1 xs1.length cap1] 25)).alloc (.cells #[.slice none 0 0, .slice none 0 0] 36)).alloc (.cells #[.slice none 0 0, .slice none 0 0] 36)) := by go_grown
  have hK : Loc3 w.heap.size [.slice a0 xs0.length cap0, .slice a1 xs1.length cap1] [.slice none 0 0, .slice none 0 0] [.slice none 0 0, .slice none 0 0] (((w.alloc (.cells #[.slice a0 xs0.length cap0, .slice a1 xs1.length cap1] 25)).alloc (.cells #[.slice none 0 0, .slice none 0 0] 36)).alloc (.cells #[.slice none 0 0, .slice none 0 0] 36)) := Loc3.start w [.slice a0 xs0.length cap0, .slice a1 xs1.length cap1] [.slice none 0 0, .slice none 0 0] [.slice none 0 0, .slice none 0 0] _ _ _
  generalize (((w.alloc (.cells #[.slice a0 xs0.length cap0, .slice a1 xs1.length cap1] 25)).alloc (.cells #[.slice none 0 0, .slice none 0 0] 36)).alloc (.cells #[.slice none 0 0, .slice none 0 0] 36)) = W0 at hB hK ⊢
  refine (toStringS_any a0 cap0 xs0 _ hl0 (hx0.below hB)).mono ?_
  rintro e w1 ⟨g0, rfl, ho0, hB1⟩
  have hK0 := hK
  have hK := hK.below hB1
  have hg0 : w.heap.size + 1 + 1 < g0 := by have h1 := (own_lt ho0).1; have h2 := hK0.size; omega
  have ho0 := own_base ho0 hB.size
  have hB := stepB hB hB1 hB.size
  have b0_0 := hK.box 0 _ rfl
  have l0_0 := hK.loc 0 _ rfl
  have f0_0 := hK.floc 0
  have r0_0 := hK.res 0 _ rfl
  have e0_0 := hK.fres 0
  have b0_1 := hK.box 1 _ rfl
  have l0_1 := hK.loc 1 _ rfl
  have f0_1 := hK.floc 1
  have r0_1 := hK.res 1 _ rfl
  have e0_1 := hK.fres 1
  have hsz := hK.size
  go_wp2_with fail
  have hK := hK.setLoc (i := 0) rfl (.slice (some ⟨g0, 0, none⟩) xs0.length xs0.length)
  have hB := hB.setCell (p := ⟨w.heap.size + 1 + 1, 0, none⟩) (by simp; omega) (.slice (some ⟨g0, 0, none⟩) xs0.length xs0.length)
  have ho0 := own_setOther ho0 (p := ⟨w.heap.size + 1 + 1, 0, none⟩) (by simp; omega) (.slice (some ⟨g0, 0, none⟩) xs0.length xs0.length)
  generalize w1.setCell ⟨w.heap.size + 1 + 1, 0, none⟩ (.slice (some ⟨g0, 0, none⟩) xs0.length xs0.length) = W1 at *
  clear b0_0 l0_0 f0_0 r0_0 e0_0 b0_1 l0_1 f0_1 r0_1 e0_1
  refine (toWayS_any a1 cap1 xs1 _ hl1 (hx1.below hB)).mono ?_
  rintro e w2 ⟨g1, rfl, ho1, hB2⟩
  have hK0 := hK
  have hK := hK.below hB2
  have ho0 := own_below ho0 hB2
  have hg1 : w.heap.size + 1 + 1 < g1 := by have h1 := (own_lt ho1).1; have h2 := hK0.size; omega
  have ho1 := own_base ho1 hB.size
  have hB := stepB hB hB2 hB.size
  have b1_0 := hK.box 0 _ rfl
  have l1_0 := hK.loc 0 _ rfl
  have f1_0 := hK.floc 0
  have r1_0 := hK.res 0 _ rfl
  have e1_0 := hK.fres 0
  have b1_1 := hK.box 1 _ rfl
  have l1_1 := hK.loc 1 _ rfl
  have f1_1 := hK.floc 1
  have r1_1 := hK.res 1 _ rfl
  have e1_1 := hK.fres 1
  have hsz := hK.size
  go_wp2
  refine bodyPost_ret (v := .agg #[.slice (some ⟨g0, 0, none⟩) xs0.length xs0.length, .slice (some ⟨g1, 0, none⟩) xs1.length xs1.length]) (by simp [results, Tryd.results8, go_sem, *]) rfl ⟨g0, g1, rfl, own_setOther (own_setOther (own_setOther (ho0) (by simp; omega) _) (by simp; omega) _) (by simp; omega) _, own_setOther (own_setOther (own_setOther (ho1) (by simp; omega) _) (by simp; omega) _) (by simp; omega) _, by go_grown⟩

set_option maxHeartbeats 1000000 in
theorem eqLand_self (a0 b0 : Option Addr) (cap0 cbp0 : Nat) (xs0 : List ByteArray) (a1 b1 : Option Addr) (cap1 cbp1 : Nat) (xs1 : List Wy) (w : World) (hl0 : xs0.length ≤ 1048576) (hx0 : Rd encS w a0 xs0) (hy0 : Rd encS w b0 xs0) (hl1 : xs1.length ≤ 1048576) (hx1 : Rd encWy w a1 xs1) (hy1 : Rd encWy w b1 xs1) :
    Calls Tryd.prog 13 #[.agg #[.slice a0 xs0.length cap0, .slice a1 xs1.length cap1], .agg #[.slice b0 xs0.length cbp0, .slice b1 xs1.length cbp1]] w fun e w' => e = .returned (.bool true) ∧ Below w.heap.size w w' := by
  go_enter Tryd.func13, Tryd.ntmps13
  go_wp2_with fail
  generalize hW : (w.alloc (.cells #[.slice a0 xs0.length cap0, .slice a1 xs1.length cap1] 36)).alloc (.cells #[.slice b0 xs0.length cbp0, .slice b1 xs1.length cbp1] 36) = W0
  have hB : Below w.heap.size w W0 := by rw [← hW]; go_grown
  have hsz : w.heap.size + 1 < W0.heap.size := by rw [← hW]; simp
  have A1 : W0.cell? ⟨w.heap.size, 1, none⟩ = some (.slice a1 xs1.length cap1) := by rw [← hW]; simp [go_sem]
  have B1 : W0.cell? ⟨w.heap.size + 1, 1, none⟩ = some (.slice b1 xs1.length cbp1) := by rw [← hW]; simp [go_sem]
  clear hW
  refine (eqStringS_self a0 b0 cap0 cbp0 xs0 _ (by omega) (hx0.below hB) (hy0.below hB)).mono ?_
  rintro e w1 ⟨rfl, hB1⟩
  have A1 := (hB1.cell (p := ⟨w.heap.size, 1, none⟩) (by simp; omega)).trans A1
  have B1 := (hB1.cell (p := ⟨w.heap.size + 1, 1, none⟩) (by simp; omega)).trans B1
  have hsz := Nat.lt_of_lt_of_le hsz hB1.size
  have hB := stepB hB hB1 hB.size
  go_wp2_with fail
  refine (eqWayS_self a1 b1 cap1 cbp1 xs1 _ (by omega) (hx1.below hB) (hy1.below hB)).mono ?_
  rintro e w2 ⟨rfl, hB2⟩
  have hsz := Nat.lt_of_lt_of_le hsz hB2.size
  have hB := stepB hB hB2 hB.size
  go_wp2
  all_goals go_ret
  all_goals first
    | exact ⟨rfl, hB⟩
    | (exfalso; simp_all; done)
end

section
open Go.ChangeShapes Go.WideShapes Go.ChangeAt Go.RowKit

theorem own_keepOther {B : Nat} {E : TypeId} {k n g c x : Nat} {xs : List Value} {w w' : World} (h : w.ownsRow B E k (.slice (some ⟨g, 0, none⟩) n c) n xs) (hg : w.grownBy w' (some x)) (hne : g ≠ x) : w'.ownsRow B E k (.slice (some ⟨g, 0, none⟩) n c) n xs :=
  h.kept hg (.inr (by simp [Value.ownBlock]; exact hne))
set_option maxHeartbeats 1000000 in
theorem markLand_any (B0 B1 g0 g1 cap0 cap1 n0 n1 : Nat) (cells0 cells1 : List Value) (q : Int) (w : World) (h0 : w.ownsRow B0 9 1 (.slice (some ⟨g0, 0, none⟩) n0 cap0) n0 cells0) (h1 : w.ownsRow B1 77 3 (.slice (some ⟨g1, 0, none⟩) n1 cap1) n1 cells1) (hn0 : n0 ≤ 2097152) (hn1 : n1 ≤ 2097152) (hq0 : 0 ≤ q) (hq1 : q ≤ 1048576) :
    Calls Tryd.prog 14 #[.agg #[.slice (some ⟨g0, 0, none⟩) n0 cap0, .slice (some ⟨g1, 0, none⟩) n1 cap1], .int .i64 q] w fun e w' =>
      e = .returned (.int .i64 (q + (n0 : Nat) + (n1 : Nat) * 3)) ∧ ∃ wm, w.grownBy wm (some g0) ∧ wm.grownBy w' (some g1) := by
  have hne : g0 ≠ g1 := own_apart h0 h1 (by decide)
  have hl0 := own_lt h0
  have hl1 := own_lt h1
  have hB : Below w.heap.size w (w.alloc (.cells #[.slice (some ⟨g0, 0, none⟩) n0 cap0, .slice (some ⟨g1, 0, none⟩) n1 cap1] 36)) := (Below.refl _ w).alloc (Nat.le_refl _) _
  have hs : (w.alloc (.cells #[.slice (some ⟨g0, 0, none⟩) n0 cap0, .slice (some ⟨g1, 0, none⟩) n1 cap1] 36)).heap.size = w.heap.size + 1 := by simp
  have h0' := own_below h0 hB
  have h1' := own_below h1 hB
  have c1 : (w.alloc (.cells #[.slice (some ⟨g0, 0, none⟩) n0 cap0, .slice (some ⟨g1, 0, none⟩) n1 cap1] 36)).cell? ⟨w.heap.size, 1, none⟩ = some (.slice (some ⟨g1, 0, none⟩) n1 cap1) := World.cell?_alloc_at _ _ _ _ rfl
  go_enter Tryd.func14, Tryd.ntmps14
  go_wp2_with fail
  refine (markStringS_any _ _ _ _ _ q _ h0' hn0 hq0 (by omega)).mono ?_
  rintro e w1 ⟨rfl, _, hG⟩
  have hG : World.grownBy _ w1 (some g0) := hG
  have h1 := own_keepOther h1' hG (fun e => hne e.symm)
  have c1' := (gcell hG (p := ⟨w.heap.size, 1, none⟩) (by rw [hs]; simp) (fun g e => by cases e; simp; omega)).trans c1
  have hG0 : w.grownBy w1 (some g0) := gT ⟨hB.os, hB.tape, hB.output, hB.size, fun j hj _ => hB.block j hj⟩ hG
  clear hG c1 hB hs h0' h1'
  go_wp2_with fail
  refine (markWayS_any _ _ _ _ _ (q + (n0 : Nat)) _ h1 hn1 (by omega) (by omega)).mono ?_
  rintro e w2 ⟨rfl, _, hG⟩
  go_wp2
  go_ret
  exact ⟨rfl, w1, hG0, hG⟩
end
end Go.Proofs.YtipdcgfdejmjfaaDoor
