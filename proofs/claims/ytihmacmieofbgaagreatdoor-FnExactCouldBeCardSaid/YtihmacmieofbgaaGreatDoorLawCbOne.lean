/- Walk: the law FnExactCouldBe. Printed by gen_law.py. -/
import Derived.Test.YtihmacmieofbgaaGreatDoorCbOne
import Derived.Test.YtihmacmieofbgaaGreatDoorCLand
import Derived.Test.YtihmacmieofbgaaGreatDoorTSt
namespace Go.Proofs.YtihmacmieofbgaaGreatDoor
open Go.ChangeShapes Go.WideShapes Go.ChangeAt Go.RowKit

set_option maxHeartbeats 2000000 in
theorem lawCbOne_any (a0 : Option Addr) (cap0 : Nat) (xs0 : List ByteArray) (a1 : Option Addr) (cap1 : Nat) (xs1 : List Wy) (aX1 : Option Addr) (capX1 : Nat) (xsX1 : List St) (y2 : Int) (y3 : Int) (w : World) (hl0 : xs0.length ≤ maxLen) (hx0 : Rd encS w a0 xs0) (hs0 : ∀ m ∈ xs0, goodS m) (hl1 : xs1.length ≤ maxLen) (hx1 : Rd encWy w a1 xs1) (_hs1 : ∀ m ∈ xs1, goodWy m) (hlX1 : xsX1.length ≤ maxLen) (hxX1 : Rd encSt w aX1 xsX1) (_hsX1 : ∀ m ∈ xsX1, goodSt m) (_hy2 : -9223372036854775808 ≤ y2 ∧ y2 ≤ 9223372036854775807) (_hy3 : -9223372036854775808 ≤ y3 ∧ y3 ≤ 9223372036854775807) :
    Calls Tryz.prog 3 #[.agg #[.slice a0 xs0.length cap0, .slice a1 xs1.length cap1], .slice aX1 xsX1.length capX1, .int .i64 y2, .int .i64 y3] w fun e w' => e = .returned (.bool true) ∧ Below w.heap.size w w' := by
  have hsz := fun W (h0 : Rd encS W a0 xs0) (h1 : Rd encWy W a1 xs1) => szLand_any a0 cap0 xs0 a1 cap1 xs1 1048576 W (by omega) (by omega) hl0 h0 hs0 hl1
  have HSZ := Lib.hid hsz
  clear hsz
  by_cases hq : szLand xs0 xs1 1048576 < 0
  · have hq1 := hq
    go_enter Tryz.func3, Tryz.ntmps3
    go_wp2_with fail
    generalize hW : w.alloc (.cells #[.slice a0 xs0.length cap0, .slice a1 xs1.length cap1] 25) = W0
    have hB : Below w.heap.size w W0 := by rw [← hW]; go_grown
    have hn0 : w.heap.size < W0.heap.size := by rw [← hW]; simp
    have A0 : W0.cell? ⟨w.heap.size, 0, none⟩ = some (.slice a0 xs0.length cap0) := by rw [← hW]; exact World.cell?_alloc_at _ _ _ _ rfl
    have A1 : W0.cell? ⟨w.heap.size, 1, none⟩ = some (.slice a1 xs1.length cap1) := by rw [← hW]; exact World.cell?_alloc_at _ _ _ _ rfl
    clear hW
    refine (HSZ.out _ (hx0.below hB) (hx1.below hB)).mono ?_
    rintro e w1 ⟨rfl, hB1⟩
    go_wp2
    go_ret
    exact ⟨rfl, stepB hB hB1 hB.size⟩
  have hok := szLand_ok hq
  have hq0 : ¬ szS ByteArray.size xs0 1048576 < 0 := hok.1
  obtain ⟨ho0, hn0⟩ := szS_ok (Int.not_lt.1 hq0)
  have hlen0 : xs0.length ≤ 1048576 := by omega
  have hsm0 : ∀ m ∈ xs0, ByteArray.size m ≤ 1048576 := fun m hm => by have h1 := le_sumS ByteArray.size hm; omega
  have hq1 : ¬ clip ((szS ByteArray.size xs0 1048576) - xs1.length) < 0 := hok.2
  have hlen1 : xs1.length ≤ 1048576 := by unfold clip at hq1; split at hq1 <;> omega
  have hle : szLand xs0 xs1 1048576 ≤ 1048576 := by unfold szLand; rw [if_neg hq0, if_neg hq1]; unfold clip; split <;> omega
  have hge : 0 ≤ szLand xs0 xs1 1048576 := Int.not_lt.1 hq
  have hszX1 := fun W => szStayS_any aX1 capX1 xsX1 (szLand xs0 xs1 1048576) W (by omega) (by omega) hlX1
  have HSZX1 := Lib.hid hszX1
  clear hszX1
  by_cases hqX1 : clip (szLand xs0 xs1 1048576 - xsX1.length) < 0
  · have hq1' : 0 ≤ szLand xs0 xs1 1048576 := hge
    go_enter Tryz.func3, Tryz.ntmps3
    go_wp2_with fail
    generalize hW : w.alloc (.cells #[.slice a0 xs0.length cap0, .slice a1 xs1.length cap1] 25) = W0
    have hB : Below w.heap.size w W0 := by rw [← hW]; go_grown
    have hn0 : w.heap.size < W0.heap.size := by rw [← hW]; simp
    have A0 : W0.cell? ⟨w.heap.size, 0, none⟩ = some (.slice a0 xs0.length cap0) := by rw [← hW]; exact World.cell?_alloc_at _ _ _ _ rfl
    have A1 : W0.cell? ⟨w.heap.size, 1, none⟩ = some (.slice a1 xs1.length cap1) := by rw [← hW]; exact World.cell?_alloc_at _ _ _ _ rfl
    clear hW
    refine (HSZ.out _ (hx0.below hB) (hx1.below hB)).mono ?_
    rintro e w1 ⟨rfl, hB1⟩
    have hB := stepB hB hB1 hB.size
    go_wp2_with fail
    refine (HSZX1.out _).mono ?_
    rintro e w2 ⟨rfl, hB2⟩
    go_wp2
    go_ret
    exact ⟨rfl, stepB hB hB2 hB.size⟩
  have hlenX1 : xsX1.length ≤ 1048576 := by unfold clip at hqX1; split at hqX1 <;> omega
  have hqX1 : 0 ≤ clip (szLand xs0 xs1 1048576 - xsX1.length) := Int.not_lt.1 hqX1
  clear ho0 hn0 hok hq0 hq1
  have hq1 : 0 ≤ szLand xs0 xs1 1048576 := Int.not_lt.1 hq
  go_enter Tryz.func3, Tryz.ntmps3
  go_wp2_with fail
  generalize hW : w.alloc (.cells #[.slice a0 xs0.length cap0, .slice a1 xs1.length cap1] 25) = W0
  have hB : Below w.heap.size w W0 := by rw [← hW]; go_grown
  have hn0 : w.heap.size < W0.heap.size := by rw [← hW]; simp
  have A0 : W0.cell? ⟨w.heap.size, 0, none⟩ = some (.slice a0 xs0.length cap0) := by rw [← hW]; exact World.cell?_alloc_at _ _ _ _ rfl
  have A1 : W0.cell? ⟨w.heap.size, 1, none⟩ = some (.slice a1 xs1.length cap1) := by rw [← hW]; exact World.cell?_alloc_at _ _ _ _ rfl
  clear hW
  refine (HSZ.out _ (hx0.below hB) (hx1.below hB)).mono ?_
  rintro e w1 ⟨rfl, hB1⟩
  have A0 := (hB1.cell (p := ⟨w.heap.size, 0, none⟩) hn0).trans A0
  have A1 := (hB1.cell (p := ⟨w.heap.size, 1, none⟩) hn0).trans A1
  have hn0 := Nat.lt_of_lt_of_le hn0 hB1.size
  have hB := stepB hB hB1 hB.size
  clear hB1
  go_wp2_with fail
  refine (HSZX1.out _).mono ?_
  rintro e w1 ⟨rfl, hB1⟩
  have A0 := (hB1.cell (p := ⟨w.heap.size, 0, none⟩) hn0).trans A0
  have A1 := (hB1.cell (p := ⟨w.heap.size, 1, none⟩) hn0).trans A1
  have hn0 := Nat.lt_of_lt_of_le hn0 hB1.size
  have hB := stepB hB hB1 hB.size
  clear hB1
  clear hq1
  clear hle hge
  go_wp2_with fail
  refine (toLand_any a0 cap0 xs0 a1 cap1 xs1 _ hlen0 (hx0.below hB) hlen1 (hx1.below hB)).mono ?_
  rintro e w1 ⟨ga0, ga1, rfl, oa0, oa1, hB1⟩
  have A0 := (hB1.cell (p := ⟨w.heap.size, 0, none⟩) hn0).trans A0
  have A1 := (hB1.cell (p := ⟨w.heap.size, 1, none⟩) hn0).trans A1
  have hn0 := Nat.lt_of_lt_of_le hn0 hB1.size
  have hB := stepB hB hB1 hB.size
  clear hB1
  go_wp2_with fail
  refine (toStayS_any aX1 capX1 xsX1 _ hlenX1 (hxX1.below hB)).mono ?_
  rintro e w1 ⟨gaX1, rfl, oaX1, hB1⟩
  have A0 := (hB1.cell (p := ⟨w.heap.size, 0, none⟩) hn0).trans A0
  have A1 := (hB1.cell (p := ⟨w.heap.size, 1, none⟩) hn0).trans A1
  have hn0 := Nat.lt_of_lt_of_le hn0 hB1.size
  have oa0 := own_below oa0 hB1
  have oa1 := own_below oa1 hB1
  have hB := stepB hB hB1 hB.size
  clear hB1
  go_wp2_with fail
  refine (specCbOne_any _ _ _ _ _ _ xs0 xs1 xsX1 y2 y3 _ (Nat.le_refl _) hlen0 hlen0 (Rd.of_own encS_len (by decide) oa0) hsm0 hlen1 (Rd.of_own encWy_len (by decide) oa1) hlenX1 (Rd.of_own encSt_len (by decide) oaX1)).mono ?_
  rintro e w1 ⟨rfl, hB1⟩
  clear oa0 oa1 oaX1
  have A0 := (hB1.cell (p := ⟨w.heap.size, 0, none⟩) hn0).trans A0
  have A1 := (hB1.cell (p := ⟨w.heap.size, 1, none⟩) hn0).trans A1
  have hn0 := Nat.lt_of_lt_of_le hn0 hB1.size
  have hB := stepB hB hB1 hB.size
  clear hB1
  go_wp2_with fail
  refine (toLand_any a0 cap0 xs0 a1 cap1 xs1 _ hlen0 (hx0.below hB) hlen1 (hx1.below hB)).mono ?_
  rintro e wx ⟨gb0, gb1, rfl, ob0, ob1, hB1⟩
  have A0 := (hB1.cell (p := ⟨w.heap.size, 0, none⟩) hn0).trans A0
  have A1 := (hB1.cell (p := ⟨w.heap.size, 1, none⟩) hn0).trans A1
  have hn0 := Nat.lt_of_lt_of_le hn0 hB1.size
  have hB := stepB hB hB1 hB.size
  clear hB1
  go_wp2_with fail
  generalize hW : wx.alloc (.cells #[.slice (some ⟨gb0, 0, none⟩) xs0.length xs0.length, .slice (some ⟨gb1, 0, none⟩) xs1.length xs1.length] 33) = W2
  have hB1 : Below wx.heap.size wx W2 := by rw [← hW]; go_grown
  have hn2 : wx.heap.size < W2.heap.size := by rw [← hW]; simp
  have X0 : W2.cell? ⟨wx.heap.size, 0, none⟩ = some (.slice (some ⟨gb0, 0, none⟩) xs0.length xs0.length) := by rw [← hW]; exact World.cell?_alloc_at _ _ _ _ rfl
  have X1 : W2.cell? ⟨wx.heap.size, 1, none⟩ = some (.slice (some ⟨gb1, 0, none⟩) xs1.length xs1.length) := by rw [← hW]; exact World.cell?_alloc_at _ _ _ _ rfl
  clear hW
  have A0 := (hB1.cell (p := ⟨w.heap.size, 0, none⟩) hn0).trans A0
  have A1 := (hB1.cell (p := ⟨w.heap.size, 1, none⟩) hn0).trans A1
  have hn0 := Nat.lt_of_lt_of_le hn0 hB1.size
  have ob0 := own_below ob0 hB1
  have ob1 := own_below ob1 hB1
  have hB := stepB hB hB1 hB.size
  clear hB1
  refine (toStayS_any aX1 capX1 xsX1 _ hlenX1 (hxX1.below hB)).mono ?_
  rintro e w1 ⟨gbX1, rfl, obX1, hB1⟩
  have A0 := (hB1.cell (p := ⟨w.heap.size, 0, none⟩) hn0).trans A0
  have A1 := (hB1.cell (p := ⟨w.heap.size, 1, none⟩) hn0).trans A1
  have X0 := (hB1.cell (p := ⟨wx.heap.size, 0, none⟩) hn2).trans X0
  have X1 := (hB1.cell (p := ⟨wx.heap.size, 1, none⟩) hn2).trans X1
  have hn0 := Nat.lt_of_lt_of_le hn0 hB1.size
  have hn2 := Nat.lt_of_lt_of_le hn2 hB1.size
  have ob0 := own_below ob0 hB1
  have ob1 := own_below ob1 hB1
  have hB := stepB hB hB1 hB.size
  clear hB1
  go_wp2_with fail
  refine (implCbOne_any _ _ _ _ _ _ xs0 xs1 xsX1 y2 y3 _ (Nat.le_refl _) hlen0 hlen0 (Rd.of_own encS_len (by decide) ob0) hsm0 hlen1 (Rd.of_own encWy_len (by decide) ob1) hlenX1 (Rd.of_own encSt_len (by decide) obX1)).mono ?_
  rintro e w1 ⟨rfl, hB1⟩
  have A0 := (hB1.cell (p := ⟨w.heap.size, 0, none⟩) hn0).trans A0
  have A1 := (hB1.cell (p := ⟨w.heap.size, 1, none⟩) hn0).trans A1
  have X0 := (hB1.cell (p := ⟨wx.heap.size, 0, none⟩) hn2).trans X0
  have X1 := (hB1.cell (p := ⟨wx.heap.size, 1, none⟩) hn2).trans X1
  have hn0 := Nat.lt_of_lt_of_le hn0 hB1.size
  have hn2 := Nat.lt_of_lt_of_le hn2 hB1.size
  have ob0 := own_below ob0 hB1
  have ob1 := own_below ob1 hB1
  have obX1 := own_below obX1 hB1
  have hB := stepB hB hB1 hB.size
  clear hB1
  have heq862 : ((cbR xs0 xs1 xsX1 y2 y3 (codeI xs0 xs1 xsX1 (placeB xs0.length y2 && dayB y3))).1 != (cbR xs0 xs1 xsX1 y2 y3 (codeI xs0 xs1 xsX1 (placeB xs0.length y2 && dayB y3))).1) = false := by simp
  have heq688 : ((cbR xs0 xs1 xsX1 y2 y3 (codeI xs0 xs1 xsX1 (placeB xs0.length y2 && dayB y3))).2 != (cbR xs0 xs1 xsX1 y2 y3 (codeI xs0 xs1 xsX1 (placeB xs0.length y2 && dayB y3))).2) = false := by simp
  go_wp2_with fail
  obtain ⟨Wr, hWr⟩ : ∃ Wr : World, Wr = w1 := ⟨_, rfl⟩
  have hBd : Below w.heap.size w w1.drew := hB.drew
  have ob0 : w1.drew.ownsRow _ _ _ _ _ _ := ob0.drew
  have ob1 : w1.drew.ownsRow _ _ _ _ _ _ := ob1.drew
  have obX1 : w1.drew.ownsRow _ _ _ _ _ _ := obX1.drew
  go_region_held3 (fun w' => w'.cell? ⟨w.heap.size, 0, none⟩ = some (.slice a0 xs0.length cap0) ∧ w'.cell? ⟨w.heap.size, 1, none⟩ = some (.slice a1 xs1.length cap1) ∧ w'.cell? ⟨wx.heap.size, 0, none⟩ = some (.slice (some ⟨gb0, 0, none⟩) xs0.length xs0.length) ∧ w'.cell? ⟨wx.heap.size, 1, none⟩ = some (.slice (some ⟨gb1, 0, none⟩) xs1.length xs1.length))
    (first | go_keep | (exact ⟨(hBc.cell (p := ⟨w.heap.size, 0, none⟩) hn0).trans A0, (hBc.cell (p := ⟨w.heap.size, 1, none⟩) hn0).trans A1, (hBc.cell (p := ⟨wx.heap.size, 0, none⟩) hn2).trans X0, (hBc.cell (p := ⟨wx.heap.size, 1, none⟩) hn2).trans X1⟩) | (exact ⟨(hBe.cell (p := ⟨w.heap.size, 0, none⟩) (Nat.lt_of_lt_of_le hn0 hBc.size)).trans ((hBc.cell (p := ⟨w.heap.size, 0, none⟩) hn0).trans A0), (hBe.cell (p := ⟨w.heap.size, 1, none⟩) (Nat.lt_of_lt_of_le hn0 hBc.size)).trans ((hBc.cell (p := ⟨w.heap.size, 1, none⟩) hn0).trans A1), (hBe.cell (p := ⟨wx.heap.size, 0, none⟩) (Nat.lt_of_lt_of_le hn2 hBc.size)).trans ((hBc.cell (p := ⟨wx.heap.size, 0, none⟩) hn2).trans X0), (hBe.cell (p := ⟨wx.heap.size, 1, none⟩) (Nat.lt_of_lt_of_le hn2 hBc.size)).trans ((hBc.cell (p := ⟨wx.heap.size, 1, none⟩) hn2).trans X1)⟩))
    (first | (go_at_call 10; refine (toLand_any a0 cap0 xs0 a1 cap1 xs1 _ hlen0 (hx0.below hBd) hlen1 (hx1.below hBd)).mono ?_; rintro e w3 ⟨gc0, gc1, rfl, oc0, oc1, hBc⟩) | (go_at_call 13; refine (eqLand_self _ _ _ _ xs0 _ _ _ _ xs1 _ hlen0 (Rd.of_own encS_len (by decide) (own_below ob0 hBc)) (Rd.of_own encS_len (by decide) oc0) hlen1 (Rd.of_own encWy_len (by decide) (own_below ob1 hBc)) (Rd.of_own encWy_len (by decide) oc1)).mono ?_; rintro e w4 ⟨rfl, hBe⟩))
  have hBz := stepB (stepB hBd hBc hBd.size) hBe (Nat.le_trans hBd.size hBc.size)
  have obX1 := own_below (own_below obX1 hBc) hBe
  clear ob0 oc0 ob1 oc1 hBc hBe hBd A0 A1 X0 X1
  have hB := hBz
  clear hBz
  go_wp2_with fail
  refine (toStayS_any aX1 capX1 xsX1 _ hlenX1 (hxX1.below hB)).mono ?_
  rintro e w1 ⟨gcX1, rfl, ocX1, hB1⟩
  have obX1 := own_below obX1 hB1
  have hB := stepB hB hB1 hB.size
  clear hB1
  go_wp2_with fail
  refine (eqStayS_self _ _ _ _ xsX1 _ (by omega) (Rd.of_own encSt_len (by decide) obX1) (Rd.of_own encSt_len (by decide) ocX1)).mono ?_
  rintro e w1 ⟨rfl, hB1⟩
  have obX1 := own_below obX1 hB1
  have ocX1 := own_below ocX1 hB1
  have hB := stepB hB hB1 hB.size
  clear hB1
  have hBz := hB
  go_wp2
  go_ret
  exact ⟨rfl, hBz⟩
end Go.Proofs.YtihmacmieofbgaaGreatDoor
