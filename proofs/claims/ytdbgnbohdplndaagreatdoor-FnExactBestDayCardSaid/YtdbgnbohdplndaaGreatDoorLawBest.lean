/- Walk: the law FnExactBestDay. Printed by gen_law.py. -/
import Derived.Test.YtdbgnbohdplndaaGreatDoorFail
import Derived.Test.YtdbgnbohdplndaaGreatDoorChan
import Derived.Test.YtdbgnbohdplndaaGreatDoorTCl
namespace Go.Proofs.YtdbgnbohdplndaaGreatDoor
open Go.ChangeShapes Go.WideShapes Go.ChangeAt Go.RowKit

set_option maxHeartbeats 2000000 in
theorem lawBest_any (a0 : Option Addr) (cap0 : Nat) (xs0 : List Rg) (z1 z2 : Int) (aX1 : Option Addr) (capX1 : Nat) (xsX1 : List Cl) (w : World) (hl0 : xs0.length ≤ maxLen) (hx0 : Rd encRg w a0 xs0) (hs0 : ∀ m ∈ xs0, goodRg m) (hlX1 : xsX1.length ≤ maxLen) (hxX1 : Rd encCl w aX1 xsX1) (hsX1 : ∀ m ∈ xsX1, goodCl m) :
    Calls Tryz.prog 4 #[.agg #[.slice a0 xs0.length cap0, .int .i64 z1, .int .i64 z2], .slice aX1 xsX1.length capX1] w fun e w' => e = .returned (.bool true) ∧ Below w.heap.size w w' := by
  have hsz := fun W (h0 : Rd encRg W a0 xs0) => szChancery_any a0 cap0 xs0 z1 z2 1048576 W (by omega) (by omega) hl0 h0 hs0
  have HSZ := Lib.hid hsz
  clear hsz
  by_cases hq : szChancery xs0 1048576 < 0
  · have hq1 := hq
    go_enter Tryz.func4, Tryz.ntmps4
    go_wp2_with fail
    generalize hW : w.alloc (.cells #[.slice a0 xs0.length cap0, .int .i64 z1, .int .i64 z2] 24) = W0
    have hB : Below w.heap.size w W0 := by rw [← hW]; go_grown
    have hn0 : w.heap.size < W0.heap.size := by rw [← hW]; simp
    have A0 : W0.cell? ⟨w.heap.size, 0, none⟩ = some (.slice a0 xs0.length cap0) := by rw [← hW]; exact World.cell?_alloc_at _ _ _ _ rfl
    have A1 : W0.cell? ⟨w.heap.size, 1, none⟩ = some (.int .i64 z1) := by rw [← hW]; exact World.cell?_alloc_at _ _ _ _ rfl
    have A2 : W0.cell? ⟨w.heap.size, 2, none⟩ = some (.int .i64 z2) := by rw [← hW]; exact World.cell?_alloc_at _ _ _ _ rfl
    clear hW
    refine (HSZ.out _ (hx0.below hB)).mono ?_
    rintro e w1 ⟨rfl, hB1⟩
    go_wp2
    go_ret
    exact ⟨rfl, stepB hB hB1 hB.size⟩
  have hok := szChancery_ok hq
  have hq0 : ¬ szS szRg xs0 1048576 < 0 := hok
  obtain ⟨ho0, hn0⟩ := szS_ok (Int.not_lt.1 hq0)
  have hlen0 : xs0.length ≤ 1048576 := by omega
  have hsm0 : ∀ m ∈ xs0, szRg m ≤ 1048576 := fun m hm => by have h1 := le_sumS szRg hm; omega
  have hle : szChancery xs0 1048576 ≤ 1048576 := by unfold szChancery; have := (szS_ok (Int.not_lt.1 hq0)).1; omega
  have hge : 0 ≤ szChancery xs0 1048576 := Int.not_lt.1 hq
  have hszX1 := fun W (h : Rd encCl W aX1 xsX1) => szClauseS_any aX1 capX1 xsX1 (szChancery xs0 1048576) W (by omega) (by omega) hlX1 h hsX1
  have HSZX1 := Lib.hid hszX1
  clear hszX1
  by_cases hqX1 : szS szCl xsX1 (szChancery xs0 1048576) < 0
  · have hq1' : 0 ≤ szChancery xs0 1048576 := hge
    go_enter Tryz.func4, Tryz.ntmps4
    go_wp2_with fail
    generalize hW : w.alloc (.cells #[.slice a0 xs0.length cap0, .int .i64 z1, .int .i64 z2] 24) = W0
    have hB : Below w.heap.size w W0 := by rw [← hW]; go_grown
    have hn0 : w.heap.size < W0.heap.size := by rw [← hW]; simp
    have A0 : W0.cell? ⟨w.heap.size, 0, none⟩ = some (.slice a0 xs0.length cap0) := by rw [← hW]; exact World.cell?_alloc_at _ _ _ _ rfl
    have A1 : W0.cell? ⟨w.heap.size, 1, none⟩ = some (.int .i64 z1) := by rw [← hW]; exact World.cell?_alloc_at _ _ _ _ rfl
    have A2 : W0.cell? ⟨w.heap.size, 2, none⟩ = some (.int .i64 z2) := by rw [← hW]; exact World.cell?_alloc_at _ _ _ _ rfl
    clear hW
    refine (HSZ.out _ (hx0.below hB)).mono ?_
    rintro e w1 ⟨rfl, hB1⟩
    have hB := stepB hB hB1 hB.size
    go_wp2_with fail
    refine (HSZX1.out _ (hxX1.below hB)).mono ?_
    rintro e w2 ⟨rfl, hB2⟩
    go_wp2
    go_ret
    exact ⟨rfl, stepB hB hB2 hB.size⟩
  obtain ⟨hoX1, hnX1⟩ := szS_ok (Int.not_lt.1 hqX1)
  have hlenX1 : xsX1.length ≤ 1048576 := by omega
  have hsmX1 : ∀ m ∈ xsX1, szCl m ≤ 1048576 := fun m hm => by have h1 := le_sumS szCl hm; omega
  clear hoX1 hnX1
  have hqX1 : 0 ≤ szS szCl xsX1 (szChancery xs0 1048576) := Int.not_lt.1 hqX1
  clear ho0 hn0 hok hq0
  have hq1 : 0 ≤ szChancery xs0 1048576 := Int.not_lt.1 hq
  go_enter Tryz.func4, Tryz.ntmps4
  go_wp2_with fail
  generalize hW : w.alloc (.cells #[.slice a0 xs0.length cap0, .int .i64 z1, .int .i64 z2] 24) = W0
  have hB : Below w.heap.size w W0 := by rw [← hW]; go_grown
  have hn0 : w.heap.size < W0.heap.size := by rw [← hW]; simp
  have A0 : W0.cell? ⟨w.heap.size, 0, none⟩ = some (.slice a0 xs0.length cap0) := by rw [← hW]; exact World.cell?_alloc_at _ _ _ _ rfl
  have A1 : W0.cell? ⟨w.heap.size, 1, none⟩ = some (.int .i64 z1) := by rw [← hW]; exact World.cell?_alloc_at _ _ _ _ rfl
  have A2 : W0.cell? ⟨w.heap.size, 2, none⟩ = some (.int .i64 z2) := by rw [← hW]; exact World.cell?_alloc_at _ _ _ _ rfl
  clear hW
  refine (HSZ.out _ (hx0.below hB)).mono ?_
  rintro e w1 ⟨rfl, hB1⟩
  have A0 := (hB1.cell (p := ⟨w.heap.size, 0, none⟩) hn0).trans A0
  have A1 := (hB1.cell (p := ⟨w.heap.size, 1, none⟩) hn0).trans A1
  have A2 := (hB1.cell (p := ⟨w.heap.size, 2, none⟩) hn0).trans A2
  have hn0 := Nat.lt_of_lt_of_le hn0 hB1.size
  have hB := stepB hB hB1 hB.size
  clear hB1
  go_wp2_with fail
  refine (HSZX1.out _ (hxX1.below hB)).mono ?_
  rintro e w1 ⟨rfl, hB1⟩
  have A0 := (hB1.cell (p := ⟨w.heap.size, 0, none⟩) hn0).trans A0
  have A1 := (hB1.cell (p := ⟨w.heap.size, 1, none⟩) hn0).trans A1
  have A2 := (hB1.cell (p := ⟨w.heap.size, 2, none⟩) hn0).trans A2
  have hn0 := Nat.lt_of_lt_of_le hn0 hB1.size
  have hB := stepB hB hB1 hB.size
  clear hB1
  clear hq1
  clear hle hge
  go_wp2_with fail
  refine (toChancery_any a0 cap0 xs0 z1 z2 _ hlen0 (hx0.below hB)).mono ?_
  rintro e w1 ⟨ga0, rfl, oa0, hB1⟩
  have A0 := (hB1.cell (p := ⟨w.heap.size, 0, none⟩) hn0).trans A0
  have A1 := (hB1.cell (p := ⟨w.heap.size, 1, none⟩) hn0).trans A1
  have A2 := (hB1.cell (p := ⟨w.heap.size, 2, none⟩) hn0).trans A2
  have hn0 := Nat.lt_of_lt_of_le hn0 hB1.size
  have hB := stepB hB hB1 hB.size
  clear hB1
  go_wp2_with fail
  refine (toClauseS_any aX1 capX1 xsX1 _ hlenX1 (hxX1.below hB)).mono ?_
  rintro e w1 ⟨gaX1, rfl, oaX1, hB1⟩
  have A0 := (hB1.cell (p := ⟨w.heap.size, 0, none⟩) hn0).trans A0
  have A1 := (hB1.cell (p := ⟨w.heap.size, 1, none⟩) hn0).trans A1
  have A2 := (hB1.cell (p := ⟨w.heap.size, 2, none⟩) hn0).trans A2
  have hn0 := Nat.lt_of_lt_of_le hn0 hB1.size
  have oa0 := own_below oa0 hB1
  have hB := stepB hB hB1 hB.size
  clear hB1
  go_wp2_with fail
  refine (specBest_any _ _ _ _ xs0 z1 z2 xsX1 _ hlen0 (Rd.of_own encRg_len (by decide) oa0) hsm0 hlenX1 (Rd.of_own encCl_len (by decide) oaX1) hsmX1).mono ?_
  rintro e w1 ⟨rfl, hB1⟩
  clear oa0 oaX1
  have A0 := (hB1.cell (p := ⟨w.heap.size, 0, none⟩) hn0).trans A0
  have A1 := (hB1.cell (p := ⟨w.heap.size, 1, none⟩) hn0).trans A1
  have A2 := (hB1.cell (p := ⟨w.heap.size, 2, none⟩) hn0).trans A2
  have hn0 := Nat.lt_of_lt_of_le hn0 hB1.size
  have hB := stepB hB hB1 hB.size
  clear hB1
  go_wp2_with fail
  refine (toChancery_any a0 cap0 xs0 z1 z2 _ hlen0 (hx0.below hB)).mono ?_
  rintro e wx ⟨gb0, rfl, ob0, hB1⟩
  have A0 := (hB1.cell (p := ⟨w.heap.size, 0, none⟩) hn0).trans A0
  have A1 := (hB1.cell (p := ⟨w.heap.size, 1, none⟩) hn0).trans A1
  have A2 := (hB1.cell (p := ⟨w.heap.size, 2, none⟩) hn0).trans A2
  have hn0 := Nat.lt_of_lt_of_le hn0 hB1.size
  have hB := stepB hB hB1 hB.size
  clear hB1
  go_wp2_with fail
  generalize hW : wx.alloc (.cells #[.slice (some ⟨gb0, 0, none⟩) xs0.length xs0.length, .int .i64 z1, .int .i64 z2] 32) = W2
  have hB1 : Below wx.heap.size wx W2 := by rw [← hW]; go_grown
  have hn2 : wx.heap.size < W2.heap.size := by rw [← hW]; simp
  have X0 : W2.cell? ⟨wx.heap.size, 0, none⟩ = some (.slice (some ⟨gb0, 0, none⟩) xs0.length xs0.length) := by rw [← hW]; exact World.cell?_alloc_at _ _ _ _ rfl
  have X1 : W2.cell? ⟨wx.heap.size, 1, none⟩ = some (.int .i64 z1) := by rw [← hW]; exact World.cell?_alloc_at _ _ _ _ rfl
  have X2 : W2.cell? ⟨wx.heap.size, 2, none⟩ = some (.int .i64 z2) := by rw [← hW]; exact World.cell?_alloc_at _ _ _ _ rfl
  clear hW
  have A0 := (hB1.cell (p := ⟨w.heap.size, 0, none⟩) hn0).trans A0
  have A1 := (hB1.cell (p := ⟨w.heap.size, 1, none⟩) hn0).trans A1
  have A2 := (hB1.cell (p := ⟨w.heap.size, 2, none⟩) hn0).trans A2
  have hn0 := Nat.lt_of_lt_of_le hn0 hB1.size
  have ob0 := own_below ob0 hB1
  have hB := stepB hB hB1 hB.size
  clear hB1
  refine (toClauseS_any aX1 capX1 xsX1 _ hlenX1 (hxX1.below hB)).mono ?_
  rintro e w1 ⟨gbX1, rfl, obX1, hB1⟩
  have A0 := (hB1.cell (p := ⟨w.heap.size, 0, none⟩) hn0).trans A0
  have A1 := (hB1.cell (p := ⟨w.heap.size, 1, none⟩) hn0).trans A1
  have A2 := (hB1.cell (p := ⟨w.heap.size, 2, none⟩) hn0).trans A2
  have X0 := (hB1.cell (p := ⟨wx.heap.size, 0, none⟩) hn2).trans X0
  have X1 := (hB1.cell (p := ⟨wx.heap.size, 1, none⟩) hn2).trans X1
  have X2 := (hB1.cell (p := ⟨wx.heap.size, 2, none⟩) hn2).trans X2
  have hn0 := Nat.lt_of_lt_of_le hn0 hB1.size
  have hn2 := Nat.lt_of_lt_of_le hn2 hB1.size
  have ob0 := own_below ob0 hB1
  have hB := stepB hB hB1 hB.size
  clear hB1
  go_wp2_with fail
  refine (implBest_any _ _ _ _ xs0 z1 z2 xsX1 _ hlen0 (Rd.of_own encRg_len (by decide) ob0) hsm0 hlenX1 (Rd.of_own encCl_len (by decide) obX1) hsmX1).mono ?_
  rintro e w1 ⟨rfl, hB1⟩
  have A0 := (hB1.cell (p := ⟨w.heap.size, 0, none⟩) hn0).trans A0
  have A1 := (hB1.cell (p := ⟨w.heap.size, 1, none⟩) hn0).trans A1
  have A2 := (hB1.cell (p := ⟨w.heap.size, 2, none⟩) hn0).trans A2
  have X0 := (hB1.cell (p := ⟨wx.heap.size, 0, none⟩) hn2).trans X0
  have X1 := (hB1.cell (p := ⟨wx.heap.size, 1, none⟩) hn2).trans X1
  have X2 := (hB1.cell (p := ⟨wx.heap.size, 2, none⟩) hn2).trans X2
  have hn0 := Nat.lt_of_lt_of_le hn0 hB1.size
  have hn2 := Nat.lt_of_lt_of_le hn2 hB1.size
  have ob0 := own_below ob0 hB1
  have obX1 := own_below obX1 hB1
  have hB := stepB hB hB1 hB.size
  clear hB1
  have heq397 : ((bestF xs0 z1 z2 xsX1).1 != (bestF xs0 z1 z2 xsX1).1) = false := by simp
  have heq429 : ((((bestF xs0 z1 z2 xsX1).2.1 : Nat) : Int) != ((bestF xs0 z1 z2 xsX1).2.1 : Nat)) = false := by simp
  have heq379 : ((bestF xs0 z1 z2 xsX1).2.2 != (bestF xs0 z1 z2 xsX1).2.2) = false := by simp
  go_wp2_with fail
  obtain ⟨Wr, hWr⟩ : ∃ Wr : World, Wr = w1 := ⟨_, rfl⟩
  have hBd : Below w.heap.size w w1.drew := hB.drew
  have ob0 : w1.drew.ownsRow _ _ _ _ _ _ := ob0.drew
  have obX1 : w1.drew.ownsRow _ _ _ _ _ _ := obX1.drew
  go_region_held3 (fun w' => w'.cell? ⟨w.heap.size, 0, none⟩ = some (.slice a0 xs0.length cap0) ∧ w'.cell? ⟨w.heap.size, 1, none⟩ = some (.int .i64 z1) ∧ w'.cell? ⟨w.heap.size, 2, none⟩ = some (.int .i64 z2) ∧ w'.cell? ⟨wx.heap.size, 0, none⟩ = some (.slice (some ⟨gb0, 0, none⟩) xs0.length xs0.length) ∧ w'.cell? ⟨wx.heap.size, 1, none⟩ = some (.int .i64 z1) ∧ w'.cell? ⟨wx.heap.size, 2, none⟩ = some (.int .i64 z2))
    (first | go_keep | (exact ⟨(hBc.cell (p := ⟨w.heap.size, 0, none⟩) hn0).trans A0, (hBc.cell (p := ⟨w.heap.size, 1, none⟩) hn0).trans A1, (hBc.cell (p := ⟨w.heap.size, 2, none⟩) hn0).trans A2, (hBc.cell (p := ⟨wx.heap.size, 0, none⟩) hn2).trans X0, (hBc.cell (p := ⟨wx.heap.size, 1, none⟩) hn2).trans X1, (hBc.cell (p := ⟨wx.heap.size, 2, none⟩) hn2).trans X2⟩) | (exact ⟨(hBe.cell (p := ⟨w.heap.size, 0, none⟩) (Nat.lt_of_lt_of_le hn0 hBc.size)).trans ((hBc.cell (p := ⟨w.heap.size, 0, none⟩) hn0).trans A0), (hBe.cell (p := ⟨w.heap.size, 1, none⟩) (Nat.lt_of_lt_of_le hn0 hBc.size)).trans ((hBc.cell (p := ⟨w.heap.size, 1, none⟩) hn0).trans A1), (hBe.cell (p := ⟨w.heap.size, 2, none⟩) (Nat.lt_of_lt_of_le hn0 hBc.size)).trans ((hBc.cell (p := ⟨w.heap.size, 2, none⟩) hn0).trans A2), (hBe.cell (p := ⟨wx.heap.size, 0, none⟩) (Nat.lt_of_lt_of_le hn2 hBc.size)).trans ((hBc.cell (p := ⟨wx.heap.size, 0, none⟩) hn2).trans X0), (hBe.cell (p := ⟨wx.heap.size, 1, none⟩) (Nat.lt_of_lt_of_le hn2 hBc.size)).trans ((hBc.cell (p := ⟨wx.heap.size, 1, none⟩) hn2).trans X1), (hBe.cell (p := ⟨wx.heap.size, 2, none⟩) (Nat.lt_of_lt_of_le hn2 hBc.size)).trans ((hBc.cell (p := ⟨wx.heap.size, 2, none⟩) hn2).trans X2)⟩))
    (first | (go_at_call 13; refine (toChancery_any a0 cap0 xs0 z1 z2 _ hlen0 (hx0.below hBd)).mono ?_; rintro e w3 ⟨gc0, rfl, oc0, hBc⟩) | (go_at_call 16; refine (eqChancery_self _ _ _ _ xs0 _ _ _ hlen0 (Rd.of_own encRg_len (by decide) (own_below ob0 hBc)) (Rd.of_own encRg_len (by decide) oc0)).mono ?_; rintro e w4 ⟨rfl, hBe⟩))
  have hBz := stepB (stepB hBd hBc hBd.size) hBe (Nat.le_trans hBd.size hBc.size)
  have obX1 := own_below (own_below obX1 hBc) hBe
  clear ob0 oc0 hBc hBe hBd A0 A1 A2 X0 X1 X2
  have hB := hBz
  clear hBz
  go_wp2_with fail
  refine (toClauseS_any aX1 capX1 xsX1 _ hlenX1 (hxX1.below hB)).mono ?_
  rintro e w1 ⟨gcX1, rfl, ocX1, hB1⟩
  have obX1 := own_below obX1 hB1
  have hB := stepB hB hB1 hB.size
  clear hB1
  go_wp2_with fail
  refine (eqClauseS_self _ _ _ _ xsX1 _ (by omega) (Rd.of_own encCl_len (by decide) obX1) (Rd.of_own encCl_len (by decide) ocX1)).mono ?_
  rintro e w1 ⟨rfl, hB1⟩
  have obX1 := own_below obX1 hB1
  have ocX1 := own_below ocX1 hB1
  have hB := stepB hB hB1 hB.size
  clear hB1
  have hBz := hB
  go_wp2
  go_ret
  exact ⟨rfl, hBz⟩
end Go.Proofs.YtdbgnbohdplndaaGreatDoor
