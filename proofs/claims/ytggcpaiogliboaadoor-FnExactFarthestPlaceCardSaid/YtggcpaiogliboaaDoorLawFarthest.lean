/- Walk: the law FnExactFarthestPlace. Printed by gen_law.py. -/
import Derived.Test.YtggcpaiogliboaaDoorTrFar
import Derived.Test.YtggcpaiogliboaaDoorCLand
namespace Go.Proofs.YtggcpaiogliboaaDoor
open Go.ChangeShapes Go.WideShapes Go.ChangeAt Go.RowKit

set_option maxHeartbeats 2000000 in
theorem lawFarthest_any (a0 : Option Addr) (cap0 : Nat) (xs0 : List ByteArray) (a1 : Option Addr) (cap1 : Nat) (xs1 : List Wy) (y1 : Int) (w : World) (hl0 : xs0.length ≤ maxLen) (hx0 : Rd encS w a0 xs0) (hs0 : ∀ m ∈ xs0, goodS m) (hl1 : xs1.length ≤ maxLen) (hx1 : Rd encWy w a1 xs1) (_hs1 : ∀ m ∈ xs1, goodWy m) (_hy1 : -9223372036854775808 ≤ y1 ∧ y1 ≤ 9223372036854775807) :
    Calls Tryd.prog 8 #[.agg #[.slice a0 xs0.length cap0, .slice a1 xs1.length cap1], .int .i64 y1] w fun e w' => e = .returned (.bool true) ∧ Below w.heap.size w w' := by
  have hsz := fun W (h0 : Rd encS W a0 xs0) (h1 : Rd encWy W a1 xs1) => szLand_any a0 cap0 xs0 a1 cap1 xs1 1048576 W (by omega) (by omega) hl0 h0 hs0 hl1
  have HSZ := Lib.hid hsz
  clear hsz
  by_cases hq : szLand xs0 xs1 1048576 < 0
  · have hq1 := hq
    go_enter Tryd.func8, Tryd.ntmps8
    go_wp2_with fail
    generalize hW : w.alloc (.cells #[.slice a0 xs0.length cap0, .slice a1 xs1.length cap1] 61) = W0
    have hB : Below w.heap.size w W0 := by rw [← hW]; go_grown
    have hn0 : w.heap.size < W0.heap.size := by rw [← hW]; simp
    have A0 : W0.cell? ⟨w.heap.size, 0, none⟩ = some (.slice a0 xs0.length cap0) := by rw [← hW]; exact World.cell?_alloc_at _ _ _ _ rfl
    have A1 : W0.cell? ⟨w.heap.size, 1, none⟩ = some (.slice a1 xs1.length cap1) := by rw [← hW]; exact World.cell?_alloc_at _ _ _ _ rfl
    clear hW
    refine (HSZ.out _ (hx0.below hB) (hx1.below hB)).mono ?_
    rintro e w1 ⟨rfl, hB1⟩
    go_wp2
    go_ret
    exact ⟨rfl, stepB hB hB1 hB.size⟩
  have hok := szLand_ok hq
  have hq0 : ¬ szS ByteArray.size xs0 1048576 < 0 := hok.1
  obtain ⟨ho0, hn0⟩ := szS_ok (Int.not_lt.1 hq0)
  have hlen0 : xs0.length ≤ 1048576 := by omega
  have hsm0 : ∀ m ∈ xs0, ByteArray.size m ≤ 1048576 := fun m hm => by have h1 := le_sumS ByteArray.size hm; omega
  have hq1 : ¬ clip ((szS ByteArray.size xs0 1048576) - xs1.length) < 0 := hok.2
  have hlen1 : xs1.length ≤ 1048576 := by unfold clip at hq1; split at hq1 <;> omega
  clear ho0 hn0 hok hq0 hq1
  have hq1 : 0 ≤ szLand xs0 xs1 1048576 := Int.not_lt.1 hq
  go_enter Tryd.func8, Tryd.ntmps8
  go_wp2_with fail
  generalize hW : w.alloc (.cells #[.slice a0 xs0.length cap0, .slice a1 xs1.length cap1] 61) = W0
  have hB : Below w.heap.size w W0 := by rw [← hW]; go_grown
  have hn0 : w.heap.size < W0.heap.size := by rw [← hW]; simp
  have A0 : W0.cell? ⟨w.heap.size, 0, none⟩ = some (.slice a0 xs0.length cap0) := by rw [← hW]; exact World.cell?_alloc_at _ _ _ _ rfl
  have A1 : W0.cell? ⟨w.heap.size, 1, none⟩ = some (.slice a1 xs1.length cap1) := by rw [← hW]; exact World.cell?_alloc_at _ _ _ _ rfl
  clear hW
  refine (HSZ.out _ (hx0.below hB) (hx1.below hB)).mono ?_
  rintro e w1 ⟨rfl, hB1⟩
  have A0 := (hB1.cell (p := ⟨w.heap.size, 0, none⟩) hn0).trans A0
  have A1 := (hB1.cell (p := ⟨w.heap.size, 1, none⟩) hn0).trans A1
  have hn0 := Nat.lt_of_lt_of_le hn0 hB1.size
  have hB := stepB hB hB1 hB.size
  clear hB1
  clear hq1
  go_wp2_with fail
  refine (toLand_any a0 cap0 xs0 a1 cap1 xs1 _ hlen0 (hx0.below hB) hlen1 (hx1.below hB)).mono ?_
  rintro e w1 ⟨ga0, ga1, rfl, oa0, oa1, hB1⟩
  have A0 := (hB1.cell (p := ⟨w.heap.size, 0, none⟩) hn0).trans A0
  have A1 := (hB1.cell (p := ⟨w.heap.size, 1, none⟩) hn0).trans A1
  have hn0 := Nat.lt_of_lt_of_le hn0 hB1.size
  have hB := stepB hB hB1 hB.size
  clear hB1
  go_wp2_with fail
  refine (specFarthest_any _ _ _ _ xs0 xs1 y1 _ (Nat.le_refl _) hlen0 hlen0 (Rd.of_own encS_len (by decide) oa0) hsm0 hlen1 (Rd.of_own encWy_len (by decide) oa1)).mono ?_
  rintro e w1 ⟨rfl, hB1⟩
  clear oa0 oa1
  have A0 := (hB1.cell (p := ⟨w.heap.size, 0, none⟩) hn0).trans A0
  have A1 := (hB1.cell (p := ⟨w.heap.size, 1, none⟩) hn0).trans A1
  have hn0 := Nat.lt_of_lt_of_le hn0 hB1.size
  have hB := stepB hB hB1 hB.size
  clear hB1
  go_wp2_with fail
  refine (toLand_any a0 cap0 xs0 a1 cap1 xs1 _ hlen0 (hx0.below hB) hlen1 (hx1.below hB)).mono ?_
  rintro e wx ⟨gb0, gb1, rfl, ob0, ob1, hB1⟩
  have A0 := (hB1.cell (p := ⟨w.heap.size, 0, none⟩) hn0).trans A0
  have A1 := (hB1.cell (p := ⟨w.heap.size, 1, none⟩) hn0).trans A1
  have hn0 := Nat.lt_of_lt_of_le hn0 hB1.size
  have hB := stepB hB hB1 hB.size
  clear hB1
  go_wp2_with fail
  generalize hW : wx.alloc (.cells #[.slice (some ⟨gb0, 0, none⟩) xs0.length xs0.length, .slice (some ⟨gb1, 0, none⟩) xs1.length xs1.length] 67) = W2
  have hB1 : Below wx.heap.size wx W2 := by rw [← hW]; go_grown
  have hn2 : wx.heap.size < W2.heap.size := by rw [← hW]; simp
  have X0 : W2.cell? ⟨wx.heap.size, 0, none⟩ = some (.slice (some ⟨gb0, 0, none⟩) xs0.length xs0.length) := by rw [← hW]; exact World.cell?_alloc_at _ _ _ _ rfl
  have X1 : W2.cell? ⟨wx.heap.size, 1, none⟩ = some (.slice (some ⟨gb1, 0, none⟩) xs1.length xs1.length) := by rw [← hW]; exact World.cell?_alloc_at _ _ _ _ rfl
  clear hW
  have A0 := (hB1.cell (p := ⟨w.heap.size, 0, none⟩) hn0).trans A0
  have A1 := (hB1.cell (p := ⟨w.heap.size, 1, none⟩) hn0).trans A1
  have hn0 := Nat.lt_of_lt_of_le hn0 hB1.size
  have ob0 := own_below ob0 hB1
  have ob1 := own_below ob1 hB1
  have hB := stepB hB hB1 hB.size
  clear hB1
  refine (implFarthest_any _ _ _ _ xs0 xs1 y1 _ (Nat.le_refl _) hlen0 hlen0 (Rd.of_own encS_len (by decide) ob0) hsm0 hlen1 (Rd.of_own encWy_len (by decide) ob1)).mono ?_
  rintro e w1 ⟨rfl, hB1⟩
  have A0 := (hB1.cell (p := ⟨w.heap.size, 0, none⟩) hn0).trans A0
  have A1 := (hB1.cell (p := ⟨w.heap.size, 1, none⟩) hn0).trans A1
  have X0 := (hB1.cell (p := ⟨wx.heap.size, 0, none⟩) hn2).trans X0
  have X1 := (hB1.cell (p := ⟨wx.heap.size, 1, none⟩) hn2).trans X1
  have hn0 := Nat.lt_of_lt_of_le hn0 hB1.size
  have hn2 := Nat.lt_of_lt_of_le hn2 hB1.size
  have ob0 := own_below ob0 hB1
  have ob1 := own_below ob1 hB1
  have hB := stepB hB hB1 hB.size
  clear hB1
  have heq675 : ((farR xs0 xs1 y1 (codeL xs0 xs1 [y1])).1 != (farR xs0 xs1 y1 (codeL xs0 xs1 [y1])).1) = false := by simp
  have heq343 : ((farR xs0 xs1 y1 (codeL xs0 xs1 [y1])).2.1 != (farR xs0 xs1 y1 (codeL xs0 xs1 [y1])).2.1) = false := by simp
  have heq497 : ((farR xs0 xs1 y1 (codeL xs0 xs1 [y1])).2.2 != (farR xs0 xs1 y1 (codeL xs0 xs1 [y1])).2.2) = false := by simp
  go_wp2_with fail
  obtain ⟨Wr, hWr⟩ : ∃ Wr : World, Wr = w1 := ⟨_, rfl⟩
  have hBd : Below w.heap.size w w1.drew := hB.drew
  have ob0 : w1.drew.ownsRow _ _ _ _ _ _ := ob0.drew
  have ob1 : w1.drew.ownsRow _ _ _ _ _ _ := ob1.drew
  go_region_held3 (fun w' => w'.cell? ⟨w.heap.size, 0, none⟩ = some (.slice a0 xs0.length cap0) ∧ w'.cell? ⟨w.heap.size, 1, none⟩ = some (.slice a1 xs1.length cap1) ∧ w'.cell? ⟨wx.heap.size, 0, none⟩ = some (.slice (some ⟨gb0, 0, none⟩) xs0.length xs0.length) ∧ w'.cell? ⟨wx.heap.size, 1, none⟩ = some (.slice (some ⟨gb1, 0, none⟩) xs1.length xs1.length))
    (first | go_keep | (exact ⟨(hBc.cell (p := ⟨w.heap.size, 0, none⟩) hn0).trans A0, (hBc.cell (p := ⟨w.heap.size, 1, none⟩) hn0).trans A1, (hBc.cell (p := ⟨wx.heap.size, 0, none⟩) hn2).trans X0, (hBc.cell (p := ⟨wx.heap.size, 1, none⟩) hn2).trans X1⟩) | (exact ⟨(hBe.cell (p := ⟨w.heap.size, 0, none⟩) (Nat.lt_of_lt_of_le hn0 hBc.size)).trans ((hBc.cell (p := ⟨w.heap.size, 0, none⟩) hn0).trans A0), (hBe.cell (p := ⟨w.heap.size, 1, none⟩) (Nat.lt_of_lt_of_le hn0 hBc.size)).trans ((hBc.cell (p := ⟨w.heap.size, 1, none⟩) hn0).trans A1), (hBe.cell (p := ⟨wx.heap.size, 0, none⟩) (Nat.lt_of_lt_of_le hn2 hBc.size)).trans ((hBc.cell (p := ⟨wx.heap.size, 0, none⟩) hn2).trans X0), (hBe.cell (p := ⟨wx.heap.size, 1, none⟩) (Nat.lt_of_lt_of_le hn2 hBc.size)).trans ((hBc.cell (p := ⟨wx.heap.size, 1, none⟩) hn2).trans X1)⟩))
    (first | (go_at_call 40; refine (toLand_any a0 cap0 xs0 a1 cap1 xs1 _ hlen0 (hx0.below hBd) hlen1 (hx1.below hBd)).mono ?_; rintro e w3 ⟨gc0, gc1, rfl, oc0, oc1, hBc⟩) | (go_at_call 42; refine (eqLand_self _ _ _ _ xs0 _ _ _ _ xs1 _ hlen0 (Rd.of_own encS_len (by decide) (own_below ob0 hBc)) (Rd.of_own encS_len (by decide) oc0) hlen1 (Rd.of_own encWy_len (by decide) (own_below ob1 hBc)) (Rd.of_own encWy_len (by decide) oc1)).mono ?_; rintro e w4 ⟨rfl, hBe⟩))
  have hBz := stepB (stepB hBd hBc hBd.size) hBe (Nat.le_trans hBd.size hBc.size)
  go_wp2
  go_ret
  exact ⟨rfl, hBz⟩
end Go.Proofs.YtggcpaiogliboaaDoor
