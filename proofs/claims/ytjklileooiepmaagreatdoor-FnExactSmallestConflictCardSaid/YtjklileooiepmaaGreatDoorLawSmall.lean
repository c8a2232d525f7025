/- Walk: the law FnExactSmallestConflict. Printed by gen_law2.py. -/
import Derived.Test.YtjklileooiepmaaGreatDoorConfI
import Derived.Test.YtjklileooiepmaaGreatDoorChan
import Derived.Test.YtjklileooiepmaaGreatDoorQChancery
import Derived.Test.YtjklileooiepmaaGreatDoorMI
import Derived.Test.YtjklileooiepmaaGreatDoorHI
import Derived.Test.YtjklileooiepmaaGreatDoorMCl
namespace Go.Proofs.YtjklileooiepmaaGreatDoor
open Go.ChangeShapes Go.WideShapes Go.ChangeAt Go.RowKit

set_option maxRecDepth 100000 in
set_option maxHeartbeats 4000000 in
theorem lawSmall_any (a0 : Option Addr) (cap0 : Nat) (xs0 : List Rg) (z1 z2 : Int) (aX1 : Option Addr) (capX1 : Nat) (xsX1 : List Cl) (w : World) (hl0 : xs0.length ≤ maxLen) (hx0 : Rd encRg w a0 xs0) (hs0 : ∀ m ∈ xs0, goodRg m) (hlX1 : xsX1.length ≤ maxLen) (hxX1 : Rd encCl w aX1 xsX1) (hsX1 : ∀ m ∈ xsX1, goodCl m) :
    Calls Tryz.prog 3 #[.agg #[.slice a0 xs0.length cap0, .int .i64 z1, .int .i64 z2], .slice aX1 xsX1.length capX1] w fun e w' => e = .returned (.bool true) ∧ Below w.heap.size w w' := by
  have hsz := fun W (h0 : Rd encRg W a0 xs0) => szChancery_any a0 cap0 xs0 z1 z2 1048576 W (by omega) (by omega) hl0 h0 hs0
  have HSZ := Lib.hid hsz
  clear hsz
  by_cases hq : szChancery xs0 1048576 < 0
  · have hq1 := hq
    go_enter Tryz.func3, Tryz.ntmps3
    go_wp2_with fail
    generalize hW : w.alloc (.cells #[.slice a0 xs0.length cap0, .int .i64 z1, .int .i64 z2] 24) = W0
    have hB : Below w.heap.size w W0 := by rw [← hW]; go_grown
    have hn0 : w.heap.size < W0.heap.size := by rw [← hW]; simp
    have A0 : W0.cell? ⟨w.heap.size, 0, none⟩ = some (.slice a0 xs0.length cap0) := by rw [← hW]; exact World.cell?_alloc_at _ _ _ _ rfl
    have A1 : W0.cell? ⟨w.heap.size, 1, none⟩ = some (.int .i64 z1) := by rw [← hW]; exact World.cell?_alloc_at _ _ _ _ rfl
    have A2 : W0.cell? ⟨w.heap.size, 2, none⟩ = some (.int .i64 z2) := by rw [← hW]; exact World.cell?_alloc_at _ _ _ _ rfl
    clear hW
    refine (HSZ.out _ (hx0.below hB)).mono ?_
    rintro e w1 ⟨rfl, hB1⟩
    go_wp2
    go_ret
    exact ⟨rfl, stepB hB hB1 hB.size⟩
  have hok := szChancery_ok hq
  have hq0 : ¬ szS szRg xs0 1048576 < 0 := hok
  obtain ⟨ho0, hn0⟩ := szS_ok (Int.not_lt.1 hq0)
  have hlen0 : xs0.length ≤ 1048576 := by omega
  have hsm0 : ∀ m ∈ xs0, szRg m ≤ 1048576 := fun m hm => by have h1 := le_sumS szRg hm; omega
  have hle : szChancery xs0 1048576 ≤ 1048576 := by unfold szChancery; have := (szS_ok (Int.not_lt.1 hq0)).1; omega
  have hge : 0 ≤ szChancery xs0 1048576 := Int.not_lt.1 hq
  have hszX1 := fun W (h : Rd encCl W aX1 xsX1) => szClauseS_any aX1 capX1 xsX1 (szChancery xs0 1048576) W (by omega) (by omega) hlX1 h hsX1
  have HSZX1 := Lib.hid hszX1
  clear hszX1
  by_cases hqX1 : szS szCl xsX1 (szChancery xs0 1048576) < 0
  · have hq1' : 0 ≤ szChancery xs0 1048576 := hge
    go_enter Tryz.func3, Tryz.ntmps3
    go_wp2_with fail
    generalize hW : w.alloc (.cells #[.slice a0 xs0.length cap0, .int .i64 z1, .int .i64 z2] 24) = W0
    have hB : Below w.heap.size w W0 := by rw [← hW]; go_grown
    have hn0 : w.heap.size < W0.heap.size := by rw [← hW]; simp
    have A0 : W0.cell? ⟨w.heap.size, 0, none⟩ = some (.slice a0 xs0.length cap0) := by rw [← hW]; exact World.cell?_alloc_at _ _ _ _ rfl
    have A1 : W0.cell? ⟨w.heap.size, 1, none⟩ = some (.int .i64 z1) := by rw [← hW]; exact World.cell?_alloc_at _ _ _ _ rfl
    have A2 : W0.cell? ⟨w.heap.size, 2, none⟩ = some (.int .i64 z2) := by rw [← hW]; exact World.cell?_alloc_at _ _ _ _ rfl
    clear hW
    refine (HSZ.out _ (hx0.below hB)).mono ?_
    rintro e w1 ⟨rfl, hB1⟩
    have hB := stepB hB hB1 hB.size
    go_wp2_with fail
    refine (HSZX1.out _ (hxX1.below hB)).mono ?_
    rintro e w2 ⟨rfl, hB2⟩
    have hB := stepB hB hB2 hB.size
    go_wp2
    go_ret
    exact ⟨rfl, hB⟩
  obtain ⟨hoX1, hnX1⟩ := szS_ok (Int.not_lt.1 hqX1)
  have hlenX1 : xsX1.length ≤ 1048576 := by omega
  have hsmX1 : ∀ m ∈ xsX1, szCl m ≤ 1048576 := fun m hm => by have h1 := le_sumS szCl hm; omega
  have hleX1 : szS szCl xsX1 (szChancery xs0 1048576) ≤ 1048576 := by omega
  clear hoX1 hnX1
  have hqX1 : 0 ≤ szS szCl xsX1 (szChancery xs0 1048576) := Int.not_lt.1 hqX1
  clear hleX1
  clear ho0 hn0 hok hq0
  have hq1 : 0 ≤ szChancery xs0 1048576 := Int.not_lt.1 hq
  have HSP := Lib.hid (fun (A0 : Option Addr) (AX1 : Option Addr) W (h0 : Rd encRg W A0 xs0) (hX1 : Rd encCl W AX1 xsX1) => specSmall_any A0 AX1 xs0.length xsX1.length xs0 z1 z2 xsX1 W hlen0 h0 hsm0 hlenX1 hX1 hsmX1)
  have HIM := Lib.hid (fun (A0 : Option Addr) (AX1 : Option Addr) W (h0 : Rd encRg W A0 xs0) (hX1 : Rd encCl W AX1 xsX1) => implSmall_any A0 AX1 xs0.length xsX1.length xs0 z1 z2 xsX1 W hlen0 h0 hsm0 hlenX1 hX1 hsmX1)
  have hlR : (confR xs0 z1 z2 xsX1).1.length ≤ 1048576 := confR_len xs0 z1 z2 xsX1
  generalize confR xs0 z1 z2 xsX1 = R at HSP HIM hlR
  obtain ⟨ys, q⟩ := R
  simp only at HSP HIM hlR
  have HE := Lib.hid (fun (A B : Option Addr) (C D : Nat) W (h1 : Rd encI W A ys) (h2 : Rd encI W B ys) => eqInt64S_self A B C D ys W (by omega) h1 h2)
  have hqq : (q != q) = false := by simp
  go_enter Tryz.func3, Tryz.ntmps3
  go_wp2_with fail
  generalize hW : w.alloc (.cells #[.slice a0 xs0.length cap0, .int .i64 z1, .int .i64 z2] 24) = W0
  have hB : Below w.heap.size w W0 := by rw [← hW]; go_grown
  have hn0 : w.heap.size < W0.heap.size := by rw [← hW]; simp
  have A0 : W0.cell? ⟨w.heap.size, 0, none⟩ = some (.slice a0 xs0.length cap0) := by rw [← hW]; exact World.cell?_alloc_at _ _ _ _ rfl
  have A1 : W0.cell? ⟨w.heap.size, 1, none⟩ = some (.int .i64 z1) := by rw [← hW]; exact World.cell?_alloc_at _ _ _ _ rfl
  have A2 : W0.cell? ⟨w.heap.size, 2, none⟩ = some (.int .i64 z2) := by rw [← hW]; exact World.cell?_alloc_at _ _ _ _ rfl
  clear hW
  refine (HSZ.out _ (hx0.below hB)).mono ?_
  rintro e W1 ⟨rfl, hB1⟩
  have A0 := (hB1.cell (p := ⟨w.heap.size, 0, none⟩) hn0).trans A0
  have A1 := (hB1.cell (p := ⟨w.heap.size, 1, none⟩) hn0).trans A1
  have A2 := (hB1.cell (p := ⟨w.heap.size, 2, none⟩) hn0).trans A2
  have hn0 := Nat.lt_of_lt_of_le hn0 hB1.size
  have hB := stepB hB hB1 hB.size
  clear hB1
  go_wp2_with fail
  refine (HSZX1.out _ (hxX1.below hB)).mono ?_
  rintro e W2 ⟨rfl, hB1⟩
  have A0 := (hB1.cell (p := ⟨w.heap.size, 0, none⟩) hn0).trans A0
  have A1 := (hB1.cell (p := ⟨w.heap.size, 1, none⟩) hn0).trans A1
  have A2 := (hB1.cell (p := ⟨w.heap.size, 2, none⟩) hn0).trans A2
  have hn0 := Nat.lt_of_lt_of_le hn0 hB1.size
  have hB := stepB hB hB1 hB.size
  clear hB1
  clear hle hge
  go_wp2_with fail
  refine (toChancery_any a0 cap0 xs0 z1 z2 _ hlen0 (hx0.below hB)).mono ?_
  rintro e W3 ⟨ga0, rfl, oa0, hB1⟩
  have A0 := (hB1.cell (p := ⟨w.heap.size, 0, none⟩) hn0).trans A0
  have A1 := (hB1.cell (p := ⟨w.heap.size, 1, none⟩) hn0).trans A1
  have A2 := (hB1.cell (p := ⟨w.heap.size, 2, none⟩) hn0).trans A2
  have hn0 := Nat.lt_of_lt_of_le hn0 hB1.size
  have hB := stepB hB hB1 hB.size
  clear hB1
  go_wp2_with fail
  refine (toClauseS_any aX1 capX1 xsX1 _ hlenX1 (hxX1.below hB)).mono ?_
  rintro e W4 ⟨gaX1, rfl, oaX1, hB1⟩
  have A0 := (hB1.cell (p := ⟨w.heap.size, 0, none⟩) hn0).trans A0
  have A1 := (hB1.cell (p := ⟨w.heap.size, 1, none⟩) hn0).trans A1
  have A2 := (hB1.cell (p := ⟨w.heap.size, 2, none⟩) hn0).trans A2
  have hn0 := Nat.lt_of_lt_of_le hn0 hB1.size
  have oa0 := own_below oa0 hB1
  have hB := stepB hB hB1 hB.size
  clear hB1
  go_wp2_with fail
  refine (HSP.out _ _ _ (Rd.of_own encRg_len (by decide) oa0) (Rd.of_own encCl_len (by decide) oaX1)).mono ?_
  rintro e W5 ⟨bw, cw, rfl, ow0, hB1⟩
  have owb := hn0
  have A0 := (hB1.cell (p := ⟨w.heap.size, 0, none⟩) hn0).trans A0
  have A1 := (hB1.cell (p := ⟨w.heap.size, 1, none⟩) hn0).trans A1
  have A2 := (hB1.cell (p := ⟨w.heap.size, 2, none⟩) hn0).trans A2
  have hn0 := Nat.lt_of_lt_of_le hn0 hB1.size
  have oa0 := own_below oa0 hB1
  have oaX1 := own_below oaX1 hB1
  have hB := stepB hB hB1 hB.size
  clear hB1
  have ow := Own.of ow0
  have owc := Nat.le_refl W5.heap.size
  clear ow0
  clear oa0 oaX1
  go_wp2_with fail
  refine (toChancery_any a0 cap0 xs0 z1 z2 _ hlen0 (hx0.below hB)).mono ?_
  rintro e W6 ⟨gb0, rfl, ob0, hB1⟩
  have lo0 := Nat.le_trans owc (own_lt ob0).1
  have hi0 := (own_lt ob0).2
  have lb0 := Nat.lt_of_lt_of_le hn0 (own_lt ob0).1
  have A0 := (hB1.cell (p := ⟨w.heap.size, 0, none⟩) hn0).trans A0
  have A1 := (hB1.cell (p := ⟨w.heap.size, 1, none⟩) hn0).trans A1
  have A2 := (hB1.cell (p := ⟨w.heap.size, 2, none⟩) hn0).trans A2
  have hn0 := Nat.lt_of_lt_of_le hn0 hB1.size
  have ow := ow.below hB1
  have owc := Nat.le_trans owc hB1.size
  have hB := stepB hB hB1 hB.size
  clear hB1
  have hxx := Nat.le_refl W6.heap.size
  go_wp2_with fail
  generalize hW : W6.alloc (.cells #[.slice (some ⟨gb0, 0, none⟩) xs0.length xs0.length, .int .i64 z1, .int .i64 z2] 33) = WB
  have hB1 : Below W6.heap.size W6 WB := by rw [← hW]; go_grown
  have hn2 : W6.heap.size < WB.heap.size := by rw [← hW]; simp
  have X0 : WB.cell? ⟨W6.heap.size, 0, none⟩ = some (.slice (some ⟨gb0, 0, none⟩) xs0.length xs0.length) := by rw [← hW]; exact World.cell?_alloc_at _ _ _ _ rfl
  have X1 : WB.cell? ⟨W6.heap.size, 1, none⟩ = some (.int .i64 z1) := by rw [← hW]; exact World.cell?_alloc_at _ _ _ _ rfl
  have X2 : WB.cell? ⟨W6.heap.size, 2, none⟩ = some (.int .i64 z2) := by rw [← hW]; exact World.cell?_alloc_at _ _ _ _ rfl
  clear hW
  have A0 := (hB1.cell (p := ⟨w.heap.size, 0, none⟩) hn0).trans A0
  have A1 := (hB1.cell (p := ⟨w.heap.size, 1, none⟩) hn0).trans A1
  have A2 := (hB1.cell (p := ⟨w.heap.size, 2, none⟩) hn0).trans A2
  have hn0 := Nat.lt_of_lt_of_le hn0 hB1.size
  have ob0 := own_below ob0 hB1
  have ow := ow.below hB1
  have owc := Nat.le_trans owc hB1.size
  have hxx := Nat.le_trans hxx hB1.size
  have hB := stepB hB hB1 hB.size
  clear hB1
  refine (toClauseS_any aX1 capX1 xsX1 _ hlenX1 (hxX1.below hB)).mono ?_
  rintro e W7 ⟨gbX1, rfl, obX1, hB1⟩
  have loX1 := Nat.le_trans owc (own_lt obX1).1
  have hiX1 := (own_lt obX1).2
  have lbX1 := Nat.lt_of_lt_of_le hn0 (own_lt obX1).1
  have apX1_0 := Nat.lt_of_lt_of_le hi0 (Nat.le_trans hxx (own_lt obX1).1)
  have A0 := (hB1.cell (p := ⟨w.heap.size, 0, none⟩) hn0).trans A0
  have A1 := (hB1.cell (p := ⟨w.heap.size, 1, none⟩) hn0).trans A1
  have A2 := (hB1.cell (p := ⟨w.heap.size, 2, none⟩) hn0).trans A2
  have X0 := (hB1.cell (p := ⟨W6.heap.size, 0, none⟩) hn2).trans X0
  have X1 := (hB1.cell (p := ⟨W6.heap.size, 1, none⟩) hn2).trans X1
  have X2 := (hB1.cell (p := ⟨W6.heap.size, 2, none⟩) hn2).trans X2
  have hn0 := Nat.lt_of_lt_of_le hn0 hB1.size
  have hn2 := Nat.lt_of_lt_of_le hn2 hB1.size
  have ob0 := own_below ob0 hB1
  have ow := ow.below hB1
  have owc := Nat.le_trans owc hB1.size
  have hxx := Nat.le_trans hxx hB1.size
  have hB := stepB hB hB1 hB.size
  clear hB1
  have hxxX1 := Nat.le_refl W7.heap.size
  go_wp2_with fail
  have xg := hxx
  have wg := owc
  have xgX1 := hxxX1
  refine (HIM.out _ _ _ (Rd.of_own encRg_len (by decide) ob0) (Rd.of_own encCl_len (by decide) obX1)).mono ?_
  rintro e W8 ⟨bg, cg, rfl, og0, hB1⟩
  have ogb := hn0
  have A0 := (hB1.cell (p := ⟨w.heap.size, 0, none⟩) hn0).trans A0
  have A1 := (hB1.cell (p := ⟨w.heap.size, 1, none⟩) hn0).trans A1
  have A2 := (hB1.cell (p := ⟨w.heap.size, 2, none⟩) hn0).trans A2
  have X0 := (hB1.cell (p := ⟨W6.heap.size, 0, none⟩) hn2).trans X0
  have X1 := (hB1.cell (p := ⟨W6.heap.size, 1, none⟩) hn2).trans X1
  have X2 := (hB1.cell (p := ⟨W6.heap.size, 2, none⟩) hn2).trans X2
  have hn0 := Nat.lt_of_lt_of_le hn0 hB1.size
  have hn2 := Nat.lt_of_lt_of_le hn2 hB1.size
  have ob0 := own_below ob0 hB1
  have obX1 := own_below obX1 hB1
  have ow := ow.below hB1
  have owc := Nat.le_trans owc hB1.size
  have hxx := Nat.le_trans hxx hB1.size
  have hxxX1 := Nat.le_trans hxxX1 hB1.size
  have hB := stepB hB hB1 hB.size
  clear hB1
  have og := Own.of og0
  have ogc := Nat.le_refl W8.heap.size
  clear og0
  go_wp2_with fail
  refine (HE.out _ _ _ _ _ ((Rd.of_own encI_len (by decide) og.row)) ((Rd.of_own encI_len (by decide) ow.row))).mono ?_
  rintro e W9 ⟨rfl, hB1⟩
  have A0 := (hB1.cell (p := ⟨w.heap.size, 0, none⟩) hn0).trans A0
  have A1 := (hB1.cell (p := ⟨w.heap.size, 1, none⟩) hn0).trans A1
  have A2 := (hB1.cell (p := ⟨w.heap.size, 2, none⟩) hn0).trans A2
  have X0 := (hB1.cell (p := ⟨W6.heap.size, 0, none⟩) hn2).trans X0
  have X1 := (hB1.cell (p := ⟨W6.heap.size, 1, none⟩) hn2).trans X1
  have X2 := (hB1.cell (p := ⟨W6.heap.size, 2, none⟩) hn2).trans X2
  have hn0 := Nat.lt_of_lt_of_le hn0 hB1.size
  have hn2 := Nat.lt_of_lt_of_le hn2 hB1.size
  have ob0 := own_below ob0 hB1
  have obX1 := own_below obX1 hB1
  have ow := ow.below hB1
  have owc := Nat.le_trans owc hB1.size
  have og := og.below hB1
  have ogc := Nat.le_trans ogc hB1.size
  have hxx := Nat.le_trans hxx hB1.size
  have hxxX1 := Nat.le_trans hxxX1 hB1.size
  have hB := stepB hB hB1 hB.size
  clear hB1
  go_wp2_with fail
  have hBd : Below w.heap.size w W9.drew := hB.drew
  have od0 : W9.drew.ownsRow _ _ _ _ _ _ := ob0.drew
  go_region_held3 (fun w' => w'.cell? ⟨w.heap.size, 0, none⟩ = some (.slice a0 xs0.length cap0) ∧ w'.cell? ⟨w.heap.size, 1, none⟩ = some (.int .i64 z1) ∧ w'.cell? ⟨w.heap.size, 2, none⟩ = some (.int .i64 z2) ∧ w'.cell? ⟨W6.heap.size, 0, none⟩ = some (.slice (some ⟨gb0, 0, none⟩) xs0.length xs0.length) ∧ w'.cell? ⟨W6.heap.size, 1, none⟩ = some (.int .i64 z1) ∧ w'.cell? ⟨W6.heap.size, 2, none⟩ = some (.int .i64 z2))
    (first | go_keep | (exact ⟨(hBc.cell (p := ⟨w.heap.size, 0, none⟩) hn0).trans A0, (hBc.cell (p := ⟨w.heap.size, 1, none⟩) hn0).trans A1, (hBc.cell (p := ⟨w.heap.size, 2, none⟩) hn0).trans A2, (hBc.cell (p := ⟨W6.heap.size, 0, none⟩) hn2).trans X0, (hBc.cell (p := ⟨W6.heap.size, 1, none⟩) hn2).trans X1, (hBc.cell (p := ⟨W6.heap.size, 2, none⟩) hn2).trans X2⟩) | (exact ⟨(hBe.cell (p := ⟨w.heap.size, 0, none⟩) (Nat.lt_of_lt_of_le hn0 hBc.size)).trans ((hBc.cell (p := ⟨w.heap.size, 0, none⟩) hn0).trans A0), (hBe.cell (p := ⟨w.heap.size, 1, none⟩) (Nat.lt_of_lt_of_le hn0 hBc.size)).trans ((hBc.cell (p := ⟨w.heap.size, 1, none⟩) hn0).trans A1), (hBe.cell (p := ⟨w.heap.size, 2, none⟩) (Nat.lt_of_lt_of_le hn0 hBc.size)).trans ((hBc.cell (p := ⟨w.heap.size, 2, none⟩) hn0).trans A2), (hBe.cell (p := ⟨W6.heap.size, 0, none⟩) (Nat.lt_of_lt_of_le hn2 hBc.size)).trans ((hBc.cell (p := ⟨W6.heap.size, 0, none⟩) hn2).trans X0), (hBe.cell (p := ⟨W6.heap.size, 1, none⟩) (Nat.lt_of_lt_of_le hn2 hBc.size)).trans ((hBc.cell (p := ⟨W6.heap.size, 1, none⟩) hn2).trans X1), (hBe.cell (p := ⟨W6.heap.size, 2, none⟩) (Nat.lt_of_lt_of_le hn2 hBc.size)).trans ((hBc.cell (p := ⟨W6.heap.size, 2, none⟩) hn2).trans X2)⟩))
    (first | (go_at_call 7; refine (toChancery_any a0 cap0 xs0 z1 z2 _ hlen0 (hx0.below hBd)).mono ?_; rintro e w3 ⟨gc0, rfl, oc0, hBc⟩) | (go_at_call 11; refine (eqChancery_self _ _ _ _ xs0 z1 z2 _ hlen0 (Rd.of_own encRg_len (by decide) (own_below od0 hBc)) (Rd.of_own encRg_len (by decide) oc0)).mono ?_; rintro e w4 ⟨rfl, hBe⟩))
  have hB1 : Below W9.heap.size W9 w4 := stepB (stepB (Below.refl _ W9).drew hBc (Nat.le_refl _)) hBe hBc.size
  clear hBd hBc hBe od0 oc0
  have A0 := (hB1.cell (p := ⟨w.heap.size, 0, none⟩) hn0).trans A0
  have A1 := (hB1.cell (p := ⟨w.heap.size, 1, none⟩) hn0).trans A1
  have A2 := (hB1.cell (p := ⟨w.heap.size, 2, none⟩) hn0).trans A2
  have X0 := (hB1.cell (p := ⟨W6.heap.size, 0, none⟩) hn2).trans X0
  have X1 := (hB1.cell (p := ⟨W6.heap.size, 1, none⟩) hn2).trans X1
  have X2 := (hB1.cell (p := ⟨W6.heap.size, 2, none⟩) hn2).trans X2
  have hn0 := Nat.lt_of_lt_of_le hn0 hB1.size
  have hn2 := Nat.lt_of_lt_of_le hn2 hB1.size
  have ob0 := own_below ob0 hB1
  have obX1 := own_below obX1 hB1
  have ow := ow.below hB1
  have owc := Nat.le_trans owc hB1.size
  have og := og.below hB1
  have ogc := Nat.le_trans ogc hB1.size
  have hxx := Nat.le_trans hxx hB1.size
  have hxxX1 := Nat.le_trans hxxX1 hB1.size
  have hB := stepB hB hB1 hB.size
  clear hB1
  go_wp2_with fail
  refine (toClauseS_any aX1 capX1 xsX1 _ hlenX1 (hxX1.below hB)).mono ?_
  rintro e W10 ⟨gcX1, rfl, ocX1, hB1⟩
  have A0 := (hB1.cell (p := ⟨w.heap.size, 0, none⟩) hn0).trans A0
  have A1 := (hB1.cell (p := ⟨w.heap.size, 1, none⟩) hn0).trans A1
  have A2 := (hB1.cell (p := ⟨w.heap.size, 2, none⟩) hn0).trans A2
  have X0 := (hB1.cell (p := ⟨W6.heap.size, 0, none⟩) hn2).trans X0
  have X1 := (hB1.cell (p := ⟨W6.heap.size, 1, none⟩) hn2).trans X1
  have X2 := (hB1.cell (p := ⟨W6.heap.size, 2, none⟩) hn2).trans X2
  have hn0 := Nat.lt_of_lt_of_le hn0 hB1.size
  have hn2 := Nat.lt_of_lt_of_le hn2 hB1.size
  have ob0 := own_below ob0 hB1
  have obX1 := own_below obX1 hB1
  have ow := ow.below hB1
  have owc := Nat.le_trans owc hB1.size
  have og := og.below hB1
  have ogc := Nat.le_trans ogc hB1.size
  have hxx := Nat.le_trans hxx hB1.size
  have hxxX1 := Nat.le_trans hxxX1 hB1.size
  have hB := stepB hB hB1 hB.size
  clear hB1
  go_wp2_with fail
  refine (eqClauseS_self _ _ _ _ xsX1 _ (by omega) (Rd.of_own encCl_len (by decide) obX1) (Rd.of_own encCl_len (by decide) ocX1)).mono ?_
  rintro e W11 ⟨rfl, hB1⟩
  have A0 := (hB1.cell (p := ⟨w.heap.size, 0, none⟩) hn0).trans A0
  have A1 := (hB1.cell (p := ⟨w.heap.size, 1, none⟩) hn0).trans A1
  have A2 := (hB1.cell (p := ⟨w.heap.size, 2, none⟩) hn0).trans A2
  have X0 := (hB1.cell (p := ⟨W6.heap.size, 0, none⟩) hn2).trans X0
  have X1 := (hB1.cell (p := ⟨W6.heap.size, 1, none⟩) hn2).trans X1
  have X2 := (hB1.cell (p := ⟨W6.heap.size, 2, none⟩) hn2).trans X2
  have hn0 := Nat.lt_of_lt_of_le hn0 hB1.size
  have hn2 := Nat.lt_of_lt_of_le hn2 hB1.size
  have ob0 := own_below ob0 hB1
  have obX1 := own_below obX1 hB1
  have ocX1 := own_below ocX1 hB1
  have ow := ow.below hB1
  have owc := Nat.le_trans owc hB1.size
  have og := og.below hB1
  have ogc := Nat.le_trans ogc hB1.size
  have hxx := Nat.le_trans hxx hB1.size
  have hxxX1 := Nat.le_trans hxxX1 hB1.size
  have hB := stepB hB hB1 hB.size
  clear hB1
  clear ocX1
  go_wp2_with fail
  refine (markChancery_any _ _ _ _ _ _ _ 1 _ ob0 (by omega) (by omega) (by omega)).mono ?_
  rintro e W12 ⟨rfl, hG0⟩
  have ow := ow.kept hG0 (fun g e => .inr (by cases e; exact lo0))
  have og := og.kept hG0 (fun g e => .inl (by cases e; exact Nat.lt_of_lt_of_le hi0 xg))
  have A0 := (gcell hG0 (p := ⟨w.heap.size, 0, none⟩) hn0 (fun g e => by cases e; simp; omega)).trans A0
  have A1 := (gcell hG0 (p := ⟨w.heap.size, 1, none⟩) hn0 (fun g e => by cases e; simp; omega)).trans A1
  have A2 := (gcell hG0 (p := ⟨w.heap.size, 2, none⟩) hn0 (fun g e => by cases e; simp; omega)).trans A2
  have hB := hB.grown hG0 hB.size (fun g e => by cases e; exact Nat.le_of_lt lb0)
  have hle := hG0.size
  have obX1 := own_keepOther obX1 hG0 (Nat.ne_of_gt apX1_0)
  have hn0 := Nat.lt_of_lt_of_le hn0 hle
  have owc := Nat.le_trans owc hle
  have ogc := Nat.le_trans ogc hle
  clear hG0 hle hn2 hxx X0 X1 X2 ob0 lo0 hi0 lb0
  clear hxxX1
  go_wp2_with fail
  refine (markClauseS_any _ _ _ _ _ (1 + (xs0.length : Nat) * 3) _ obX1 (by omega) (by omega) (by omega)).mono ?_
  rintro e W13 ⟨rfl, hr, hG⟩
  have ow := ow.kept hG (fun g e => .inr (by cases e; exact loX1))
  have og := og.kept hG (fun g e => .inl (by cases e; exact Nat.lt_of_lt_of_le hiX1 xgX1))
  have A0 := (gcell hG (p := ⟨w.heap.size, 0, none⟩) hn0 (fun g e => by cases e; simp; omega)).trans A0
  have A1 := (gcell hG (p := ⟨w.heap.size, 1, none⟩) hn0 (fun g e => by cases e; simp; omega)).trans A1
  have A2 := (gcell hG (p := ⟨w.heap.size, 2, none⟩) hn0 (fun g e => by cases e; simp; omega)).trans A2
  have hB := hB.grown hG hB.size (fun g e => by cases e; exact Nat.le_of_lt lbX1)
  have hn0 := Nat.lt_of_lt_of_le hn0 hG.size
  have owc := Nat.le_trans owc hG.size
  have ogc := Nat.le_trans ogc hG.size
  clear hr hG obX1
  go_wp2_with fail
  refine (HE.out _ _ _ _ _ ((Rd.of_own encI_len (by decide) og.row)) ((Rd.of_own encI_len (by decide) ow.row))).mono ?_
  rintro e W14 ⟨rfl, hB1⟩
  have A0 := (hB1.cell (p := ⟨w.heap.size, 0, none⟩) hn0).trans A0
  have A1 := (hB1.cell (p := ⟨w.heap.size, 1, none⟩) hn0).trans A1
  have A2 := (hB1.cell (p := ⟨w.heap.size, 2, none⟩) hn0).trans A2
  have hn0 := Nat.lt_of_lt_of_le hn0 hB1.size
  have ow := ow.below hB1
  have owc := Nat.le_trans owc hB1.size
  have og := og.below hB1
  have ogc := Nat.le_trans ogc hB1.size
  have hB := stepB hB hB1 hB.size
  clear hB1
  go_wp2_with fail
  refine (markInt64S_any _ _ _ _ _ 1 _ og.row (by omega) (by omega) (by omega)).mono ?_
  rintro e W15 ⟨rfl, hr, hG⟩
  have ow := ow.kept hG (fun g e => .inr (Nat.le_trans wg (og.row.lt g e).1))
  have A0 := (gcell hG (p := ⟨w.heap.size, 0, none⟩) hn0 (fun g e => Nat.ne_of_lt (Nat.lt_of_lt_of_le ogb (og.row.lt g e).1))).trans A0
  have A1 := (gcell hG (p := ⟨w.heap.size, 1, none⟩) hn0 (fun g e => Nat.ne_of_lt (Nat.lt_of_lt_of_le ogb (og.row.lt g e).1))).trans A1
  have A2 := (gcell hG (p := ⟨w.heap.size, 2, none⟩) hn0 (fun g e => Nat.ne_of_lt (Nat.lt_of_lt_of_le ogb (og.row.lt g e).1))).trans A2
  have hB := hB.grown hG hB.size (fun g e => Nat.le_of_lt (Nat.lt_of_lt_of_le ogb (og.row.lt g e).1))
  have og := og.new hr
  have hn0 := Nat.lt_of_lt_of_le hn0 hG.size
  have owc := Nat.le_trans owc hG.size
  have ogc := Nat.le_trans ogc hG.size
  clear hr hG
  go_wp2_with fail
  refine (heldInt64S_any _ _ _ 1 _ ((Rd.of_own encI_len (by decide) og.row)) (by omega) (by omega) (by omega)).mono ?_
  rintro e W16 ⟨rfl, hB1⟩
  have A0 := (hB1.cell (p := ⟨w.heap.size, 0, none⟩) hn0).trans A0
  have A1 := (hB1.cell (p := ⟨w.heap.size, 1, none⟩) hn0).trans A1
  have A2 := (hB1.cell (p := ⟨w.heap.size, 2, none⟩) hn0).trans A2
  have hn0 := Nat.lt_of_lt_of_le hn0 hB1.size
  have ow := ow.below hB1
  have owc := Nat.le_trans owc hB1.size
  have og := og.below hB1
  have ogc := Nat.le_trans ogc hB1.size
  have hB := stepB hB hB1 hB.size
  clear hB1
  go_wp2_with fail
  refine (toChancery_any a0 cap0 xs0 z1 z2 _ hlen0 (hx0.below hB)).mono ?_
  rintro e W17 ⟨gd0, rfl, od0, hB1⟩
  have A0 := (hB1.cell (p := ⟨w.heap.size, 0, none⟩) hn0).trans A0
  have A1 := (hB1.cell (p := ⟨w.heap.size, 1, none⟩) hn0).trans A1
  have A2 := (hB1.cell (p := ⟨w.heap.size, 2, none⟩) hn0).trans A2
  have hn0 := Nat.lt_of_lt_of_le hn0 hB1.size
  have ow := ow.below hB1
  have owc := Nat.le_trans owc hB1.size
  have og := og.below hB1
  have ogc := Nat.le_trans ogc hB1.size
  have hB := stepB hB hB1 hB.size
  clear hB1
  go_wp2_with fail
  refine (toClauseS_any aX1 capX1 xsX1 _ hlenX1 (hxX1.below hB)).mono ?_
  rintro e W18 ⟨gdX1, rfl, odX1, hB1⟩
  have A0 := (hB1.cell (p := ⟨w.heap.size, 0, none⟩) hn0).trans A0
  have A1 := (hB1.cell (p := ⟨w.heap.size, 1, none⟩) hn0).trans A1
  have A2 := (hB1.cell (p := ⟨w.heap.size, 2, none⟩) hn0).trans A2
  have hn0 := Nat.lt_of_lt_of_le hn0 hB1.size
  have od0 := own_below od0 hB1
  have ow := ow.below hB1
  have owc := Nat.le_trans owc hB1.size
  have og := og.below hB1
  have ogc := Nat.le_trans ogc hB1.size
  have hB := stepB hB hB1 hB.size
  clear hB1
  go_wp2_with fail
  refine (HIM.out _ _ _ (Rd.of_own encRg_len (by decide) od0) (Rd.of_own encCl_len (by decide) odX1)).mono ?_
  rintro e W19 ⟨bh, ch, rfl, oh0, hB1⟩
  have ohb := hn0
  have A0 := (hB1.cell (p := ⟨w.heap.size, 0, none⟩) hn0).trans A0
  have A1 := (hB1.cell (p := ⟨w.heap.size, 1, none⟩) hn0).trans A1
  have A2 := (hB1.cell (p := ⟨w.heap.size, 2, none⟩) hn0).trans A2
  have hn0 := Nat.lt_of_lt_of_le hn0 hB1.size
  have od0 := own_below od0 hB1
  have odX1 := own_below odX1 hB1
  have ow := ow.below hB1
  have owc := Nat.le_trans owc hB1.size
  have og := og.below hB1
  have ogc := Nat.le_trans ogc hB1.size
  have hB := stepB hB hB1 hB.size
  clear hB1
  have oh := Own.of oh0
  have ohc := Nat.le_refl W19.heap.size
  clear oh0
  clear od0 odX1
  go_wp2_with fail
  refine (HE.out _ _ _ _ _ ((Rd.of_own encI_len (by decide) oh.row)) ((Rd.of_own encI_len (by decide) ow.row))).mono ?_
  rintro e W20 ⟨rfl, hB1⟩
  have A0 := (hB1.cell (p := ⟨w.heap.size, 0, none⟩) hn0).trans A0
  have A1 := (hB1.cell (p := ⟨w.heap.size, 1, none⟩) hn0).trans A1
  have A2 := (hB1.cell (p := ⟨w.heap.size, 2, none⟩) hn0).trans A2
  have hn0 := Nat.lt_of_lt_of_le hn0 hB1.size
  have ow := ow.below hB1
  have owc := Nat.le_trans owc hB1.size
  have og := og.below hB1
  have ogc := Nat.le_trans ogc hB1.size
  have oh := oh.below hB1
  have ohc := Nat.le_trans ohc hB1.size
  have hB := stepB hB hB1 hB.size
  clear hB1
  go_wp2_with fail
  refine (heldInt64S_any _ _ _ 1 _ ((Rd.of_own encI_len (by decide) og.row)) (by omega) (by omega) (by omega)).mono ?_
  rintro e W21 ⟨rfl, hB1⟩
  have A0 := (hB1.cell (p := ⟨w.heap.size, 0, none⟩) hn0).trans A0
  have A1 := (hB1.cell (p := ⟨w.heap.size, 1, none⟩) hn0).trans A1
  have A2 := (hB1.cell (p := ⟨w.heap.size, 2, none⟩) hn0).trans A2
  have hn0 := Nat.lt_of_lt_of_le hn0 hB1.size
  have ow := ow.below hB1
  have owc := Nat.le_trans owc hB1.size
  have og := og.below hB1
  have ogc := Nat.le_trans ogc hB1.size
  have oh := oh.below hB1
  have ohc := Nat.le_trans ohc hB1.size
  have hB := stepB hB hB1 hB.size
  clear hB1
  go_wp2
  go_ret
  exact ⟨rfl, hB⟩
end Go.Proofs.YtjklileooiepmaaGreatDoor
