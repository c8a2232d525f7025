/- Walk: the law FnExactAddStay. Printed by gen_law2.py. -/
import Derived.Test.YtipdcgfdejmjfaaDoorAddI
import Derived.Test.YtipdcgfdejmjfaaDoorCLand
import Derived.Test.YtipdcgfdejmjfaaDoorMSt
import Derived.Test.YtipdcgfdejmjfaaDoorHSt
namespace Go.Proofs.YtipdcgfdejmjfaaDoor
open Go.ChangeShapes Go.WideShapes Go.ChangeAt Go.RowKit

set_option maxRecDepth 100000 in
set_option maxHeartbeats 4000000 in
theorem lawAdd_any (a0 : Option Addr) (cap0 : Nat) (xs0 : List ByteArray) (a1 : Option Addr) (cap1 : Nat) (xs1 : List Wy) (aX1 : Option Addr) (capX1 : Nat) (xsX1 : List St) (y2 : St) (w : World) (hl0 : xs0.length ≤ maxLen) (hx0 : Rd encS w a0 xs0) (hs0 : ∀ m ∈ xs0, goodS m) (hl1 : xs1.length ≤ maxLen) (hx1 : Rd encWy w a1 xs1) (_hs1 : ∀ m ∈ xs1, goodWy m) (hlX1 : xsX1.length ≤ maxLen) (hxX1 : Rd encSt w aX1 xsX1) (_hsX1 : ∀ m ∈ xsX1, goodSt m) (_hy2 : goodSt y2) :
    Calls Tryd.prog 3 #[.agg #[.slice a0 xs0.length cap0, .slice a1 xs1.length cap1], .slice aX1 xsX1.length capX1, .agg #[.int .i64 y2.place, .int .i64 y2.fr, .int .i64 y2.to]] w fun e w' => e = .returned (.bool true) ∧ Below w.heap.size w w' := by
  have hsz := fun W (h0 : Rd encS W a0 xs0) (h1 : Rd encWy W a1 xs1) => szLand_any a0 cap0 xs0 a1 cap1 xs1 1048576 W (by omega) (by omega) hl0 h0 hs0 hl1
  have HSZ := Lib.hid hsz
  clear hsz
  by_cases hq : szLand xs0 xs1 1048576 < 0
  · have hq1 := hq
    go_enter Tryd.func3, Tryd.ntmps3
    go_wp2_with fail
    generalize hW : (w.alloc (.cells #[.slice a0 xs0.length cap0, .slice a1 xs1.length cap1] 25)).alloc (.cells #[.int .i64 y2.place, .int .i64 y2.fr, .int .i64 y2.to] 28) = W0
    have hB : Below w.heap.size w W0 := by rw [← hW]; go_grown
    have hn0 : w.heap.size < W0.heap.size := by rw [← hW]; simp; omega
    have hp0 : w.heap.size + 1 < W0.heap.size := by rw [← hW]; simp
    have A0 : W0.cell? ⟨w.heap.size, 0, none⟩ = some (.slice a0 xs0.length cap0) := by rw [← hW, World.cell?_alloc_past _ _ _ (by simp)]; exact World.cell?_alloc_at _ _ _ _ rfl
    have A1 : W0.cell? ⟨w.heap.size, 1, none⟩ = some (.slice a1 xs1.length cap1) := by rw [← hW, World.cell?_alloc_past _ _ _ (by simp)]; exact World.cell?_alloc_at _ _ _ _ rfl
    have P0 : W0.cell? ⟨w.heap.size + 1, 0, none⟩ = some (.int .i64 y2.place) := by rw [← hW]; exact World.cell?_alloc_at _ _ _ _ (by simp)
    have P1 : W0.cell? ⟨w.heap.size + 1, 1, none⟩ = some (.int .i64 y2.fr) := by rw [← hW]; exact World.cell?_alloc_at _ _ _ _ (by simp)
    have P2 : W0.cell? ⟨w.heap.size + 1, 2, none⟩ = some (.int .i64 y2.to) := by rw [← hW]; exact World.cell?_alloc_at _ _ _ _ (by simp)
    clear hW
    refine (HSZ.out _ (hx0.below hB) (hx1.below hB)).mono ?_
    rintro e w1 ⟨rfl, hB1⟩
    go_wp2
    go_ret
    exact ⟨rfl, stepB hB hB1 hB.size⟩
  have hok := szLand_ok hq
  have hq0 : ¬ szS ByteArray.size xs0 1048576 < 0 := hok.1
  obtain ⟨ho0, hn0⟩ := szS_ok (Int.not_lt.1 hq0)
  have hlen0 : xs0.length ≤ 1048576 := by omega
  have hsm0 : ∀ m ∈ xs0, ByteArray.size m ≤ 1048576 := fun m hm => by have h1 := le_sumS ByteArray.size hm; omega
  have hq1 : ¬ clip ((szS ByteArray.size xs0 1048576) - xs1.length) < 0 := hok.2
  have hlen1 : xs1.length ≤ 1048576 := by unfold clip at hq1; split at hq1 <;> omega
  have hle : szLand xs0 xs1 1048576 ≤ 1048576 := by unfold szLand; rw [if_neg hq0, if_neg hq1]; unfold clip; split <;> omega
  have hge : 0 ≤ szLand xs0 xs1 1048576 := Int.not_lt.1 hq
  have hszX1 := fun W (h : Rd encSt W aX1 xsX1) => szStayS_any aX1 capX1 xsX1 (szLand xs0 xs1 1048576) W (by omega) (by omega) hlX1
  have HSZX1 := Lib.hid hszX1
  clear hszX1
  by_cases hqX1 : clip (szLand xs0 xs1 1048576 - xsX1.length) < 0
  · have hq1' : 0 ≤ szLand xs0 xs1 1048576 := hge
    go_enter Tryd.func3, Tryd.ntmps3
    go_wp2_with fail
    generalize hW : (w.alloc (.cells #[.slice a0 xs0.length cap0, .slice a1 xs1.length cap1] 25)).alloc (.cells #[.int .i64 y2.place, .int .i64 y2.fr, .int .i64 y2.to] 28) = W0
    have hB : Below w.heap.size w W0 := by rw [← hW]; go_grown
    have hn0 : w.heap.size < W0.heap.size := by rw [← hW]; simp; omega
    have hp0 : w.heap.size + 1 < W0.heap.size := by rw [← hW]; simp
    have A0 : W0.cell? ⟨w.heap.size, 0, none⟩ = some (.slice a0 xs0.length cap0) := by rw [← hW, World.cell?_alloc_past _ _ _ (by simp)]; exact World.cell?_alloc_at _ _ _ _ rfl
    have A1 : W0.cell? ⟨w.heap.size, 1, none⟩ = some (.slice a1 xs1.length cap1) := by rw [← hW, World.cell?_alloc_past _ _ _ (by simp)]; exact World.cell?_alloc_at _ _ _ _ rfl
    have P0 : W0.cell? ⟨w.heap.size + 1, 0, none⟩ = some (.int .i64 y2.place) := by rw [← hW]; exact World.cell?_alloc_at _ _ _ _ (by simp)
    have P1 : W0.cell? ⟨w.heap.size + 1, 1, none⟩ = some (.int .i64 y2.fr) := by rw [← hW]; exact World.cell?_alloc_at _ _ _ _ (by simp)
    have P2 : W0.cell? ⟨w.heap.size + 1, 2, none⟩ = some (.int .i64 y2.to) := by rw [← hW]; exact World.cell?_alloc_at _ _ _ _ (by simp)
    clear hW
    refine (HSZ.out _ (hx0.below hB) (hx1.below hB)).mono ?_
    rintro e w1 ⟨rfl, hB1⟩
    have hB := stepB hB hB1 hB.size
    go_wp2_with fail
    refine (HSZX1.out _ (hxX1.below hB)).mono ?_
    rintro e w2 ⟨rfl, hB2⟩
    have hB := stepB hB hB2 hB.size
    go_wp2
    go_ret
    exact ⟨rfl, hB⟩
  have hlenX1 : xsX1.length ≤ 1048576 := by unfold clip at hqX1; split at hqX1 <;> omega
  have hleX1 : clip (szLand xs0 xs1 1048576 - xsX1.length) ≤ 1048576 := by unfold clip; split <;> omega
  have hqX1 : 0 ≤ clip (szLand xs0 xs1 1048576 - xsX1.length) := Int.not_lt.1 hqX1
  clear hleX1
  clear ho0 hn0 hok hq0 hq1
  have hq1 : 0 ≤ szLand xs0 xs1 1048576 := Int.not_lt.1 hq
  have HSP := Lib.hid (fun (A0 : Option Addr) (A1 : Option Addr) (AX1 : Nat) W (h0 : Rd encS W A0 xs0) (h1 : Rd encWy W A1 xs1) (hX1 : Rd encSt W (some ⟨AX1, 0, none⟩) xsX1) => specAdd_any A0 A1 AX1 xs0.length xs1.length xsX1.length xs0 xs1 xsX1 y2 W (Nat.le_refl _) (Nat.le_trans hlen0 (by decide)) hlen0 h0 hsm0 hlen1 h1 hlenX1 hX1 (Nat.le_refl _))
  have HIM := Lib.hid (fun (A0 : Option Addr) (A1 : Option Addr) (AX1 : Nat) W (h0 : Rd encS W A0 xs0) (h1 : Rd encWy W A1 xs1) (hX1 : Rd encSt W (some ⟨AX1, 0, none⟩) xsX1) => implAdd_any A0 A1 AX1 xs0.length xs1.length xsX1.length xs0 xs1 xsX1 y2 W (Nat.le_refl _) (Nat.le_trans hlen0 (by decide)) hlen0 h0 hsm0 hlen1 h1 hlenX1 hX1)
  have hlR : (addR xs0 xs1 xsX1 y2).1.length ≤ 1048576 := Nat.le_trans (addR_len xs0 xs1 xsX1 y2) (by decide)
  generalize addR xs0 xs1 xsX1 y2 = R at HSP HIM hlR
  obtain ⟨ys, q⟩ := R
  simp only at HSP HIM hlR
  have HE := Lib.hid (fun (A B : Option Addr) (C D : Nat) W (h1 : Rd encSt W A ys) (h2 : Rd encSt W B ys) => eqStayS_self A B C D ys W (by omega) h1 h2)
  have hqq : (q != q) = false := by simp
  go_enter Tryd.func3, Tryd.ntmps3
  go_wp2_with fail
  generalize hW : (w.alloc (.cells #[.slice a0 xs0.length cap0, .slice a1 xs1.length cap1] 25)).alloc (.cells #[.int .i64 y2.place, .int .i64 y2.fr, .int .i64 y2.to] 28) = W0
  have hB : Below w.heap.size w W0 := by rw [← hW]; go_grown
  have hn0 : w.heap.size < W0.heap.size := by rw [← hW]; simp; omega
  have hp0 : w.heap.size + 1 < W0.heap.size := by rw [← hW]; simp
  have A0 : W0.cell? ⟨w.heap.size, 0, none⟩ = some (.slice a0 xs0.length cap0) := by rw [← hW, World.cell?_alloc_past _ _ _ (by simp)]; exact World.cell?_alloc_at _ _ _ _ rfl
  have A1 : W0.cell? ⟨w.heap.size, 1, none⟩ = some (.slice a1 xs1.length cap1) := by rw [← hW, World.cell?_alloc_past _ _ _ (by simp)]; exact World.cell?_alloc_at _ _ _ _ rfl
  have P0 : W0.cell? ⟨w.heap.size + 1, 0, none⟩ = some (.int .i64 y2.place) := by rw [← hW]; exact World.cell?_alloc_at _ _ _ _ (by simp)
  have P1 : W0.cell? ⟨w.heap.size + 1, 1, none⟩ = some (.int .i64 y2.fr) := by rw [← hW]; exact World.cell?_alloc_at _ _ _ _ (by simp)
  have P2 : W0.cell? ⟨w.heap.size + 1, 2, none⟩ = some (.int .i64 y2.to) := by rw [← hW]; exact World.cell?_alloc_at _ _ _ _ (by simp)
  clear hW
  refine (HSZ.out _ (hx0.below hB) (hx1.below hB)).mono ?_
  rintro e W1 ⟨rfl, hB1⟩
  have A0 := (hB1.cell (p := ⟨w.heap.size, 0, none⟩) hn0).trans A0
  have A1 := (hB1.cell (p := ⟨w.heap.size, 1, none⟩) hn0).trans A1
  have P0 := (hB1.cell (p := ⟨w.heap.size + 1, 0, none⟩) hp0).trans P0
  have P1 := (hB1.cell (p := ⟨w.heap.size + 1, 1, none⟩) hp0).trans P1
  have P2 := (hB1.cell (p := ⟨w.heap.size + 1, 2, none⟩) hp0).trans P2
  have hn0 := Nat.lt_of_lt_of_le hn0 hB1.size
  have hp0 := Nat.lt_of_lt_of_le hp0 hB1.size
  have hB := stepB hB hB1 hB.size
  clear hB1
  go_wp2_with fail
  refine (HSZX1.out _ (hxX1.below hB)).mono ?_
  rintro e W2 ⟨rfl, hB1⟩
  have A0 := (hB1.cell (p := ⟨w.heap.size, 0, none⟩) hn0).trans A0
  have A1 := (hB1.cell (p := ⟨w.heap.size, 1, none⟩) hn0).trans A1
  have P0 := (hB1.cell (p := ⟨w.heap.size + 1, 0, none⟩) hp0).trans P0
  have P1 := (hB1.cell (p := ⟨w.heap.size + 1, 1, none⟩) hp0).trans P1
  have P2 := (hB1.cell (p := ⟨w.heap.size + 1, 2, none⟩) hp0).trans P2
  have hn0 := Nat.lt_of_lt_of_le hn0 hB1.size
  have hp0 := Nat.lt_of_lt_of_le hp0 hB1.size
  have hB := stepB hB hB1 hB.size
  clear hB1
  clear hle hge
  go_wp2_with fail
  have HK : Hid (∀ U : World, Below W2.heap.size W2 U → U.cell? ⟨w.heap.size, 0, none⟩ = some (.slice a0 xs0.length cap0) ∧ U.cell? ⟨w.heap.size, 1, none⟩ = some (.slice a1 xs1.length cap1) ∧ U.cell? ⟨w.heap.size + 1, 0, none⟩ = some (.int .i64 y2.place) ∧ U.cell? ⟨w.heap.size + 1, 1, none⟩ = some (.int .i64 y2.fr) ∧ U.cell? ⟨w.heap.size + 1, 2, none⟩ = some (.int .i64 y2.to)) := fun U hU => ⟨(hU.cell (p := ⟨w.heap.size, 0, none⟩) hn0).trans A0, (hU.cell (p := ⟨w.heap.size, 1, none⟩) hn0).trans A1, (hU.cell (p := ⟨w.heap.size + 1, 0, none⟩) hp0).trans P0, (hU.cell (p := ⟨w.heap.size + 1, 1, none⟩) hp0).trans P1, (hU.cell (p := ⟨w.heap.size + 1, 2, none⟩) hp0).trans P2⟩
  have hK0 : Below W2.heap.size W2 W2.drew := (Below.refl _ _).drew
  have hS0 := HK.out _ hK0
  go_region_held3 (fun w' => w'.cell? ⟨w.heap.size, 0, none⟩ = some (.slice a0 xs0.length cap0) ∧ w'.cell? ⟨w.heap.size, 1, none⟩ = some (.slice a1 xs1.length cap1) ∧ w'.cell? ⟨w.heap.size + 1, 0, none⟩ = some (.int .i64 y2.place) ∧ w'.cell? ⟨w.heap.size + 1, 1, none⟩ = some (.int .i64 y2.fr) ∧ w'.cell? ⟨w.heap.size + 1, 2, none⟩ = some (.int .i64 y2.to))
    (first | go_keep | (exact hS1) | (exact hS2) | (exact hS3) | (exact hS4))
    (first | (go_at_call 8; refine (toLand_any a0 cap0 xs0 a1 cap1 xs1 _ hlen0 (hx0.below (stepB hB hK0 hB.size)) hlen1 (hx1.below (stepB hB hK0 hB.size))).mono ?_; rintro e u1 ⟨ga0, ga1, rfl, oa0, oa1, hQ1⟩; have hK1 := stepB hK0 hQ1 (Nat.le_refl _); have hS1 := HK.out _ hK1) | (go_at_call 9; refine (toStayS_any aX1 capX1 xsX1 _ hlenX1 (hxX1.below (stepB hB hK1 hB.size))).mono ?_; rintro e u2 ⟨gaX1, rfl, oaX1, hQ2⟩; have hK2 := stepB hK1 hQ2 hK1.size; have hS2 := HK.out _ hK2) | (go_at_call 10; refine (toStay_any _ _).mono ?_; rintro e u3 ⟨rfl, hQ3⟩; have hK3 := stepB hK2 hQ3 hK2.size; have hS3 := HK.out _ hK3) | (go_at_call 7; refine (HSP.out _ _ _ _ (Rd.of_own encS_len (by decide) (own_below (own_below oa0 hQ2) hQ3)) (Rd.of_own encWy_len (by decide) (own_below (own_below oa1 hQ2) hQ3)) (Rd.of_own encSt_len (by decide) (own_below oaX1 hQ3))).mono ?_; rintro e u4 ⟨bw, cw, rfl, ow0, hQ4⟩; have hK4 := stepB hK3 hQ4 hK3.size; have hS4 := HK.out _ hK4))
  have owb := Nat.lt_of_lt_of_le hn0 hK3.size
  have owp := Nat.lt_of_lt_of_le hp0 hK3.size
  have hB1 := hK4
  clear HK hS0 hK1 hS1 hK2 hS2 hK3 hS3 hK4 hS4 hK0
  have ow := Own.of ow0
  clear ow0
  have A0 := (hB1.cell (p := ⟨w.heap.size, 0, none⟩) hn0).trans A0
  have A1 := (hB1.cell (p := ⟨w.heap.size, 1, none⟩) hn0).trans A1
  have P0 := (hB1.cell (p := ⟨w.heap.size + 1, 0, none⟩) hp0).trans P0
  have P1 := (hB1.cell (p := ⟨w.heap.size + 1, 1, none⟩) hp0).trans P1
  have P2 := (hB1.cell (p := ⟨w.heap.size + 1, 2, none⟩) hp0).trans P2
  have hn0 := Nat.lt_of_lt_of_le hn0 hB1.size
  have hp0 := Nat.lt_of_lt_of_le hp0 hB1.size
  have hB := stepB hB hB1 hB.size
  clear hB1
  have owc := Nat.le_refl u4.heap.size
  clear hQ1 hQ2 hQ3 hQ4 oa0 oa1 oaX1
  go_wp2_with fail
  refine (toLand_any a0 cap0 xs0 a1 cap1 xs1 _ hlen0 (hx0.below hB) hlen1 (hx1.below hB)).mono ?_
  rintro e W3 ⟨gb0, gb1, rfl, ob0, ob1, hB1⟩
  have lo0 := Nat.le_trans owc (own_lt ob0).1
  have hi0 := (own_lt ob0).2
  have lb0 := Nat.lt_of_lt_of_le hn0 (own_lt ob0).1
  have lp0 := Nat.lt_of_lt_of_le hp0 (own_lt ob0).1
  have lo1 := Nat.le_trans owc (own_lt ob1).1
  have hi1 := (own_lt ob1).2
  have lb1 := Nat.lt_of_lt_of_le hn0 (own_lt ob1).1
  have lp1 := Nat.lt_of_lt_of_le hp0 (own_lt ob1).1
  have A0 := (hB1.cell (p := ⟨w.heap.size, 0, none⟩) hn0).trans A0
  have A1 := (hB1.cell (p := ⟨w.heap.size, 1, none⟩) hn0).trans A1
  have P0 := (hB1.cell (p := ⟨w.heap.size + 1, 0, none⟩) hp0).trans P0
  have P1 := (hB1.cell (p := ⟨w.heap.size + 1, 1, none⟩) hp0).trans P1
  have P2 := (hB1.cell (p := ⟨w.heap.size + 1, 2, none⟩) hp0).trans P2
  have hn0 := Nat.lt_of_lt_of_le hn0 hB1.size
  have hp0 := Nat.lt_of_lt_of_le hp0 hB1.size
  have ow := ow.below hB1
  have owc := Nat.le_trans owc hB1.size
  have hB := stepB hB hB1 hB.size
  clear hB1
  have hxx := Nat.le_refl W3.heap.size
  go_wp2_with fail
  generalize hW : W3.alloc (.cells #[.slice (some ⟨gb0, 0, none⟩) xs0.length xs0.length, .slice (some ⟨gb1, 0, none⟩) xs1.length xs1.length] 36) = WB
  have hB1 : Below W3.heap.size W3 WB := by rw [← hW]; go_grown
  have hn2 : W3.heap.size < WB.heap.size := by rw [← hW]; simp
  have X0 : WB.cell? ⟨W3.heap.size, 0, none⟩ = some (.slice (some ⟨gb0, 0, none⟩) xs0.length xs0.length) := by rw [← hW]; exact World.cell?_alloc_at _ _ _ _ rfl
  have X1 : WB.cell? ⟨W3.heap.size, 1, none⟩ = some (.slice (some ⟨gb1, 0, none⟩) xs1.length xs1.length) := by rw [← hW]; exact World.cell?_alloc_at _ _ _ _ rfl
  clear hW
  have A0 := (hB1.cell (p := ⟨w.heap.size, 0, none⟩) hn0).trans A0
  have A1 := (hB1.cell (p := ⟨w.heap.size, 1, none⟩) hn0).trans A1
  have P0 := (hB1.cell (p := ⟨w.heap.size + 1, 0, none⟩) hp0).trans P0
  have P1 := (hB1.cell (p := ⟨w.heap.size + 1, 1, none⟩) hp0).trans P1
  have P2 := (hB1.cell (p := ⟨w.heap.size + 1, 2, none⟩) hp0).trans P2
  have hn0 := Nat.lt_of_lt_of_le hn0 hB1.size
  have hp0 := Nat.lt_of_lt_of_le hp0 hB1.size
  have ob0 := own_below ob0 hB1
  have ob1 := own_below ob1 hB1
  have ow := ow.below hB1
  have owc := Nat.le_trans owc hB1.size
  have hxx := Nat.le_trans hxx hB1.size
  have hB := stepB hB hB1 hB.size
  clear hB1
  refine (toStayS_any aX1 capX1 xsX1 _ hlenX1 (hxX1.below hB)).mono ?_
  rintro e W4 ⟨gbX1, rfl, obX1, hB1⟩
  have loX1 := Nat.le_trans owc (own_lt obX1).1
  have hiX1 := (own_lt obX1).2
  have lbX1 := Nat.lt_of_lt_of_le hn0 (own_lt obX1).1
  have lpX1 := Nat.lt_of_lt_of_le hp0 (own_lt obX1).1
  have apX1_0 := Nat.lt_of_lt_of_le hi0 (Nat.le_trans hxx (own_lt obX1).1)
  have apX1_1 := Nat.lt_of_lt_of_le hi1 (Nat.le_trans hxx (own_lt obX1).1)
  have A0 := (hB1.cell (p := ⟨w.heap.size, 0, none⟩) hn0).trans A0
  have A1 := (hB1.cell (p := ⟨w.heap.size, 1, none⟩) hn0).trans A1
  have P0 := (hB1.cell (p := ⟨w.heap.size + 1, 0, none⟩) hp0).trans P0
  have P1 := (hB1.cell (p := ⟨w.heap.size + 1, 1, none⟩) hp0).trans P1
  have P2 := (hB1.cell (p := ⟨w.heap.size + 1, 2, none⟩) hp0).trans P2
  have X0 := (hB1.cell (p := ⟨W3.heap.size, 0, none⟩) hn2).trans X0
  have X1 := (hB1.cell (p := ⟨W3.heap.size, 1, none⟩) hn2).trans X1
  have hn0 := Nat.lt_of_lt_of_le hn0 hB1.size
  have hp0 := Nat.lt_of_lt_of_le hp0 hB1.size
  have hn2 := Nat.lt_of_lt_of_le hn2 hB1.size
  have ob0 := own_below ob0 hB1
  have ob1 := own_below ob1 hB1
  have ow := ow.below hB1
  have owc := Nat.le_trans owc hB1.size
  have hxx := Nat.le_trans hxx hB1.size
  have hB := stepB hB hB1 hB.size
  clear hB1
  have hxxX1 := Nat.le_refl W4.heap.size
  go_wp2_with fail
  have HK : Hid (∀ U : World, Below W4.heap.size W4 U → U.cell? ⟨w.heap.size + 1, 0, none⟩ = some (.int .i64 y2.place) ∧ U.cell? ⟨w.heap.size + 1, 1, none⟩ = some (.int .i64 y2.fr) ∧ U.cell? ⟨w.heap.size + 1, 2, none⟩ = some (.int .i64 y2.to) ∧ U.cell? ⟨W3.heap.size, 0, none⟩ = some (.slice (some ⟨gb0, 0, none⟩) xs0.length xs0.length) ∧ U.cell? ⟨W3.heap.size, 1, none⟩ = some (.slice (some ⟨gb1, 0, none⟩) xs1.length xs1.length)) := fun U hU => ⟨(hU.cell (p := ⟨w.heap.size + 1, 0, none⟩) hp0).trans P0, (hU.cell (p := ⟨w.heap.size + 1, 1, none⟩) hp0).trans P1, (hU.cell (p := ⟨w.heap.size + 1, 2, none⟩) hp0).trans P2, (hU.cell (p := ⟨W3.heap.size, 0, none⟩) hn2).trans X0, (hU.cell (p := ⟨W3.heap.size, 1, none⟩) hn2).trans X1⟩
  have hK0 : Below W4.heap.size W4 W4.drew := (Below.refl _ _).drew
  have hS0 := HK.out _ hK0
  go_region_held3 (fun w' => w'.cell? ⟨w.heap.size + 1, 0, none⟩ = some (.int .i64 y2.place) ∧ w'.cell? ⟨w.heap.size + 1, 1, none⟩ = some (.int .i64 y2.fr) ∧ w'.cell? ⟨w.heap.size + 1, 2, none⟩ = some (.int .i64 y2.to) ∧ w'.cell? ⟨W3.heap.size, 0, none⟩ = some (.slice (some ⟨gb0, 0, none⟩) xs0.length xs0.length) ∧ w'.cell? ⟨W3.heap.size, 1, none⟩ = some (.slice (some ⟨gb1, 0, none⟩) xs1.length xs1.length))
    (first | go_keep | (exact hS1) | (exact hS2))
    (first | (go_at_call 10; refine (toStay_any _ _).mono ?_; rintro e u1 ⟨rfl, hQ1⟩; have hK1 := stepB hK0 hQ1 hK0.size; have hS1 := HK.out _ hK1) | (go_at_call 11; refine (HIM.out _ _ _ _ (Rd.of_own encS_len (by decide) (own_below (own_below ob0 hK0) hQ1)) (Rd.of_own encWy_len (by decide) (own_below (own_below ob1 hK0) hQ1)) (Rd.of_own encSt_len (by decide) (own_below (own_below obX1 hK0) hQ1))).mono ?_; rintro e u2 ⟨bg, cg, rfl, og0, hQ2⟩; have hK2 := stepB hK1 hQ2 hK1.size; have hS2 := HK.out _ hK2))
  have ogb := Nat.lt_of_lt_of_le hn0 hK1.size
  have ogp := Nat.lt_of_lt_of_le hp0 hK1.size
  have xg := Nat.le_trans hxx hK1.size
  have wg := Nat.le_trans owc hK1.size
  have xgX1 := Nat.le_trans hxxX1 hK1.size
  have hB1 := hK2
  clear HK hS0 hK1 hS1 hK2 hS2 hK0
  have og := Own.of og0
  clear og0
  have A0 := (hB1.cell (p := ⟨w.heap.size, 0, none⟩) hn0).trans A0
  have A1 := (hB1.cell (p := ⟨w.heap.size, 1, none⟩) hn0).trans A1
  have P0 := (hB1.cell (p := ⟨w.heap.size + 1, 0, none⟩) hp0).trans P0
  have P1 := (hB1.cell (p := ⟨w.heap.size + 1, 1, none⟩) hp0).trans P1
  have P2 := (hB1.cell (p := ⟨w.heap.size + 1, 2, none⟩) hp0).trans P2
  have X0 := (hB1.cell (p := ⟨W3.heap.size, 0, none⟩) hn2).trans X0
  have X1 := (hB1.cell (p := ⟨W3.heap.size, 1, none⟩) hn2).trans X1
  have hn0 := Nat.lt_of_lt_of_le hn0 hB1.size
  have hp0 := Nat.lt_of_lt_of_le hp0 hB1.size
  have hn2 := Nat.lt_of_lt_of_le hn2 hB1.size
  have ob0 := own_below ob0 hB1
  have ob1 := own_below ob1 hB1
  have obX1 := own_below obX1 hB1
  have ow := ow.below hB1
  have owc := Nat.le_trans owc hB1.size
  have hxx := Nat.le_trans hxx hB1.size
  have hxxX1 := Nat.le_trans hxxX1 hB1.size
  have hB := stepB hB hB1 hB.size
  clear hB1
  have ogc := Nat.le_refl u2.heap.size
  clear hQ1 hQ2
  go_wp2_with fail
  refine (HE.out _ _ _ _ _ ((Rd.of_own encSt_len (by decide) og.row)) ((Rd.of_own encSt_len (by decide) ow.row))).mono ?_
  rintro e W5 ⟨rfl, hB1⟩
  have A0 := (hB1.cell (p := ⟨w.heap.size, 0, none⟩) hn0).trans A0
  have A1 := (hB1.cell (p := ⟨w.heap.size, 1, none⟩) hn0).trans A1
  have P0 := (hB1.cell (p := ⟨w.heap.size + 1, 0, none⟩) hp0).trans P0
  have P1 := (hB1.cell (p := ⟨w.heap.size + 1, 1, none⟩) hp0).trans P1
  have P2 := (hB1.cell (p := ⟨w.heap.size + 1, 2, none⟩) hp0).trans P2
  have X0 := (hB1.cell (p := ⟨W3.heap.size, 0, none⟩) hn2).trans X0
  have X1 := (hB1.cell (p := ⟨W3.heap.size, 1, none⟩) hn2).trans X1
  have hn0 := Nat.lt_of_lt_of_le hn0 hB1.size
  have hp0 := Nat.lt_of_lt_of_le hp0 hB1.size
  have hn2 := Nat.lt_of_lt_of_le hn2 hB1.size
  have ob0 := own_below ob0 hB1
  have ob1 := own_below ob1 hB1
  have obX1 := own_below obX1 hB1
  have ow := ow.below hB1
  have owc := Nat.le_trans owc hB1.size
  have og := og.below hB1
  have ogc := Nat.le_trans ogc hB1.size
  have hxx := Nat.le_trans hxx hB1.size
  have hxxX1 := Nat.le_trans hxxX1 hB1.size
  have hB := stepB hB hB1 hB.size
  clear hB1
  go_wp2_with fail
  have hBd : Below w.heap.size w W5.drew := hB.drew
  have od0 : W5.drew.ownsRow _ _ _ _ _ _ := ob0.drew
  have od1 : W5.drew.ownsRow _ _ _ _ _ _ := ob1.drew
  go_region_held3 (fun w' => w'.cell? ⟨w.heap.size, 0, none⟩ = some (.slice a0 xs0.length cap0) ∧ w'.cell? ⟨w.heap.size, 1, none⟩ = some (.slice a1 xs1.length cap1) ∧ w'.cell? ⟨w.heap.size + 1, 0, none⟩ = some (.int .i64 y2.place) ∧ w'.cell? ⟨w.heap.size + 1, 1, none⟩ = some (.int .i64 y2.fr) ∧ w'.cell? ⟨w.heap.size + 1, 2, none⟩ = some (.int .i64 y2.to) ∧ w'.cell? ⟨W3.heap.size, 0, none⟩ = some (.slice (some ⟨gb0, 0, none⟩) xs0.length xs0.length) ∧ w'.cell? ⟨W3.heap.size, 1, none⟩ = some (.slice (some ⟨gb1, 0, none⟩) xs1.length xs1.length))
    (first | go_keep | (exact ⟨(hBc.cell (p := ⟨w.heap.size, 0, none⟩) hn0).trans A0, (hBc.cell (p := ⟨w.heap.size, 1, none⟩) hn0).trans A1, (hBc.cell (p := ⟨w.heap.size + 1, 0, none⟩) hp0).trans P0, (hBc.cell (p := ⟨w.heap.size + 1, 1, none⟩) hp0).trans P1, (hBc.cell (p := ⟨w.heap.size + 1, 2, none⟩) hp0).trans P2, (hBc.cell (p := ⟨W3.heap.size, 0, none⟩) hn2).trans X0, (hBc.cell (p := ⟨W3.heap.size, 1, none⟩) hn2).trans X1⟩) | (exact ⟨(hBe.cell (p := ⟨w.heap.size, 0, none⟩) (Nat.lt_of_lt_of_le hn0 hBc.size)).trans ((hBc.cell (p := ⟨w.heap.size, 0, none⟩) hn0).trans A0), (hBe.cell (p := ⟨w.heap.size, 1, none⟩) (Nat.lt_of_lt_of_le hn0 hBc.size)).trans ((hBc.cell (p := ⟨w.heap.size, 1, none⟩) hn0).trans A1), (hBe.cell (p := ⟨w.heap.size + 1, 0, none⟩) (Nat.lt_of_lt_of_le hp0 hBc.size)).trans ((hBc.cell (p := ⟨w.heap.size + 1, 0, none⟩) hp0).trans P0), (hBe.cell (p := ⟨w.heap.size + 1, 1, none⟩) (Nat.lt_of_lt_of_le hp0 hBc.size)).trans ((hBc.cell (p := ⟨w.heap.size + 1, 1, none⟩) hp0).trans P1), (hBe.cell (p := ⟨w.heap.size + 1, 2, none⟩) (Nat.lt_of_lt_of_le hp0 hBc.size)).trans ((hBc.cell (p := ⟨w.heap.size + 1, 2, none⟩) hp0).trans P2), (hBe.cell (p := ⟨W3.heap.size, 0, none⟩) (Nat.lt_of_lt_of_le hn2 hBc.size)).trans ((hBc.cell (p := ⟨W3.heap.size, 0, none⟩) hn2).trans X0), (hBe.cell (p := ⟨W3.heap.size, 1, none⟩) (Nat.lt_of_lt_of_le hn2 hBc.size)).trans ((hBc.cell (p := ⟨W3.heap.size, 1, none⟩) hn2).trans X1)⟩))
    (first | (go_at_call 8; refine (toLand_any a0 cap0 xs0 a1 cap1 xs1 _ hlen0 (hx0.below hBd) hlen1 (hx1.below hBd)).mono ?_; rintro e w3 ⟨gc0, gc1, rfl, oc0, oc1, hBc⟩) | (go_at_call 13; refine (eqLand_self _ _ _ _ xs0 _ _ _ _ xs1 _ hlen0 (Rd.of_own encS_len (by decide) (own_below od0 hBc)) (Rd.of_own encS_len (by decide) oc0) hlen1 (Rd.of_own encWy_len (by decide) (own_below od1 hBc)) (Rd.of_own encWy_len (by decide) oc1)).mono ?_; rintro e w4 ⟨rfl, hBe⟩))
  have hB1 : Below W5.heap.size W5 w4 := stepB (stepB (Below.refl _ W5).drew hBc (Nat.le_refl _)) hBe hBc.size
  clear hBd hBc hBe od0 oc0 od1 oc1
  have A0 := (hB1.cell (p := ⟨w.heap.size, 0, none⟩) hn0).trans A0
  have A1 := (hB1.cell (p := ⟨w.heap.size, 1, none⟩) hn0).trans A1
  have P0 := (hB1.cell (p := ⟨w.heap.size + 1, 0, none⟩) hp0).trans P0
  have P1 := (hB1.cell (p := ⟨w.heap.size + 1, 1, none⟩) hp0).trans P1
  have P2 := (hB1.cell (p := ⟨w.heap.size + 1, 2, none⟩) hp0).trans P2
  have X0 := (hB1.cell (p := ⟨W3.heap.size, 0, none⟩) hn2).trans X0
  have X1 := (hB1.cell (p := ⟨W3.heap.size, 1, none⟩) hn2).trans X1
  have hn0 := Nat.lt_of_lt_of_le hn0 hB1.size
  have hp0 := Nat.lt_of_lt_of_le hp0 hB1.size
  have hn2 := Nat.lt_of_lt_of_le hn2 hB1.size
  have ob0 := own_below ob0 hB1
  have ob1 := own_below ob1 hB1
  have obX1 := own_below obX1 hB1
  have ow := ow.below hB1
  have owc := Nat.le_trans owc hB1.size
  have og := og.below hB1
  have ogc := Nat.le_trans ogc hB1.size
  have hxx := Nat.le_trans hxx hB1.size
  have hxxX1 := Nat.le_trans hxxX1 hB1.size
  have hB := stepB hB hB1 hB.size
  clear hB1
  go_wp2_with fail
  refine (toStayS_any aX1 capX1 xsX1 _ hlenX1 (hxX1.below hB)).mono ?_
  rintro e W6 ⟨gcX1, rfl, ocX1, hB1⟩
  have A0 := (hB1.cell (p := ⟨w.heap.size, 0, none⟩) hn0).trans A0
  have A1 := (hB1.cell (p := ⟨w.heap.size, 1, none⟩) hn0).trans A1
  have P0 := (hB1.cell (p := ⟨w.heap.size + 1, 0, none⟩) hp0).trans P0
  have P1 := (hB1.cell (p := ⟨w.heap.size + 1, 1, none⟩) hp0).trans P1
  have P2 := (hB1.cell (p := ⟨w.heap.size + 1, 2, none⟩) hp0).trans P2
  have X0 := (hB1.cell (p := ⟨W3.heap.size, 0, none⟩) hn2).trans X0
  have X1 := (hB1.cell (p := ⟨W3.heap.size, 1, none⟩) hn2).trans X1
  have hn0 := Nat.lt_of_lt_of_le hn0 hB1.size
  have hp0 := Nat.lt_of_lt_of_le hp0 hB1.size
  have hn2 := Nat.lt_of_lt_of_le hn2 hB1.size
  have ob0 := own_below ob0 hB1
  have ob1 := own_below ob1 hB1
  have obX1 := own_below obX1 hB1
  have ow := ow.below hB1
  have owc := Nat.le_trans owc hB1.size
  have og := og.below hB1
  have ogc := Nat.le_trans ogc hB1.size
  have hxx := Nat.le_trans hxx hB1.size
  have hxxX1 := Nat.le_trans hxxX1 hB1.size
  have hB := stepB hB hB1 hB.size
  clear hB1
  go_wp2_with fail
  refine (eqStayS_self _ _ _ _ xsX1 _ (by omega) (Rd.of_own encSt_len (by decide) obX1) (Rd.of_own encSt_len (by decide) ocX1)).mono ?_
  rintro e W7 ⟨rfl, hB1⟩
  have A0 := (hB1.cell (p := ⟨w.heap.size, 0, none⟩) hn0).trans A0
  have A1 := (hB1.cell (p := ⟨w.heap.size, 1, none⟩) hn0).trans A1
  have P0 := (hB1.cell (p := ⟨w.heap.size + 1, 0, none⟩) hp0).trans P0
  have P1 := (hB1.cell (p := ⟨w.heap.size + 1, 1, none⟩) hp0).trans P1
  have P2 := (hB1.cell (p := ⟨w.heap.size + 1, 2, none⟩) hp0).trans P2
  have X0 := (hB1.cell (p := ⟨W3.heap.size, 0, none⟩) hn2).trans X0
  have X1 := (hB1.cell (p := ⟨W3.heap.size, 1, none⟩) hn2).trans X1
  have hn0 := Nat.lt_of_lt_of_le hn0 hB1.size
  have hp0 := Nat.lt_of_lt_of_le hp0 hB1.size
  have hn2 := Nat.lt_of_lt_of_le hn2 hB1.size
  have ob0 := own_below ob0 hB1
  have ob1 := own_below ob1 hB1
  have obX1 := own_below obX1 hB1
  have ocX1 := own_below ocX1 hB1
  have ow := ow.below hB1
  have owc := Nat.le_trans owc hB1.size
  have og := og.below hB1
  have ogc := Nat.le_trans ogc hB1.size
  have hxx := Nat.le_trans hxx hB1.size
  have hxxX1 := Nat.le_trans hxxX1 hB1.size
  have hB := stepB hB hB1 hB.size
  clear hB1
  clear ocX1
  go_wp2_with fail
  refine (markLand_any _ _ _ _ _ _ _ _ _ _ 1 _ ob0 ob1 (by omega) (by omega) (by omega) (by omega)).mono ?_
  rintro e W8 ⟨rfl, Wm, hG0, hG1⟩
  have ow := (ow.kept hG0 (fun g e => .inr (by cases e; exact lo0))).kept hG1 (fun g e => .inr (by cases e; exact lo1))
  have og := (og.kept hG0 (fun g e => .inl (by cases e; exact Nat.lt_of_lt_of_le hi0 xg))).kept hG1 (fun g e => .inl (by cases e; exact Nat.lt_of_lt_of_le hi1 xg))
  have A0 := (gcell hG0 (p := ⟨w.heap.size, 0, none⟩) hn0 (fun g e => by cases e; simp; omega)).trans A0
  have A0 := (gcell hG1 (p := ⟨w.heap.size, 0, none⟩) (Nat.lt_of_lt_of_le hn0 hG0.size) (fun g e => by cases e; simp; omega)).trans A0
  have A1 := (gcell hG0 (p := ⟨w.heap.size, 1, none⟩) hn0 (fun g e => by cases e; simp; omega)).trans A1
  have A1 := (gcell hG1 (p := ⟨w.heap.size, 1, none⟩) (Nat.lt_of_lt_of_le hn0 hG0.size) (fun g e => by cases e; simp; omega)).trans A1
  have P0 := (gcell hG0 (p := ⟨w.heap.size + 1, 0, none⟩) hp0 (fun g e => by cases e; simp; omega)).trans P0
  have P0 := (gcell hG1 (p := ⟨w.heap.size + 1, 0, none⟩) (Nat.lt_of_lt_of_le hp0 hG0.size) (fun g e => by cases e; simp; omega)).trans P0
  have P1 := (gcell hG0 (p := ⟨w.heap.size + 1, 1, none⟩) hp0 (fun g e => by cases e; simp; omega)).trans P1
  have P1 := (gcell hG1 (p := ⟨w.heap.size + 1, 1, none⟩) (Nat.lt_of_lt_of_le hp0 hG0.size) (fun g e => by cases e; simp; omega)).trans P1
  have P2 := (gcell hG0 (p := ⟨w.heap.size + 1, 2, none⟩) hp0 (fun g e => by cases e; simp; omega)).trans P2
  have P2 := (gcell hG1 (p := ⟨w.heap.size + 1, 2, none⟩) (Nat.lt_of_lt_of_le hp0 hG0.size) (fun g e => by cases e; simp; omega)).trans P2
  have hB := (hB.grown hG0 hB.size (fun g e => by cases e; exact Nat.le_of_lt lb0)).grown hG1 (Nat.le_trans hB.size hG0.size) (fun g e => by cases e; exact Nat.le_of_lt lb1)
  have hle := Nat.le_trans hG0.size hG1.size
  have obX1 := own_keepOther (own_keepOther obX1 hG0 (Nat.ne_of_gt apX1_0)) hG1 (Nat.ne_of_gt apX1_1)
  have hn0 := Nat.lt_of_lt_of_le hn0 hle
  have hp0 := Nat.lt_of_lt_of_le hp0 hle
  have owc := Nat.le_trans owc hle
  have ogc := Nat.le_trans ogc hle
  clear hG0 hG1 hle hn2 hxx X0 X1 ob0 lo0 hi0 lb0 ob1 lo1 hi1 lb1
  clear hxxX1
  go_wp2_with fail
  refine (markStayS_any _ _ _ _ _ (1 + (xs0.length : Nat) + (xs1.length : Nat) * 3) _ obX1 (by omega) (by omega) (by omega)).mono ?_
  rintro e W9 ⟨rfl, hr, hG⟩
  have ow := ow.kept hG (fun g e => .inr (by cases e; exact loX1))
  have og := og.kept hG (fun g e => .inl (by cases e; exact Nat.lt_of_lt_of_le hiX1 xgX1))
  have A0 := (gcell hG (p := ⟨w.heap.size, 0, none⟩) hn0 (fun g e => by cases e; simp; omega)).trans A0
  have A1 := (gcell hG (p := ⟨w.heap.size, 1, none⟩) hn0 (fun g e => by cases e; simp; omega)).trans A1
  have P0 := (gcell hG (p := ⟨w.heap.size + 1, 0, none⟩) hp0 (fun g e => by cases e; simp; omega)).trans P0
  have P1 := (gcell hG (p := ⟨w.heap.size + 1, 1, none⟩) hp0 (fun g e => by cases e; simp; omega)).trans P1
  have P2 := (gcell hG (p := ⟨w.heap.size + 1, 2, none⟩) hp0 (fun g e => by cases e; simp; omega)).trans P2
  have hB := hB.grown hG hB.size (fun g e => by cases e; exact Nat.le_of_lt lbX1)
  have hn0 := Nat.lt_of_lt_of_le hn0 hG.size
  have hp0 := Nat.lt_of_lt_of_le hp0 hG.size
  have owc := Nat.le_trans owc hG.size
  have ogc := Nat.le_trans ogc hG.size
  clear hr hG obX1
  go_wp2_with fail
  refine (HE.out _ _ _ _ _ ((Rd.of_own encSt_len (by decide) og.row)) ((Rd.of_own encSt_len (by decide) ow.row))).mono ?_
  rintro e W10 ⟨rfl, hB1⟩
  have A0 := (hB1.cell (p := ⟨w.heap.size, 0, none⟩) hn0).trans A0
  have A1 := (hB1.cell (p := ⟨w.heap.size, 1, none⟩) hn0).trans A1
  have P0 := (hB1.cell (p := ⟨w.heap.size + 1, 0, none⟩) hp0).trans P0
  have P1 := (hB1.cell (p := ⟨w.heap.size + 1, 1, none⟩) hp0).trans P1
  have P2 := (hB1.cell (p := ⟨w.heap.size + 1, 2, none⟩) hp0).trans P2
  have hn0 := Nat.lt_of_lt_of_le hn0 hB1.size
  have hp0 := Nat.lt_of_lt_of_le hp0 hB1.size
  have ow := ow.below hB1
  have owc := Nat.le_trans owc hB1.size
  have og := og.below hB1
  have ogc := Nat.le_trans ogc hB1.size
  have hB := stepB hB hB1 hB.size
  clear hB1
  go_wp2_with fail
  refine (markStayS_any _ _ _ _ _ 1 _ og.row (by omega) (by omega) (by omega)).mono ?_
  rintro e W11 ⟨rfl, hr, hG⟩
  have ow := ow.kept hG (fun g e => .inr (Nat.le_trans wg (og.row.lt g e).1))
  have P0 := (gcell hG (p := ⟨w.heap.size + 1, 0, none⟩) hp0 (fun g e => Nat.ne_of_lt (Nat.lt_of_lt_of_le ogp (og.row.lt g e).1))).trans P0
  have P1 := (gcell hG (p := ⟨w.heap.size + 1, 1, none⟩) hp0 (fun g e => Nat.ne_of_lt (Nat.lt_of_lt_of_le ogp (og.row.lt g e).1))).trans P1
  have P2 := (gcell hG (p := ⟨w.heap.size + 1, 2, none⟩) hp0 (fun g e => Nat.ne_of_lt (Nat.lt_of_lt_of_le ogp (og.row.lt g e).1))).trans P2
  have A0 := (gcell hG (p := ⟨w.heap.size, 0, none⟩) hn0 (fun g e => Nat.ne_of_lt (Nat.lt_of_lt_of_le ogb (og.row.lt g e).1))).trans A0
  have A1 := (gcell hG (p := ⟨w.heap.size, 1, none⟩) hn0 (fun g e => Nat.ne_of_lt (Nat.lt_of_lt_of_le ogb (og.row.lt g e).1))).trans A1
  have hB := hB.grown hG hB.size (fun g e => Nat.le_of_lt (Nat.lt_of_lt_of_le ogb (og.row.lt g e).1))
  have og := og.new hr
  have hn0 := Nat.lt_of_lt_of_le hn0 hG.size
  have hp0 := Nat.lt_of_lt_of_le hp0 hG.size
  have owc := Nat.le_trans owc hG.size
  have ogc := Nat.le_trans ogc hG.size
  clear hr hG
  go_wp2_with fail
  refine (heldStayS_any _ _ _ 1 _ ((Rd.of_own encSt_len (by decide) og.row)) (by omega) (by omega) (by omega)).mono ?_
  rintro e W12 ⟨rfl, hB1⟩
  have A0 := (hB1.cell (p := ⟨w.heap.size, 0, none⟩) hn0).trans A0
  have A1 := (hB1.cell (p := ⟨w.heap.size, 1, none⟩) hn0).trans A1
  have P0 := (hB1.cell (p := ⟨w.heap.size + 1, 0, none⟩) hp0).trans P0
  have P1 := (hB1.cell (p := ⟨w.heap.size + 1, 1, none⟩) hp0).trans P1
  have P2 := (hB1.cell (p := ⟨w.heap.size + 1, 2, none⟩) hp0).trans P2
  have hn0 := Nat.lt_of_lt_of_le hn0 hB1.size
  have hp0 := Nat.lt_of_lt_of_le hp0 hB1.size
  have ow := ow.below hB1
  have owc := Nat.le_trans owc hB1.size
  have og := og.below hB1
  have ogc := Nat.le_trans ogc hB1.size
  have hB := stepB hB hB1 hB.size
  clear hB1
  go_wp2_with fail
  have HK : Hid (∀ U : World, Below W12.heap.size W12 U → U.cell? ⟨w.heap.size, 0, none⟩ = some (.slice a0 xs0.length cap0) ∧ U.cell? ⟨w.heap.size, 1, none⟩ = some (.slice a1 xs1.length cap1) ∧ U.cell? ⟨w.heap.size + 1, 0, none⟩ = some (.int .i64 y2.place) ∧ U.cell? ⟨w.heap.size + 1, 1, none⟩ = some (.int .i64 y2.fr) ∧ U.cell? ⟨w.heap.size + 1, 2, none⟩ = some (.int .i64 y2.to)) := fun U hU => ⟨(hU.cell (p := ⟨w.heap.size, 0, none⟩) hn0).trans A0, (hU.cell (p := ⟨w.heap.size, 1, none⟩) hn0).trans A1, (hU.cell (p := ⟨w.heap.size + 1, 0, none⟩) hp0).trans P0, (hU.cell (p := ⟨w.heap.size + 1, 1, none⟩) hp0).trans P1, (hU.cell (p := ⟨w.heap.size + 1, 2, none⟩) hp0).trans P2⟩
  have hK0 : Below W12.heap.size W12 W12.drew := (Below.refl _ _).drew
  have hS0 := HK.out _ hK0
  go_region_held3 (fun w' => w'.cell? ⟨w.heap.size, 0, none⟩ = some (.slice a0 xs0.length cap0) ∧ w'.cell? ⟨w.heap.size, 1, none⟩ = some (.slice a1 xs1.length cap1) ∧ w'.cell? ⟨w.heap.size + 1, 0, none⟩ = some (.int .i64 y2.place) ∧ w'.cell? ⟨w.heap.size + 1, 1, none⟩ = some (.int .i64 y2.fr) ∧ w'.cell? ⟨w.heap.size + 1, 2, none⟩ = some (.int .i64 y2.to))
    (first | go_keep | (exact hS1) | (exact hS2) | (exact hS3) | (exact hS4))
    (first | (go_at_call 8; refine (toLand_any a0 cap0 xs0 a1 cap1 xs1 _ hlen0 (hx0.below (stepB hB hK0 hB.size)) hlen1 (hx1.below (stepB hB hK0 hB.size))).mono ?_; rintro e u1 ⟨gd0, gd1, rfl, od0, od1, hQ1⟩; have hK1 := stepB hK0 hQ1 (Nat.le_refl _); have hS1 := HK.out _ hK1) | (go_at_call 9; refine (toStayS_any aX1 capX1 xsX1 _ hlenX1 (hxX1.below (stepB hB hK1 hB.size))).mono ?_; rintro e u2 ⟨gdX1, rfl, odX1, hQ2⟩; have hK2 := stepB hK1 hQ2 hK1.size; have hS2 := HK.out _ hK2) | (go_at_call 10; refine (toStay_any _ _).mono ?_; rintro e u3 ⟨rfl, hQ3⟩; have hK3 := stepB hK2 hQ3 hK2.size; have hS3 := HK.out _ hK3) | (go_at_call 11; refine (HIM.out _ _ _ _ (Rd.of_own encS_len (by decide) (own_below (own_below od0 hQ2) hQ3)) (Rd.of_own encWy_len (by decide) (own_below (own_below od1 hQ2) hQ3)) (Rd.of_own encSt_len (by decide) (own_below odX1 hQ3))).mono ?_; rintro e u4 ⟨bh, ch, rfl, oh0, hQ4⟩; have hK4 := stepB hK3 hQ4 hK3.size; have hS4 := HK.out _ hK4))
  have ohb := Nat.lt_of_lt_of_le hn0 hK3.size
  have ohp := Nat.lt_of_lt_of_le hp0 hK3.size
  have hB1 := hK4
  clear HK hS0 hK1 hS1 hK2 hS2 hK3 hS3 hK4 hS4 hK0
  have oh := Own.of oh0
  clear oh0
  have A0 := (hB1.cell (p := ⟨w.heap.size, 0, none⟩) hn0).trans A0
  have A1 := (hB1.cell (p := ⟨w.heap.size, 1, none⟩) hn0).trans A1
  have P0 := (hB1.cell (p := ⟨w.heap.size + 1, 0, none⟩) hp0).trans P0
  have P1 := (hB1.cell (p := ⟨w.heap.size + 1, 1, none⟩) hp0).trans P1
  have P2 := (hB1.cell (p := ⟨w.heap.size + 1, 2, none⟩) hp0).trans P2
  have hn0 := Nat.lt_of_lt_of_le hn0 hB1.size
  have hp0 := Nat.lt_of_lt_of_le hp0 hB1.size
  have ow := ow.below hB1
  have owc := Nat.le_trans owc hB1.size
  have og := og.below hB1
  have ogc := Nat.le_trans ogc hB1.size
  have hB := stepB hB hB1 hB.size
  clear hB1
  have ohc := Nat.le_refl u4.heap.size
  clear hQ1 hQ2 hQ3 hQ4 od0 od1 odX1
  go_wp2_with fail
  refine (HE.out _ _ _ _ _ ((Rd.of_own encSt_len (by decide) oh.row)) ((Rd.of_own encSt_len (by decide) ow.row))).mono ?_
  rintro e W13 ⟨rfl, hB1⟩
  have A0 := (hB1.cell (p := ⟨w.heap.size, 0, none⟩) hn0).trans A0
  have A1 := (hB1.cell (p := ⟨w.heap.size, 1, none⟩) hn0).trans A1
  have P0 := (hB1.cell (p := ⟨w.heap.size + 1, 0, none⟩) hp0).trans P0
  have P1 := (hB1.cell (p := ⟨w.heap.size + 1, 1, none⟩) hp0).trans P1
  have P2 := (hB1.cell (p := ⟨w.heap.size + 1, 2, none⟩) hp0).trans P2
  have hn0 := Nat.lt_of_lt_of_le hn0 hB1.size
  have hp0 := Nat.lt_of_lt_of_le hp0 hB1.size
  have ow := ow.below hB1
  have owc := Nat.le_trans owc hB1.size
  have og := og.below hB1
  have ogc := Nat.le_trans ogc hB1.size
  have oh := oh.below hB1
  have ohc := Nat.le_trans ohc hB1.size
  have hB := stepB hB hB1 hB.size
  clear hB1
  go_wp2_with fail
  refine (heldStayS_any _ _ _ 1 _ ((Rd.of_own encSt_len (by decide) og.row)) (by omega) (by omega) (by omega)).mono ?_
  rintro e W14 ⟨rfl, hB1⟩
  have A0 := (hB1.cell (p := ⟨w.heap.size, 0, none⟩) hn0).trans A0
  have A1 := (hB1.cell (p := ⟨w.heap.size, 1, none⟩) hn0).trans A1
  have P0 := (hB1.cell (p := ⟨w.heap.size + 1, 0, none⟩) hp0).trans P0
  have P1 := (hB1.cell (p := ⟨w.heap.size + 1, 1, none⟩) hp0).trans P1
  have P2 := (hB1.cell (p := ⟨w.heap.size + 1, 2, none⟩) hp0).trans P2
  have hn0 := Nat.lt_of_lt_of_le hn0 hB1.size
  have hp0 := Nat.lt_of_lt_of_le hp0 hB1.size
  have ow := ow.below hB1
  have owc := Nat.le_trans owc hB1.size
  have og := og.below hB1
  have ogc := Nat.le_trans ogc hB1.size
  have oh := oh.below hB1
  have ohc := Nat.le_trans ohc hB1.size
  have hB := stepB hB hB1 hB.size
  clear hB1
  go_wp2
  go_ret
  exact ⟨rfl, hB⟩
end Go.Proofs.YtipdcgfdejmjfaaDoor
