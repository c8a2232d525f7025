/- Walk: the law FnExactRouteOf. Printed by gen_law2.py. -/
import Derived.Test.YtihmacmieofbgaaDoorRoute
import Derived.Test.YtihmacmieofbgaaDoorCLand
import Derived.Test.YtihmacmieofbgaaDoorQLand
import Derived.Test.YtihmacmieofbgaaDoorMI
import Derived.Test.YtihmacmieofbgaaDoorHI
namespace Go.Proofs.YtihmacmieofbgaaDoor
open Go.ChangeShapes Go.WideShapes Go.ChangeAt Go.RowKit

set_option maxRecDepth 100000 in
set_option maxHeartbeats 4000000 in
theorem lawRoute_any (a0 : Option Addr) (cap0 : Nat) (xs0 : List ByteArray) (a1 : Option Addr) (cap1 : Nat) (xs1 : List Wy) (y1 : Int) (y2 : Int) (w : World) (hl0 : xs0.length ≤ maxLen) (hx0 : Rd encS w a0 xs0) (hs0 : ∀ m ∈ xs0, goodS m) (hl1 : xs1.length ≤ maxLen) (hx1 : Rd encWy w a1 xs1) (_hs1 : ∀ m ∈ xs1, goodWy m) (_hy1 : -9223372036854775808 ≤ y1 ∧ y1 ≤ 9223372036854775807) (_hy2 : -9223372036854775808 ≤ y2 ∧ y2 ≤ 9223372036854775807) :
    Calls Tryd.prog 5 #[.agg #[.slice a0 xs0.length cap0, .slice a1 xs1.length cap1], .int .i64 y1, .int .i64 y2] w fun e w' => e = .returned (.bool true) ∧ Below w.heap.size w w' := by
  have hsz := fun W (h0 : Rd encS W a0 xs0) (h1 : Rd encWy W a1 xs1) => szLand_any a0 cap0 xs0 a1 cap1 xs1 1048576 W (by omega) (by omega) hl0 h0 hs0 hl1
  have HSZ := Lib.hid hsz
  clear hsz
  by_cases hq : szLand xs0 xs1 1048576 < 0
  · have hq1 := hq
    go_enter Tryd.func5, Tryd.ntmps5
    go_wp2_with fail
    generalize hW : w.alloc (.cells #[.slice a0 xs0.length cap0, .slice a1 xs1.length cap1] 54) = W0
    have hB : Below w.heap.size w W0 := by rw [← hW]; go_grown
    have hn0 : w.heap.size < W0.heap.size := by rw [← hW]; simp
    have A0 : W0.cell? ⟨w.heap.size, 0, none⟩ = some (.slice a0 xs0.length cap0) := by rw [← hW]; exact World.cell?_alloc_at _ _ _ _ rfl
    have A1 : W0.cell? ⟨w.heap.size, 1, none⟩ = some (.slice a1 xs1.length cap1) := by rw [← hW]; exact World.cell?_alloc_at _ _ _ _ rfl
    clear hW
    refine (HSZ.out _ (hx0.below hB) (hx1.below hB)).mono ?_
    rintro e w1 ⟨rfl, hB1⟩
    go_wp2
    go_ret
    exact ⟨rfl, stepB hB hB1 hB.size⟩
  have hok := szLand_ok hq
  have hq0 : ¬ szS ByteArray.size xs0 1048576 < 0 := hok.1
  obtain ⟨ho0, hn0⟩ := szS_ok (Int.not_lt.1 hq0)
  have hlen0 : xs0.length ≤ 1048576 := by omega
  have hsm0 : ∀ m ∈ xs0, ByteArray.size m ≤ 1048576 := fun m hm => by have h1 := le_sumS ByteArray.size hm; omega
  have hq1 : ¬ clip ((szS ByteArray.size xs0 1048576) - xs1.length) < 0 := hok.2
  have hlen1 : xs1.length ≤ 1048576 := by unfold clip at hq1; split at hq1 <;> omega
  clear ho0 hn0 hok hq0 hq1
  have hq1 : 0 ≤ szLand xs0 xs1 1048576 := Int.not_lt.1 hq
  have HSP := Lib.hid (fun (A0 : Option Addr) (A1 : Option Addr) W (h0 : Rd encS W A0 xs0) (h1 : Rd encWy W A1 xs1) => specRoute_any A0 A1 xs0.length xs1.length xs0 xs1 y1 y2 W (Nat.le_refl _) hlen0 hlen0 h0 hsm0 hlen1 h1)
  have HIM := Lib.hid (fun (A0 : Option Addr) (A1 : Option Addr) W (h0 : Rd encS W A0 xs0) (h1 : Rd encWy W A1 xs1) => implRoute_any A0 A1 xs0.length xs1.length xs0 xs1 y1 y2 W (Nat.le_refl _) hlen0 hlen0 h0 hsm0 hlen1 h1)
  have hlR : (routeR xs0 xs1 y1 y2).1.length ≤ 1048576 := routeR_len xs0 xs1 y1 y2
  generalize routeR xs0 xs1 y1 y2 = R at HSP HIM hlR
  obtain ⟨ys, q⟩ := R
  simp only at HSP HIM hlR
  have HE := Lib.hid (fun (A B : Option Addr) (C D : Nat) W (h1 : Rd encI W A ys) (h2 : Rd encI W B ys) => eqInt64S_self A B C D ys W (by omega) h1 h2)
  have hqq : (q != q) = false := by simp
  go_enter Tryd.func5, Tryd.ntmps5
  go_wp2_with fail
  generalize hW : w.alloc (.cells #[.slice a0 xs0.length cap0, .slice a1 xs1.length cap1] 54) = W0
  have hB : Below w.heap.size w W0 := by rw [← hW]; go_grown
  have hn0 : w.heap.size < W0.heap.size := by rw [← hW]; simp
  have A0 : W0.cell? ⟨w.heap.size, 0, none⟩ = some (.slice a0 xs0.length cap0) := by rw [← hW]; exact World.cell?_alloc_at _ _ _ _ rfl
  have A1 : W0.cell? ⟨w.heap.size, 1, none⟩ = some (.slice a1 xs1.length cap1) := by rw [← hW]; exact World.cell?_alloc_at _ _ _ _ rfl
  clear hW
  refine (HSZ.out _ (hx0.below hB) (hx1.below hB)).mono ?_
  rintro e W1 ⟨rfl, hB1⟩
  have A0 := (hB1.cell (p := ⟨w.heap.size, 0, none⟩) hn0).trans A0
  have A1 := (hB1.cell (p := ⟨w.heap.size, 1, none⟩) hn0).trans A1
  have hn0 := Nat.lt_of_lt_of_le hn0 hB1.size
  have hB := stepB hB hB1 hB.size
  clear hB1
  go_wp2_with fail
  refine (toLand_any a0 cap0 xs0 a1 cap1 xs1 _ hlen0 (hx0.below hB) hlen1 (hx1.below hB)).mono ?_
  rintro e W2 ⟨ga0, ga1, rfl, oa0, oa1, hB1⟩
  have A0 := (hB1.cell (p := ⟨w.heap.size, 0, none⟩) hn0).trans A0
  have A1 := (hB1.cell (p := ⟨w.heap.size, 1, none⟩) hn0).trans A1
  have hn0 := Nat.lt_of_lt_of_le hn0 hB1.size
  have hB := stepB hB hB1 hB.size
  clear hB1
  go_wp2_with fail
  refine (HSP.out _ _ _ (Rd.of_own encS_len (by decide) oa0) (Rd.of_own encWy_len (by decide) oa1)).mono ?_
  rintro e W3 ⟨bw, cw, rfl, ow0, hB1⟩
  have owb := hn0
  have A0 := (hB1.cell (p := ⟨w.heap.size, 0, none⟩) hn0).trans A0
  have A1 := (hB1.cell (p := ⟨w.heap.size, 1, none⟩) hn0).trans A1
  have hn0 := Nat.lt_of_lt_of_le hn0 hB1.size
  have oa0 := own_below oa0 hB1
  have oa1 := own_below oa1 hB1
  have hB := stepB hB hB1 hB.size
  clear hB1
  have ow := Own.of ow0
  have owc := Nat.le_refl W3.heap.size
  clear ow0
  clear oa0 oa1
  go_wp2_with fail
  refine (toLand_any a0 cap0 xs0 a1 cap1 xs1 _ hlen0 (hx0.below hB) hlen1 (hx1.below hB)).mono ?_
  rintro e W4 ⟨gb0, gb1, rfl, ob0, ob1, hB1⟩
  have lo0 := Nat.le_trans owc (own_lt ob0).1
  have hi0 := (own_lt ob0).2
  have lb0 := Nat.lt_of_lt_of_le hn0 (own_lt ob0).1
  have lo1 := Nat.le_trans owc (own_lt ob1).1
  have hi1 := (own_lt ob1).2
  have lb1 := Nat.lt_of_lt_of_le hn0 (own_lt ob1).1
  have A0 := (hB1.cell (p := ⟨w.heap.size, 0, none⟩) hn0).trans A0
  have A1 := (hB1.cell (p := ⟨w.heap.size, 1, none⟩) hn0).trans A1
  have hn0 := Nat.lt_of_lt_of_le hn0 hB1.size
  have ow := ow.below hB1
  have owc := Nat.le_trans owc hB1.size
  have hB := stepB hB hB1 hB.size
  clear hB1
  have hxx := Nat.le_refl W4.heap.size
  go_wp2_with fail
  generalize hW : W4.alloc (.cells #[.slice (some ⟨gb0, 0, none⟩) xs0.length xs0.length, .slice (some ⟨gb1, 0, none⟩) xs1.length xs1.length] 27) = WB
  have hB1 : Below W4.heap.size W4 WB := by rw [← hW]; go_grown
  have hn2 : W4.heap.size < WB.heap.size := by rw [← hW]; simp
  have X0 : WB.cell? ⟨W4.heap.size, 0, none⟩ = some (.slice (some ⟨gb0, 0, none⟩) xs0.length xs0.length) := by rw [← hW]; exact World.cell?_alloc_at _ _ _ _ rfl
  have X1 : WB.cell? ⟨W4.heap.size, 1, none⟩ = some (.slice (some ⟨gb1, 0, none⟩) xs1.length xs1.length) := by rw [← hW]; exact World.cell?_alloc_at _ _ _ _ rfl
  clear hW
  have A0 := (hB1.cell (p := ⟨w.heap.size, 0, none⟩) hn0).trans A0
  have A1 := (hB1.cell (p := ⟨w.heap.size, 1, none⟩) hn0).trans A1
  have hn0 := Nat.lt_of_lt_of_le hn0 hB1.size
  have ob0 := own_below ob0 hB1
  have ob1 := own_below ob1 hB1
  have ow := ow.below hB1
  have owc := Nat.le_trans owc hB1.size
  have hxx := Nat.le_trans hxx hB1.size
  have hB := stepB hB hB1 hB.size
  clear hB1
  have xg := hxx
  have wg := owc
  refine (HIM.out _ _ _ (Rd.of_own encS_len (by decide) ob0) (Rd.of_own encWy_len (by decide) ob1)).mono ?_
  rintro e W5 ⟨bg, cg, rfl, og0, hB1⟩
  have ogb := hn0
  have A0 := (hB1.cell (p := ⟨w.heap.size, 0, none⟩) hn0).trans A0
  have A1 := (hB1.cell (p := ⟨w.heap.size, 1, none⟩) hn0).trans A1
  have X0 := (hB1.cell (p := ⟨W4.heap.size, 0, none⟩) hn2).trans X0
  have X1 := (hB1.cell (p := ⟨W4.heap.size, 1, none⟩) hn2).trans X1
  have hn0 := Nat.lt_of_lt_of_le hn0 hB1.size
  have hn2 := Nat.lt_of_lt_of_le hn2 hB1.size
  have ob0 := own_below ob0 hB1
  have ob1 := own_below ob1 hB1
  have ow := ow.below hB1
  have owc := Nat.le_trans owc hB1.size
  have hxx := Nat.le_trans hxx hB1.size
  have hB := stepB hB hB1 hB.size
  clear hB1
  have og := Own.of og0
  have ogc := Nat.le_refl W5.heap.size
  clear og0
  go_wp2_with fail
  refine (HE.out _ _ _ _ _ ((Rd.of_own encI_len (by decide) og.row)) ((Rd.of_own encI_len (by decide) ow.row))).mono ?_
  rintro e W6 ⟨rfl, hB1⟩
  have A0 := (hB1.cell (p := ⟨w.heap.size, 0, none⟩) hn0).trans A0
  have A1 := (hB1.cell (p := ⟨w.heap.size, 1, none⟩) hn0).trans A1
  have X0 := (hB1.cell (p := ⟨W4.heap.size, 0, none⟩) hn2).trans X0
  have X1 := (hB1.cell (p := ⟨W4.heap.size, 1, none⟩) hn2).trans X1
  have hn0 := Nat.lt_of_lt_of_le hn0 hB1.size
  have hn2 := Nat.lt_of_lt_of_le hn2 hB1.size
  have ob0 := own_below ob0 hB1
  have ob1 := own_below ob1 hB1
  have ow := ow.below hB1
  have owc := Nat.le_trans owc hB1.size
  have og := og.below hB1
  have ogc := Nat.le_trans ogc hB1.size
  have hxx := Nat.le_trans hxx hB1.size
  have hB := stepB hB hB1 hB.size
  clear hB1
  go_wp2_with fail
  have hBd : Below w.heap.size w W6.drew := hB.drew
  have od0 : W6.drew.ownsRow _ _ _ _ _ _ := ob0.drew
  have od1 : W6.drew.ownsRow _ _ _ _ _ _ := ob1.drew
  go_region_held3 (fun w' => w'.cell? ⟨w.heap.size, 0, none⟩ = some (.slice a0 xs0.length cap0) ∧ w'.cell? ⟨w.heap.size, 1, none⟩ = some (.slice a1 xs1.length cap1) ∧ w'.cell? ⟨W4.heap.size, 0, none⟩ = some (.slice (some ⟨gb0, 0, none⟩) xs0.length xs0.length) ∧ w'.cell? ⟨W4.heap.size, 1, none⟩ = some (.slice (some ⟨gb1, 0, none⟩) xs1.length xs1.length))
    (first | go_keep | (exact ⟨(hBc.cell (p := ⟨w.heap.size, 0, none⟩) hn0).trans A0, (hBc.cell (p := ⟨w.heap.size, 1, none⟩) hn0).trans A1, (hBc.cell (p := ⟨W4.heap.size, 0, none⟩) hn2).trans X0, (hBc.cell (p := ⟨W4.heap.size, 1, none⟩) hn2).trans X1⟩) | (exact ⟨(hBe.cell (p := ⟨w.heap.size, 0, none⟩) (Nat.lt_of_lt_of_le hn0 hBc.size)).trans ((hBc.cell (p := ⟨w.heap.size, 0, none⟩) hn0).trans A0), (hBe.cell (p := ⟨w.heap.size, 1, none⟩) (Nat.lt_of_lt_of_le hn0 hBc.size)).trans ((hBc.cell (p := ⟨w.heap.size, 1, none⟩) hn0).trans A1), (hBe.cell (p := ⟨W4.heap.size, 0, none⟩) (Nat.lt_of_lt_of_le hn2 hBc.size)).trans ((hBc.cell (p := ⟨W4.heap.size, 0, none⟩) hn2).trans X0), (hBe.cell (p := ⟨W4.heap.size, 1, none⟩) (Nat.lt_of_lt_of_le hn2 hBc.size)).trans ((hBc.cell (p := ⟨W4.heap.size, 1, none⟩) hn2).trans X1)⟩))
    (first | (go_at_call 31; refine (toLand_any a0 cap0 xs0 a1 cap1 xs1 _ hlen0 (hx0.below hBd) hlen1 (hx1.below hBd)).mono ?_; rintro e w3 ⟨gc0, gc1, rfl, oc0, oc1, hBc⟩) | (go_at_call 33; refine (eqLand_self _ _ _ _ xs0 _ _ _ _ xs1 _ hlen0 (Rd.of_own encS_len (by decide) (own_below od0 hBc)) (Rd.of_own encS_len (by decide) oc0) hlen1 (Rd.of_own encWy_len (by decide) (own_below od1 hBc)) (Rd.of_own encWy_len (by decide) oc1)).mono ?_; rintro e w4 ⟨rfl, hBe⟩))
  have hB1 : Below W6.heap.size W6 w4 := stepB (stepB (Below.refl _ W6).drew hBc (Nat.le_refl _)) hBe hBc.size
  clear hBd hBc hBe od0 oc0 od1 oc1
  have A0 := (hB1.cell (p := ⟨w.heap.size, 0, none⟩) hn0).trans A0
  have A1 := (hB1.cell (p := ⟨w.heap.size, 1, none⟩) hn0).trans A1
  have X0 := (hB1.cell (p := ⟨W4.heap.size, 0, none⟩) hn2).trans X0
  have X1 := (hB1.cell (p := ⟨W4.heap.size, 1, none⟩) hn2).trans X1
  have hn0 := Nat.lt_of_lt_of_le hn0 hB1.size
  have hn2 := Nat.lt_of_lt_of_le hn2 hB1.size
  have ob0 := own_below ob0 hB1
  have ob1 := own_below ob1 hB1
  have ow := ow.below hB1
  have owc := Nat.le_trans owc hB1.size
  have og := og.below hB1
  have ogc := Nat.le_trans ogc hB1.size
  have hxx := Nat.le_trans hxx hB1.size
  have hB := stepB hB hB1 hB.size
  clear hB1
  go_wp2_with fail
  refine (markLand_any _ _ _ _ _ _ _ _ _ _ 1 _ ob0 ob1 (by omega) (by omega) (by omega) (by omega)).mono ?_
  rintro e W7 ⟨rfl, Wm, hG0, hG1⟩
  have ow := (ow.kept hG0 (fun g e => .inr (by cases e; exact lo0))).kept hG1 (fun g e => .inr (by cases e; exact lo1))
  have og := (og.kept hG0 (fun g e => .inl (by cases e; exact Nat.lt_of_lt_of_le hi0 xg))).kept hG1 (fun g e => .inl (by cases e; exact Nat.lt_of_lt_of_le hi1 xg))
  have A0 := (gcell hG0 (p := ⟨w.heap.size, 0, none⟩) hn0 (fun g e => by cases e; simp; omega)).trans A0
  have A0 := (gcell hG1 (p := ⟨w.heap.size, 0, none⟩) (Nat.lt_of_lt_of_le hn0 hG0.size) (fun g e => by cases e; simp; omega)).trans A0
  have A1 := (gcell hG0 (p := ⟨w.heap.size, 1, none⟩) hn0 (fun g e => by cases e; simp; omega)).trans A1
  have A1 := (gcell hG1 (p := ⟨w.heap.size, 1, none⟩) (Nat.lt_of_lt_of_le hn0 hG0.size) (fun g e => by cases e; simp; omega)).trans A1
  have hB := (hB.grown hG0 hB.size (fun g e => by cases e; exact Nat.le_of_lt lb0)).grown hG1 (Nat.le_trans hB.size hG0.size) (fun g e => by cases e; exact Nat.le_of_lt lb1)
  have hle := Nat.le_trans hG0.size hG1.size
  have hn0 := Nat.lt_of_lt_of_le hn0 hle
  have owc := Nat.le_trans owc hle
  have ogc := Nat.le_trans ogc hle
  clear hG0 hG1 hle hn2 hxx X0 X1 ob0 lo0 hi0 lb0 ob1 lo1 hi1 lb1
  go_wp2_with fail
  refine (HE.out _ _ _ _ _ ((Rd.of_own encI_len (by decide) og.row)) ((Rd.of_own encI_len (by decide) ow.row))).mono ?_
  rintro e W8 ⟨rfl, hB1⟩
  have A0 := (hB1.cell (p := ⟨w.heap.size, 0, none⟩) hn0).trans A0
  have A1 := (hB1.cell (p := ⟨w.heap.size, 1, none⟩) hn0).trans A1
  have hn0 := Nat.lt_of_lt_of_le hn0 hB1.size
  have ow := ow.below hB1
  have owc := Nat.le_trans owc hB1.size
  have og := og.below hB1
  have ogc := Nat.le_trans ogc hB1.size
  have hB := stepB hB hB1 hB.size
  clear hB1
  go_wp2_with fail
  refine (markInt64S_any _ _ _ _ _ 1 _ og.row (by omega) (by omega) (by omega)).mono ?_
  rintro e W9 ⟨rfl, hr, hG⟩
  have ow := ow.kept hG (fun g e => .inr (Nat.le_trans wg (og.row.lt g e).1))
  have A0 := (gcell hG (p := ⟨w.heap.size, 0, none⟩) hn0 (fun g e => Nat.ne_of_lt (Nat.lt_of_lt_of_le ogb (og.row.lt g e).1))).trans A0
  have A1 := (gcell hG (p := ⟨w.heap.size, 1, none⟩) hn0 (fun g e => Nat.ne_of_lt (Nat.lt_of_lt_of_le ogb (og.row.lt g e).1))).trans A1
  have hB := hB.grown hG hB.size (fun g e => Nat.le_of_lt (Nat.lt_of_lt_of_le ogb (og.row.lt g e).1))
  have og := og.new hr
  have hn0 := Nat.lt_of_lt_of_le hn0 hG.size
  have owc := Nat.le_trans owc hG.size
  have ogc := Nat.le_trans ogc hG.size
  clear hr hG
  go_wp2_with fail
  refine (heldInt64S_any _ _ _ 1 _ ((Rd.of_own encI_len (by decide) og.row)) (by omega) (by omega) (by omega)).mono ?_
  rintro e W10 ⟨rfl, hB1⟩
  have A0 := (hB1.cell (p := ⟨w.heap.size, 0, none⟩) hn0).trans A0
  have A1 := (hB1.cell (p := ⟨w.heap.size, 1, none⟩) hn0).trans A1
  have hn0 := Nat.lt_of_lt_of_le hn0 hB1.size
  have ow := ow.below hB1
  have owc := Nat.le_trans owc hB1.size
  have og := og.below hB1
  have ogc := Nat.le_trans ogc hB1.size
  have hB := stepB hB hB1 hB.size
  clear hB1
  go_wp2_with fail
  refine (toLand_any a0 cap0 xs0 a1 cap1 xs1 _ hlen0 (hx0.below hB) hlen1 (hx1.below hB)).mono ?_
  rintro e W11 ⟨gd0, gd1, rfl, od0, od1, hB1⟩
  have A0 := (hB1.cell (p := ⟨w.heap.size, 0, none⟩) hn0).trans A0
  have A1 := (hB1.cell (p := ⟨w.heap.size, 1, none⟩) hn0).trans A1
  have hn0 := Nat.lt_of_lt_of_le hn0 hB1.size
  have ow := ow.below hB1
  have owc := Nat.le_trans owc hB1.size
  have og := og.below hB1
  have ogc := Nat.le_trans ogc hB1.size
  have hB := stepB hB hB1 hB.size
  clear hB1
  go_wp2_with fail
  refine (HIM.out _ _ _ (Rd.of_own encS_len (by decide) od0) (Rd.of_own encWy_len (by decide) od1)).mono ?_
  rintro e W12 ⟨bh, ch, rfl, oh0, hB1⟩
  have ohb := hn0
  have A0 := (hB1.cell (p := ⟨w.heap.size, 0, none⟩) hn0).trans A0
  have A1 := (hB1.cell (p := ⟨w.heap.size, 1, none⟩) hn0).trans A1
  have hn0 := Nat.lt_of_lt_of_le hn0 hB1.size
  have od0 := own_below od0 hB1
  have od1 := own_below od1 hB1
  have ow := ow.below hB1
  have owc := Nat.le_trans owc hB1.size
  have og := og.below hB1
  have ogc := Nat.le_trans ogc hB1.size
  have hB := stepB hB hB1 hB.size
  clear hB1
  have oh := Own.of oh0
  have ohc := Nat.le_refl W12.heap.size
  clear oh0
  clear od0 od1
  go_wp2_with fail
  refine (HE.out _ _ _ _ _ ((Rd.of_own encI_len (by decide) oh.row)) ((Rd.of_own encI_len (by decide) ow.row))).mono ?_
  rintro e W13 ⟨rfl, hB1⟩
  have A0 := (hB1.cell (p := ⟨w.heap.size, 0, none⟩) hn0).trans A0
  have A1 := (hB1.cell (p := ⟨w.heap.size, 1, none⟩) hn0).trans A1
  have hn0 := Nat.lt_of_lt_of_le hn0 hB1.size
  have ow := ow.below hB1
  have owc := Nat.le_trans owc hB1.size
  have og := og.below hB1
  have ogc := Nat.le_trans ogc hB1.size
  have oh := oh.below hB1
  have ohc := Nat.le_trans ohc hB1.size
  have hB := stepB hB hB1 hB.size
  clear hB1
  go_wp2_with fail
  refine (heldInt64S_any _ _ _ 1 _ ((Rd.of_own encI_len (by decide) og.row)) (by omega) (by omega) (by omega)).mono ?_
  rintro e W14 ⟨rfl, hB1⟩
  have A0 := (hB1.cell (p := ⟨w.heap.size, 0, none⟩) hn0).trans A0
  have A1 := (hB1.cell (p := ⟨w.heap.size, 1, none⟩) hn0).trans A1
  have hn0 := Nat.lt_of_lt_of_le hn0 hB1.size
  have ow := ow.below hB1
  have owc := Nat.le_trans owc hB1.size
  have og := og.below hB1
  have ogc := Nat.le_trans ogc hB1.size
  have oh := oh.below hB1
  have ohc := Nat.le_trans ohc hB1.size
  have hB := stepB hB hB1 hB.size
  clear hB1
  go_wp2
  go_ret
  exact ⟨rfl, hB⟩
end Go.Proofs.YtihmacmieofbgaaDoor
