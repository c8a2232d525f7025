/- Walk: the law FnExactRecordUse. Printed by gen_law2.py. -/
import Derived.Test.YtmjbigeeokofeaaDoorRecI
import Derived.Test.YtmjbigeeokofeaaDoorMMk
import Derived.Test.YtmjbigeeokofeaaDoorHMk
namespace Go.Proofs.YtmjbigeeokofeaaDoor
open Go.ChangeShapes Go.WideShapes Go.ChangeAt Go.RowKit

set_option maxHeartbeats 4000000 in
theorem lawRecord_any (a0 : Option Addr) (cap0 : Nat) (xs0 : List Mk) (t1 : ByteArray) (z2 : Int) (z3 : Int) (w : World) (hl0 : xs0.length ≤ maxLen) (hx0 : Rd encMk w a0 xs0) (hs0 : ∀ m ∈ xs0, goodMk m) (_ht1 : t1.size ≤ maxLen) (_hz2 : -9223372036854775808 ≤ z2 ∧ z2 ≤ 9223372036854775807) (_hz3 : -9223372036854775808 ≤ z3 ∧ z3 ≤ 9223372036854775807) :
    Calls Tryd.prog 4 #[.slice a0 xs0.length cap0, .string t1, .int .i64 z2, .int .i64 z3] w fun e w' => e = .returned (.bool true) ∧ Below w.heap.size w w' := by
  by_cases ht1' : 1048576 < (t1.size : Int)
  · go_enter Tryd.func4, Tryd.ntmps4
    go_wp2
    go_ret
    exact ⟨rfl, by go_grown⟩
  have hsz0 := fun W (h : Rd encMk W a0 xs0) => szMarkS_any a0 cap0 xs0 (1048576) W (by omega) (by omega) hl0 h hs0
  have HSZ0 := Lib.hid hsz0
  clear hsz0
  by_cases hq0 : szS szMk xs0 1048576 < 0
  · go_enter Tryd.func4, Tryd.ntmps4
    have hB := Below.refl w.heap.size w
    go_wp2_with fail
    refine (HSZ0.out _ (hx0.below hB)).mono ?_
    rintro e w1 ⟨rfl, hB1⟩
    have hB := stepB hB hB1 hB.size
    clear hB1
    go_wp2
    go_ret
    exact ⟨rfl, hB⟩
  obtain ⟨hok0, hn0⟩ := szS_ok (Int.not_lt.1 hq0)
  have hlen0 : xs0.length ≤ 1048576 := by omega
  have hsm0 : ∀ m ∈ xs0, szMk m ≤ 1048576 := fun m hm => by have h1 := le_sumS szMk hm; omega
  clear hok0
  have HSP := Lib.hid (fun (A0 C0 : Nat) W (h0 : Rd encMk W (some ⟨A0, 0, none⟩) xs0) => specRecord_any A0 C0 xs0 t1 z2 z3 W hlen0 h0 hsm0 (by omega))
  have HIM := Lib.hid (fun (A0 C0 : Nat) W (h0 : Rd encMk W (some ⟨A0, 0, none⟩) xs0) => implRecord_any A0 C0 xs0 t1 z2 z3 W hlen0 h0 hsm0 (by omega))
  have hlR := recR_len xs0 t1 z2 z3
  generalize recR xs0 t1 z2 z3 = R at HSP HIM hlR
  obtain ⟨ys, q⟩ := R
  simp only at HSP HIM hlR
  have hlR : ys.length ≤ 1048576 := by omega
  have HE := Lib.hid (fun (A B : Option Addr) (C D : Nat) W (h1 : Rd encMk W A ys) (h2 : Rd encMk W B ys) => eqMarkS_self A B C D ys W (by omega) h1 h2)
  go_enter Tryd.func4, Tryd.ntmps4
  have hB := Below.refl w.heap.size w
  go_wp2_with fail
  refine (HSZ0.out _ (hx0.below hB)).mono ?_
  rintro e W1 ⟨rfl, hB1⟩
  have hB0 := hB.size
  have hB := stepB hB hB1 hB.size
  clear hB1
  go_wp2_with fail
  refine (toMarkS_any _ _ xs0 _ hlen0 (hx0.below hB)).mono ?_
  rintro e W2 ⟨ga0, rfl, oa00, hB1⟩
  have hB0 := hB.size
  have hB := stepB hB hB1 hB.size
  clear hB1
  have oa0 := Own.of oa00
  have oa0b := hB0
  have oa0c := Nat.le_refl W2.heap.size
  clear oa00
  go_wp2_with fail
  have oa0_ow := oa0c
  refine (HSP.out _ _ _ (Rd.of_own encMk_len (by decide) oa0.row)).mono ?_
  rintro e W3 ⟨bw, cw, rfl, ow0, hB1⟩
  have oa0 := oa0.below hB1
  have oa0c := Nat.le_trans oa0c hB1.size
  have hB0 := hB.size
  have hB := stepB hB hB1 hB.size
  clear hB1
  have ow := Own.of ow0
  have owb := hB0
  have owc := Nat.le_refl W3.heap.size
  clear ow0
  clear oa0_ow
  clear oa0 oa0b oa0c
  have ow_ox00 := owc
  go_wp2_with fail
  refine (toMarkS_any _ _ xs0 _ hlen0 (hx0.below hB)).mono ?_
  rintro e W4 ⟨gx0, rfl, ox00, hB1⟩
  have ow := ow.below hB1
  have owc := Nat.le_trans owc hB1.size
  have hB0 := hB.size
  have hB := stepB hB hB1 hB.size
  clear hB1
  have ox0 := Own.of ox00
  have ox0b := hB0
  have ox0c := Nat.le_refl W4.heap.size
  clear ox00
  have ow_ox0 := ow_ox00
  clear ow_ox00
  go_wp2_with fail
  have ow_og := owc
  have ox0_og := ox0c
  refine (HIM.out _ _ _ (Rd.of_own encMk_len (by decide) ox0.row)).mono ?_
  rintro e W5 ⟨bg, cg, rfl, og0, hB1⟩
  have ow := ow.below hB1
  have owc := Nat.le_trans owc hB1.size
  have ox0 := ox0.below hB1
  have ox0c := Nat.le_trans ox0c hB1.size
  have hB0 := hB.size
  have hB := stepB hB hB1 hB.size
  clear hB1
  have og := Own.of og0
  have ogb := hB0
  have ogc := Nat.le_refl W5.heap.size
  clear og0
  have hqq : (q != q) = false := by simp
  go_wp2_with fail
  refine (HE.out _ _ _ _ _ (Rd.of_own encMk_len (by decide) og.row) (Rd.of_own encMk_len (by decide) ow.row)).mono ?_
  rintro e W6 ⟨rfl, hB1⟩
  have ow := ow.below hB1
  have owc := Nat.le_trans owc hB1.size
  have ox0 := ox0.below hB1
  have ox0c := Nat.le_trans ox0c hB1.size
  have og := og.below hB1
  have ogc := Nat.le_trans ogc hB1.size
  have hB0 := hB.size
  have hB := stepB hB hB1 hB.size
  clear hB1
  go_wp2_with fail
  refine (toMarkS_any _ _ xs0 _ hlen0 (hx0.below hB)).mono ?_
  rintro e W7 ⟨gc0, rfl, oc00, hB1⟩
  have ow := ow.below hB1
  have owc := Nat.le_trans owc hB1.size
  have ox0 := ox0.below hB1
  have ox0c := Nat.le_trans ox0c hB1.size
  have og := og.below hB1
  have ogc := Nat.le_trans ogc hB1.size
  have hB0 := hB.size
  have hB := stepB hB hB1 hB.size
  clear hB1
  have oc0 := Own.of oc00
  have oc0b := hB0
  have oc0c := Nat.le_refl W7.heap.size
  clear oc00
  go_wp2_with fail
  refine (eqMarkS_self _ _ _ _ xs0 _ (by omega) (Rd.of_own encMk_len (by decide) ox0.row) (Rd.of_own encMk_len (by decide) oc0.row)).mono ?_
  rintro e W8 ⟨rfl, hB1⟩
  have ow := ow.below hB1
  have owc := Nat.le_trans owc hB1.size
  have ox0 := ox0.below hB1
  have ox0c := Nat.le_trans ox0c hB1.size
  have og := og.below hB1
  have ogc := Nat.le_trans ogc hB1.size
  have oc0 := oc0.below hB1
  have oc0c := Nat.le_trans oc0c hB1.size
  have hB0 := hB.size
  have hB := stepB hB hB1 hB.size
  clear hB1
  clear oc0 oc0b oc0c
  go_wp2_with fail
  refine (markMarkS_any _ _ _ _ _ (1) _ ox0.row (by omega) (by omega) (by omega)).mono ?_
  rintro e W9 ⟨rfl, hr, hG⟩
  have ow := ow.kept hG (fun g e => .inr (Nat.le_trans ow_ox0 (ox0.row.lt g e).1))
  have og := og.kept hG (fun g e => .inl (Nat.lt_of_lt_of_le (ox0.hi g e) ox0_og))
  have hB0 := hB.size
  have hB := hB.grown hG hB.size (fun g e => Nat.le_trans ox0b (ox0.row.lt g e).1)
  have ox0 := ox0.new hr
  have owc := Nat.le_trans owc hG.size
  have ox0c := Nat.le_trans ox0c hG.size
  have ogc := Nat.le_trans ogc hG.size
  clear hr hG
  clear ox0 ox0b ox0c
  go_wp2_with fail
  refine (HE.out _ _ _ _ _ (Rd.of_own encMk_len (by decide) og.row) (Rd.of_own encMk_len (by decide) ow.row)).mono ?_
  rintro e W10 ⟨rfl, hB1⟩
  have ow := ow.below hB1
  have owc := Nat.le_trans owc hB1.size
  have og := og.below hB1
  have ogc := Nat.le_trans ogc hB1.size
  have hB0 := hB.size
  have hB := stepB hB hB1 hB.size
  clear hB1
  go_wp2_with fail
  refine (markMarkS_any _ _ _ _ _ 1 _ og.row (by omega) (by omega) (by omega)).mono ?_
  rintro e W11 ⟨rfl, hr, hG⟩
  have ow := ow.kept hG (fun g e => .inr (Nat.le_trans ow_og (og.row.lt g e).1))
  have hB0 := hB.size
  have hB := hB.grown hG hB.size (fun g e => Nat.le_trans ogb (og.row.lt g e).1)
  have og := og.new hr
  have owc := Nat.le_trans owc hG.size
  have ogc := Nat.le_trans ogc hG.size
  clear hr hG
  go_wp2_with fail
  refine (heldMarkS_any _ _ _ 1 _ (Rd.of_own encMk_len (by decide) og.row) (by omega) (by omega) (by omega)).mono ?_
  rintro e W12 ⟨rfl, hB1⟩
  have ow := ow.below hB1
  have owc := Nat.le_trans owc hB1.size
  have og := og.below hB1
  have ogc := Nat.le_trans ogc hB1.size
  have hB0 := hB.size
  have hB := stepB hB hB1 hB.size
  clear hB1
  go_wp2_with fail
  refine (toMarkS_any _ _ xs0 _ hlen0 (hx0.below hB)).mono ?_
  rintro e W13 ⟨gd0, rfl, od00, hB1⟩
  have ow := ow.below hB1
  have owc := Nat.le_trans owc hB1.size
  have og := og.below hB1
  have ogc := Nat.le_trans ogc hB1.size
  have hB0 := hB.size
  have hB := stepB hB hB1 hB.size
  clear hB1
  have od0 := Own.of od00
  have od0b := hB0
  have od0c := Nat.le_refl W13.heap.size
  clear od00
  have og_oh0 := ogc
  go_wp2_with fail
  have ow_oh := owc
  have og_oh := ogc
  have od0_oh := od0c
  refine (HIM.out _ _ _ (Rd.of_own encMk_len (by decide) od0.row)).mono ?_
  rintro e W14 ⟨bh, ch, rfl, oh0, hB1⟩
  have ow := ow.below hB1
  have owc := Nat.le_trans owc hB1.size
  have og := og.below hB1
  have ogc := Nat.le_trans ogc hB1.size
  have od0 := od0.below hB1
  have od0c := Nat.le_trans od0c hB1.size
  have hB0 := hB.size
  have hB := stepB hB hB1 hB.size
  clear hB1
  have oh := Own.of oh0
  have ohb := hB0
  have ohc := Nat.le_refl W14.heap.size
  clear oh0
  go_wp2_with fail
  refine (HE.out _ _ _ _ _ (Rd.of_own encMk_len (by decide) oh.row) (Rd.of_own encMk_len (by decide) ow.row)).mono ?_
  rintro e W15 ⟨rfl, hB1⟩
  have ow := ow.below hB1
  have owc := Nat.le_trans owc hB1.size
  have og := og.below hB1
  have ogc := Nat.le_trans ogc hB1.size
  have od0 := od0.below hB1
  have od0c := Nat.le_trans od0c hB1.size
  have oh := oh.below hB1
  have ohc := Nat.le_trans ohc hB1.size
  have hB0 := hB.size
  have hB := stepB hB hB1 hB.size
  clear hB1
  go_wp2_with fail
  refine (heldMarkS_any _ _ _ 1 _ (Rd.of_own encMk_len (by decide) og.row) (by omega) (by omega) (by omega)).mono ?_
  rintro e W16 ⟨rfl, hB1⟩
  have ow := ow.below hB1
  have owc := Nat.le_trans owc hB1.size
  have og := og.below hB1
  have ogc := Nat.le_trans ogc hB1.size
  have od0 := od0.below hB1
  have od0c := Nat.le_trans od0c hB1.size
  have oh := oh.below hB1
  have ohc := Nat.le_trans ohc hB1.size
  have hB0 := hB.size
  have hB := stepB hB hB1 hB.size
  clear hB1
  go_wp2
  go_ret
  exact ⟨rfl, hB⟩
end Go.Proofs.YtmjbigeeokofeaaDoor
