/- Walk: the law FnExactReadDating. Printed by gen_rdlaw.py. -/
import Derived.Test.YteajkofgcmfaoaaGreatDoorRdtI
import Derived.Test.YteajkofgcmfaoaaGreatDoorMh
namespace Go.Proofs.YteajkofgcmfaoaaGreatDoor
open Go.ChangeShapes Go.WideShapes Go.ChangeAt Go.RowKit

set_option maxRecDepth 100000 in
set_option maxHeartbeats 4000000 in
theorem lawRdD_any (s : ByteArray) (w : World) (_hm : s.size ≤ maxLen) (hN : NumW w) :
    Calls Tryz.prog 3 #[.string s] w fun e w' => e = .returned (.bool true) ∧ Below w.heap.size w w' := by
  by_cases hs : 1048576 < s.size
  · have hs1 : 1048576 < (s.size : Int) := by omega
    clear hN
    go_enter Tryz.func3, Tryz.ntmps3
    go_wp2
    go_ret
    exact ⟨rfl, Below.refl _ _⟩
  · have hs1 : ¬ 1048576 < (s.size : Int) := by omega
    have HX := Lib.hid (fun W => specReadDating_any s (by omega) W)
    have HY := Lib.hid (fun W (h : NumW W) => implReadDating_any s (by omega) W h)
    have hlR := rdD_len s
    generalize rdD s = R at HX HY hlR
    obtain ⟨ys, q⟩ := R
    simp only at hlR
    have HE := Lib.hid (fun (A B : Option Addr) (C D : Nat) W (h1 : Rd encCl W A ys) (h2 : Rd encCl W B ys) => eqClauseS_self A B C D ys W (by omega) h1 h2)
    have hqq : (q != q) = false := by simp
    go_enter Tryz.func3, Tryz.ntmps3
    go_wp2_with fail
    refine (HX.out _).mono ?_
    rintro e W1 ⟨⟨bw, cw, rfl, ow0⟩, hB⟩
    have ow := Own.of ow0
    clear ow0
    go_wp2_with fail
    refine (HY.out _ (hN.below hB)).mono ?_
    rintro e W2 ⟨⟨bg, cg, rfl, og0⟩, hB1⟩
    have og := Own.of og0
    clear og0
    have owl := Nat.le_refl W1.heap.size
    have hB01 := hB.size
    replace ow := ow.below hB1
    replace hB := stepB hB hB1 hB.size
    clear hB1
    go_wp2_with fail
    refine (HE.out _ _ _ _ _ (Rd.of_own encCl_len (by decide) og.row) (Rd.of_own encCl_len (by decide) ow.row)).mono ?_
    rintro e W3 ⟨rfl, hB1⟩
    replace ow := ow.below hB1
    replace og := og.below hB1
    replace hB := stepB hB hB1 hB.size
    clear hB1
    go_wp2_with fail
    refine (markClauseS_any _ _ _ _ _ 1 _ og.row (by omega) (by omega) (by omega)).mono ?_
    rintro e W4 ⟨rfl, hr, hG⟩
    replace ow := ow.kept hG (fun g e => .inr (Nat.le_trans owl (og.row.lt g e).1))
    replace hB := hB.grown hG hB.size (fun g e => Nat.le_trans hB01 (og.row.lt g e).1)
    replace og := og.new hr
    clear hr hG
    go_wp2_with fail
    refine (heldClauseS_any _ _ _ 1 _ (Rd.of_own encCl_len (by decide) og.row) (by omega) (by omega) (by omega)).mono ?_
    rintro e W5 ⟨rfl, hB1⟩
    replace ow := ow.below hB1
    replace og := og.below hB1
    replace hB := stepB hB hB1 hB.size
    clear hB1
    go_wp2_with fail
    refine (HY.out _ (hN.below hB)).mono ?_
    rintro e W6 ⟨⟨bh, ch, rfl, oh0⟩, hB1⟩
    have oh := Own.of oh0
    clear oh0
    replace ow := ow.below hB1
    replace og := og.below hB1
    replace hB := stepB hB hB1 hB.size
    clear hB1
    go_wp2_with fail
    refine (HE.out _ _ _ _ _ (Rd.of_own encCl_len (by decide) oh.row) (Rd.of_own encCl_len (by decide) ow.row)).mono ?_
    rintro e W7 ⟨rfl, hB1⟩
    replace ow := ow.below hB1
    replace og := og.below hB1
    replace oh := oh.below hB1
    replace hB := stepB hB hB1 hB.size
    clear hB1
    go_wp2_with fail
    refine (heldClauseS_any _ _ _ 1 _ (Rd.of_own encCl_len (by decide) og.row) (by omega) (by omega) (by omega)).mono ?_
    rintro e W8 ⟨rfl, hB1⟩
    replace ow := ow.below hB1
    replace og := og.below hB1
    replace oh := oh.below hB1
    replace hB := stepB hB hB1 hB.size
    clear hB1
    go_wp2
    go_ret
    exact ⟨rfl, hB⟩
end Go.Proofs.YteajkofgcmfaoaaGreatDoor
