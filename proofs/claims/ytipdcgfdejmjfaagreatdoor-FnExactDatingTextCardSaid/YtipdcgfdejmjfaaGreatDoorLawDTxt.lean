/- Walk: the law FnExactDatingText. Printed by gen_law.py. -/
import Derived.Test.YtipdcgfdejmjfaaGreatDoorDtx
namespace Go.Proofs.YtipdcgfdejmjfaaGreatDoor
open Go.ChangeShapes Go.WideShapes Go.ChangeAt Go.RowKit

set_option maxHeartbeats 1000000 in
theorem lawDTxt_any (a0 : Option Addr) (cap0 : Nat) (xs0 : List Cl) (w : World) (hl0 : xs0.length ≤ maxLen) (hx0 : Rd encCl w a0 xs0) (hs0 : ∀ m ∈ xs0, goodCl m) (ht : Lib.TabIs Tryz.prog w "internal/strconv.uint64pow10" .u64 Lib.pow10Tab) :
    Calls Tryz.prog 3 #[.slice a0 xs0.length cap0] w fun e w' => e = .returned (.bool true) ∧ Below w.heap.size w w' := by
  have HT := Lib.hid (Lib.tabBelow_of_tabIs ht)
  clear ht
  have hsz0 := fun W (h : Rd encCl W a0 xs0) => szClauseS_any a0 cap0 xs0 (1048576) W (by omega) (by omega) hl0 h hs0
  have HSZ0 := Lib.hid hsz0
  clear hsz0
  by_cases hq0 : szS szCl xs0 1048576 < 0
  · go_enter Tryz.func3, Tryz.ntmps3
    have hB := Below.refl w.heap.size w
    go_wp2_with fail
    refine (HSZ0.out _ (hx0.below hB)).mono ?_
    rintro e w1 ⟨rfl, hB1⟩
    have hB := stepB hB hB1 hB.size
    clear hB1
    go_wp2
    go_ret
    exact ⟨rfl, hB⟩
  obtain ⟨hok0, hn0⟩ := szS_ok (Int.not_lt.1 hq0)
  have hlen0 : xs0.length ≤ 1048576 := by omega
  have hsm0 : ∀ m ∈ xs0, szCl m ≤ 1048576 := fun m hm => by have h1 := le_sumS szCl hm; omega
  clear hok0
  go_enter Tryz.func3, Tryz.ntmps3
  have hB := Below.refl w.heap.size w
  go_wp2_with fail
  refine (HSZ0.out _ (hx0.below hB)).mono ?_
  rintro e w1 ⟨rfl, hB1⟩
  have hB := stepB hB hB1 hB.size
  clear hB1
  go_wp2_with fail
  refine (toClauseS_any _ _ xs0 _ hlen0 (hx0.below hB)).mono ?_
  rintro e w1 ⟨ga0, rfl, oa0, hB1⟩
  have hbs := hB.size
  have hB := stepB hB hB1 hB.size
  clear hB1 hbs
  go_wp2_with fail
  refine (specDatingText_any _ _ xs0 _ hlen0 (Rd.of_own encCl_len (by decide) oa0) hsm0).mono ?_
  rintro e w1 ⟨rfl, hB1⟩
  have oa0 := own_below oa0 hB1
  have hbs := hB.size
  have hB := stepB hB hB1 hB.size
  clear hB1 hbs
  clear oa0
  go_wp2_with fail
  refine (toClauseS_any _ _ xs0 _ hlen0 (hx0.below hB)).mono ?_
  rintro e w1 ⟨gb0, rfl, ob0, hB1⟩
  have hbs := hB.size
  have hB := stepB hB hB1 hB.size
  clear hB1 hbs
  go_wp2_with fail
  refine (implDatingText_any _ _ xs0 _ hlen0 (Rd.of_own encCl_len (by decide) ob0) hsm0 (tabHere HT.out hB)).mono ?_
  rintro e w1 ⟨rfl, hB1⟩
  have ob0 := own_below ob0 hB1
  have hbs := hB.size
  have hB := stepB hB hB1 hB.size
  clear hB1 hbs
  have heq1 : ((dtxR xs0).1.toList == (dtxR xs0).1.toList) = true := by simp
  have heq674 : ((dtxR xs0).2 != (dtxR xs0).2) = false := by simp
  go_wp2_with fail
  refine (toClauseS_any _ _ xs0 _ hlen0 (hx0.below hB)).mono ?_
  rintro e w1 ⟨gc0, rfl, oc0, hB1⟩
  have ob0 := own_below ob0 hB1
  have hbs := hB.size
  have hB := stepB hB hB1 hB.size
  clear hB1 hbs
  go_wp2_with fail
  refine (eqClauseS_self _ _ _ _ xs0 _ (by omega) (Rd.of_own encCl_len (by decide) ob0) (Rd.of_own encCl_len (by decide) oc0)).mono ?_
  rintro e w1 ⟨rfl, hB1⟩
  have ob0 := own_below ob0 hB1
  have oc0 := own_below oc0 hB1
  have hbs := hB.size
  have hB := stepB hB hB1 hB.size
  clear hB1 hbs
  go_wp2
  go_ret
  exact ⟨rfl, hB⟩
end Go.Proofs.YtipdcgfdejmjfaaGreatDoor
