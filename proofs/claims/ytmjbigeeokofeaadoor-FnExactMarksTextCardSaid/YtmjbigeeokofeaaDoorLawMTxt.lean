/- Walk: the law FnExactMarksText. Printed by gen_law.py. -/
import Derived.Test.YtmjbigeeokofeaaDoorTxtM
namespace Go.Proofs.YtmjbigeeokofeaaDoor
open Go.ChangeShapes Go.WideShapes Go.ChangeAt Go.RowKit

set_option maxHeartbeats 1000000 in
theorem lawMTxt_any (a0 : Option Addr) (cap0 : Nat) (xs0 : List Mk) (w : World) (hl0 : xs0.length ≤ maxLen) (hx0 : Rd encMk w a0 xs0) (hs0 : ∀ m ∈ xs0, goodMk m) (ht : Lib.TabIs Tryd.prog w "internal/strconv.uint64pow10" .u64 Lib.pow10Tab) :
    Calls Tryd.prog 5 #[.slice a0 xs0.length cap0] w fun e w' => e = .returned (.bool true) ∧ Below w.heap.size w w' := by
  have HT := Lib.hid (Lib.tabBelow_of_tabIs ht)
  clear ht
  have hsz0 := fun W (h : Rd encMk W a0 xs0) => szMarkS_any a0 cap0 xs0 (1048576) W (by omega) (by omega) hl0 h hs0
  have HSZ0 := Lib.hid hsz0
  clear hsz0
  by_cases hq0 : szS szMk xs0 1048576 < 0
  · go_enter Tryd.func5, Tryd.ntmps5
    have hB := Below.refl w.heap.size w
    go_wp2_with fail
    refine (HSZ0.out _ (hx0.below hB)).mono ?_
    rintro e w1 ⟨rfl, hB1⟩
    have hB := stepB hB hB1 hB.size
    clear hB1
    go_wp2
    go_ret
    exact ⟨rfl, hB⟩
  obtain ⟨hok0, hn0⟩ := szS_ok (Int.not_lt.1 hq0)
  have hlen0 : xs0.length ≤ 1048576 := by omega
  have hsm0 : ∀ m ∈ xs0, szMk m ≤ 1048576 := fun m hm => by have h1 := le_sumS szMk hm; omega
  clear hok0
  go_enter Tryd.func5, Tryd.ntmps5
  have hB := Below.refl w.heap.size w
  go_wp2_with fail
  refine (HSZ0.out _ (hx0.below hB)).mono ?_
  rintro e w1 ⟨rfl, hB1⟩
  have hB := stepB hB hB1 hB.size
  clear hB1
  go_wp2_with fail
  refine (toMarkS_any _ _ xs0 _ hlen0 (hx0.below hB)).mono ?_
  rintro e w1 ⟨ga0, rfl, oa0, hB1⟩
  have hbs := hB.size
  have hB := stepB hB hB1 hB.size
  clear hB1 hbs
  go_wp2_with fail
  refine (specMarksText_any _ _ xs0 _ hlen0 (Rd.of_own encMk_len (by decide) oa0) hsm0).mono ?_
  rintro e w1 ⟨rfl, hB1⟩
  have oa0 := own_below oa0 hB1
  have hbs := hB.size
  have hB := stepB hB hB1 hB.size
  clear hB1 hbs
  clear oa0
  go_wp2_with fail
  refine (toMarkS_any _ _ xs0 _ hlen0 (hx0.below hB)).mono ?_
  rintro e w1 ⟨gb0, rfl, ob0, hB1⟩
  have hbs := hB.size
  have hB := stepB hB hB1 hB.size
  clear hB1 hbs
  go_wp2_with fail
  refine (implMarksText_any _ _ xs0 _ hlen0 (Rd.of_own encMk_len (by decide) ob0) hsm0 (tabBelow_here HT.out hB)).mono ?_
  rintro e w1 ⟨rfl, hB1⟩
  have ob0 := own_below ob0 hB1
  have hbs := hB.size
  have hB := stepB hB hB1 hB.size
  clear hB1 hbs
  have heq1 : ((mtR xs0).1.toList == (mtR xs0).1.toList) = true := by simp
  have heq2 : ((mtR xs0).2 != (mtR xs0).2) = false := by simp
  go_wp2_with fail
  refine (toMarkS_any _ _ xs0 _ hlen0 (hx0.below hB)).mono ?_
  rintro e w1 ⟨gc0, rfl, oc0, hB1⟩
  have ob0 := own_below ob0 hB1
  have hbs := hB.size
  have hB := stepB hB hB1 hB.size
  clear hB1 hbs
  go_wp2_with fail
  refine (eqMarkS_self _ _ _ _ xs0 _ (by omega) (Rd.of_own encMk_len (by decide) ob0) (Rd.of_own encMk_len (by decide) oc0)).mono ?_
  rintro e w1 ⟨rfl, hB1⟩
  have ob0 := own_below ob0 hB1
  have oc0 := own_below oc0 hB1
  have hbs := hB.size
  have hB := stepB hB hB1 hB.size
  clear hB1 hbs
  go_wp2
  go_ret
  exact ⟨rfl, hB⟩
end Go.Proofs.YtmjbigeeokofeaaDoor
