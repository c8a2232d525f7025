/- Walk: the law FnExactAreMarks. -/
import Derived.Test.YtdocebblppijmaaDoorMarkSpec
import Derived.Test.YtdocebblppijmaaDoorMarkImpl
namespace Go.Proofs.YtdocebblppijmaaDoor
open Go.ChangeShapes Go.WideShapes Go.ChangeAt Go.RowKit

set_option maxHeartbeats 400000 in
theorem lawAreMarks_any (a : Option Addr) (cap : Nat) (xs : List Mk) (w : World) (hl : xs.length ≤ maxLen) (hx : Rd encMk w a xs) (hs : ∀ m ∈ xs, m.name.size ≤ maxLen) :
    Calls Tryd.prog 4 #[.slice a xs.length cap] w fun e w' => e = .returned (.bool true) ∧ Below w.heap.size w w' := by
  have hsz := fun W (h : Rd encMk W a xs) => szMarkS_any a cap xs 1048576 W (by omega) (by omega) hl h hs
  by_cases hq : szS szMk xs 1048576 < 0
  · have HSZ := Lib.hid hsz
    clear hsz
    go_enter Tryd.func4, Tryd.ntmps4
    go_wp2_with (go_at_call 20; refine (HSZ.out _ hx).mono ?_; rintro e w1 ⟨rfl, hB1⟩)
    go_ret
    exact ⟨rfl, by assumption⟩
  · obtain ⟨hok, hn⟩ := szS_ok (Int.not_lt.1 hq)
    have hlen : xs.length ≤ 1048576 := by omega
    have hsm : ∀ m ∈ xs, m.name.size ≤ 1048576 := fun m hm => by have h1 := le_sumS szMk hm; unfold szMk at h1 hok hq; omega
    have HSZ := Lib.hid hsz
    clear hsz hok
    go_enter Tryd.func4, Tryd.ntmps4
    go_wp2_with fail
    refine (HSZ.out _ hx).mono ?_
    rintro e w1 ⟨rfl, hB1⟩
    go_wp2_with fail
    refine (toMarkS_any _ _ xs _ hlen (hx.below hB1)).mono ?_
    rintro e w2 ⟨g2, rfl, ho2, hB2⟩
    have r2 := Rd.of_own encMk_len (by decide) ho2
    go_wp2_with fail
    refine (specAreMarks_any _ _ xs _ hlen r2 hsm).mono ?_
    rintro e w3 ⟨rfl, hB3⟩
    have hB13 := stepB (stepB hB1 hB2 hB1.size) hB3 (Nat.le_trans hB1.size hB2.size)
    clear ho2 r2 hB1 hB2 hB3
    go_wp2_with fail
    refine (toMarkS_any _ _ xs _ hlen (hx.below hB13)).mono ?_
    rintro e w4 ⟨g4, rfl, ho4, hB4⟩
    have hB14 := stepB hB13 hB4 hB13.size
    clear hB13 hB4
    go_wp2_with fail
    refine (implAreMarks_any _ _ xs _ hlen (Rd.of_own encMk_len (by decide) ho4) hsm).mono ?_
    rintro e w5 ⟨rfl, hB5⟩
    have ho5 := own_below ho4 hB5
    have hB15 := stepB hB14 hB5 hB14.size
    clear hB14 hB5 ho4
    have hne : (areMarksB xs != areMarksB xs) = false := by simp
    go_wp2_with fail
    refine (toMarkS_any _ _ xs _ hlen (hx.below hB15)).mono ?_
    rintro e w6 ⟨g6, rfl, ho6, hB6⟩
    have r5 := Rd.of_own encMk_len (by decide) (own_below ho5 hB6)
    have r6 := Rd.of_own encMk_len (by decide) ho6
    have hB16 := stepB hB15 hB6 hB15.size
    clear hB15 hB6 ho5 ho6
    go_wp2_with fail
    refine (eqMarkS_self _ _ _ _ xs _ hlen r5 r6).mono ?_
    rintro e w7 ⟨rfl, hB7⟩
    have hB17 := stepB hB16 hB7 hB16.size
    clear hB16 hB7
    go_wp2
    go_ret
    exact ⟨rfl, hB17⟩
end Go.Proofs.YtdocebblppijmaaDoor
