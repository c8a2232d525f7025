/- Walk: the law FnExactNextHolding. Printed by gen_law.py. -/
import Derived.Test.YtkfgbnmeiknlnaaGreatDoorNextH
import Derived.Deep.RegionHeldLaw
namespace Go.Proofs.YtkfgbnmeiknlnaaGreatDoor
open Go.ChangeShapes Go.WideShapes Go.ChangeAt Go.RowKit

set_option maxHeartbeats 1000000 in
theorem lawNext_any (a0 : Option Addr) (cap0 : Nat) (xs0 : List Rg) (m1 : Cl) (z2 : Int) (w : World) (hl0 : xs0.length ≤ maxLen) (hx0 : Rd encRg w a0 xs0) (hs0 : ∀ m ∈ xs0, goodRg m) (hm1 : goodCl m1) (_hz2 : -9223372036854775808 ≤ z2 ∧ z2 ≤ 9223372036854775807) :
    Calls Tryz.prog 3 #[.slice a0 xs0.length cap0, .agg #[.int .i64 m1.kind, .int .i64 m1.number, .int .i64 m1.month, .int .i64 m1.feast, .int .i64 m1.relation, .int .i64 m1.weekday, .int .i64 m1.style, .string m1.king], .int .i64 z2] w fun e w' => e = .returned (.bool true) ∧ Below w.heap.size w w' := by
  have hsz0 := fun W (h : Rd encRg W a0 xs0) => szReignS_any a0 cap0 xs0 (1048576) W (by omega) (by omega) hl0 h hs0
  have HSZ0 := Lib.hid hsz0
  clear hsz0
  by_cases hq0 : szS szRg xs0 1048576 < 0
  · go_enter Tryz.func3, Tryz.ntmps3
    have hA := At.start w [.int .i64 m1.kind, .int .i64 m1.number, .int .i64 m1.month, .int .i64 m1.feast, .int .i64 m1.relation, .int .i64 m1.weekday, .int .i64 m1.style, .string m1.king] 24
    have hB := hA.below
    have c0 := hA.cell 0 _ rfl
    have c1 := hA.cell 1 _ rfl
    have c2 := hA.cell 2 _ rfl
    have c3 := hA.cell 3 _ rfl
    have c4 := hA.cell 4 _ rfl
    have c5 := hA.cell 5 _ rfl
    have c6 := hA.cell 6 _ rfl
    have c7 := hA.cell 7 _ rfl
    go_wp2_with fail
    refine (HSZ0.out _ (hx0.below hB)).mono ?_
    rintro e w1 ⟨rfl, hB1⟩
    have hB := stepB hB hB1 hB.size
    have hA := hA.step hB1
    have c0 := hA.cell 0 _ rfl
    have c1 := hA.cell 1 _ rfl
    have c2 := hA.cell 2 _ rfl
    have c3 := hA.cell 3 _ rfl
    have c4 := hA.cell 4 _ rfl
    have c5 := hA.cell 5 _ rfl
    have c6 := hA.cell 6 _ rfl
    have c7 := hA.cell 7 _ rfl
    clear hB1
    go_wp2
    go_ret
    exact ⟨rfl, hB⟩
  obtain ⟨hok0, hn0⟩ := szS_ok (Int.not_lt.1 hq0)
  have hlen0 : xs0.length ≤ 1048576 := by omega
  have hsm0 : ∀ m ∈ xs0, szRg m ≤ 1048576 := fun m hm => by have h1 := le_sumS szRg hm; omega
  clear hok0
  have hle0 : szS szRg xs0 1048576 ≤ 1048576 := by have := (szS_ok (Int.not_lt.1 hq0)).1; omega
  have hsz1 := fun W => szClause_any m1 ((szS szRg xs0 1048576)) W (by omega) (by omega) hm1
  have HSZ1 := Lib.hid hsz1
  clear hsz1
  by_cases hq1 : clip ((szS szRg xs0 1048576) - szCl m1) < 0
  · go_enter Tryz.func3, Tryz.ntmps3
    have hA := At.start w [.int .i64 m1.kind, .int .i64 m1.number, .int .i64 m1.month, .int .i64 m1.feast, .int .i64 m1.relation, .int .i64 m1.weekday, .int .i64 m1.style, .string m1.king] 24
    have hB := hA.below
    have c0 := hA.cell 0 _ rfl
    have c1 := hA.cell 1 _ rfl
    have c2 := hA.cell 2 _ rfl
    have c3 := hA.cell 3 _ rfl
    have c4 := hA.cell 4 _ rfl
    have c5 := hA.cell 5 _ rfl
    have c6 := hA.cell 6 _ rfl
    have c7 := hA.cell 7 _ rfl
    go_wp2_with fail
    refine (HSZ0.out _ (hx0.below hB)).mono ?_
    rintro e w1 ⟨rfl, hB1⟩
    have hB := stepB hB hB1 hB.size
    have hA := hA.step hB1
    have c0 := hA.cell 0 _ rfl
    have c1 := hA.cell 1 _ rfl
    have c2 := hA.cell 2 _ rfl
    have c3 := hA.cell 3 _ rfl
    have c4 := hA.cell 4 _ rfl
    have c5 := hA.cell 5 _ rfl
    have c6 := hA.cell 6 _ rfl
    have c7 := hA.cell 7 _ rfl
    clear hB1
    go_wp2_with fail
    refine (HSZ1.out _).mono ?_
    rintro e w1 ⟨rfl, hB1⟩
    have hB := stepB hB hB1 hB.size
    have hA := hA.step hB1
    have c0 := hA.cell 0 _ rfl
    have c1 := hA.cell 1 _ rfl
    have c2 := hA.cell 2 _ rfl
    have c3 := hA.cell 3 _ rfl
    have c4 := hA.cell 4 _ rfl
    have c5 := hA.cell 5 _ rfl
    have c6 := hA.cell 6 _ rfl
    have c7 := hA.cell 7 _ rfl
    clear hB1
    go_wp2
    go_ret
    exact ⟨rfl, hB⟩
  have hk1 : szCl m1 ≤ 1048576 := by unfold clip at hq1; split at hq1 <;> omega
  go_enter Tryz.func3, Tryz.ntmps3
  have hA := At.start w [.int .i64 m1.kind, .int .i64 m1.number, .int .i64 m1.month, .int .i64 m1.feast, .int .i64 m1.relation, .int .i64 m1.weekday, .int .i64 m1.style, .string m1.king] 24
  have hB := hA.below
  have c0 := hA.cell 0 _ rfl
  have c1 := hA.cell 1 _ rfl
  have c2 := hA.cell 2 _ rfl
  have c3 := hA.cell 3 _ rfl
  have c4 := hA.cell 4 _ rfl
  have c5 := hA.cell 5 _ rfl
  have c6 := hA.cell 6 _ rfl
  have c7 := hA.cell 7 _ rfl
  go_wp2_with fail
  refine (HSZ0.out _ (hx0.below hB)).mono ?_
  rintro e w1 ⟨rfl, hB1⟩
  have hB := stepB hB hB1 hB.size
  have hA := hA.step hB1
  have c0 := hA.cell 0 _ rfl
  have c1 := hA.cell 1 _ rfl
  have c2 := hA.cell 2 _ rfl
  have c3 := hA.cell 3 _ rfl
  have c4 := hA.cell 4 _ rfl
  have c5 := hA.cell 5 _ rfl
  have c6 := hA.cell 6 _ rfl
  have c7 := hA.cell 7 _ rfl
  clear hB1
  go_wp2_with fail
  refine (HSZ1.out _).mono ?_
  rintro e w1 ⟨rfl, hB1⟩
  have hB := stepB hB hB1 hB.size
  have hA := hA.step hB1
  have c0 := hA.cell 0 _ rfl
  have c1 := hA.cell 1 _ rfl
  have c2 := hA.cell 2 _ rfl
  have c3 := hA.cell 3 _ rfl
  have c4 := hA.cell 4 _ rfl
  have c5 := hA.cell 5 _ rfl
  have c6 := hA.cell 6 _ rfl
  have c7 := hA.cell 7 _ rfl
  clear hB1
  go_wp2_with fail
  have hAd := hA.step (Below.refl _ w1).drew
  have hBd := hAd.below
  go_region_held_law (fun w' => w'.cell? ⟨w.heap.size, 0, none⟩ = some (.int .i64 m1.kind) ∧ w'.cell? ⟨w.heap.size, 1, none⟩ = some (.int .i64 m1.number) ∧ w'.cell? ⟨w.heap.size, 2, none⟩ = some (.int .i64 m1.month) ∧ w'.cell? ⟨w.heap.size, 3, none⟩ = some (.int .i64 m1.feast) ∧ w'.cell? ⟨w.heap.size, 4, none⟩ = some (.int .i64 m1.relation) ∧ w'.cell? ⟨w.heap.size, 5, none⟩ = some (.int .i64 m1.weekday) ∧ w'.cell? ⟨w.heap.size, 6, none⟩ = some (.int .i64 m1.style) ∧ w'.cell? ⟨w.heap.size, 7, none⟩ = some (.string m1.king)) (first | exact ⟨hAd.cell 0 _ rfl, hAd.cell 1 _ rfl, hAd.cell 2 _ rfl, hAd.cell 3 _ rfl, hAd.cell 4 _ rfl, hAd.cell 5 _ rfl, hAd.cell 6 _ rfl, hAd.cell 7 _ rfl⟩ | exact ⟨(hAd.step hB3).cell 0 _ rfl, (hAd.step hB3).cell 1 _ rfl, (hAd.step hB3).cell 2 _ rfl, (hAd.step hB3).cell 3 _ rfl, (hAd.step hB3).cell 4 _ rfl, (hAd.step hB3).cell 5 _ rfl, (hAd.step hB3).cell 6 _ rfl, (hAd.step hB3).cell 7 _ rfl⟩ | exact ⟨((hAd.step hB3).step hB4).cell 0 _ rfl, ((hAd.step hB3).step hB4).cell 1 _ rfl, ((hAd.step hB3).step hB4).cell 2 _ rfl, ((hAd.step hB3).step hB4).cell 3 _ rfl, ((hAd.step hB3).step hB4).cell 4 _ rfl, ((hAd.step hB3).step hB4).cell 5 _ rfl, ((hAd.step hB3).step hB4).cell 6 _ rfl, ((hAd.step hB3).step hB4).cell 7 _ rfl⟩ | exact ⟨(((hAd.step hB3).step hB4).step hB5).cell 0 _ rfl, (((hAd.step hB3).step hB4).step hB5).cell 1 _ rfl, (((hAd.step hB3).step hB4).step hB5).cell 2 _ rfl, (((hAd.step hB3).step hB4).step hB5).cell 3 _ rfl, (((hAd.step hB3).step hB4).step hB5).cell 4 _ rfl, (((hAd.step hB3).step hB4).step hB5).cell 5 _ rfl, (((hAd.step hB3).step hB4).step hB5).cell 6 _ rfl, (((hAd.step hB3).step hB4).step hB5).cell 7 _ rfl⟩) (first | (go_at_call 12; refine (toReignS_any _ _ xs0 _ hlen0 (hx0.below hBd)).mono ?_; rintro e w3 ⟨ga0, rfl, oa0, hB3⟩) | (go_at_call 13; refine (toClause_any m1 _).mono ?_; rintro e w4 ⟨rfl, hB4⟩) | (go_at_call 11; refine (specNext_any _ _ xs0 m1 z2 _ hlen0 (Rd.of_own encRg_len (by decide) (own_below oa0 hB4)) hsm0 hk1).mono ?_; rintro e w5 ⟨rfl, hB5⟩) | fail)
  have hA := (((hAd.step hB3).step hB4).step hB5)
  have hB := hA.below
  clear hAd hBd hB3 hB4 hB5 oa0 c0 c1 c2 c3 c4 c5 c6 c7
  obtain ⟨w1, hw1⟩ : ∃ w1, w1 = w5 := ⟨_, rfl⟩
  subst hw1
  have c0 := hA.cell 0 _ rfl
  have c1 := hA.cell 1 _ rfl
  have c2 := hA.cell 2 _ rfl
  have c3 := hA.cell 3 _ rfl
  have c4 := hA.cell 4 _ rfl
  have c5 := hA.cell 5 _ rfl
  have c6 := hA.cell 6 _ rfl
  have c7 := hA.cell 7 _ rfl
  go_wp2_with fail
  refine (toReignS_any _ _ xs0 _ hlen0 (hx0.below hB)).mono ?_
  rintro e w1 ⟨gb0, rfl, ob0, hB1⟩
  have hbs := hB.size
  have hB := stepB hB hB1 hB.size
  have hA := hA.step hB1
  have c0 := hA.cell 0 _ rfl
  have c1 := hA.cell 1 _ rfl
  have c2 := hA.cell 2 _ rfl
  have c3 := hA.cell 3 _ rfl
  have c4 := hA.cell 4 _ rfl
  have c5 := hA.cell 5 _ rfl
  have c6 := hA.cell 6 _ rfl
  have c7 := hA.cell 7 _ rfl
  clear hB1 hbs
  go_wp2_with fail
  refine (toClause_any m1 _).mono ?_
  rintro e w1 ⟨rfl, hB1⟩
  have ob0 := own_below ob0 hB1
  have hbs := hB.size
  have hB := stepB hB hB1 hB.size
  have hA := hA.step hB1
  have c0 := hA.cell 0 _ rfl
  have c1 := hA.cell 1 _ rfl
  have c2 := hA.cell 2 _ rfl
  have c3 := hA.cell 3 _ rfl
  have c4 := hA.cell 4 _ rfl
  have c5 := hA.cell 5 _ rfl
  have c6 := hA.cell 6 _ rfl
  have c7 := hA.cell 7 _ rfl
  clear hB1 hbs
  go_wp2_with fail
  refine (implNext_any _ _ xs0 m1 z2 _ hlen0 (Rd.of_own encRg_len (by decide) ob0) hsm0 hk1).mono ?_
  rintro e w1 ⟨rfl, hB1⟩
  have ob0 := own_below ob0 hB1
  have hbs := hB.size
  have hB := stepB hB hB1 hB.size
  have hA := hA.step hB1
  have c0 := hA.cell 0 _ rfl
  have c1 := hA.cell 1 _ rfl
  have c2 := hA.cell 2 _ rfl
  have c3 := hA.cell 3 _ rfl
  have c4 := hA.cell 4 _ rfl
  have c5 := hA.cell 5 _ rfl
  have c6 := hA.cell 6 _ rfl
  have c7 := hA.cell 7 _ rfl
  clear hB1 hbs
  have heq469 : ((nextR xs0 m1 z2).1 != (nextR xs0 m1 z2).1) = false := by simp
  have heq695 : ((nextR xs0 m1 z2).2 != (nextR xs0 m1 z2).2) = false := by simp
  go_wp2_with fail
  refine (toReignS_any _ _ xs0 _ hlen0 (hx0.below hB)).mono ?_
  rintro e w1 ⟨gc0, rfl, oc0, hB1⟩
  have ob0 := own_below ob0 hB1
  have hbs := hB.size
  have hB := stepB hB hB1 hB.size
  have hA := hA.step hB1
  have c0 := hA.cell 0 _ rfl
  have c1 := hA.cell 1 _ rfl
  have c2 := hA.cell 2 _ rfl
  have c3 := hA.cell 3 _ rfl
  have c4 := hA.cell 4 _ rfl
  have c5 := hA.cell 5 _ rfl
  have c6 := hA.cell 6 _ rfl
  have c7 := hA.cell 7 _ rfl
  clear hB1 hbs
  go_wp2_with fail
  refine (eqReignS_self _ _ _ _ xs0 _ (by omega) (Rd.of_own encRg_len (by decide) ob0) (Rd.of_own encRg_len (by decide) oc0)).mono ?_
  rintro e w1 ⟨rfl, hB1⟩
  have ob0 := own_below ob0 hB1
  have oc0 := own_below oc0 hB1
  have hbs := hB.size
  have hB := stepB hB hB1 hB.size
  have hA := hA.step hB1
  have c0 := hA.cell 0 _ rfl
  have c1 := hA.cell 1 _ rfl
  have c2 := hA.cell 2 _ rfl
  have c3 := hA.cell 3 _ rfl
  have c4 := hA.cell 4 _ rfl
  have c5 := hA.cell 5 _ rfl
  have c6 := hA.cell 6 _ rfl
  have c7 := hA.cell 7 _ rfl
  clear hB1 hbs
  go_wp2
  go_ret
  exact ⟨rfl, hB⟩
end Go.Proofs.YtkfgbnmeiknlnaaGreatDoor
