/- Walks: the old calendar of the program. -/
import Derived.Test.YtdbgnbohdplndaaGreatDoorCal
import Derived.Test.YtdbgnbohdplndaaGreatDoorFix
import Derived.BigRegion
import Derived.BigQuiet
import Derived.StillTailTactics
namespace Go.Proofs.YtdbgnbohdplndaaGreatDoor
open Go.ChangeShapes Go.WideShapes Go.ChangeAt Go.RowKit Go.IntWalk

theorem isLeap_any (y : Int) (w : World) (h0 : 0 ≤ y) (h1 : y ≤ 5000) : Calls Tryz.prog 185 #[.int .i64 y, .bool false] w fun e w' => e = .returned (.bool (decide (y % 4 = 0))) ∧ w = w' := by
  by_cases hy : y % 4 = 0
  · go_enter Tryz.func185, Tryz.ntmps185
    go_wp2
    go_ret
    exact ⟨ret_bool (by simp [hy]), rfl⟩
  · go_enter Tryz.func185, Tryz.ntmps185
    go_wp2
    go_ret
    exact ⟨ret_bool (by simp [hy]), rfl⟩
theorem lengthOfMonth_any (y m : Int) (w : World) (h0 : 0 ≤ y) (h1 : y ≤ 5000) : Calls Tryz.prog 154 #[.int .i64 y, .int .i64 m, .bool false] w fun e w' => e = .returned (.int .i64 (mlO y m)) ∧ w = w' := by
  have HL := Lib.hid (fun W => isLeap_any y W h0 h1)
  have hl : Hid (mlO y m = if m = 2 then (if y % 4 = 0 then 29 else 28) else if m = 4 ∨ m = 6 ∨ m = 9 ∨ m = 11 then 30 else 31) := rfl
  generalize mlO y m = V at hl ⊢
  by_cases hy : y % 4 = 0
  all_goals
    have hy' := Lib.hid hy
    go_enter Tryz.func154, Tryz.ntmps154
    go_wp2_with (go_at_call 185; refine (HL.out _).mono ?_; rintro e w' ⟨rfl, rfl⟩)
    all_goals go_ret
    all_goals exact ⟨ret_int (by rw [hl.out]; have := hy'.out; clear hl hy'; simp_all), rfl⟩
theorem newYear_any (y : Int) (w : World) (h0 : 1 ≤ y) (h1 : y ≤ 5000) : Calls Tryz.prog 153 #[.int .i64 y, .bool false] w fun e w' => e = .returned (.int .i64 (nyO y)) ∧ w = w' := by
  have v1 := i64_in (y - 1) (by omega)
  have v2 := i64_in (365 * (y - 1)) (by omega)
  have v3 := i64_in ((y - 1) / 4) (by omega)
  have v4 := i64_in (365 * (y - 1) + (y - 1) / 4) (by omega)
  go_enter Tryz.func153, Tryz.ntmps153
  go_wp2
  go_ret
  exact ⟨rfl, rfl⟩
theorem weekdayOf_any (n : Int) (w : World) (h0 : -5 ≤ n) (h1 : n ≤ 2000000) : Calls Tryz.prog 123 #[.int .i64 n] w fun e w' => e = .returned (.int .i64 ((n + 5) % 7)) ∧ w = w' := by
  have v1 := i64_in (n + 5) (by omega)
  have v2 := i64_in ((n + 5) % 7) (by omega)
  go_enter Tryz.func123, Tryz.ntmps123
  go_wp2
  go_ret
  exact ⟨rfl, rfl⟩
set_option maxRecDepth 100000 in
set_option maxHeartbeats 1000000 in
theorem dayOf_any (y : Int) (m : Nat) (d : Int) (w : World) (h0 : 1 ≤ y) (h1 : y ≤ 5000) (hm : m ≤ 20) (hm1 : 1 ≤ m) (hd0 : -100 ≤ d) (hd : d ≤ 100) :
    Calls Tryz.prog 159 #[.agg #[.int .i64 y, .int .i64 m, .int .i64 d], .bool false] w fun e w' => e = .returned (.int .i64 (numO y m d)) ∧ Below w.heap.size w w' := by
  have HN := Lib.hid (fun W => newYear_any y W h0 h1)
  have HM := Lib.hid (fun m W => lengthOfMonth_any y m W (by omega) h1)
  have hA0 : At w [.int .i64 y, .int .i64 m, .int .i64 d] (w.alloc (.cells #[.int .i64 y, .int .i64 m, .int .i64 d] 137)) := At.start _ _ _
  have hR : Hid (numO y m d = nyO y + d - 1 + cumO y (m - 1)) := rfl
  have hny : -100 ≤ nyO y ∧ nyO y ≤ 2000000 := by unfold nyO; omega
  generalize numO y m d = R at hR ⊢
  have HC := Lib.hid (cumO_succ y)
  have HB := Lib.hid (cumO_bd y)
  generalize nyO y = N at HN hR hny ⊢
  generalize cumO y = C at HC HB hR
  generalize mlO y = L at HM HC
  have v1 := i64_in (N + d) (by omega)
  have v2 := i64_in (N + d - 1) (by omega)
  have E0 := Later.cell (hA0.cell 0 _ rfl) hA0.size
  have E2 := Later.cell (hA0.cell 2 _ rfl) hA0.size
  go_enter Tryz.func159, Tryz.ntmps159
  go_wp2_with fail
  refine wp_region_later _ (by kernel_rfl) (by kernel_rfl) ?_
  repeat (go_big_quiet_step ((go_at_call 153; exact Later.same (HN.out _))))
  refine wpQuiet_nil ?_
  intro z
  have hz := z.prop
  generalize z.val = w2 at hz
  clear E0 E2
  have hA := hA0.step hz
  clear hz hA0
  go_wp2
  go_loopw [5, 6] (fun s i wr => ∃ k : Nat, k + 1 ≤ m ∧ i = .int .i64 ((k : Int) + 1) ∧ s = .int .i64 (N + d - 1 + C k) ∧ At w [.int .i64 y, .int .i64 m, .int .i64 d] wr) (fun _ i _ => m - (intOf i).toNat)
  case atStart => exact ⟨0, hm1, rfl, by rw [show C 0 = 0 by have := HB.out 0; omega]; simp, hA⟩
  case round =>
    clear hA
    obtain ⟨k, hk, rfl, rfl, hA⟩ := hrel
    have b0 := hA.cell 0 _ rfl
    have b1 := hA.cell 1 _ rfl
    have hb := HB.out k
    by_cases hlt : k + 1 < m
    · have hlt' : (k : Int) + 1 < (m : Int) := by omega
      have hs := HC.out k
      have hb2 := HB.out (k + 1)
      have v3 := i64_in (N + d - 1 + C k + L ((k : Int) + 1)) (by omega)
      go_wp2_with (go_at_call 154; refine (HM.out _ _).mono ?_; rintro e w' ⟨rfl, rfl⟩)
      go_roundw
      case rel => exact ⟨k + 1, by omega, by go_num, by rw [hs]; congr 1; omega, hA⟩
      case measure => simp [intOf]; omega
    · have hlt' : decide ((k : Int) + 1 < (m : Int)) = false := by simp; omega
      go_wp2
      go_ret
      exact ⟨ret_int (by rw [hR.out]; congr 2; omega), hA.below⟩
end Go.Proofs.YtdbgnbohdplndaaGreatDoor
