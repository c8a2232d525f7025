/- Walks: comparing, choosing the first that is not zero. -/
import Derived.Test.YtggcpaiogliboaaDoorDays
namespace Go.Proofs.YtggcpaiogliboaaDoor
open Go.ChangeShapes Go.WideShapes Go.ChangeAt Go.RowKit

theorem isNaNS_any (x : ByteArray) (w : World) : Calls Tryd.prog 185 #[.string x] w fun e w' => e = .returned (.bool false) ∧ w = w' := by
  go_enter Tryd.func185, Tryd.ntmps185
  go_wp2
  go_ret
  exact ⟨ret_bool (by simp), rfl⟩
theorem isNaNI_any (x : Int) (w : World) : Calls Tryd.prog 186 #[.int .i64 x] w fun e w' => e = .returned (.bool false) ∧ w = w' := by
  go_enter Tryd.func186, Tryd.ntmps186
  go_wp2
  go_ret
  exact ⟨ret_bool (by simp), rfl⟩
theorem cmpS_any (x y : ByteArray) (w : World) : Calls Tryd.prog 164 #[.string x, .string y] w fun e w' => e = .returned (.int .i64 (cmpS x.toList y.toList)) ∧ w = w' := by
  have h := bl_tri x.toList y.toList
  unfold cmpS
  go_enter Tryd.func164, Tryd.ntmps164
  go_wp2_with (go_at_call 185; refine (isNaNS_any _ _).mono ?_; rintro e w' ⟨rfl, rfl⟩)
  all_goals go_ret
  all_goals exact ⟨ret_int (by simp_all), rfl⟩
theorem cmpI_any (x y : Int) (w : World) : Calls Tryd.prog 165 #[.int .i64 x, .int .i64 y] w fun e w' => e = .returned (.int .i64 (cmpI x y)) ∧ w = w' := by
  have H := Lib.hid (rfl : cmpI x y = cmpI x y)
  go_enter Tryd.func165, Tryd.ntmps165
  go_wp2_with (go_at_call 186; refine (isNaNI_any _ _).mono ?_; rintro e w' ⟨rfl, rfl⟩)
  all_goals go_ret
  all_goals exact ⟨ret_int (by unfold cmpI; split <;> (try split) <;> omega), rfl⟩
theorem or2_any (b : Nat) (x y : Int) (w : World) (h0 : w.cell? ⟨b, 0, none⟩ = some (.int .i64 x)) (h1 : w.cell? ⟨b, 1, none⟩ = some (.int .i64 y)) :
    Calls Tryd.prog 163 #[.slice (some ⟨b, 0, none⟩) 2 2] w fun e w' => e = .returned (.int .i64 (orI x y)) ∧ w = w' := by
  cases hx : (x != 0) <;> cases hy : (y != 0)
  all_goals
    go_enter Tryd.func163, Tryd.ntmps163
    go_wp2
    refine wp_loop_rounds 3 ?_
    repeat any_goals (rw [rounds_succ]; go_wp2)
    go_ret
    exact ⟨ret_int (by unfold orI; simp_all), rfl⟩
end Go.Proofs.YtggcpaiogliboaaDoor
