/- Walks: comparing marks. -/
import Derived.Test.YtmjbigeeokofeaaDoorTMk
import Derived.Test.YtmjbigeeokofeaaDoorCmp
import Derived.Deep.DeepFit
namespace Go.Proofs.YtmjbigeeokofeaaDoor
open Go.ChangeShapes Go.WideShapes Go.ChangeAt Go.RowKit

def ltMk (p m : Mk) : Bool := Op.bytesLess p.name.toList m.name.toList || (p.name.toList == m.name.toList && decide (p.fr < m.fr))
def cmpMk (p m : Mk) : Int := orI (cmpS p.name.toList m.name.toList) (cmpI p.fr m.fr)
theorem cmpMk_ge (p m : Mk) : decide (0 ≤ cmpMk p m) = !ltMk p m := by
  unfold cmpMk ltMk orI cmpS cmpI
  rcases bl_tri p.name.toList m.name.toList with ⟨h1, h2, h3, h4⟩ | ⟨h1, h2, h3, h4⟩ | ⟨h1, h2, h3, h4⟩ <;> simp [h1, h3]
  by_cases h : p.fr < m.fr
  · simp [h]
  · by_cases h' : m.fr < p.fr <;> simp [h, h']
def okMk (m : Mk) : Bool := nameB m.name.data.toList 12 && spanB m.fr m.to

set_option maxHeartbeats 400000 in
theorem compareMarks_any (p m : Mk) (w : World) :
    Calls Tryd.prog 58 #[.agg #[.string p.name, .int .i64 p.fr, .int .i64 p.to], .agg #[.string m.name, .int .i64 m.fr, .int .i64 m.to]] w fun e w' =>
      e = .returned (.int .i64 (cmpMk p m)) ∧ Below w.heap.size w w' := by
  have HO := Lib.hid (or2_any (w.heap.size + 1 + 1) (cmpS p.name.toList m.name.toList) (cmpI p.fr m.fr)
    (((w.alloc (.cells #[.string p.name, .int .i64 p.fr, .int .i64 p.to] 80)).alloc (.cells #[.string m.name, .int .i64 m.fr, .int .i64 m.to] 80)).alloc (.cells #[.int .i64 (cmpS p.name.toList m.name.toList), .int .i64 (cmpI p.fr m.fr)] 3)).drew
    (by simp [go_sem]) (by simp [go_sem]))
  go_enter Tryd.func58, Tryd.ntmps58
  go_wp2_with fail
  go_region_held3 (fun w' => w'.cell? ⟨w.heap.size, 0, none⟩ = some (.string p.name) ∧ w'.cell? ⟨w.heap.size, 1, none⟩ = some (.int .i64 p.fr) ∧ w'.cell? ⟨w.heap.size + 1, 0, none⟩ = some (.string m.name) ∧ w'.cell? ⟨w.heap.size + 1, 1, none⟩ = some (.int .i64 m.fr))
    (go_keep)
    (first
      | (go_at_call 79; refine (cmpS_any _ _ _).mono ?_; rintro e w' ⟨rfl, rfl⟩)
      | (go_at_call 39; refine (cmpI_any _ _ _).mono ?_; rintro e w' ⟨rfl, rfl⟩)
      | (go_at_call 78; refine HO.out.mono ?_; rintro e w' ⟨rfl, rfl⟩))
  all_goals go_wp2
  all_goals go_ret
  all_goals exact ⟨ret_int rfl, by go_grown⟩

def areMarksB (xs : List Mk) : Bool := upGo okMk ltMk none xs && decide (xs.length ≤ 40)
theorem badMk (p m : Mk) : (Op.bytesLess m.name.toList p.name.toList || (m.name.toList == p.name.toList && decide (m.fr ≤ p.fr))) = !ltMk p m := by
  unfold ltMk
  rcases bl_tri p.name.toList m.name.toList with ⟨h1, h2, h3, h4⟩ | ⟨h1, h2, h3, h4⟩ | ⟨h1, h2, h3, h4⟩ <;> simp [h1, h2, h3, h4]
  by_cases h : p.fr < m.fr <;> simp [h] <;> omega

end Go.Proofs.YtmjbigeeokofeaaDoor
