/- How a row of a slice of Witness reads. Printed by gen_rows.py. -/
import Derived.Test.YtddjedbnikhjkaaGreatDoorTWt
import Derived.Test.YtddjedbnikhjkaaGreatDoorOpen
namespace Go.Proofs.YtddjedbnikhjkaaGreatDoor
open Go.ChangeShapes Go.WideShapes Go.ChangeAt Go.RowKit Go.Deep
set_option maxRecDepth 100000
theorem row_Wt {H : Type} {enc0 : TypeId × Value → H} {w : World} {base : Nat} {spare : Nat → Bool} {held : Bool} (n : Nat) (cs : List Value) (y : DataW H × List MemPlace) (hl : cs.length = 2)
    (h : DataW.trod enc0 Tryz.prog w base spare held n 109 cs = some y) : ∃ x, goodWt x ∧ cs = encWt x := by
  have hf := row_fields Tryz.underlying109 (by kernel_rfl) hl h
  obtain ⟨v0, m0, y0, c0, t0⟩ := hf 0 _ rfl
  obtain ⟨s0, e0, _, g0⟩ := DataW.trod_string Tryz.underlying9 t0
  obtain ⟨v1, m1, y1, c1, t1⟩ := hf 1 _ rfl
  obtain ⟨s1, e1, _, g1⟩ := DataW.trod_string Tryz.underlying9 t1
  simp only [List.cons.injEq, and_true] at e0 e1
  refine ⟨⟨s0, s1⟩, ⟨g0, g1⟩, ?_⟩
  match cs, hl with
  | [x0, x1], _ =>
    simp at c0 c1
    simp [encWt, ← e0, ← e1, c0, c1]
end Go.Proofs.YtddjedbnikhjkaaGreatDoor
