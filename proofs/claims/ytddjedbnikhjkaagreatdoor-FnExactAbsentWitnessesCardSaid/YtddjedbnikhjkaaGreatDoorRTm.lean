/- How a row of a slice of Term reads. Printed by gen_rows.py. -/
import Derived.Test.YtddjedbnikhjkaaGreatDoorTTm
import Derived.Test.YtddjedbnikhjkaaGreatDoorOpen
namespace Go.Proofs.YtddjedbnikhjkaaGreatDoor
open Go.ChangeShapes Go.WideShapes Go.ChangeAt Go.RowKit Go.Deep
set_option maxRecDepth 100000
theorem row_Tm {H : Type} {enc0 : TypeId × Value → H} {w : World} {base : Nat} {spare : Nat → Bool} {held : Bool} (n : Nat) (cs : List Value) (y : DataW H × List MemPlace) (hl : cs.length = 4)
    (h : DataW.trod enc0 Tryz.prog w base spare held n 151 cs = some y) : ∃ x, goodTm x ∧ cs = encTm x := by
  have hf := row_fields Tryz.underlying151 (by kernel_rfl) hl h
  obtain ⟨v0, m0, y0, c0, t0⟩ := hf 0 _ rfl
  obtain ⟨s0, e0, _, g0⟩ := DataW.trod_string Tryz.underlying9 t0
  obtain ⟨v1, m1, y1, c1, t1⟩ := hf 1 _ rfl
  obtain ⟨s1, e1, _, g1⟩ := DataW.trod_string Tryz.underlying9 t1
  obtain ⟨v2, m2, y2, c2, t2⟩ := hf 2 _ rfl
  obtain ⟨s2, e2, _, w2⟩ := DataW.trod_int Tryz.underlying2 t2
  have g2 : -9223372036854775808 ≤ s2 ∧ s2 ≤ 9223372036854775807 := by simpa [Lit.wf, IntKind.min, IntKind.max, IntKind.signed, IntKind.bits] using w2
  obtain ⟨v3, m3, y3, c3, t3⟩ := hf 3 _ rfl
  obtain ⟨s3, e3, _, w3⟩ := DataW.trod_int Tryz.underlying2 t3
  have g3 : -9223372036854775808 ≤ s3 ∧ s3 ≤ 9223372036854775807 := by simpa [Lit.wf, IntKind.min, IntKind.max, IntKind.signed, IntKind.bits] using w3
  simp only [List.cons.injEq, and_true] at e0 e1 e2 e3
  refine ⟨⟨s0, s1, s2, s3⟩, ⟨g0, g1, g2, g3⟩, ?_⟩
  match cs, hl with
  | [x0, x1, x2, x3], _ =>
    simp at c0 c1 c2 c3
    simp [encTm, ← e0, ← e1, ← e2, ← e3, c0, c1, c2, c3]
end Go.Proofs.YtddjedbnikhjkaaGreatDoor
