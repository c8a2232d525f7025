/- How a row of a slice of Stay reads. Printed by gen_rows.py. -/
import Derived.Test.YtipdcgfdejmjfaaDoorTSt
import Derived.Test.YtipdcgfdejmjfaaDoorOpen
namespace Go.Proofs.YtipdcgfdejmjfaaDoor
open Go.ChangeShapes Go.WideShapes Go.ChangeAt Go.RowKit Go.Deep
set_option maxRecDepth 100000
theorem row_St {H : Type} {enc0 : TypeId × Value → H} {w : World} {base : Nat} {spare : Nat → Bool} {held : Bool} (n : Nat) (cs : List Value) (y : DataW H × List MemPlace) (hl : cs.length = 3)
    (h : DataW.trod enc0 Tryd.prog w base spare held n 28 cs = some y) : ∃ x, goodSt x ∧ cs = encSt x := by
  have hf := row_fields Tryd.underlying28 (by kernel_rfl) hl h
  obtain ⟨v0, m0, y0, c0, t0⟩ := hf 0 _ rfl
  obtain ⟨s0, e0, _, w0⟩ := DataW.trod_int Tryd.underlying2 t0
  have g0 : -9223372036854775808 ≤ s0 ∧ s0 ≤ 9223372036854775807 := by simpa [Lit.wf, IntKind.min, IntKind.max, IntKind.signed, IntKind.bits] using w0
  obtain ⟨v1, m1, y1, c1, t1⟩ := hf 1 _ rfl
  obtain ⟨s1, e1, _, w1⟩ := DataW.trod_int Tryd.underlying2 t1
  have g1 : -9223372036854775808 ≤ s1 ∧ s1 ≤ 9223372036854775807 := by simpa [Lit.wf, IntKind.min, IntKind.max, IntKind.signed, IntKind.bits] using w1
  obtain ⟨v2, m2, y2, c2, t2⟩ := hf 2 _ rfl
  obtain ⟨s2, e2, _, w2⟩ := DataW.trod_int Tryd.underlying2 t2
  have g2 : -9223372036854775808 ≤ s2 ∧ s2 ≤ 9223372036854775807 := by simpa [Lit.wf, IntKind.min, IntKind.max, IntKind.signed, IntKind.bits] using w2
  simp only [List.cons.injEq, and_true] at e0 e1 e2
  refine ⟨⟨s0, s1, s2⟩, ⟨g0, g1, g2⟩, ?_⟩
  match cs, hl with
  | [x0, x1, x2], _ =>
    simp at c0 c1 c2
    simp [encSt, ← e0, ← e1, ← e2, c0, c1, c2]
end Go.Proofs.YtipdcgfdejmjfaaDoor
