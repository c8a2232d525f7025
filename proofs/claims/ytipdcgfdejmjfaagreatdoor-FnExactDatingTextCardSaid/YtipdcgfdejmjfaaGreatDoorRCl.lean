/- How a row of a slice of Clause reads. Printed by gen_rows.py. -/
import Derived.Test.YtipdcgfdejmjfaaGreatDoorTCl
import Derived.Test.YtipdcgfdejmjfaaGreatDoorOpen
namespace Go.Proofs.YtipdcgfdejmjfaaGreatDoor
open Go.ChangeShapes Go.WideShapes Go.ChangeAt Go.RowKit Go.Deep
set_option maxRecDepth 100000
theorem row_Cl {H : Type} {enc0 : TypeId × Value → H} {w : World} {base : Nat} {spare : Nat → Bool} {held : Bool} (n : Nat) (cs : List Value) (y : DataW H × List MemPlace) (hl : cs.length = 8)
    (h : DataW.trod enc0 Tryz.prog w base spare held n 63 cs = some y) : ∃ x, goodCl x ∧ cs = encCl x := by
  have hf := row_fields Tryz.underlying63 (by kernel_rfl) hl h
  obtain ⟨v0, m0, y0, c0, t0⟩ := hf 0 _ rfl
  obtain ⟨s0, e0, _, w0⟩ := DataW.trod_int Tryz.underlying2 t0
  have g0 : -9223372036854775808 ≤ s0 ∧ s0 ≤ 9223372036854775807 := by simpa [Lit.wf, IntKind.min, IntKind.max, IntKind.signed, IntKind.bits] using w0
  obtain ⟨v1, m1, y1, c1, t1⟩ := hf 1 _ rfl
  obtain ⟨s1, e1, _, w1⟩ := DataW.trod_int Tryz.underlying2 t1
  have g1 : -9223372036854775808 ≤ s1 ∧ s1 ≤ 9223372036854775807 := by simpa [Lit.wf, IntKind.min, IntKind.max, IntKind.signed, IntKind.bits] using w1
  obtain ⟨v2, m2, y2, c2, t2⟩ := hf 2 _ rfl
  obtain ⟨s2, e2, _, w2⟩ := DataW.trod_int Tryz.underlying2 t2
  have g2 : -9223372036854775808 ≤ s2 ∧ s2 ≤ 9223372036854775807 := by simpa [Lit.wf, IntKind.min, IntKind.max, IntKind.signed, IntKind.bits] using w2
  obtain ⟨v3, m3, y3, c3, t3⟩ := hf 3 _ rfl
  obtain ⟨s3, e3, _, w3⟩ := DataW.trod_int Tryz.underlying2 t3
  have g3 : -9223372036854775808 ≤ s3 ∧ s3 ≤ 9223372036854775807 := by simpa [Lit.wf, IntKind.min, IntKind.max, IntKind.signed, IntKind.bits] using w3
  obtain ⟨v4, m4, y4, c4, t4⟩ := hf 4 _ rfl
  obtain ⟨s4, e4, _, w4⟩ := DataW.trod_int Tryz.underlying2 t4
  have g4 : -9223372036854775808 ≤ s4 ∧ s4 ≤ 9223372036854775807 := by simpa [Lit.wf, IntKind.min, IntKind.max, IntKind.signed, IntKind.bits] using w4
  obtain ⟨v5, m5, y5, c5, t5⟩ := hf 5 _ rfl
  obtain ⟨s5, e5, _, w5⟩ := DataW.trod_int Tryz.underlying2 t5
  have g5 : -9223372036854775808 ≤ s5 ∧ s5 ≤ 9223372036854775807 := by simpa [Lit.wf, IntKind.min, IntKind.max, IntKind.signed, IntKind.bits] using w5
  obtain ⟨v6, m6, y6, c6, t6⟩ := hf 6 _ rfl
  obtain ⟨s6, e6, _, w6⟩ := DataW.trod_int Tryz.underlying2 t6
  have g6 : -9223372036854775808 ≤ s6 ∧ s6 ≤ 9223372036854775807 := by simpa [Lit.wf, IntKind.min, IntKind.max, IntKind.signed, IntKind.bits] using w6
  obtain ⟨v7, m7, y7, c7, t7⟩ := hf 7 _ rfl
  obtain ⟨s7, e7, _, g7⟩ := DataW.trod_string Tryz.underlying9 t7
  simp only [List.cons.injEq, and_true] at e0 e1 e2 e3 e4 e5 e6 e7
  refine ⟨⟨s0, s1, s2, s3, s4, s5, s6, s7⟩, ⟨g7, g0, g1, g2, g3, g4, g5, g6⟩, ?_⟩
  match cs, hl with
  | [x0, x1, x2, x3, x4, x5, x6, x7], _ =>
    simp at c0 c1 c2 c3 c4 c5 c6 c7
    simp [encCl, ← e0, ← e1, ← e2, ← e3, ← e4, ← e5, ← e6, ← e7, c0, c1, c2, c3, c4, c5, c6, c7]
end Go.Proofs.YtipdcgfdejmjfaaGreatDoor
