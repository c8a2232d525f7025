/- Walk: the law FnExactReadClause. Printed by gen_rclaw.py. -/
import Derived.Test.YteajkofgcmfaoaaGreatDoorRdF
import Derived.Test.YteajkofgcmfaoaaGreatDoorTCl
namespace Go.Proofs.YteajkofgcmfaoaaGreatDoor
open Go.ChangeShapes Go.WideShapes Go.ChangeAt Go.RowKit

set_option maxRecDepth 100000 in
set_option maxHeartbeats 2000000 in
theorem lawRdC_any (s : ByteArray) (w : World) (_hm : s.size ≤ maxLen) (hN : NumW w) :
    Calls Tryz.prog 6 #[.string s] w fun e w' => e = .returned (.bool true) ∧ Below w.heap.size w w' := by
  by_cases hs : 1048576 < s.size
  · have hs1 : 1048576 < (s.size : Int) := by omega
    clear hN
    go_enter Tryz.func6, Tryz.ntmps6
    go_wp2
    go_ret
    exact ⟨rfl, Below.refl _ _⟩
  · have hs1 : ¬ 1048576 < (s.size : Int) := by omega
    have HX := fun W => specReadClause_any s (by omega) W
    have HY := fun W (h : NumW W) => implReadClause_any s (by omega) W h
    generalize rdR s = RR at HX HY
    obtain ⟨m, cd⟩ := RR
    unfold clV at HX HY
    simp only at HX HY
    replace HX := Lib.hid HX
    replace HY := Lib.hid HY
    have hcd : (cd != cd) = false := by simp
    go_enter Tryz.func6, Tryz.ntmps6
    go_wp2_with fail
    refine (HX.out _).mono ?_
    rintro e w1 ⟨rfl, hB1⟩
    have hA := At.start w1 [.int .i64 m.kind, .int .i64 m.number, .int .i64 m.month, .int .i64 m.feast, .int .i64 m.relation, .int .i64 m.weekday, .int .i64 m.style, .string m.king] 31
    go_upto_region 4 with (fail)
    generalize hW : w1.alloc (.cells #[.int .i64 m.kind, .int .i64 m.number, .int .i64 m.month, .int .i64 m.feast, .int .i64 m.relation, .int .i64 m.weekday, .int .i64 m.style, .string m.king] 31) = w2 at hA ⊢
    clear hW
    replace hN := (hN.below hB1).below hA.below
    go_wp2_with fail
    refine (HY.out _ hN).mono ?_
    rintro e w3 ⟨rfl, hB3⟩
    replace hA := hA.step hB3
    clear hB3 hN
    have hD := At.start w3 [.int .i64 m.kind, .int .i64 m.number, .int .i64 m.month, .int .i64 m.feast, .int .i64 m.relation, .int .i64 m.weekday, .int .i64 m.style, .string m.king] 31
    go_upto_region 5 with (fail)
    generalize hW : w3.alloc (.cells #[.int .i64 m.kind, .int .i64 m.number, .int .i64 m.month, .int .i64 m.feast, .int .i64 m.relation, .int .i64 m.weekday, .int .i64 m.style, .string m.king] 31) = w4 at hD ⊢
    clear hW
    replace hA := hA.step hD.below
    have c0 := hA.cell 0 _ rfl; have c1 := hA.cell 1 _ rfl; have c2 := hA.cell 2 _ rfl; have c3 := hA.cell 3 _ rfl; have c4 := hA.cell 4 _ rfl; have c5 := hA.cell 5 _ rfl; have c6 := hA.cell 6 _ rfl; have c7 := hA.cell 7 _ rfl
    have d0 := hD.cell 0 _ rfl; have d1 := hD.cell 1 _ rfl; have d2 := hD.cell 2 _ rfl; have d3 := hD.cell 3 _ rfl; have d4 := hD.cell 4 _ rfl; have d5 := hD.cell 5 _ rfl; have d6 := hD.cell 6 _ rfl; have d7 := hD.cell 7 _ rfl
    go_wp2_with fail
    refine (eqClause_self m _).mono ?_
    rintro e w5 ⟨rfl, hB5⟩
    replace hA := hA.step hB5
    go_wp2
    go_ret
    exact ⟨rfl, stepB hB1 hA.below hB1.size⟩
end Go.Proofs.YteajkofgcmfaoaaGreatDoor
