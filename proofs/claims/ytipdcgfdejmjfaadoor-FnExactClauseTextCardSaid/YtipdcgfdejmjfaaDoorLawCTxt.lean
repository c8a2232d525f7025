/- Walk: the law FnExactClauseText. Printed by gen_ctlaw.py. -/
import Derived.Test.YtipdcgfdejmjfaaDoorCtx
import Derived.Test.YtipdcgfdejmjfaaDoorTCl
namespace Go.Proofs.YtipdcgfdejmjfaaDoor
open Go.ChangeShapes Go.WideShapes Go.ChangeAt Go.RowKit

set_option maxRecDepth 100000 in
set_option maxHeartbeats 2000000 in
theorem lawCTxt_any (m : Cl) (w : World) (hg : goodCl m) (ht : Lib.TabIs Tryd.prog w "internal/strconv.uint64pow10" .u64 Lib.pow10Tab) :
    Calls Tryd.prog 4 #[.agg #[.int .i64 m.kind, .int .i64 m.number, .int .i64 m.month, .int .i64 m.feast, .int .i64 m.relation, .int .i64 m.weekday, .int .i64 m.style, .string m.king]] w fun e w' => e = .returned (.bool true) ∧ Below w.heap.size w w' := by
  have hA : At w [.int .i64 m.kind, .int .i64 m.number, .int .i64 m.month, .int .i64 m.feast, .int .i64 m.relation, .int .i64 m.weekday, .int .i64 m.style, .string m.king] (w.alloc (.cells #[.int .i64 m.kind, .int .i64 m.number, .int .i64 m.month, .int .i64 m.feast, .int .i64 m.relation, .int .i64 m.weekday, .int .i64 m.style, .string m.king] 47)) := At.start _ _ _
  have HT := Lib.hid (Lib.tabBelow_of_tabIs ht)
  have HS := Lib.hid (fun W => szClause_any m 1048576 W (by decide) (by decide) hg)
  clear ht
  by_cases hq : clip (1048576 - (szCl m : Int)) < 0
  · go_enter Tryd.func4, Tryd.ntmps4
    go_upto_region 2 with (fail)
    generalize w.alloc (.cells #[.int .i64 m.kind, .int .i64 m.number, .int .i64 m.month, .int .i64 m.feast, .int .i64 m.relation, .int .i64 m.weekday, .int .i64 m.style, .string m.king] 47) = W at hA ⊢
    have c0 := hA.cell 0 _ rfl; have c1 := hA.cell 1 _ rfl; have c2 := hA.cell 2 _ rfl; have c3 := hA.cell 3 _ rfl; have c4 := hA.cell 4 _ rfl; have c5 := hA.cell 5 _ rfl; have c6 := hA.cell 6 _ rfl; have c7 := hA.cell 7 _ rfl
    go_wp2_with fail
    refine (HS.out _).mono ?_
    rintro e w1 ⟨rfl, hB1⟩
    replace hA := hA.step hB1
    go_wp2
    go_ret
    exact ⟨rfl, hA.below⟩
  · have hk : m.king.size ≤ 1048576 := by
      unfold clip szCl at hq
      split at hq <;> omega
    have hqq : decide (clip (1048576 - (szCl m : Int)) < 0) = false := by simpa using hq
    have HX := Lib.hid (fun W => specClauseText_any m W (by omega))
    have HY := Lib.hid (fun W (hB : Below w.heap.size w W) => implClauseText_any m W (by omega) (tabHere HT.out hB))
    have heq1 : ((ctxR m).1.toList == (ctxR m).1.toList) = true := by simp
    have heq2 : ((ctxR m).2 != (ctxR m).2) = false := by simp
    generalize clip (1048576 - (szCl m : Int)) = lf at HS hqq
    clear hq hk
    go_enter Tryd.func4, Tryd.ntmps4
    go_upto_region 2 with (fail)
    generalize w.alloc (.cells #[.int .i64 m.kind, .int .i64 m.number, .int .i64 m.month, .int .i64 m.feast, .int .i64 m.relation, .int .i64 m.weekday, .int .i64 m.style, .string m.king] 47) = W at hA ⊢
    have c0 := hA.cell 0 _ rfl; have c1 := hA.cell 1 _ rfl; have c2 := hA.cell 2 _ rfl; have c3 := hA.cell 3 _ rfl; have c4 := hA.cell 4 _ rfl; have c5 := hA.cell 5 _ rfl; have c6 := hA.cell 6 _ rfl; have c7 := hA.cell 7 _ rfl
    go_wp2_with fail
    refine (HS.out _).mono ?_
    rintro e w1 ⟨rfl, hB1⟩
    replace hA := hA.step hB1
    clear hB1
    have c0 := hA.cell 0 _ rfl; have c1 := hA.cell 1 _ rfl; have c2 := hA.cell 2 _ rfl; have c3 := hA.cell 3 _ rfl; have c4 := hA.cell 4 _ rfl; have c5 := hA.cell 5 _ rfl; have c6 := hA.cell 6 _ rfl; have c7 := hA.cell 7 _ rfl
    go_wp2_with fail
    refine (toClause_any m _).mono ?_
    rintro e w2 ⟨rfl, hB1⟩
    replace hA := hA.step hB1
    clear hB1
    go_wp2_with fail
    refine (HX.out _).mono ?_
    rintro e w3 ⟨rfl, hB1⟩
    replace hA := hA.step hB1
    clear hB1
    have c0 := hA.cell 0 _ rfl; have c1 := hA.cell 1 _ rfl; have c2 := hA.cell 2 _ rfl; have c3 := hA.cell 3 _ rfl; have c4 := hA.cell 4 _ rfl; have c5 := hA.cell 5 _ rfl; have c6 := hA.cell 6 _ rfl; have c7 := hA.cell 7 _ rfl
    go_wp2_with fail
    refine (toClause_any m _).mono ?_
    rintro e w4 ⟨rfl, hB1⟩
    replace hA := hA.step hB1
    clear hB1
    go_wp2_with fail
    refine (HY.out _ hA.below).mono ?_
    rintro e w5 ⟨rfl, hB1⟩
    replace hA := hA.step hB1
    clear hB1
    go_wp2
    go_ret
    exact ⟨rfl, hA.below⟩
end Go.Proofs.YtipdcgfdejmjfaaDoor
