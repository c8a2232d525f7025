/- Walks: Clause: rows, sizes, copies, a comparison with itself. Printed by gen_types.py. -/
import Derived.Test.YtipdcgfdejmjfaaDoorDays
namespace Go.Proofs.YtipdcgfdejmjfaaDoor
open Go.ChangeShapes Go.WideShapes Go.ChangeAt Go.RowKit

structure Cl where
  kind : Int
  number : Int
  month : Int
  feast : Int
  relation : Int
  weekday : Int
  style : Int
  king : ByteArray
def encCl (m : Cl) : List Value := [.int .i64 m.kind, .int .i64 m.number, .int .i64 m.month, .int .i64 m.feast, .int .i64 m.relation, .int .i64 m.weekday, .int .i64 m.style, .string m.king]
theorem encCl_len (m : Cl) : (encCl m).length = 8 := rfl
theorem Rd.cl {w : World} {a : Option Addr} {xs : List Cl} (h : Rd encCl w a xs) {i : Nat} {m : Cl} (hi : xs[i]? = some m) :
    ∃ b off, a = some ⟨b, off, none⟩ ∧ b < w.heap.size ∧ w.cell? ⟨b, off + i * 8, none⟩ = some (.int .i64 m.kind) ∧ w.cell? ⟨b, off + i * 8 + 1, none⟩ = some (.int .i64 m.number) ∧ w.cell? ⟨b, off + i * 8 + 2, none⟩ = some (.int .i64 m.month) ∧ w.cell? ⟨b, off + i * 8 + 3, none⟩ = some (.int .i64 m.feast) ∧ w.cell? ⟨b, off + i * 8 + 4, none⟩ = some (.int .i64 m.relation) ∧ w.cell? ⟨b, off + i * 8 + 5, none⟩ = some (.int .i64 m.weekday) ∧ w.cell? ⟨b, off + i * 8 + 6, none⟩ = some (.int .i64 m.style) ∧ w.cell? ⟨b, off + i * 8 + 7, none⟩ = some (.string m.king) := by
  obtain ⟨b, off, ha, hb, hc⟩ := h i m hi
  exact ⟨b, off, ha, hb, hc 0 _ rfl, hc 1 _ rfl, hc 2 _ rfl, hc 3 _ rfl, hc 4 _ rfl, hc 5 _ rfl, hc 6 _ rfl, hc 7 _ rfl⟩
def goodCl (m : Cl) : Prop := m.king.size ≤ maxLen ∧ (-9223372036854775808 ≤ m.kind ∧ m.kind ≤ 9223372036854775807) ∧ (-9223372036854775808 ≤ m.number ∧ m.number ≤ 9223372036854775807) ∧ (-9223372036854775808 ≤ m.month ∧ m.month ≤ 9223372036854775807) ∧ (-9223372036854775808 ≤ m.feast ∧ m.feast ≤ 9223372036854775807) ∧ (-9223372036854775808 ≤ m.relation ∧ m.relation ≤ 9223372036854775807) ∧ (-9223372036854775808 ≤ m.weekday ∧ m.weekday ≤ 9223372036854775807) ∧ (-9223372036854775808 ≤ m.style ∧ m.style ≤ 9223372036854775807)
def szCl (m : Cl) : Nat := m.king.size

theorem szClause_any (m : Cl) (left : Int) (w : World) (h1 : -1 ≤ left) (h2 : left ≤ 1048576) (hs : goodCl m) :
    Calls Tryd.prog 17 #[.agg #[.int .i64 m.kind, .int .i64 m.number, .int .i64 m.month, .int .i64 m.feast, .int .i64 m.relation, .int .i64 m.weekday, .int .i64 m.style, .string m.king], .int .i64 left] w fun e w' =>
      e = .returned (.int .i64 (clip (left - szCl m))) ∧ Below w.heap.size w w' := by
  unfold goodCl maxLen at hs
  unfold szCl
  have hs' : m.king.size ≤ 9223372036854775807 := by omega
  clear hs
  go_enter Tryd.func17, Tryd.ntmps17
  go_wp2
  all_goals go_ret
  · exact ⟨ret_int (clip_neg (by assumption)).symm, by go_grown⟩
  · exact ⟨ret_int (clip_nn (by assumption)).symm, by go_grown⟩





































theorem toClause_any (m : Cl) (w : World) :
    Calls Tryd.prog 19 #[.agg #[.int .i64 m.kind, .int .i64 m.number, .int .i64 m.month, .int .i64 m.feast, .int .i64 m.relation, .int .i64 m.weekday, .int .i64 m.style, .string m.king]] w fun e w' =>
      e = .returned (.agg #[.int .i64 m.kind, .int .i64 m.number, .int .i64 m.month, .int .i64 m.feast, .int .i64 m.relation, .int .i64 m.weekday, .int .i64 m.style, .string m.king]) ∧ Below w.heap.size w w' := by
  go_enter Tryd.func19, Tryd.ntmps19
  go_wp2
  go_returns
  exact ⟨rfl, by go_grown⟩











theorem infoCl : (Tryd.prog.info? 51).map (fun i => (i.zero, i.size, i.bytes)) = some (some (.agg #[.int .i64 0, .int .i64 0, .int .i64 0, .int .i64 0, .int .i64 0, .int .i64 0, .int .i64 0, .string ⟨#[]⟩]), 8, 72) := by kernel_rfl





































































































end Go.Proofs.YtipdcgfdejmjfaaDoor
