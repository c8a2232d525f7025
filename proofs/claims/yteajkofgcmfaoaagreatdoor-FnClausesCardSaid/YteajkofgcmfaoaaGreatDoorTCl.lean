/- Walks: Clause: rows, sizes, copies, a comparison with itself. Printed by gen_types.py. -/
import Derived.Test.YteajkofgcmfaoaaGreatDoorDays
namespace Go.Proofs.YteajkofgcmfaoaaGreatDoor
open Go.ChangeShapes Go.WideShapes Go.ChangeAt Go.RowKit

structure Cl where
  kind : Int
  number : Int
  month : Int
  feast : Int
  relation : Int
  weekday : Int
  style : Int
  king : ByteArray
def encCl (m : Cl) : List Value := [.int .i64 m.kind, .int .i64 m.number, .int .i64 m.month, .int .i64 m.feast, .int .i64 m.relation, .int .i64 m.weekday, .int .i64 m.style, .string m.king]
theorem encCl_len (m : Cl) : (encCl m).length = 8 := rfl
theorem Rd.cl {w : World} {a : Option Addr} {xs : List Cl} (h : Rd encCl w a xs) {i : Nat} {m : Cl} (hi : xs[i]? = some m) :
    ∃ b off, a = some ⟨b, off, none⟩ ∧ b < w.heap.size ∧ w.cell? ⟨b, off + i * 8, none⟩ = some (.int .i64 m.kind) ∧ w.cell? ⟨b, off + i * 8 + 1, none⟩ = some (.int .i64 m.number) ∧ w.cell? ⟨b, off + i * 8 + 2, none⟩ = some (.int .i64 m.month) ∧ w.cell? ⟨b, off + i * 8 + 3, none⟩ = some (.int .i64 m.feast) ∧ w.cell? ⟨b, off + i * 8 + 4, none⟩ = some (.int .i64 m.relation) ∧ w.cell? ⟨b, off + i * 8 + 5, none⟩ = some (.int .i64 m.weekday) ∧ w.cell? ⟨b, off + i * 8 + 6, none⟩ = some (.int .i64 m.style) ∧ w.cell? ⟨b, off + i * 8 + 7, none⟩ = some (.string m.king) := by
  obtain ⟨b, off, ha, hb, hc⟩ := h i m hi
  exact ⟨b, off, ha, hb, hc 0 _ rfl, hc 1 _ rfl, hc 2 _ rfl, hc 3 _ rfl, hc 4 _ rfl, hc 5 _ rfl, hc 6 _ rfl, hc 7 _ rfl⟩
def goodCl (m : Cl) : Prop := m.king.size ≤ maxLen ∧ (-9223372036854775808 ≤ m.kind ∧ m.kind ≤ 9223372036854775807) ∧ (-9223372036854775808 ≤ m.number ∧ m.number ≤ 9223372036854775807) ∧ (-9223372036854775808 ≤ m.month ∧ m.month ≤ 9223372036854775807) ∧ (-9223372036854775808 ≤ m.feast ∧ m.feast ≤ 9223372036854775807) ∧ (-9223372036854775808 ≤ m.relation ∧ m.relation ≤ 9223372036854775807) ∧ (-9223372036854775808 ≤ m.weekday ∧ m.weekday ≤ 9223372036854775807) ∧ (-9223372036854775808 ≤ m.style ∧ m.style ≤ 9223372036854775807)
def szCl (m : Cl) : Nat := m.king.size


























































theorem eqClause_self (m : Cl) (w : World) :
    Calls Tryz.prog 37 #[.agg #[.int .i64 m.kind, .int .i64 m.number, .int .i64 m.month, .int .i64 m.feast, .int .i64 m.relation, .int .i64 m.weekday, .int .i64 m.style, .string m.king], .agg #[.int .i64 m.kind, .int .i64 m.number, .int .i64 m.month, .int .i64 m.feast, .int .i64 m.relation, .int .i64 m.weekday, .int .i64 m.style, .string m.king]] w fun e w' =>
      e = .returned (.bool true) ∧ Below w.heap.size w w' := by
  go_enter Tryz.func37, Tryz.ntmps37
  go_wp2
  all_goals go_ret
  all_goals first
    | exact ⟨rfl, by go_grown⟩
    | (exfalso; simp_all; done)

theorem infoCl : (Tryz.prog.info? 31).map (fun i => (i.zero, i.size, i.bytes)) = some (some (.agg #[.int .i64 0, .int .i64 0, .int .i64 0, .int .i64 0, .int .i64 0, .int .i64 0, .int .i64 0, .string ⟨#[]⟩]), 8, 72) := by kernel_rfl





















































set_option maxHeartbeats 400000 in
theorem eqClauseS_self (a b : Option Addr) (ca cb : Nat) (xs : List Cl) (w : World) (hl : xs.length ≤ 1048576) (hx : Rd encCl w a xs) (hy : Rd encCl w b xs) :
    Calls Tryz.prog 9 #[.slice a xs.length ca, .slice b xs.length cb] w fun e w' =>
      e = .returned (.bool true) ∧ Below w.heap.size w w' := by
  have hne : (((xs.length : Nat) : Int) != (xs.length : Nat)) = false := by simp
  go_enter Tryz.func9, Tryz.ntmps9
  go_wp2
  go_loopw [5] (fun i wr => ∃ (k : Nat), k ≤ xs.length ∧ i = .int .i64 k ∧ Below w.heap.size w wr) (fun i _ => xs.length - (intOf i).toNat)
  case atStart => exact ⟨0, Nat.zero_le _, rfl, Below.refl _ _⟩
  case round =>
    obtain ⟨k, hk, rfl, hB⟩ := hrel
    by_cases hlt : k < xs.length
    · have hm := List.getElem?_eq_getElem hlt
      generalize xs[k] = m at hm
      obtain ⟨b, off, rfl, hb, c0, c1, c2, c3, c4, c5, c6, c7⟩ := (hx.below hB).cl hm
      obtain ⟨b', off', rfl, hb', d0, d1, d2, d3, d4, d5, d6, d7⟩ := (hy.below hB).cl hm
      have C0 := Later.cell c0 hb
      have D0 := Later.cell d0 hb'
      have C1 := Later.cell c1 hb
      have D1 := Later.cell d1 hb'
      have C2 := Later.cell c2 hb
      have D2 := Later.cell d2 hb'
      have C3 := Later.cell c3 hb
      have D3 := Later.cell d3 hb'
      have C4 := Later.cell c4 hb
      have D4 := Later.cell d4 hb'
      have C5 := Later.cell c5 hb
      have D5 := Later.cell d5 hb'
      have C6 := Later.cell c6 hb
      have D6 := Later.cell d6 hb'
      have C7 := Later.cell c7 hb
      have D7 := Later.cell d7 hb'
      clear hm c0 d0 c1 d1 c2 d2 c3 d3 c4 d4 c5 d5 c6 d6 c7 d7
      go_wp2_with fail
      refine wp_region_later wr (by kernel_rfl) (by kernel_rfl) ?_
      repeat (go_big_quiet_step ((go_at_call 37; exact Later.call (Nat.le_refl _) (eqClause_self m _))))
      refine wpQuiet_nil ?_
      intro z
      have hz := z.prop
      generalize z.val = w2 at hz
      clear C0 D0 C1 D1 C2 D2 C3 D3 C4 D4 C5 D5 C6 D6 C7 D7
      go_wp2
      go_roundw
      case rel => exact ⟨k + 1, by omega, by go_num, stepB hB hz hB.size⟩
      case measure => simp [intOf]; omega
    · go_wp2
      go_ret
      exact ⟨rfl, hB⟩
end Go.Proofs.YteajkofgcmfaoaaGreatDoor
