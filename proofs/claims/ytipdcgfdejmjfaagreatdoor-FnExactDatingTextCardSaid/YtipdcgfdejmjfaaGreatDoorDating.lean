/- Walks: IsDating. -/
import Derived.Test.YtipdcgfdejmjfaaGreatDoorClauseI
import Derived.Test.YtipdcgfdejmjfaaGreatDoorFIsDating1
namespace Go.Proofs.YtipdcgfdejmjfaaGreatDoor
open Go.ChangeShapes Go.WideShapes Go.ChangeAt Go.RowKit

def isDatingB (xs : List Cl) : Bool := xs.all okCl && decide (xs.length ≤ 8)
theorem any_not_cl (xs : List Cl) : (xs.any fun m => !okCl m) = !xs.all okCl := by
  induction xs with
  | nil => rfl
  | cons x xs ih => simp only [List.any_cons, List.all_cons, Bool.not_and, ih]
set_option maxHeartbeats 1000000 in
theorem specIsDating_any (a : Option Addr) (cap : Nat) (xs : List Cl) (w : World) (hl : xs.length ≤ 1048576) (hx : Rd encCl w a xs) (hs : ∀ m ∈ xs, szCl m ≤ 1048576) :
    Calls Tryz.prog 28 #[.slice a xs.length cap] w fun e w' => e = .returned (.bool (isDatingB xs)) ∧ Below w.heap.size w w' := by
  have hv : Hid (isDatingB xs = (xs.all okCl && decide (xs.length ≤ 8))) := rfl
  generalize isDatingB xs = V at hv ⊢
  go_enter Tryz.func28, Tryz.ntmps28
  go_wp2
  go_loopw [3] (fun i wr => ∃ (k : Nat), k ≤ xs.length ∧ i = .int .i64 k ∧ Hid (xs.all okCl = (xs.drop k).all okCl) ∧ Below w.heap.size w wr) (fun i _ => xs.length - (intOf i).toNat)
  case atStart => exact ⟨0, Nat.zero_le _, rfl, rfl, Below.refl _ _⟩
  case round =>
    obtain ⟨k, hk, rfl, hH, hB⟩ := hrel
    by_cases hlt : k < xs.length
    · have hm := List.getElem?_eq_getElem hlt
      generalize xs[k] = m at hm
      obtain ⟨b, off, rfl, hb, c0, c1, c2, c3, c4, c5, c6, c7⟩ := (hx.below hB).cl hm
      have hd := Lib.hid (all_drop okCl hm)
      have hsm : m.king.size ≤ 9223372036854775807 := by have h1 := hs m (List.mem_of_getElem? hm); unfold szCl at h1; omega
      have HC := Lib.hid (fun W => specClause_any m W hsm)
      have hk1 : (k : Int) < (xs.length : Int) := by omega
      clear hm
      cases hp : okCl m
      · have HC := Lib.hid (fun W => hp ▸ HC.out W)
        go_wp2_with fail
        refine (HC.out _).mono ?_
        rintro e w1 ⟨rfl, hB1⟩
        go_wp2
        go_ret
        exact ⟨ret_bool (by rw [hv.out, hH.out, hd.out, hp]; rfl), stepB hB hB1 hB.size⟩
      · have HC := Lib.hid (fun W => hp ▸ HC.out W)
        go_wp2_with fail
        refine (HC.out _).mono ?_
        rintro e w1 ⟨rfl, hB1⟩
        go_wp2
        go_roundw
        case rel => exact ⟨k + 1, by omega, by go_num, by unfold Hid; rw [hH.out, hd.out, hp]; rfl, stepB hB hB1 hB.size⟩
        case measure => simp [intOf]; omega
    · have e1 : (xs.drop k).all okCl = true := by rw [List.drop_eq_nil_of_le (by omega)]; rfl
      have e2 : Hid (V = decide (xs.length ≤ 8)) := by unfold Hid; rw [hv.out, hH.out, e1]; simp
      clear e1 hv hH
      go_wp2
      go_ret
      exact ⟨ret_bool (by rw [e2.out]; simp; omega), hB⟩

theorem isDating1_any (m : Cl) (w : World) (hk : m.king.size ≤ 9223372036854775807) :
    Calls Tryz.prog 76 #[.agg #[.int .i64 m.kind, .int .i64 m.number, .int .i64 m.month, .int .i64 m.feast, .int .i64 m.relation, .int .i64 m.weekday, .int .i64 m.style, .string m.king]] w fun e w' => e = .returned (.bool (!okCl m)) ∧ Below w.heap.size w w' := by
  have hB0 : Below w.heap.size w (w.alloc (.cells #[.int .i64 m.kind, .int .i64 m.number, .int .i64 m.month, .int .i64 m.feast, .int .i64 m.relation, .int .i64 m.weekday, .int .i64 m.style, .string m.king] 66)) := (Below.refl _ w).alloc (Nat.le_refl _) _
  go_enter Tryz.func76, Tryz.ntmps76
  go_wp2_with fail
  refine (implClause_any m _ hk).mono ?_
  rintro e w1 ⟨rfl, hB1⟩
  go_wp2
  go_ret
  exact ⟨rfl, stepB hB0 hB1 hB0.size⟩
set_option maxHeartbeats 1000000 in
theorem implIsDating_any (a : Option Addr) (cap : Nat) (xs : List Cl) (w : World) (hl : xs.length ≤ 1048576) (hx : Rd encCl w a xs) (hs : ∀ m ∈ xs, szCl m ≤ 1048576) :
    Calls Tryz.prog 32 #[.slice a xs.length cap] w fun e w' => e = .returned (.bool (isDatingB xs)) ∧ Below w.heap.size w w' := by
  have hv : Hid (isDatingB xs = (xs.all okCl && decide (xs.length ≤ 8))) := rfl
  have hct := containsFunc_IsDating_1 a cap xs (fun m => !okCl m) w hl hx (fun W _ m hm => isDating1_any m W (by have h1 := hs m hm; unfold szCl at h1; omega))
  rw [any_not_cl] at hct
  have HCT := Lib.hid hct
  clear hct
  generalize isDatingB xs = V at hv ⊢
  generalize xs.all okCl = A at hv HCT
  by_cases h8 : (xs.length : Int) ≤ 8
  · have hR : Hid (V = A) := by unfold Hid; rw [hv.out, decide_eq_true (show xs.length ≤ 8 by omega)]; simp
    clear hv
    go_enter Tryz.func32, Tryz.ntmps32
    go_wp2_with fail
    refine HCT.out.mono ?_
    rintro e w1 ⟨rfl, hB1⟩
    go_wp2
    go_ret
    exact ⟨ret_bool (by rw [hR.out]), hB1⟩
  · have hR : Hid (V = false) := by unfold Hid; rw [hv.out, decide_eq_false (show ¬ xs.length ≤ 8 by omega)]; simp
    clear hv
    go_enter Tryz.func32, Tryz.ntmps32
    go_wp2
    go_ret
    exact ⟨ret_bool hR.out.symm, Below.refl _ _⟩
end Go.Proofs.YtipdcgfdejmjfaaGreatDoor
