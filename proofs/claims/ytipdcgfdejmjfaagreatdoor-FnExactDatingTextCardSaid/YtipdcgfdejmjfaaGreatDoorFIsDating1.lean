/- Walks: slices.IndexFunc and slices.ContainsFunc at slices of Clause. Printed by gen_fidx.py. -/
import Derived.Test.YtipdcgfdejmjfaaGreatDoorTCl
import Derived.Test.YtipdcgfdejmjfaaGreatDoorFix
namespace Go.Proofs.YtipdcgfdejmjfaaGreatDoor
open Go.ChangeShapes Go.WideShapes Go.ChangeAt Go.RowKit

set_option maxHeartbeats 400000 in
theorem indexFunc_IsDating_1 (a : Option Addr) (cap : Nat) (xs : List Cl) (p : Cl → Bool) (w : World) (hl : xs.length ≤ 1048576) (hx : Rd encCl w a xs)
    (hf : ∀ W, Below w.heap.size w W → ∀ m ∈ xs, Calls Tryz.prog 76 #[.agg #[.int .i64 m.kind, .int .i64 m.number, .int .i64 m.month, .int .i64 m.feast, .int .i64 m.relation, .int .i64 m.weekday, .int .i64 m.style, .string m.king]] W fun e w' => e = .returned (.bool (p m)) ∧ Below W.heap.size W w') :
    Calls Tryz.prog 116 #[.slice a xs.length cap, .func (.func 76) #[] #[]] w fun e w' => e = .returned (.int .i64 (fidx p xs 0)) ∧ Below w.heap.size w w' := by
  have HF := Lib.hid hf
  clear hf
  go_enter Tryz.func116, Tryz.ntmps116
  go_wp2
  go_loopw [8] (fun i wr => ∃ (k : Nat), k ≤ xs.length ∧ i = .int .i64 k ∧ Hid (fidx p xs 0 = fidx p (xs.drop k) k) ∧ Below w.heap.size w wr) (fun i _ => xs.length - (intOf i).toNat)
  case atStart => exact ⟨0, Nat.zero_le _, rfl, rfl, Below.refl _ _⟩
  case round =>
    obtain ⟨k, hk, rfl, hH, hB⟩ := hrel
    by_cases hlt : k < xs.length
    · have hm := List.getElem?_eq_getElem hlt
      generalize xs[k] = m at hm
      obtain ⟨b, off, rfl, hb, c0, c1, c2, c3, c4, c5, c6, c7⟩ := (hx.below hB).cl hm
      have hd := Lib.hid (fidx_drop p k k hm)
      have hc := HF.out wr hB m (List.mem_of_getElem? hm)
      have hk1 : (k : Int) < (xs.length : Int) := by omega
      clear hm
      cases hp : p m
      · rw [hp] at hc
        have HC := Lib.hid hc
        clear hc
        go_wp2_with fail
        refine HC.out.mono ?_
        rintro e w1 ⟨rfl, hB1⟩
        go_wp2
        go_roundw
        case rel => exact ⟨k + 1, by omega, by go_num, by unfold Hid; rw [hH.out, hd.out, hp]; rfl, stepB hB hB1 hB.size⟩
        case measure => simp [intOf]; omega
      · rw [hp] at hc
        have HC := Lib.hid hc
        clear hc
        go_wp2_with fail
        refine HC.out.mono ?_
        rintro e w1 ⟨rfl, hB1⟩
        go_wp2
        go_ret
        exact ⟨ret_int (by rw [hH.out, hd.out, hp]; rfl), stepB hB hB1 hB.size⟩
    · go_wp2
      go_ret
      exact ⟨ret_int (by rw [hH.out, List.drop_eq_nil_of_le (by omega)]; rfl), hB⟩
theorem containsFunc_IsDating_1 (a : Option Addr) (cap : Nat) (xs : List Cl) (p : Cl → Bool) (w : World) (hl : xs.length ≤ 1048576) (hx : Rd encCl w a xs) (hf : ∀ W, Below w.heap.size w W → ∀ m ∈ xs, Calls Tryz.prog 76 #[.agg #[.int .i64 m.kind, .int .i64 m.number, .int .i64 m.month, .int .i64 m.feast, .int .i64 m.relation, .int .i64 m.weekday, .int .i64 m.style, .string m.king]] W fun e w' => e = .returned (.bool (p m)) ∧ Below W.heap.size W w') : Calls Tryz.prog 75 #[.slice a xs.length cap, .func (.func 76) #[] #[]] w fun e w' => e = .returned (.bool (xs.any p)) ∧ Below w.heap.size w w' := by
  have HC := Lib.hid (indexFunc_IsDating_1 a cap xs p w hl hx hf)
  clear hf
  have hd := fidx_any p xs
  generalize fidx p xs 0 = r at *
  have HD := Lib.hid hd
  clear hd
  go_enter Tryz.func75, Tryz.ntmps75
  go_wp2_with fail
  refine HC.out.mono ?_
  rintro e w1 ⟨rfl, hB1⟩
  go_wp2
  go_ret
  exact ⟨ret_bool HD.out, hB1⟩
end Go.Proofs.YtipdcgfdejmjfaaGreatDoor
