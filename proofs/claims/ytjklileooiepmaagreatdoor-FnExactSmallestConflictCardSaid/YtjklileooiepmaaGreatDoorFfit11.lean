/- Walks: slices.IndexFunc and slices.ContainsFunc at slices of Clause. Printed by gen_fidx.py. -/
import Derived.Test.YtjklileooiepmaaGreatDoorTRg
import Derived.Test.YtjklileooiepmaaGreatDoorFix
import Derived.Test.YtjklileooiepmaaGreatDoorTCl
namespace Go.Proofs.YtjklileooiepmaaGreatDoor
section
open Go.ChangeShapes Go.WideShapes Go.ChangeAt Go.RowKit

set_option maxHeartbeats 400000 in
theorem indexFunc_holds_1 (q r : Addr) (a : Option Addr) (cap : Nat) (xs : List Rg) (p : Rg → Bool) (w : World) (hl : xs.length ≤ 1048576) (hx : Rd encRg w a xs)
    (hf : ∀ W, Below w.heap.size w W → ∀ m ∈ xs, Calls Tryz.prog 64 #[.agg #[.string m.king, .int .i64 m.fr, .int .i64 m.to], .pointer (some q), .pointer (some r)] W fun e w' => e = .returned (.bool (p m)) ∧ Below W.heap.size W w') :
    Calls Tryz.prog 101 #[.slice a xs.length cap, .func (.func 64) #[] #[.pointer (some q), .pointer (some r)]] w fun e w' => e = .returned (.int .i64 (fidx p xs 0)) ∧ Below w.heap.size w w' := by
  have HF := Lib.hid hf
  clear hf
  go_enter Tryz.func101, Tryz.ntmps101
  go_wp2
  go_loopw [8] (fun i wr => ∃ (k : Nat), k ≤ xs.length ∧ i = .int .i64 k ∧ Hid (fidx p xs 0 = fidx p (xs.drop k) k) ∧ Below w.heap.size w wr) (fun i _ => xs.length - (intOf i).toNat)
  case atStart => exact ⟨0, Nat.zero_le _, rfl, rfl, Below.refl _ _⟩
  case round =>
    obtain ⟨k, hk, rfl, hH, hB⟩ := hrel
    by_cases hlt : k < xs.length
    · have hm := List.getElem?_eq_getElem hlt
      generalize xs[k] = m at hm
      obtain ⟨b, off, rfl, hb, c0, c1, c2⟩ := (hx.below hB).rg hm
      have hd := Lib.hid (fidx_drop p k k hm)
      have hc := HF.out wr hB m (List.mem_of_getElem? hm)
      have hk1 : (k : Int) < (xs.length : Int) := by omega
      clear hm
      cases hp : p m
      · rw [hp] at hc
        have HC := Lib.hid hc
        clear hc
        go_wp2_with fail
        refine HC.out.mono ?_
        rintro e w1 ⟨rfl, hB1⟩
        go_wp2
        go_roundw
        case rel => exact ⟨k + 1, by omega, by go_num, by unfold Hid; rw [hH.out, hd.out, hp]; rfl, stepB hB hB1 hB.size⟩
        case measure => simp [intOf]; omega
      · rw [hp] at hc
        have HC := Lib.hid hc
        clear hc
        go_wp2_with fail
        refine HC.out.mono ?_
        rintro e w1 ⟨rfl, hB1⟩
        go_wp2
        go_ret
        exact ⟨ret_int (by rw [hH.out, hd.out, hp]; rfl), stepB hB hB1 hB.size⟩
    · go_wp2
      go_ret
      exact ⟨ret_int (by rw [hH.out, List.drop_eq_nil_of_le (by omega)]; rfl), hB⟩
theorem containsFunc_holds_1 (q r : Addr) (a : Option Addr) (cap : Nat) (xs : List Rg) (p : Rg → Bool) (w : World) (hl : xs.length ≤ 1048576) (hx : Rd encRg w a xs) (hf : ∀ W, Below w.heap.size w W → ∀ m ∈ xs, Calls Tryz.prog 64 #[.agg #[.string m.king, .int .i64 m.fr, .int .i64 m.to], .pointer (some q), .pointer (some r)] W fun e w' => e = .returned (.bool (p m)) ∧ Below W.heap.size W w') : Calls Tryz.prog 63 #[.slice a xs.length cap, .func (.func 64) #[] #[.pointer (some q), .pointer (some r)]] w fun e w' => e = .returned (.bool (xs.any p)) ∧ Below w.heap.size w w' := by
  have HC := Lib.hid (indexFunc_holds_1 q r a cap xs p w hl hx hf)
  clear hf
  have hd := fidx_any p xs
  generalize fidx p xs 0 = r at *
  have HD := Lib.hid hd
  clear hd
  go_enter Tryz.func63, Tryz.ntmps63
  go_wp2_with fail
  refine HC.out.mono ?_
  rintro e w1 ⟨rfl, hB1⟩
  go_wp2
  go_ret
  exact ⟨ret_bool HD.out, hB1⟩
end

section
open Go.ChangeShapes Go.WideShapes Go.ChangeAt Go.RowKit


























































end
end Go.Proofs.YtjklileooiepmaaGreatDoor
