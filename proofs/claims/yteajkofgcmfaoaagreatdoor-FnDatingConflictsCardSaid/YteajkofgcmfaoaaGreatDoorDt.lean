/- Walks: IsDating. -/
import Derived.Test.YteajkofgcmfaoaaGreatDoorTt
import Derived.Test.YteajkofgcmfaoaaGreatDoorBB
import Derived.Test.YteajkofgcmfaoaaGreatDoorCl
namespace Go.Proofs.YteajkofgcmfaoaaGreatDoor
section
open Go.ChangeShapes Go.WideShapes Go.ChangeAt Go.RowKit

set_option maxHeartbeats 400000 in
theorem indexFunc_IsDating_1 (a : Option Addr) (cap : Nat) (xs : List Cl) (p : Cl → Bool) (w : World) (hl : xs.length ≤ 1048576) (hx : Rd encCl w a xs)
    (hf : ∀ W, Below w.heap.size w W → ∀ m ∈ xs, Calls Tryz.prog 79 #[.agg #[.int .i64 m.kind, .int .i64 m.number, .int .i64 m.month, .int .i64 m.feast, .int .i64 m.relation, .int .i64 m.weekday, .int .i64 m.style, .string m.king]] W fun e w' => e = .returned (.bool (p m)) ∧ Below W.heap.size W w') :
    Calls Tryz.prog 138 #[.slice a xs.length cap, .func (.func 79) #[] #[]] w fun e w' => e = .returned (.int .i64 (fidx p xs 0)) ∧ Below w.heap.size w w' := by
  have HF := Lib.hid hf
  clear hf
  go_enter Tryz.func138, Tryz.ntmps138
  go_wp2
  go_loopw [8] (fun i wr => ∃ (k : Nat), k ≤ xs.length ∧ i = .int .i64 k ∧ Hid (fidx p xs 0 = fidx p (xs.drop k) k) ∧ Below w.heap.size w wr) (fun i _ => xs.length - (intOf i).toNat)
  case atStart => exact ⟨0, Nat.zero_le _, rfl, rfl, Below.refl _ _⟩
  case round =>
    obtain ⟨k, hk, rfl, hH, hB⟩ := hrel
    by_cases hlt : k < xs.length
    · have hm := List.getElem?_eq_getElem hlt
      generalize xs[k] = m at hm
      obtain ⟨b, off, rfl, hb, c0, c1, c2, c3, c4, c5, c6, c7⟩ := (hx.below hB).cl hm
      have hd := Lib.hid (fidx_drop p k k hm)
      have hc := HF.out wr hB m (List.mem_of_getElem? hm)
      have hk1 : (k : Int) < (xs.length : Int) := by omega
      clear hm
      cases hp : p m
      · rw [hp] at hc
        have HC := Lib.hid hc
        clear hc
        go_wp2_with fail
        refine HC.out.mono ?_
        rintro e w1 ⟨rfl, hB1⟩
        go_wp2
        go_roundw
        case rel => exact ⟨k + 1, by omega, by go_num, by unfold Hid; rw [hH.out, hd.out, hp]; rfl, stepB hB hB1 hB.size⟩
        case measure => simp [intOf]; omega
      · rw [hp] at hc
        have HC := Lib.hid hc
        clear hc
        go_wp2_with fail
        refine HC.out.mono ?_
        rintro e w1 ⟨rfl, hB1⟩
        go_wp2
        go_ret
        exact ⟨ret_int (by rw [hH.out, hd.out, hp]; rfl), stepB hB hB1 hB.size⟩
    · go_wp2
      go_ret
      exact ⟨ret_int (by rw [hH.out, List.drop_eq_nil_of_le (by omega)]; rfl), hB⟩
theorem containsFunc_IsDating_1 (a : Option Addr) (cap : Nat) (xs : List Cl) (p : Cl → Bool) (w : World) (hl : xs.length ≤ 1048576) (hx : Rd encCl w a xs) (hf : ∀ W, Below w.heap.size w W → ∀ m ∈ xs, Calls Tryz.prog 79 #[.agg #[.int .i64 m.kind, .int .i64 m.number, .int .i64 m.month, .int .i64 m.feast, .int .i64 m.relation, .int .i64 m.weekday, .int .i64 m.style, .string m.king]] W fun e w' => e = .returned (.bool (p m)) ∧ Below W.heap.size W w') : Calls Tryz.prog 78 #[.slice a xs.length cap, .func (.func 79) #[] #[]] w fun e w' => e = .returned (.bool (xs.any p)) ∧ Below w.heap.size w w' := by
  have HC := Lib.hid (indexFunc_IsDating_1 a cap xs p w hl hx hf)
  clear hf
  have hd := fidx_any p xs
  generalize fidx p xs 0 = r at *
  have HD := Lib.hid hd
  clear hd
  go_enter Tryz.func78, Tryz.ntmps78
  go_wp2_with fail
  refine HC.out.mono ?_
  rintro e w1 ⟨rfl, hB1⟩
  go_wp2
  go_ret
  exact ⟨ret_bool HD.out, hB1⟩
end

section
open Go.ChangeShapes Go.WideShapes Go.ChangeAt Go.RowKit

def isDatingB (xs : List Cl) : Bool := xs.all okCl && decide (xs.length ≤ 8)
theorem any_not_cl (xs : List Cl) : (xs.any fun m => !okCl m) = !xs.all okCl := by
  induction xs with
  | nil => rfl
  | cons x xs ih => simp only [List.any_cons, List.all_cons, Bool.not_and, ih]
set_option maxHeartbeats 1000000 in
theorem specIsDating_any (a : Option Addr) (cap : Nat) (xs : List Cl) (w : World) (hl : xs.length ≤ 1048576) (hx : Rd encCl w a xs) (hs : ∀ m ∈ xs, szCl m ≤ 1048576) :
    Calls Tryz.prog 77 #[.slice a xs.length cap] w fun e w' => e = .returned (.bool (isDatingB xs)) ∧ Below w.heap.size w w' := by
  have hv : Hid (isDatingB xs = (xs.all okCl && decide (xs.length ≤ 8))) := rfl
  generalize isDatingB xs = V at hv ⊢
  go_enter Tryz.func77, Tryz.ntmps77
  go_wp2
  go_loopw [3] (fun i wr => ∃ (k : Nat), k ≤ xs.length ∧ i = .int .i64 k ∧ Hid (xs.all okCl = (xs.drop k).all okCl) ∧ Below w.heap.size w wr) (fun i _ => xs.length - (intOf i).toNat)
  case atStart => exact ⟨0, Nat.zero_le _, rfl, rfl, Below.refl _ _⟩
  case round =>
    obtain ⟨k, hk, rfl, hH, hB⟩ := hrel
    by_cases hlt : k < xs.length
    · have hm := List.getElem?_eq_getElem hlt
      generalize xs[k] = m at hm
      obtain ⟨b, off, rfl, hb, c0, c1, c2, c3, c4, c5, c6, c7⟩ := (hx.below hB).cl hm
      have hd := Lib.hid (all_drop okCl hm)
      have hsm : m.king.size ≤ 9223372036854775807 := by have h1 := hs m (List.mem_of_getElem? hm); unfold szCl at h1; omega
      have HC := Lib.hid (fun W => specClause_any m W hsm)
      have hk1 : (k : Int) < (xs.length : Int) := by omega
      clear hm
      cases hp : okCl m
      · have HC := Lib.hid (fun W => hp ▸ HC.out W)
        go_wp2_with fail
        refine (HC.out _).mono ?_
        rintro e w1 ⟨rfl, hB1⟩
        go_wp2
        go_ret
        exact ⟨ret_bool (by rw [hv.out, hH.out, hd.out, hp]; rfl), stepB hB hB1 hB.size⟩
      · have HC := Lib.hid (fun W => hp ▸ HC.out W)
        go_wp2_with fail
        refine (HC.out _).mono ?_
        rintro e w1 ⟨rfl, hB1⟩
        go_wp2
        go_roundw
        case rel => exact ⟨k + 1, by omega, by go_num, by unfold Hid; rw [hH.out, hd.out, hp]; rfl, stepB hB hB1 hB.size⟩
        case measure => simp [intOf]; omega
    · have e1 : (xs.drop k).all okCl = true := by rw [List.drop_eq_nil_of_le (by omega)]; rfl
      have e2 : Hid (V = decide (xs.length ≤ 8)) := by unfold Hid; rw [hv.out, hH.out, e1]; simp
      clear e1 hv hH
      go_wp2
      go_ret
      exact ⟨ret_bool (by rw [e2.out]; simp; omega), hB⟩

theorem isDating1_any (m : Cl) (w : World) (hk : m.king.size ≤ 9223372036854775807) :
    Calls Tryz.prog 79 #[.agg #[.int .i64 m.kind, .int .i64 m.number, .int .i64 m.month, .int .i64 m.feast, .int .i64 m.relation, .int .i64 m.weekday, .int .i64 m.style, .string m.king]] w fun e w' => e = .returned (.bool (!okCl m)) ∧ Below w.heap.size w w' := by
  have hB0 : Below w.heap.size w (w.alloc (.cells #[.int .i64 m.kind, .int .i64 m.number, .int .i64 m.month, .int .i64 m.feast, .int .i64 m.relation, .int .i64 m.weekday, .int .i64 m.style, .string m.king] 31)) := (Below.refl _ w).alloc (Nat.le_refl _) _
  go_enter Tryz.func79, Tryz.ntmps79
  go_wp2_with fail
  refine (implClause_any m _ hk).mono ?_
  rintro e w1 ⟨rfl, hB1⟩
  go_wp2
  go_ret
  exact ⟨rfl, stepB hB0 hB1 hB0.size⟩
set_option maxHeartbeats 1000000 in
theorem implIsDating_any (a : Option Addr) (cap : Nat) (xs : List Cl) (w : World) (hl : xs.length ≤ 1048576) (hx : Rd encCl w a xs) (hs : ∀ m ∈ xs, szCl m ≤ 1048576) :
    Calls Tryz.prog 35 #[.slice a xs.length cap] w fun e w' => e = .returned (.bool (isDatingB xs)) ∧ Below w.heap.size w w' := by
  have hv : Hid (isDatingB xs = (xs.all okCl && decide (xs.length ≤ 8))) := rfl
  have hct := containsFunc_IsDating_1 a cap xs (fun m => !okCl m) w hl hx (fun W _ m hm => isDating1_any m W (by have h1 := hs m hm; unfold szCl at h1; omega))
  rw [any_not_cl] at hct
  have HCT := Lib.hid hct
  clear hct
  generalize isDatingB xs = V at hv ⊢
  generalize xs.all okCl = A at hv HCT
  by_cases h8 : (xs.length : Int) ≤ 8
  · have hR : Hid (V = A) := by unfold Hid; rw [hv.out, decide_eq_true (show xs.length ≤ 8 by omega)]; simp
    clear hv
    go_enter Tryz.func35, Tryz.ntmps35
    go_wp2_with fail
    refine HCT.out.mono ?_
    rintro e w1 ⟨rfl, hB1⟩
    go_wp2
    go_ret
    exact ⟨ret_bool (by rw [hR.out]), hB1⟩
  · have hR : Hid (V = false) := by unfold Hid; rw [hv.out, decide_eq_false (show ¬ xs.length ≤ 8 by omega)]; simp
    clear hv
    go_enter Tryz.func35, Tryz.ntmps35
    go_wp2
    go_ret
    exact ⟨ret_bool hR.out.symm, Below.refl _ _⟩
end
end Go.Proofs.YteajkofgcmfaoaaGreatDoor
