/- What makes a land valid; places; the closure of IsLand. Printed by gen_land.py. -/
import Derived.Test.YtihmacmieofbgaaDoorLandIx
import Derived.Test.YtihmacmieofbgaaDoorFIsLand1
import Derived.Test.YtihmacmieofbgaaDoorCLand
namespace Go.Proofs.YtihmacmieofbgaaDoor
open Go.ChangeShapes Go.WideShapes Go.ChangeAt Go.RowKit

def placeB (n : Nat) (z : Int) : Bool := inB z 0 ((n : Int) - 1)
def okWy (n : Nat) (m : Wy) : Bool := placeB n m.a && placeB n m.b && !(m.a == m.b) && inB m.days 1 60
def okPl (ps : List ByteArray) (i : Nat) : Bool := match ps[i]? with
  | some s => nameB s.data.toList 12 && !(ps.take i).any (isS s)
  | none => true
def upto (p : Nat → Bool) : Nat → Bool
  | 0 => true
  | n + 1 => upto p n && p n
theorem upto_bad {p : Nat → Bool} {k n : Nat} (h : p k = false) (hk : k < n) : upto p n = false := by
  induction n with
  | zero => omega
  | succ n ih =>
    unfold upto
    by_cases e : k = n
    · subst e; simp [h]
    · rw [ih (by omega)]; rfl
def isLandB (ps : List ByteArray) (ws : List Wy) : Bool := upto (okPl ps) ps.length && ws.all (okWy ps.length) && decide (1 ≤ ps.length) && decide (ps.length ≤ 12) && decide (ws.length ≤ 40)
theorem any_not {n : Nat} (ws : List Wy) : (!ws.any fun m => !okWy n m) = ws.all (okWy n) := by
  induction ws with
  | nil => rfl
  | cons x xs ih => simp only [List.any_cons, List.all_cons, Bool.not_or, Bool.not_not, ih]

set_option maxHeartbeats 400000 in
theorem l14Place_any (a0 a1 : Option Addr) (cap0 cap1 n0 n1 : Nat) (z : Int) (w : World) (hl : n0 ≤ 1048576) :
    Calls Tryd.prog 68 #[.agg #[.slice a0 n0 cap0, .slice a1 n1 cap1], .int .i64 z] w fun e w' => e = .returned (.bool (placeB n0 z)) ∧ Below w.heap.size w w' := by
  go_enter Tryd.func68, Tryd.ntmps68
  go_wp2_with (go_at_call 51; refine (l01In_any _ _ _ _).mono ?_; rintro e w' ⟨rfl, rfl⟩)
  go_ret
  exact ⟨rfl, by go_grown⟩

set_option maxHeartbeats 400000 in
theorem isPlace_any (a0 a1 : Option Addr) (cap0 cap1 n0 n1 : Nat) (z : Int) (w : World) (hl : n0 ≤ 1048576) :
    Calls Tryd.prog 58 #[.agg #[.slice a0 n0 cap0, .slice a1 n1 cap1], .int .i64 z] w fun e w' => e = .returned (.bool (placeB n0 z)) ∧ Below w.heap.size w w' := by
  go_enter Tryd.func58, Tryd.ntmps58
  go_wp2_with (go_at_call 50; refine (within_any _ _ _ _).mono ?_; rintro e w' ⟨rfl, rfl⟩)
  go_ret
  exact ⟨rfl, by go_grown⟩

set_option maxHeartbeats 1000000 in
theorem isLand1_any (q : Nat) (m : Wy) (a0 a1 : Option Addr) (cap0 cap1 n0 n1 : Nat) (w : World) (hl : n0 ≤ 1048576) (h0 : w.cell? ⟨q, 0, none⟩ = some (.slice a0 n0 cap0)) (h1 : w.cell? ⟨q, 1, none⟩ = some (.slice a1 n1 cap1)) :
    Calls Tryd.prog 57 #[.agg #[.int .i64 m.a, .int .i64 m.b, .int .i64 m.days], .pointer (some ⟨q, 0, none⟩)] w fun e w' => e = .returned (.bool (!okWy n0 m)) ∧ Below w.heap.size w w' := by
  have hq := World.block_lt_of_cell? w _ h0
  simp only at hq
  go_enter Tryd.func57, Tryd.ntmps57
  go_upto_region 1 with (fail)
  generalize hW : w.alloc (.cells #[.int .i64 m.a, .int .i64 m.b, .int .i64 m.days] 42) = W
  have hBW : Below w.heap.size w W := by rw [← hW]; go_grown
  have hlW : w.heap.size < W.heap.size := by rw [← hW]; simp
  have D0 := Later.cell (w := W) (by rw [← hW]; exact World.cell?_alloc_at _ _ _ _ rfl : W.cell? ⟨w.heap.size, 0, none⟩ = some (.int .i64 m.a)) hlW
  have D1 := Later.cell (w := W) (by rw [← hW]; exact World.cell?_alloc_at _ _ _ _ rfl : W.cell? ⟨w.heap.size, 1, none⟩ = some (.int .i64 m.b)) hlW
  have D2 := Later.cell (w := W) (by rw [← hW]; exact World.cell?_alloc_at _ _ _ _ rfl : W.cell? ⟨w.heap.size, 2, none⟩ = some (.int .i64 m.days)) hlW
  have Q0 := Later.cell ((hBW.cell (p := ⟨q, 0, none⟩) hq).trans h0) (Nat.lt_trans hq hlW)
  have Q1 := Later.cell ((hBW.cell (p := ⟨q, 1, none⟩) hq).trans h1) (Nat.lt_trans hq hlW)
  clear h0 h1 hW
  cases hb0 : placeB n0 m.a
  · refine wp_region_later0 W ?_
    repeat (go_big_quiet_step ((first | (go_at_call 58; exact Later.call (Nat.le_refl _) (isPlace_any _ _ _ _ _ _ _ _ hl)) | (go_at_call 50; exact Later.same (within_any _ _ _ _)))))
    refine wpQuiet_nil ?_
    intro z
    have hz := z.prop
    generalize z.val = w2 at hz
    clear D0 D1 D2 Q0 Q1
    go_wp2
    go_ret
    exact ⟨ret_bool (by unfold okWy; simp [*]), stepB hBW hz hBW.size⟩
  · cases hb1 : placeB n0 m.b
    · refine wp_region_later0 W ?_
      repeat (go_big_quiet_step ((first | (go_at_call 58; exact Later.call (Nat.le_refl _) (isPlace_any _ _ _ _ _ _ _ _ hl)) | (go_at_call 50; exact Later.same (within_any _ _ _ _)))))
      refine wpQuiet_nil ?_
      intro z
      have hz := z.prop
      generalize z.val = w2 at hz
      clear D0 D1 D2 Q0 Q1
      go_wp2
      go_ret
      exact ⟨ret_bool (by unfold okWy; simp [*]), stepB hBW hz hBW.size⟩
    · cases hb2 : m.a == m.b
      · cases hb3 : inB m.days 1 60
        · refine wp_region_later0 W ?_
          repeat (go_big_quiet_step ((first | (go_at_call 58; exact Later.call (Nat.le_refl _) (isPlace_any _ _ _ _ _ _ _ _ hl)) | (go_at_call 50; exact Later.same (within_any _ _ _ _)))))
          refine wpQuiet_nil ?_
          intro z
          have hz := z.prop
          generalize z.val = w2 at hz
          clear D0 D1 D2 Q0 Q1
          go_wp2
          go_ret
          exact ⟨ret_bool (by unfold okWy; simp [*]), stepB hBW hz hBW.size⟩
        · refine wp_region_later0 W ?_
          repeat (go_big_quiet_step ((first | (go_at_call 58; exact Later.call (Nat.le_refl _) (isPlace_any _ _ _ _ _ _ _ _ hl)) | (go_at_call 50; exact Later.same (within_any _ _ _ _)))))
          refine wpQuiet_nil ?_
          intro z
          have hz := z.prop
          generalize z.val = w2 at hz
          clear D0 D1 D2 Q0 Q1
          go_wp2
          go_ret
          exact ⟨ret_bool (by unfold okWy; simp [*]), stepB hBW hz hBW.size⟩
      · refine wp_region_later0 W ?_
        repeat (go_big_quiet_step ((first | (go_at_call 58; exact Later.call (Nat.le_refl _) (isPlace_any _ _ _ _ _ _ _ _ hl)) | (go_at_call 50; exact Later.same (within_any _ _ _ _)))))
        refine wpQuiet_nil ?_
        intro z
        have hz := z.prop
        generalize z.val = w2 at hz
        clear D0 D1 D2 Q0 Q1
        go_wp2
        go_ret
        exact ⟨ret_bool (by unfold okWy; simp [*]), stepB hBW hz hBW.size⟩
end Go.Proofs.YtihmacmieofbgaaDoor
