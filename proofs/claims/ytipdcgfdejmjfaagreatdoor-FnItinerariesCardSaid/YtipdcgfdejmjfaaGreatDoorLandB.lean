/- What makes a land valid; places; the closure of IsLand. Printed by gen_land.py. -/
import Derived.Test.YtipdcgfdejmjfaaGreatDoorTS
import Derived.Test.YtipdcgfdejmjfaaGreatDoorFix
import Derived.Test.YtipdcgfdejmjfaaGreatDoorTWy
import Derived.Test.YtipdcgfdejmjfaaGreatDoorCLand
namespace Go.Proofs.YtipdcgfdejmjfaaGreatDoor
section
open Go.ChangeShapes Go.WideShapes Go.ChangeAt Go.RowKit

def isS (s m : ByteArray) : Bool := m.toList == s.toList
theorem beq_swap (a b : List UInt8) : (a == b) = (b == a) := by
  rw [Bool.eq_iff_iff, beq_iff_eq, beq_iff_eq]
  exact ⟨Eq.symm, Eq.symm⟩

set_option maxHeartbeats 400000 in
theorem l01Text_any (a : Option Addr) (cap n : Nat) (xs : List ByteArray) (s : ByteArray) (w : World) (hn : xs.length = n) (hl : n ≤ 1048576) (hx : Rd encS w a xs) :
    Calls Tryz.prog 141 #[.slice a n cap, .string s] w fun e w' => e = .returned (.int .i64 (fidx (isS s) xs 0)) ∧ w = w' := by
  subst hn
  go_enter Tryz.func141, Tryz.ntmps141
  go_wp2
  go_loop [5] (fun i => ∃ (k : Nat), k ≤ xs.length ∧ i = .int .i64 k ∧ Hid (fidx (isS s) xs 0 = fidx (isS s) (xs.drop k) k)) (fun i => xs.length - (intOf i).toNat)
  case atStart => exact ⟨0, Nat.zero_le _, rfl, rfl⟩
  case round =>
    obtain ⟨k, hk, rfl, hH⟩ := hrel
    by_cases hlt : k < xs.length
    · have hm := List.getElem?_eq_getElem hlt
      generalize xs[k] = m at hm
      obtain ⟨b, off, rfl, hb, c0⟩ := hx.s hm
      have hd := Lib.hid (fidx_drop (isS s) k k hm)
      have hk1 : (k : Int) < (xs.length : Int) := by omega
      clear hm
      cases hp : (m.toList == s.toList)
      · have hp' : Hid (isS s m = false) := by unfold Hid isS; exact hp
        go_wp2
        go_round
        case rel => exact ⟨k + 1, by omega, by go_num, by unfold Hid; rw [hH.out, hd.out, hp'.out]; rfl⟩
        case measure => simp [intOf]; omega
      · have hp' : Hid (isS s m = true) := by unfold Hid isS; exact hp
        go_wp2
        go_ret
        exact ⟨ret_int (by rw [hH.out, hd.out, hp'.out]; rfl), rfl⟩
    · go_wp2
      go_ret
      exact ⟨ret_int (by rw [hH.out, List.drop_eq_nil_of_le (by omega)]; rfl), rfl⟩

set_option maxHeartbeats 400000 in
theorem slIndex_any (a : Option Addr) (cap n : Nat) (xs : List ByteArray) (s : ByteArray) (w : World) (hn : xs.length = n) (hl : n ≤ 1048576) (hx : Rd encS w a xs) :
    Calls Tryz.prog 143 #[.slice a n cap, .string s] w fun e w' => e = .returned (.int .i64 (fidx (isS s) xs 0)) ∧ w = w' := by
  subst hn
  go_enter Tryz.func143, Tryz.ntmps143
  go_wp2
  go_loop [8] (fun i => ∃ (k : Nat), k ≤ xs.length ∧ i = .int .i64 k ∧ Hid (fidx (isS s) xs 0 = fidx (isS s) (xs.drop k) k)) (fun i => xs.length - (intOf i).toNat)
  case atStart => exact ⟨0, Nat.zero_le _, rfl, rfl⟩
  case round =>
    obtain ⟨k, hk, rfl, hH⟩ := hrel
    by_cases hlt : k < xs.length
    · have hm := List.getElem?_eq_getElem hlt
      generalize xs[k] = m at hm
      obtain ⟨b, off, rfl, hb, c0⟩ := hx.s hm
      have hd := Lib.hid (fidx_drop (isS s) k k hm)
      have hk1 : (k : Int) < (xs.length : Int) := by omega
      clear hm
      cases hp : (s.toList == m.toList)
      · have hp' : Hid (isS s m = false) := by unfold Hid isS; rw [beq_swap]; exact hp
        go_wp2
        go_round
        case rel => exact ⟨k + 1, by omega, by go_num, by unfold Hid; rw [hH.out, hd.out, hp'.out]; rfl⟩
        case measure => simp [intOf]; omega
      · have hp' : Hid (isS s m = true) := by unfold Hid isS; rw [beq_swap]; exact hp
        go_wp2
        go_ret
        exact ⟨ret_int (by rw [hH.out, hd.out, hp'.out]; rfl), rfl⟩
    · go_wp2
      go_ret
      exact ⟨ret_int (by rw [hH.out, List.drop_eq_nil_of_le (by omega)]; rfl), rfl⟩

theorem slContains_any (a : Option Addr) (cap n : Nat) (xs : List ByteArray) (s : ByteArray) (w : World) (hn : xs.length = n) (hl : n ≤ 1048576) (hx : Rd encS w a xs) :
    Calls Tryz.prog 101 #[.slice a n cap, .string s] w fun e w' => e = .returned (.bool (xs.any (isS s))) ∧ w = w' := by
  have HC := Lib.hid (slIndex_any a cap n xs s w hn hl hx)
  have hd := fidx_any (isS s) xs
  generalize fidx (isS s) xs 0 = r at *
  have HD := Lib.hid hd
  clear hd
  go_enter Tryz.func101, Tryz.ntmps101
  go_wp2_with fail
  refine HC.out.mono ?_
  rintro e w1 ⟨rfl, rfl⟩
  go_wp2
  go_ret
  exact ⟨ret_bool HD.out, rfl⟩
end

section
open Go.ChangeShapes Go.WideShapes Go.ChangeAt Go.RowKit

set_option maxHeartbeats 400000 in
theorem indexFunc_IsLand_1 (q : Addr) (a : Option Addr) (cap : Nat) (xs : List Wy) (p : Wy → Bool) (w : World) (hl : xs.length ≤ 1048576) (hx : Rd encWy w a xs)
    (hf : ∀ W, Below w.heap.size w W → ∀ m ∈ xs, Calls Tryz.prog 103 #[.agg #[.int .i64 m.a, .int .i64 m.b, .int .i64 m.days], .pointer (some q)] W fun e w' => e = .returned (.bool (p m)) ∧ Below W.heap.size W w') :
    Calls Tryz.prog 144 #[.slice a xs.length cap, .func (.func 103) #[] #[.pointer (some q)]] w fun e w' => e = .returned (.int .i64 (fidx p xs 0)) ∧ Below w.heap.size w w' := by
  have HF := Lib.hid hf
  clear hf
  go_enter Tryz.func144, Tryz.ntmps144
  go_wp2
  go_loopw [8] (fun i wr => ∃ (k : Nat), k ≤ xs.length ∧ i = .int .i64 k ∧ Hid (fidx p xs 0 = fidx p (xs.drop k) k) ∧ Below w.heap.size w wr) (fun i _ => xs.length - (intOf i).toNat)
  case atStart => exact ⟨0, Nat.zero_le _, rfl, rfl, Below.refl _ _⟩
  case round =>
    obtain ⟨k, hk, rfl, hH, hB⟩ := hrel
    by_cases hlt : k < xs.length
    · have hm := List.getElem?_eq_getElem hlt
      generalize xs[k] = m at hm
      obtain ⟨b, off, rfl, hb, c0, c1, c2⟩ := (hx.below hB).wy hm
      have hd := Lib.hid (fidx_drop p k k hm)
      have hc := HF.out wr hB m (List.mem_of_getElem? hm)
      have hk1 : (k : Int) < (xs.length : Int) := by omega
      clear hm
      cases hp : p m
      · rw [hp] at hc
        have HC := Lib.hid hc
        clear hc
        go_wp2_with fail
        refine HC.out.mono ?_
        rintro e w1 ⟨rfl, hB1⟩
        go_wp2
        go_roundw
        case rel => exact ⟨k + 1, by omega, by go_num, by unfold Hid; rw [hH.out, hd.out, hp]; rfl, stepB hB hB1 hB.size⟩
        case measure => simp [intOf]; omega
      · rw [hp] at hc
        have HC := Lib.hid hc
        clear hc
        go_wp2_with fail
        refine HC.out.mono ?_
        rintro e w1 ⟨rfl, hB1⟩
        go_wp2
        go_ret
        exact ⟨ret_int (by rw [hH.out, hd.out, hp]; rfl), stepB hB hB1 hB.size⟩
    · go_wp2
      go_ret
      exact ⟨ret_int (by rw [hH.out, List.drop_eq_nil_of_le (by omega)]; rfl), hB⟩
theorem containsFunc_IsLand_1 (q : Addr) (a : Option Addr) (cap : Nat) (xs : List Wy) (p : Wy → Bool) (w : World) (hl : xs.length ≤ 1048576) (hx : Rd encWy w a xs) (hf : ∀ W, Below w.heap.size w W → ∀ m ∈ xs, Calls Tryz.prog 103 #[.agg #[.int .i64 m.a, .int .i64 m.b, .int .i64 m.days], .pointer (some q)] W fun e w' => e = .returned (.bool (p m)) ∧ Below W.heap.size W w') : Calls Tryz.prog 102 #[.slice a xs.length cap, .func (.func 103) #[] #[.pointer (some q)]] w fun e w' => e = .returned (.bool (xs.any p)) ∧ Below w.heap.size w w' := by
  have HC := Lib.hid (indexFunc_IsLand_1 q a cap xs p w hl hx hf)
  clear hf
  have hd := fidx_any p xs
  generalize fidx p xs 0 = r at *
  have HD := Lib.hid hd
  clear hd
  go_enter Tryz.func102, Tryz.ntmps102
  go_wp2_with fail
  refine HC.out.mono ?_
  rintro e w1 ⟨rfl, hB1⟩
  go_wp2
  go_ret
  exact ⟨ret_bool HD.out, hB1⟩
end

section
open Go.ChangeShapes Go.WideShapes Go.ChangeAt Go.RowKit

def placeB (n : Nat) (z : Int) : Bool := inB z 0 ((n : Int) - 1)
def okWy (n : Nat) (m : Wy) : Bool := placeB n m.a && placeB n m.b && !(m.a == m.b) && inB m.days 1 60
def okPl (ps : List ByteArray) (i : Nat) : Bool := match ps[i]? with
  | some s => nameB s.data.toList 12 && !(ps.take i).any (isS s)
  | none => true
def upto (p : Nat → Bool) : Nat → Bool
  | 0 => true
  | n + 1 => upto p n && p n
theorem upto_bad {p : Nat → Bool} {k n : Nat} (h : p k = false) (hk : k < n) : upto p n = false := by
  induction n with
  | zero => omega
  | succ n ih =>
    unfold upto
    by_cases e : k = n
    · subst e; simp [h]
    · rw [ih (by omega)]; rfl
def isLandB (ps : List ByteArray) (ws : List Wy) : Bool := upto (okPl ps) ps.length && ws.all (okWy ps.length) && decide (1 ≤ ps.length) && decide (ps.length ≤ 12) && decide (ws.length ≤ 40)
theorem any_not {n : Nat} (ws : List Wy) : (!ws.any fun m => !okWy n m) = ws.all (okWy n) := by
  induction ws with
  | nil => rfl
  | cons x xs ih => simp only [List.any_cons, List.all_cons, Bool.not_or, Bool.not_not, ih]

set_option maxHeartbeats 400000 in
theorem l14Place_any (a0 a1 : Option Addr) (cap0 cap1 n0 n1 : Nat) (z : Int) (w : World) (hl : n0 ≤ 1048576) :
    Calls Tryz.prog 44 #[.agg #[.slice a0 n0 cap0, .slice a1 n1 cap1], .int .i64 z] w fun e w' => e = .returned (.bool (placeB n0 z)) ∧ Below w.heap.size w w' := by
  go_enter Tryz.func44, Tryz.ntmps44
  go_wp2_with (go_at_call 92; refine (l01In_any _ _ _ _).mono ?_; rintro e w' ⟨rfl, rfl⟩)
  go_ret
  exact ⟨rfl, by go_grown⟩

set_option maxHeartbeats 400000 in
theorem isPlace_any (a0 a1 : Option Addr) (cap0 cap1 n0 n1 : Nat) (z : Int) (w : World) (hl : n0 ≤ 1048576) :
    Calls Tryz.prog 85 #[.agg #[.slice a0 n0 cap0, .slice a1 n1 cap1], .int .i64 z] w fun e w' => e = .returned (.bool (placeB n0 z)) ∧ Below w.heap.size w w' := by
  go_enter Tryz.func85, Tryz.ntmps85
  go_wp2_with (go_at_call 50; refine (within_any _ _ _ _).mono ?_; rintro e w' ⟨rfl, rfl⟩)
  go_ret
  exact ⟨rfl, by go_grown⟩

set_option maxHeartbeats 1000000 in
theorem isLand1_any (q : Nat) (m : Wy) (a0 a1 : Option Addr) (cap0 cap1 n0 n1 : Nat) (w : World) (hl : n0 ≤ 1048576) (h0 : w.cell? ⟨q, 0, none⟩ = some (.slice a0 n0 cap0)) (h1 : w.cell? ⟨q, 1, none⟩ = some (.slice a1 n1 cap1)) :
    Calls Tryz.prog 103 #[.agg #[.int .i64 m.a, .int .i64 m.b, .int .i64 m.days], .pointer (some ⟨q, 0, none⟩)] w fun e w' => e = .returned (.bool (!okWy n0 m)) ∧ Below w.heap.size w w' := by
  have hq := World.block_lt_of_cell? w _ h0
  simp only at hq
  go_enter Tryz.func103, Tryz.ntmps103
  go_upto_region 1 with (fail)
  generalize hW : w.alloc (.cells #[.int .i64 m.a, .int .i64 m.b, .int .i64 m.days] 125) = W
  have hBW : Below w.heap.size w W := by rw [← hW]; go_grown
  have hlW : w.heap.size < W.heap.size := by rw [← hW]; simp
  have D0 := Later.cell (w := W) (by rw [← hW]; exact World.cell?_alloc_at _ _ _ _ rfl : W.cell? ⟨w.heap.size, 0, none⟩ = some (.int .i64 m.a)) hlW
  have D1 := Later.cell (w := W) (by rw [← hW]; exact World.cell?_alloc_at _ _ _ _ rfl : W.cell? ⟨w.heap.size, 1, none⟩ = some (.int .i64 m.b)) hlW
  have D2 := Later.cell (w := W) (by rw [← hW]; exact World.cell?_alloc_at _ _ _ _ rfl : W.cell? ⟨w.heap.size, 2, none⟩ = some (.int .i64 m.days)) hlW
  have Q0 := Later.cell ((hBW.cell (p := ⟨q, 0, none⟩) hq).trans h0) (Nat.lt_trans hq hlW)
  have Q1 := Later.cell ((hBW.cell (p := ⟨q, 1, none⟩) hq).trans h1) (Nat.lt_trans hq hlW)
  clear h0 h1 hW
  cases hb0 : placeB n0 m.a
  · refine wp_region_later0 W ?_
    repeat (go_big_quiet_step ((first | (go_at_call 85; exact Later.call (Nat.le_refl _) (isPlace_any _ _ _ _ _ _ _ _ hl)) | (go_at_call 50; exact Later.same (within_any _ _ _ _)))))
    refine wpQuiet_nil ?_
    intro z
    have hz := z.prop
    generalize z.val = w2 at hz
    clear D0 D1 D2 Q0 Q1
    go_wp2
    go_ret
    exact ⟨ret_bool (by unfold okWy; simp [*]), stepB hBW hz hBW.size⟩
  · cases hb1 : placeB n0 m.b
    · refine wp_region_later0 W ?_
      repeat (go_big_quiet_step ((first | (go_at_call 85; exact Later.call (Nat.le_refl _) (isPlace_any _ _ _ _ _ _ _ _ hl)) | (go_at_call 50; exact Later.same (within_any _ _ _ _)))))
      refine wpQuiet_nil ?_
      intro z
      have hz := z.prop
      generalize z.val = w2 at hz
      clear D0 D1 D2 Q0 Q1
      go_wp2
      go_ret
      exact ⟨ret_bool (by unfold okWy; simp [*]), stepB hBW hz hBW.size⟩
    · cases hb2 : m.a == m.b
      · cases hb3 : inB m.days 1 60
        · refine wp_region_later0 W ?_
          repeat (go_big_quiet_step ((first | (go_at_call 85; exact Later.call (Nat.le_refl _) (isPlace_any _ _ _ _ _ _ _ _ hl)) | (go_at_call 50; exact Later.same (within_any _ _ _ _)))))
          refine wpQuiet_nil ?_
          intro z
          have hz := z.prop
          generalize z.val = w2 at hz
          clear D0 D1 D2 Q0 Q1
          go_wp2
          go_ret
          exact ⟨ret_bool (by unfold okWy; simp [*]), stepB hBW hz hBW.size⟩
        · refine wp_region_later0 W ?_
          repeat (go_big_quiet_step ((first | (go_at_call 85; exact Later.call (Nat.le_refl _) (isPlace_any _ _ _ _ _ _ _ _ hl)) | (go_at_call 50; exact Later.same (within_any _ _ _ _)))))
          refine wpQuiet_nil ?_
          intro z
          have hz := z.prop
          generalize z.val = w2 at hz
          clear D0 D1 D2 Q0 Q1
          go_wp2
          go_ret
          exact ⟨ret_bool (by unfold okWy; simp [*]), stepB hBW hz hBW.size⟩
      · refine wp_region_later0 W ?_
        repeat (go_big_quiet_step ((first | (go_at_call 85; exact Later.call (Nat.le_refl _) (isPlace_any _ _ _ _ _ _ _ _ hl)) | (go_at_call 50; exact Later.same (within_any _ _ _ _)))))
        refine wpQuiet_nil ?_
        intro z
        have hz := z.prop
        generalize z.val = w2 at hz
        clear D0 D1 D2 Q0 Q1
        go_wp2
        go_ret
        exact ⟨ret_bool (by unfold okWy; simp [*]), stepB hBW hz hBW.size⟩
end
end Go.Proofs.YtipdcgfdejmjfaaGreatDoor
