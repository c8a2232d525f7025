/- Walks: a day in a set, the reference's and the program's. -/
import Derived.Test.YtipdcgfdejmjfaaGreatDoorTSp
import Derived.Test.YtipdcgfdejmjfaaGreatDoorFix
import Derived.Test.YtipdcgfdejmjfaaGreatDoorSpPlain
namespace Go.Proofs.YtipdcgfdejmjfaaGreatDoor
section
open Go.ChangeShapes Go.WideShapes Go.ChangeAt Go.RowKit

set_option maxHeartbeats 400000 in
theorem indexFunc_hasDay_1 (q : Addr) (a : Option Addr) (cap : Nat) (xs : List Sp) (p : Sp → Bool) (w : World) (hl : xs.length ≤ 1048576) (hx : Rd encSp w a xs)
    (hf : ∀ W, Below w.heap.size w W → ∀ m ∈ xs, Calls Tryz.prog 88 #[.agg #[.int .i64 m.fr, .int .i64 m.to], .pointer (some q)] W fun e w' => e = .returned (.bool (p m)) ∧ Below W.heap.size W w') :
    Calls Tryz.prog 133 #[.slice a xs.length cap, .func (.func 88) #[] #[.pointer (some q)]] w fun e w' => e = .returned (.int .i64 (fidx p xs 0)) ∧ Below w.heap.size w w' := by
  have HF := Lib.hid hf
  clear hf
  go_enter Tryz.func133, Tryz.ntmps133
  go_wp2
  go_loopw [8] (fun i wr => ∃ (k : Nat), k ≤ xs.length ∧ i = .int .i64 k ∧ Hid (fidx p xs 0 = fidx p (xs.drop k) k) ∧ Below w.heap.size w wr) (fun i _ => xs.length - (intOf i).toNat)
  case atStart => exact ⟨0, Nat.zero_le _, rfl, rfl, Below.refl _ _⟩
  case round =>
    obtain ⟨k, hk, rfl, hH, hB⟩ := hrel
    by_cases hlt : k < xs.length
    · have hm := List.getElem?_eq_getElem hlt
      generalize xs[k] = m at hm
      obtain ⟨b, off, rfl, hb, c0, c1⟩ := (hx.below hB).sp hm
      have hd := Lib.hid (fidx_drop p k k hm)
      have hc := HF.out wr hB m (List.mem_of_getElem? hm)
      have hk1 : (k : Int) < (xs.length : Int) := by omega
      clear hm
      cases hp : p m
      · rw [hp] at hc
        have HC := Lib.hid hc
        clear hc
        go_wp2_with fail
        refine HC.out.mono ?_
        rintro e w1 ⟨rfl, hB1⟩
        go_wp2
        go_roundw
        case rel => exact ⟨k + 1, by omega, by go_num, by unfold Hid; rw [hH.out, hd.out, hp]; rfl, stepB hB hB1 hB.size⟩
        case measure => simp [intOf]; omega
      · rw [hp] at hc
        have HC := Lib.hid hc
        clear hc
        go_wp2_with fail
        refine HC.out.mono ?_
        rintro e w1 ⟨rfl, hB1⟩
        go_wp2
        go_ret
        exact ⟨ret_int (by rw [hH.out, hd.out, hp]; rfl), stepB hB hB1 hB.size⟩
    · go_wp2
      go_ret
      exact ⟨ret_int (by rw [hH.out, List.drop_eq_nil_of_le (by omega)]; rfl), hB⟩
theorem containsFunc_hasDay_1 (q : Addr) (a : Option Addr) (cap : Nat) (xs : List Sp) (p : Sp → Bool) (w : World) (hl : xs.length ≤ 1048576) (hx : Rd encSp w a xs) (hf : ∀ W, Below w.heap.size w W → ∀ m ∈ xs, Calls Tryz.prog 88 #[.agg #[.int .i64 m.fr, .int .i64 m.to], .pointer (some q)] W fun e w' => e = .returned (.bool (p m)) ∧ Below W.heap.size W w') : Calls Tryz.prog 87 #[.slice a xs.length cap, .func (.func 88) #[] #[.pointer (some q)]] w fun e w' => e = .returned (.bool (xs.any p)) ∧ Below w.heap.size w w' := by
  have HC := Lib.hid (indexFunc_hasDay_1 q a cap xs p w hl hx hf)
  clear hf
  have hd := fidx_any p xs
  generalize fidx p xs 0 = r at *
  have HD := Lib.hid hd
  clear hd
  go_enter Tryz.func87, Tryz.ntmps87
  go_wp2_with fail
  refine HC.out.mono ?_
  rintro e w1 ⟨rfl, hB1⟩
  go_wp2
  go_ret
  exact ⟨ret_bool HD.out, hB1⟩
end

section
open Go.ChangeShapes Go.WideShapes Go.ChangeAt Go.RowKit

theorem hasB_drop {xs : List Sp} {k : Nat} {m : Sp} (z : Int) (h : xs[k]? = some m) : hasB (xs.drop k) z = (inB z m.fr m.to || hasB (xs.drop (k + 1)) z) := by
  obtain ⟨hk, rfl⟩ := List.getElem?_eq_some_iff.1 h
  rw [List.drop_eq_getElem_cons hk]
  rfl
set_option maxHeartbeats 1000000 in
theorem l02Has_any (a : Option Addr) (cap n : Nat) (xs : List Sp) (z : Int) (w : World) (hn : xs.length = n) (hl : n ≤ 1048576) (hx : Rd encSp w a xs) :
    Calls Tryz.prog 46 #[.slice a n cap, .int .i64 z] w fun e w' => e = .returned (.bool (hasB xs z)) ∧ Below w.heap.size w w' := by
  subst hn
  go_enter Tryz.func46, Tryz.ntmps46
  go_wp2
  go_loopw [5] (fun i wr => ∃ (k : Nat), k ≤ xs.length ∧ i = .int .i64 k ∧ Hid (hasB xs z = hasB (xs.drop k) z) ∧ Below w.heap.size w wr) (fun i _ => xs.length - (intOf i).toNat)
  case atStart => exact ⟨0, Nat.zero_le _, rfl, rfl, Below.refl _ _⟩
  case round =>
    obtain ⟨k, hk, rfl, hH, hB⟩ := hrel
    by_cases hlt : k < xs.length
    · have hm := List.getElem?_eq_getElem hlt
      generalize xs[k] = m at hm
      obtain ⟨b, off, rfl, hb, c0, c1⟩ := (hx.below hB).sp hm
      have hd := Lib.hid (hasB_drop z hm)
      have hk1 : (k : Int) < (xs.length : Int) := by omega
      have C0 := Later.cell c0 hb
      have C1 := Later.cell c1 hb
      clear hm
      cases hp : inB z m.fr m.to
      · have hp' : Hid (inB z m.fr m.to = false) := hp
        have HI := Lib.hid (fun W => hp ▸ l01In_any z m.fr m.to W)
        go_wp2_with fail
        refine wp_region_later wr (by kernel_rfl) (by kernel_rfl) ?_
        repeat (go_big_quiet_step ((go_at_call 92; exact Later.same (HI.out _))))
        refine wpQuiet_nil ?_
        intro z'
        have hz := z'.prop
        generalize z'.val = w2 at hz
        clear C0 C1
        go_wp2
        go_roundw
        case rel => exact ⟨k + 1, by omega, by go_num, by unfold Hid; rw [hH.out, hd.out, hp'.out]; rfl, stepB hB hz hB.size⟩
        case measure => simp [intOf]; omega
      · have hp' : Hid (inB z m.fr m.to = true) := hp
        have HI := Lib.hid (fun W => hp ▸ l01In_any z m.fr m.to W)
        go_wp2_with fail
        refine wp_region_later wr (by kernel_rfl) (by kernel_rfl) ?_
        repeat (go_big_quiet_step ((go_at_call 92; exact Later.same (HI.out _))))
        refine wpQuiet_nil ?_
        intro z'
        have hz := z'.prop
        generalize z'.val = w2 at hz
        clear C0 C1
        go_wp2
        go_ret
        exact ⟨ret_bool (by rw [hH.out, hd.out, hp'.out]; rfl), stepB hB hz hB.size⟩
    · go_wp2
      go_ret
      exact ⟨ret_bool (by rw [hH.out, List.drop_eq_nil_of_le (by omega)]; rfl), hB⟩

set_option maxHeartbeats 1000000 in
theorem hasDay1_any (q : Nat) (z : Int) (m : Sp) (w : World) (h0 : w.cell? ⟨q, 0, none⟩ = some (.int .i64 z)) :
    Calls Tryz.prog 88 #[.agg #[.int .i64 m.fr, .int .i64 m.to], .pointer (some ⟨q, 0, none⟩)] w fun e w' => e = .returned (.bool (inB z m.fr m.to)) ∧ Below w.heap.size w w' := by
  have hq := World.block_lt_of_cell? w _ h0
  simp only at hq
  have hb : Below w.heap.size w (w.alloc (.cells #[.int .i64 m.fr, .int .i64 m.to] 112)) := (Below.refl _ w).alloc (Nat.le_refl _) _
  have h0' := (hb.cell (p := ⟨q, 0, none⟩) hq).trans h0
  go_enter Tryz.func88, Tryz.ntmps88
  go_wp2_with fail
  refine (within_any _ _ _ _).mono ?_
  rintro e w1 ⟨rfl, rfl⟩
  go_wp2
  go_ret
  exact ⟨rfl, hb⟩
set_option maxHeartbeats 1000000 in
theorem hasDay_any (a : Option Addr) (cap n : Nat) (xs : List Sp) (z : Int) (w : World) (hn : xs.length = n) (hl : n ≤ 1048576) (hx : Rd encSp w a xs) :
    Calls Tryz.prog 40 #[.slice a n cap, .int .i64 z] w fun e w' => e = .returned (.bool (hasB xs z)) ∧ Below w.heap.size w w' := by
  subst hn
  have hmf : ∀ (fn : Fn) (first cap : Array Value) (w : World), (Instr.makeFunc fn first cap).run Tryz.prog w = .ok (.func fn first cap) w := fun _ _ _ _ => rfl
  go_enter Tryz.func40, Tryz.ntmps40
  go_wp2_with fail
  generalize hW : w.alloc (.cells #[.int .i64 z] 2) = W
  have hB : Below w.heap.size w W := by rw [← hW]; go_grown
  have hc : W.cell? ⟨w.heap.size, 0, none⟩ = some (.int .i64 z) := by rw [← hW]; exact World.cell?_alloc_at _ _ _ _ rfl
  have hn : w.heap.size < W.heap.size := by rw [← hW]; simp
  clear hW
  refine (containsFunc_hasDay_1 ⟨w.heap.size, 0, none⟩ a cap xs (fun m => inB z m.fr m.to) W hl (hx.below hB) (fun W' hW' m _ => hasDay1_any w.heap.size z m W' ((hW'.cell (p := ⟨w.heap.size, 0, none⟩) hn).trans hc))).mono ?_
  rintro e w1 ⟨rfl, hB1⟩
  go_wp2
  go_ret
  exact ⟨rfl, stepB hB hB1 hB.size⟩
end
end Go.Proofs.YtipdcgfdejmjfaaGreatDoor
