import Derived.Test.YteajkofgcmfaoaaGreatDoorTCl
import Derived.Test.YteajkofgcmfaoaaGreatDoorMarkText
namespace Go.Proofs.YteajkofgcmfaoaaGreatDoor
section
open Go.ChangeShapes Go.WideShapes Go.ChangeAt Go.RowKit

def mkCl (q : Int) (i : Nat) : Cl := ⟨q + i * 8, q + i * 8 + 1, q + i * 8 + 1 + 1, q + i * 8 + 1 + 1 + 1, q + i * 8 + 1 + 1 + 1 + 1, q + i * 8 + 1 + 1 + 1 + 1 + 1, q + i * 8 + 1 + 1 + 1 + 1 + 1 + 1, mtxt (q + i * 8 + 1 + 1 + 1 + 1 + 1 + 1 + 1)⟩
def markedCl (n : Nat) (q : Int) : List Cl := (List.range n).map (mkCl q)
theorem markedCl_len (n : Nat) (q : Int) : (markedCl n q).length = n := by simp [markedCl]
theorem markedCl_succ (n : Nat) (q : Int) : markedCl (n + 1) q = markedCl n q ++ [mkCl q n] := by simp [markedCl, List.range_succ]
theorem markedCl_at {n k : Nat} (q : Int) (h : k < n) : (markedCl n q)[k]? = some (mkCl q k) := by simp [markedCl, h]


set_option maxRecDepth 100000 in
set_option maxHeartbeats 4000000 in
theorem markClauseS_any (base : Nat) (a : Option Addr) (cap n : Nat) (cells : List Value) (q : Int) (w : World) (h : w.ownsRow base 31 8 (.slice a n cap) n cells) (hn : n ≤ 2097152) (h0 : 0 ≤ q) (h1 : q ≤ 16777216) :
    Calls Tryz.prog 10 #[.slice a n cap, .int .i64 q] w fun e w' => e = .returned (.int .i64 (q + (n : Nat) * 8)) ∧ w'.ownsRow base 31 8 (.slice a n cap) n ((markedCl n q).flatMap encCl) ∧ w.grownBy w' (Value.slice a n cap).ownBlock := by
  go_enter Tryz.func10, Tryz.ntmps10
  go_wp2
  go_loopw [1, 5] (fun z i wr => ∃ (k : Nat) (old : List Value), k ≤ n ∧ i = .int .i64 k ∧ z = .int .i64 (q + (k : Nat) * 8) ∧ wr.ownsRow base 31 8 (.slice a n cap) n ((markedCl k q).flatMap encCl ++ old) ∧ w.grownBy wr (Value.slice a n cap).ownBlock) (fun _ i _ => n - (intOf i).toNat)
  case atStart => exact ⟨0, cells, Nat.zero_le _, rfl, by simp, by simpa [markedCl] using h, World.grownBy.refl w _⟩
  case round =>
    clear h
    obtain ⟨k, old, hk, rfl, rfl, hown, hg⟩ := hrel
    by_cases hlt : k < n
    · have hlen := hown.1
      rw [List.length_append, length_flatMap_enc encCl 8 encCl_len, markedCl_len] at hlen
      have hlen2 : old.length = (n - k) * 8 := by rw [Nat.sub_mul]; omega
      have hlen3 : 8 ≤ old.length := by rw [hlen2]; have := Nat.mul_le_mul_right 8 (show 1 ≤ n - k by omega); omega
      obtain ⟨o0, o1, o2, o3, o4, o5, o6, o7, old, rfl⟩ : ∃ o0 o1 o2 o3 o4 o5 o6 o7, ∃ old', old = o0 :: o1 :: o2 :: o3 :: o4 :: o5 :: o6 :: o7 :: old' := by
        match old, hlen3 with
        | o0 :: o1 :: o2 :: o3 :: o4 :: o5 :: o6 :: o7 :: rest, _ => exact ⟨o0, o1, o2, o3, o4, o5, o6, o7, _, rfl⟩
      obtain ⟨g, rfl⟩ : ∃ g, a = some ⟨g, 0, none⟩ := by
        rcases hown.2 with ⟨_, h⟩ | ⟨g, _, _, e, _⟩
        · omega
        · exact ⟨g, by simpa using congrArg (fun v => match v with | .slice a _ _ => a | _ => none) e⟩
      have hpl : ((markedCl k q).flatMap encCl).length = k * 8 := by rw [length_flatMap_enc encCl 8 encCl_len, markedCl_len]
      have hms : (markedCl (k + 1) q).flatMap encCl = (markedCl k q).flatMap encCl ++ [.int .i64 (q + (k : Nat) * 8), .int .i64 (q + (k : Nat) * 8 + 1), .int .i64 (q + (k : Nat) * 8 + 1 + 1), .int .i64 (q + (k : Nat) * 8 + 1 + 1 + 1), .int .i64 (q + (k : Nat) * 8 + 1 + 1 + 1 + 1), .int .i64 (q + (k : Nat) * 8 + 1 + 1 + 1 + 1 + 1), .int .i64 (q + (k : Nat) * 8 + 1 + 1 + 1 + 1 + 1 + 1), .string (mtxt (q + (k : Nat) * 8 + 1 + 1 + 1 + 1 + 1 + 1 + 1))] := by rw [markedCl_succ, List.flatMap_append]; simp [encCl, mkCl]
      have HMS := Lib.hid hms
      have HPL := Lib.hid hpl
      have HG := Lib.hid hg
      have hk1 : (k : Int) < (n : Int) := by omega
      have hq1 : q + (k : Nat) * 8 ≤ 16777216 + 2097152 * 8 := by omega
      clear hlen hlen2 hlen3 hms hpl hg
      have HO : Hid (wr.ownsRow base 31 8 (.slice (some ⟨g, 0, none⟩) n cap) n ((markedCl k q).flatMap encCl ++ o0 :: o1 :: o2 :: o3 :: o4 :: o5 :: o6 :: o7 :: old)) := hown
      clear hown
      obtain ⟨x0, d0, f0⟩ := own_cell HO.out (k * 8) (by omega)
      have ho := own_put (i := k * 8) HO.out (by simp [HPL.out]) (.int .i64 (q + (k : Nat) * 8))
      have HO := Lib.hid ho.1
      have HG := Lib.hid (gT HG.out ho.2)
      clear ho
      obtain ⟨x1, d1, f1⟩ := own_cell HO.out (k * 8 + 1) (by omega)
      have ho := own_put (i := k * 8 + 1) HO.out (by simp [HPL.out]) (.int .i64 (q + (k : Nat) * 8 + 1))
      have HO := Lib.hid ho.1
      have HG := Lib.hid (gT HG.out ho.2)
      clear ho
      obtain ⟨x2, d2, f2⟩ := own_cell HO.out (k * 8 + 2) (by omega)
      have ho := own_put (i := k * 8 + 2) HO.out (by simp [HPL.out]) (.int .i64 (q + (k : Nat) * 8 + 1 + 1))
      have HO := Lib.hid ho.1
      have HG := Lib.hid (gT HG.out ho.2)
      clear ho
      obtain ⟨x3, d3, f3⟩ := own_cell HO.out (k * 8 + 3) (by omega)
      have ho := own_put (i := k * 8 + 3) HO.out (by simp [HPL.out]) (.int .i64 (q + (k : Nat) * 8 + 1 + 1 + 1))
      have HO := Lib.hid ho.1
      have HG := Lib.hid (gT HG.out ho.2)
      clear ho
      obtain ⟨x4, d4, f4⟩ := own_cell HO.out (k * 8 + 4) (by omega)
      have ho := own_put (i := k * 8 + 4) HO.out (by simp [HPL.out]) (.int .i64 (q + (k : Nat) * 8 + 1 + 1 + 1 + 1))
      have HO := Lib.hid ho.1
      have HG := Lib.hid (gT HG.out ho.2)
      clear ho
      obtain ⟨x5, d5, f5⟩ := own_cell HO.out (k * 8 + 5) (by omega)
      have ho := own_put (i := k * 8 + 5) HO.out (by simp [HPL.out]) (.int .i64 (q + (k : Nat) * 8 + 1 + 1 + 1 + 1 + 1))
      have HO := Lib.hid ho.1
      have HG := Lib.hid (gT HG.out ho.2)
      clear ho
      obtain ⟨x6, d6, f6⟩ := own_cell HO.out (k * 8 + 6) (by omega)
      have ho := own_put (i := k * 8 + 6) HO.out (by simp [HPL.out]) (.int .i64 (q + (k : Nat) * 8 + 1 + 1 + 1 + 1 + 1 + 1))
      have HO := Lib.hid ho.1
      have HG := Lib.hid (gT HG.out ho.2)
      clear ho
      go_wp2_with fail
      refine (markText_any _ _ (by omega)).mono ?_
      rintro e w7 ⟨rfl, hB7⟩
      have HO := Lib.hid (own_below HO.out hB7)
      have HG := Lib.hid (gB HG.out hB7)
      obtain ⟨x7, d7, f7⟩ := own_cell HO.out (k * 8 + 7) (by omega)
      have ho := own_put (i := k * 8 + 7) HO.out (by simp [HPL.out]) (.string (mtxt (q + (k : Nat) * 8 + 1 + 1 + 1 + 1 + 1 + 1 + 1)))
      have HO := Lib.hid ho.1
      have HG := Lib.hid (gT HG.out ho.2)
      clear ho
      go_wp2
      go_roundw
      case rel =>
        refine ⟨k + 1, old, by omega, by go_num, ?_, ?_, HG.out⟩
        · exact congrArg (Value.int IntKind.i64) (by simp; omega)
        · rw [HMS.out]; simpa using HO.out
      case measure => simp [intOf]; omega
    · obtain rfl : k = n := by omega
      have hold : old = [] := by
        have hlen := hown.1
        rw [List.length_append, length_flatMap_enc encCl 8 encCl_len, markedCl_len] at hlen
        exact List.eq_nil_of_length_eq_zero (by omega)
      subst hold
      rw [List.append_nil] at hown
      go_wp2
      go_ret
      exact ⟨rfl, hown, hg⟩
end

section
open Go.ChangeShapes Go.WideShapes Go.ChangeAt Go.RowKit


set_option maxRecDepth 100000 in
set_option maxHeartbeats 1000000 in
theorem heldClauseS_any (a : Option Addr) (cap n : Nat) (q : Int) (w : World) (hx : Rd encCl w a (markedCl n q)) (hn : n ≤ 2097152) (h0 : 0 ≤ q) (h1 : q ≤ 16777216) :
    Calls Tryz.prog 11 #[.slice a n cap, .int .i64 q] w fun e w' => e = .returned (.int .i64 (q + (n : Nat) * 8)) ∧ Below w.heap.size w w' := by
  go_enter Tryz.func11, Tryz.ntmps11
  go_wp2
  go_loopw [1, 5] (fun z i wr => ∃ (k : Nat), k ≤ n ∧ i = .int .i64 k ∧ z = .int .i64 (q + (k : Nat) * 8) ∧ Below w.heap.size w wr) (fun _ i _ => n - (intOf i).toNat)
  case atStart => exact ⟨0, Nat.zero_le _, rfl, by simp, Below.refl _ _⟩
  case round =>
    obtain ⟨k, hk, rfl, rfl, hB⟩ := hrel
    by_cases hlt : k < n
    · obtain ⟨b, off, rfl, hb, c0, c1, c2, c3, c4, c5, c6, c7⟩ := (hx.below hB).cl (markedCl_at q hlt)
      simp only [mkCl] at c0 c1 c2 c3 c4 c5 c6 c7
      have hk1 : (k : Int) < (n : Int) := by omega
      have hk2 : (k : Int) < ((markedCl n q).length : Int) := by rw [markedCl_len]; exact hk1
      have hq1 : q + (k : Nat) * 8 ≤ 16777216 + 2097152 * 8 := by omega
      clear hx hlt
      go_wp2_with fail
      have C7 := Later.cell c7 hb
      refine wp_region_later wr (by kernel_rfl) (by kernel_rfl) ?_
      repeat (go_big_quiet_step ((go_at_call 41; exact Later.call (Nat.le_refl _) (markText_any _ _ (by omega)))))
      refine wpQuiet_nil ?_
      intro z
      have hz := z.prop
      generalize z.val = w7 at hz
      clear C7
      have hB := hB.trans (hz.mono hB.size)
      have HB := Lib.hid hB
      clear hB
      go_wp2
      go_roundw
      case rel => exact ⟨k + 1, by omega, by go_num, by congr 1; simp; omega, HB.out⟩
      case measure => simp [intOf]; omega
    · obtain rfl : k = n := by omega
      go_wp2
      go_ret
      exact ⟨rfl, hB⟩
end
end Go.Proofs.YteajkofgcmfaoaaGreatDoor
