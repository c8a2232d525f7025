/- Walks: markWitnessS and heldWitnessS. Printed by gen_mark.py. -/
import Derived.Test.YtddjedbnikhjkaaGreatDoorTWt
import Derived.Test.YtddjedbnikhjkaaGreatDoorMarkText
namespace Go.Proofs.YtddjedbnikhjkaaGreatDoor
open Go.ChangeShapes Go.WideShapes Go.ChangeAt Go.RowKit

def mkWt (q : Int) (i : Nat) : Wt := ⟨mtxt (q + i * 2), mtxt (q + i * 2 + 1)⟩
def markedWt (n : Nat) (q : Int) : List Wt := (List.range n).map (mkWt q)
theorem markedWt_len (n : Nat) (q : Int) : (markedWt n q).length = n := by simp [markedWt]
theorem markedWt_succ (n : Nat) (q : Int) : markedWt (n + 1) q = markedWt n q ++ [mkWt q n] := by simp [markedWt, List.range_succ]
theorem markedWt_at {n k : Nat} (q : Int) (h : k < n) : (markedWt n q)[k]? = some (mkWt q k) := by simp [markedWt, h]


set_option maxRecDepth 100000 in
set_option maxHeartbeats 1000000 in
theorem markWitnessS_any (base : Nat) (a : Option Addr) (cap n : Nat) (cells : List Value) (q : Int) (w : World) (h : w.ownsRow base 112 2 (.slice a n cap) n cells) (hn : n ≤ 2097152) (h0 : 0 ≤ q) (h1 : q ≤ 16777216) :
    Calls Tryz.prog 40 #[.slice a n cap, .int .i64 q] w fun e w' => e = .returned (.int .i64 (q + (n : Nat) * 2)) ∧ w'.ownsRow base 112 2 (.slice a n cap) n ((markedWt n q).flatMap encWt) ∧ w.grownBy w' (Value.slice a n cap).ownBlock := by
  go_enter Tryz.func40, Tryz.ntmps40
  go_wp2
  go_loopw [1, 5] (fun z i wr => ∃ (k : Nat) (old : List Value), k ≤ n ∧ i = .int .i64 k ∧ z = .int .i64 (q + (k : Nat) * 2) ∧ wr.ownsRow base 112 2 (.slice a n cap) n ((markedWt k q).flatMap encWt ++ old) ∧ w.grownBy wr (Value.slice a n cap).ownBlock) (fun _ i _ => n - (intOf i).toNat)
  case atStart => exact ⟨0, cells, Nat.zero_le _, rfl, by simp, by simpa [markedWt] using h, World.grownBy.refl w _⟩
  case round =>
    clear h
    obtain ⟨k, old, hk, rfl, rfl, hown, hg⟩ := hrel
    by_cases hlt : k < n
    · have hlen := hown.1
      rw [List.length_append, length_flatMap_enc encWt 2 encWt_len, markedWt_len] at hlen
      have hlen2 : old.length = (n - k) * 2 := by rw [Nat.sub_mul]; omega
      have hlen3 : 2 ≤ old.length := by rw [hlen2]; have := Nat.mul_le_mul_right 2 (show 1 ≤ n - k by omega); omega
      obtain ⟨o0, o1, old, rfl⟩ : ∃ o0 o1, ∃ old', old = o0 :: o1 :: old' := by
        match old, hlen3 with
        | o0 :: o1 :: rest, _ => exact ⟨o0, o1, _, rfl⟩
      obtain ⟨g, rfl⟩ : ∃ g, a = some ⟨g, 0, none⟩ := by
        rcases hown.2 with ⟨_, h⟩ | ⟨g, _, _, e, _⟩
        · omega
        · exact ⟨g, by simpa using congrArg (fun v => match v with | .slice a _ _ => a | _ => none) e⟩
      have hpl : ((markedWt k q).flatMap encWt).length = k * 2 := by rw [length_flatMap_enc encWt 2 encWt_len, markedWt_len]
      have hms : (markedWt (k + 1) q).flatMap encWt = (markedWt k q).flatMap encWt ++ [.string (mtxt (q + (k : Nat) * 2)), .string (mtxt (q + (k : Nat) * 2 + 1))] := by rw [markedWt_succ, List.flatMap_append]; simp [encWt, mkWt]
      have HMS := Lib.hid hms
      have HPL := Lib.hid hpl
      have HG := Lib.hid hg
      have hk1 : (k : Int) < (n : Int) := by omega
      have hq1 : q + (k : Nat) * 2 ≤ 16777216 + 2097152 * 2 := by omega
      clear hlen hlen2 hlen3 hms hpl hg
      have HO : Hid (wr.ownsRow base 112 2 (.slice (some ⟨g, 0, none⟩) n cap) n ((markedWt k q).flatMap encWt ++ o0 :: o1 :: old)) := hown
      clear hown
      go_wp2_with fail
      refine (markText_any _ _ (by omega)).mono ?_
      rintro e w0 ⟨rfl, hB0⟩
      have HO := Lib.hid (own_below HO.out hB0)
      have HG := Lib.hid (gB HG.out hB0)
      obtain ⟨x0, d0, f0⟩ := own_cell HO.out (k * 2) (by omega)
      have ho := own_put (i := k * 2) HO.out (by simp [HPL.out]) (.string (mtxt (q + (k : Nat) * 2)))
      have HO := Lib.hid ho.1
      have HG := Lib.hid (gT HG.out ho.2)
      clear ho
      go_wp2_with fail
      refine (markText_any _ _ (by omega)).mono ?_
      rintro e w1 ⟨rfl, hB1⟩
      have HO := Lib.hid (own_below HO.out hB1)
      have HG := Lib.hid (gB HG.out hB1)
      obtain ⟨x1, d1, f1⟩ := own_cell HO.out (k * 2 + 1) (by omega)
      have ho := own_put (i := k * 2 + 1) HO.out (by simp [HPL.out]) (.string (mtxt (q + (k : Nat) * 2 + 1)))
      have HO := Lib.hid ho.1
      have HG := Lib.hid (gT HG.out ho.2)
      clear ho
      go_wp2
      go_roundw
      case rel =>
        refine ⟨k + 1, old, by omega, by go_num, ?_, ?_, HG.out⟩
        · congr 1; simp; omega
        · rw [HMS.out]; simpa using HO.out
      case measure => simp [intOf]; omega
    · obtain rfl : k = n := by omega
      have hold : old = [] := by
        have hlen := hown.1
        rw [List.length_append, length_flatMap_enc encWt 2 encWt_len, markedWt_len] at hlen
        exact List.eq_nil_of_length_eq_zero (by omega)
      subst hold
      rw [List.append_nil] at hown
      go_wp2
      go_ret
      exact ⟨rfl, hown, hg⟩
end Go.Proofs.YtddjedbnikhjkaaGreatDoor
