/- Walks: markTermS and heldTermS. Printed by gen_mark.py. -/
import Derived.Test.YtddjedbnikhjkaaGreatDoorTTm
import Derived.Test.YtddjedbnikhjkaaGreatDoorMarkText
namespace Go.Proofs.YtddjedbnikhjkaaGreatDoor
open Go.ChangeShapes Go.WideShapes Go.ChangeAt Go.RowKit

def mkTm (q : Int) (i : Nat) : Tm := ⟨mtxt (q + i * 4), mtxt (q + i * 4 + 1), q + i * 4 + 1 + 1, q + i * 4 + 1 + 1 + 1⟩
def markedTm (n : Nat) (q : Int) : List Tm := (List.range n).map (mkTm q)
theorem markedTm_len (n : Nat) (q : Int) : (markedTm n q).length = n := by simp [markedTm]
theorem markedTm_succ (n : Nat) (q : Int) : markedTm (n + 1) q = markedTm n q ++ [mkTm q n] := by simp [markedTm, List.range_succ]
theorem markedTm_at {n k : Nat} (q : Int) (h : k < n) : (markedTm n q)[k]? = some (mkTm q k) := by simp [markedTm, h]


set_option maxRecDepth 100000 in
set_option maxHeartbeats 1000000 in
theorem markTermS_any (base : Nat) (a : Option Addr) (cap n : Nat) (cells : List Value) (q : Int) (w : World) (h : w.ownsRow base 157 4 (.slice a n cap) n cells) (hn : n ≤ 2097152) (h0 : 0 ≤ q) (h1 : q ≤ 16777216) :
    Calls Tryz.prog 86 #[.slice a n cap, .int .i64 q] w fun e w' => e = .returned (.int .i64 (q + (n : Nat) * 4)) ∧ w'.ownsRow base 157 4 (.slice a n cap) n ((markedTm n q).flatMap encTm) ∧ w.grownBy w' (Value.slice a n cap).ownBlock := by
  go_enter Tryz.func86, Tryz.ntmps86
  go_wp2
  go_loopw [1, 5] (fun z i wr => ∃ (k : Nat) (old : List Value), k ≤ n ∧ i = .int .i64 k ∧ z = .int .i64 (q + (k : Nat) * 4) ∧ wr.ownsRow base 157 4 (.slice a n cap) n ((markedTm k q).flatMap encTm ++ old) ∧ w.grownBy wr (Value.slice a n cap).ownBlock) (fun _ i _ => n - (intOf i).toNat)
  case atStart => exact ⟨0, cells, Nat.zero_le _, rfl, by simp, by simpa [markedTm] using h, World.grownBy.refl w _⟩
  case round =>
    clear h
    obtain ⟨k, old, hk, rfl, rfl, hown, hg⟩ := hrel
    by_cases hlt : k < n
    · have hlen := hown.1
      rw [List.length_append, length_flatMap_enc encTm 4 encTm_len, markedTm_len] at hlen
      have hlen2 : old.length = (n - k) * 4 := by rw [Nat.sub_mul]; omega
      have hlen3 : 4 ≤ old.length := by rw [hlen2]; have := Nat.mul_le_mul_right 4 (show 1 ≤ n - k by omega); omega
      obtain ⟨o0, o1, o2, o3, old, rfl⟩ : ∃ o0 o1 o2 o3, ∃ old', old = o0 :: o1 :: o2 :: o3 :: old' := by
        match old, hlen3 with
        | o0 :: o1 :: o2 :: o3 :: rest, _ => exact ⟨o0, o1, o2, o3, _, rfl⟩
      obtain ⟨g, rfl⟩ : ∃ g, a = some ⟨g, 0, none⟩ := by
        rcases hown.2 with ⟨_, h⟩ | ⟨g, _, _, e, _⟩
        · omega
        · exact ⟨g, by simpa using congrArg (fun v => match v with | .slice a _ _ => a | _ => none) e⟩
      have hpl : ((markedTm k q).flatMap encTm).length = k * 4 := by rw [length_flatMap_enc encTm 4 encTm_len, markedTm_len]
      have hms : (markedTm (k + 1) q).flatMap encTm = (markedTm k q).flatMap encTm ++ [.string (mtxt (q + (k : Nat) * 4)), .string (mtxt (q + (k : Nat) * 4 + 1)), .int .i64 (q + (k : Nat) * 4 + 1 + 1), .int .i64 (q + (k : Nat) * 4 + 1 + 1 + 1)] := by rw [markedTm_succ, List.flatMap_append]; simp [encTm, mkTm]
      have HMS := Lib.hid hms
      have HPL := Lib.hid hpl
      have HG := Lib.hid hg
      have hk1 : (k : Int) < (n : Int) := by omega
      have hq1 : q + (k : Nat) * 4 ≤ 16777216 + 2097152 * 4 := by omega
      clear hlen hlen2 hlen3 hms hpl hg
      have HO : Hid (wr.ownsRow base 157 4 (.slice (some ⟨g, 0, none⟩) n cap) n ((markedTm k q).flatMap encTm ++ o0 :: o1 :: o2 :: o3 :: old)) := hown
      clear hown
      go_wp2_with fail
      refine (markText_any _ _ (by omega)).mono ?_
      rintro e w0 ⟨rfl, hB0⟩
      have HO := Lib.hid (own_below HO.out hB0)
      have HG := Lib.hid (gB HG.out hB0)
      obtain ⟨x0, d0, f0⟩ := own_cell HO.out (k * 4) (by omega)
      have ho := own_put (i := k * 4) HO.out (by simp [HPL.out]) (.string (mtxt (q + (k : Nat) * 4)))
      have HO := Lib.hid ho.1
      have HG := Lib.hid (gT HG.out ho.2)
      clear ho
      go_wp2_with fail
      refine (markText_any _ _ (by omega)).mono ?_
      rintro e w1 ⟨rfl, hB1⟩
      have HO := Lib.hid (own_below HO.out hB1)
      have HG := Lib.hid (gB HG.out hB1)
      obtain ⟨x1, d1, f1⟩ := own_cell HO.out (k * 4 + 1) (by omega)
      have ho := own_put (i := k * 4 + 1) HO.out (by simp [HPL.out]) (.string (mtxt (q + (k : Nat) * 4 + 1)))
      have HO := Lib.hid ho.1
      have HG := Lib.hid (gT HG.out ho.2)
      clear ho
      obtain ⟨x2, d2, f2⟩ := own_cell HO.out (k * 4 + 2) (by omega)
      have ho := own_put (i := k * 4 + 2) HO.out (by simp [HPL.out]) (.int .i64 (q + (k : Nat) * 4 + 1 + 1))
      have HO := Lib.hid ho.1
      have HG := Lib.hid (gT HG.out ho.2)
      clear ho
      obtain ⟨x3, d3, f3⟩ := own_cell HO.out (k * 4 + 3) (by omega)
      have ho := own_put (i := k * 4 + 3) HO.out (by simp [HPL.out]) (.int .i64 (q + (k : Nat) * 4 + 1 + 1 + 1))
      have HO := Lib.hid ho.1
      have HG := Lib.hid (gT HG.out ho.2)
      clear ho
      go_wp2
      go_roundw
      case rel =>
        refine ⟨k + 1, old, by omega, by go_num, ?_, ?_, HG.out⟩
        · congr 1; simp; omega
        · rw [HMS.out]; simpa using HO.out
      case measure => simp [intOf]; omega
    · obtain rfl : k = n := by omega
      have hold : old = [] := by
        have hlen := hown.1
        rw [List.length_append, length_flatMap_enc encTm 4 encTm_len, markedTm_len] at hlen
        exact List.eq_nil_of_length_eq_zero (by omega)
      subst hold
      rw [List.append_nil] at hown
      go_wp2
      go_ret
      exact ⟨rfl, hown, hg⟩
end Go.Proofs.YtddjedbnikhjkaaGreatDoor
