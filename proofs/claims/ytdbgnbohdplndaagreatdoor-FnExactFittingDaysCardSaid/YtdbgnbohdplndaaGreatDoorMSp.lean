/- Walks: markSpanS and heldSpanS. Printed by gen_mark.py. -/
import Derived.Test.YtdbgnbohdplndaaGreatDoorTSp
import Derived.Test.YtdbgnbohdplndaaGreatDoorMarkText
namespace Go.Proofs.YtdbgnbohdplndaaGreatDoor
open Go.ChangeShapes Go.WideShapes Go.ChangeAt Go.RowKit

def mkSp (q : Int) (i : Nat) : Sp := ⟨q + i * 2, q + i * 2 + 1⟩
def markedSp (n : Nat) (q : Int) : List Sp := (List.range n).map (mkSp q)
theorem markedSp_len (n : Nat) (q : Int) : (markedSp n q).length = n := by simp [markedSp]
theorem markedSp_succ (n : Nat) (q : Int) : markedSp (n + 1) q = markedSp n q ++ [mkSp q n] := by simp [markedSp, List.range_succ]
theorem markedSp_at {n k : Nat} (q : Int) (h : k < n) : (markedSp n q)[k]? = some (mkSp q k) := by simp [markedSp, h]


set_option maxRecDepth 100000 in
set_option maxHeartbeats 1000000 in
theorem markSpanS_any (base : Nat) (a : Option Addr) (cap n : Nat) (cells : List Value) (q : Int) (w : World) (h : w.ownsRow base 94 2 (.slice a n cap) n cells) (hn : n ≤ 2097152) (h0 : 0 ≤ q) (h1 : q ≤ 16777216) :
    Calls Tryz.prog 30 #[.slice a n cap, .int .i64 q] w fun e w' => e = .returned (.int .i64 (q + (n : Nat) * 2)) ∧ w'.ownsRow base 94 2 (.slice a n cap) n ((markedSp n q).flatMap encSp) ∧ w.grownBy w' (Value.slice a n cap).ownBlock := by
  go_enter Tryz.func30, Tryz.ntmps30
  go_wp2
  go_loopw [1, 5] (fun z i wr => ∃ (k : Nat) (old : List Value), k ≤ n ∧ i = .int .i64 k ∧ z = .int .i64 (q + (k : Nat) * 2) ∧ wr.ownsRow base 94 2 (.slice a n cap) n ((markedSp k q).flatMap encSp ++ old) ∧ w.grownBy wr (Value.slice a n cap).ownBlock) (fun _ i _ => n - (intOf i).toNat)
  case atStart => exact ⟨0, cells, Nat.zero_le _, rfl, by simp, by simpa [markedSp] using h, World.grownBy.refl w _⟩
  case round =>
    clear h
    obtain ⟨k, old, hk, rfl, rfl, hown, hg⟩ := hrel
    by_cases hlt : k < n
    · have hlen := hown.1
      rw [List.length_append, length_flatMap_enc encSp 2 encSp_len, markedSp_len] at hlen
      have hlen2 : old.length = (n - k) * 2 := by rw [Nat.sub_mul]; omega
      have hlen3 : 2 ≤ old.length := by rw [hlen2]; have := Nat.mul_le_mul_right 2 (show 1 ≤ n - k by omega); omega
      obtain ⟨o0, o1, old, rfl⟩ : ∃ o0 o1, ∃ old', old = o0 :: o1 :: old' := by
        match old, hlen3 with
        | o0 :: o1 :: rest, _ => exact ⟨o0, o1, _, rfl⟩
      obtain ⟨g, rfl⟩ : ∃ g, a = some ⟨g, 0, none⟩ := by
        rcases hown.2 with ⟨_, h⟩ | ⟨g, _, _, e, _⟩
        · omega
        · exact ⟨g, by simpa using congrArg (fun v => match v with | .slice a _ _ => a | _ => none) e⟩
      have hpl : ((markedSp k q).flatMap encSp).length = k * 2 := by rw [length_flatMap_enc encSp 2 encSp_len, markedSp_len]
      have hms : (markedSp (k + 1) q).flatMap encSp = (markedSp k q).flatMap encSp ++ [.int .i64 (q + (k : Nat) * 2), .int .i64 (q + (k : Nat) * 2 + 1)] := by rw [markedSp_succ, List.flatMap_append]; simp [encSp, mkSp]
      have HMS := Lib.hid hms
      have HPL := Lib.hid hpl
      have HG := Lib.hid hg
      have hk1 : (k : Int) < (n : Int) := by omega
      have hq1 : q + (k : Nat) * 2 ≤ 16777216 + 2097152 * 2 := by omega
      clear hlen hlen2 hlen3 hms hpl hg
      have HO : Hid (wr.ownsRow base 94 2 (.slice (some ⟨g, 0, none⟩) n cap) n ((markedSp k q).flatMap encSp ++ o0 :: o1 :: old)) := hown
      clear hown
      obtain ⟨x0, d0, f0⟩ := own_cell HO.out (k * 2) (by omega)
      have ho := own_put (i := k * 2) HO.out (by simp [HPL.out]) (.int .i64 (q + (k : Nat) * 2))
      have HO := Lib.hid ho.1
      have HG := Lib.hid (gT HG.out ho.2)
      clear ho
      obtain ⟨x1, d1, f1⟩ := own_cell HO.out (k * 2 + 1) (by omega)
      have ho := own_put (i := k * 2 + 1) HO.out (by simp [HPL.out]) (.int .i64 (q + (k : Nat) * 2 + 1))
      have HO := Lib.hid ho.1
      have HG := Lib.hid (gT HG.out ho.2)
      clear ho
      go_wp2
      go_roundw
      case rel =>
        refine ⟨k + 1, old, by omega, by go_num, ?_, ?_, HG.out⟩
        · congr 1; simp; omega
        · rw [HMS.out]; simpa using HO.out
      case measure => simp [intOf]; omega
    · obtain rfl : k = n := by omega
      have hold : old = [] := by
        have hlen := hown.1
        rw [List.length_append, length_flatMap_enc encSp 2 encSp_len, markedSp_len] at hlen
        exact List.eq_nil_of_length_eq_zero (by omega)
      subst hold
      rw [List.append_nil] at hown
      go_wp2
      go_ret
      exact ⟨rfl, hown, hg⟩
end Go.Proofs.YtdbgnbohdplndaaGreatDoor
