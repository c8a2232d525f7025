/- Walks: markStayS and heldStayS. Printed by gen_mark.py. -/
import Derived.Test.YtipdcgfdejmjfaaDoorTSt
import Derived.Test.YtipdcgfdejmjfaaDoorMarkText
namespace Go.Proofs.YtipdcgfdejmjfaaDoor
open Go.ChangeShapes Go.WideShapes Go.ChangeAt Go.RowKit

def mkSt (q : Int) (i : Nat) : St := ⟨q + i * 3, q + i * 3 + 1, q + i * 3 + 1 + 1⟩
def markedSt (n : Nat) (q : Int) : List St := (List.range n).map (mkSt q)
theorem markedSt_len (n : Nat) (q : Int) : (markedSt n q).length = n := by simp [markedSt]
theorem markedSt_succ (n : Nat) (q : Int) : markedSt (n + 1) q = markedSt n q ++ [mkSt q n] := by simp [markedSt, List.range_succ]
theorem markedSt_at {n k : Nat} (q : Int) (h : k < n) : (markedSt n q)[k]? = some (mkSt q k) := by simp [markedSt, h]


set_option maxRecDepth 100000 in
set_option maxHeartbeats 1000000 in
theorem markStayS_any (base : Nat) (a : Option Addr) (cap n : Nat) (cells : List Value) (q : Int) (w : World) (h : w.ownsRow base 39 3 (.slice a n cap) n cells) (hn : n ≤ 2097152) (h0 : 0 ≤ q) (h1 : q ≤ 16777216) :
    Calls Tryd.prog 15 #[.slice a n cap, .int .i64 q] w fun e w' => e = .returned (.int .i64 (q + (n : Nat) * 3)) ∧ w'.ownsRow base 39 3 (.slice a n cap) n ((markedSt n q).flatMap encSt) ∧ w.grownBy w' (Value.slice a n cap).ownBlock := by
  go_enter Tryd.func15, Tryd.ntmps15
  go_wp2
  go_loopw [1, 5] (fun z i wr => ∃ (k : Nat) (old : List Value), k ≤ n ∧ i = .int .i64 k ∧ z = .int .i64 (q + (k : Nat) * 3) ∧ wr.ownsRow base 39 3 (.slice a n cap) n ((markedSt k q).flatMap encSt ++ old) ∧ w.grownBy wr (Value.slice a n cap).ownBlock) (fun _ i _ => n - (intOf i).toNat)
  case atStart => exact ⟨0, cells, Nat.zero_le _, rfl, by simp, by simpa [markedSt] using h, World.grownBy.refl w _⟩
  case round =>
    clear h
    obtain ⟨k, old, hk, rfl, rfl, hown, hg⟩ := hrel
    by_cases hlt : k < n
    · have hlen := hown.1
      rw [List.length_append, length_flatMap_enc encSt 3 encSt_len, markedSt_len] at hlen
      have hlen2 : old.length = (n - k) * 3 := by rw [Nat.sub_mul]; omega
      have hlen3 : 3 ≤ old.length := by rw [hlen2]; have := Nat.mul_le_mul_right 3 (show 1 ≤ n - k by omega); omega
      obtain ⟨o0, o1, o2, old, rfl⟩ : ∃ o0 o1 o2, ∃ old', old = o0 :: o1 :: o2 :: old' := by
        match old, hlen3 with
        | o0 :: o1 :: o2 :: rest, _ => exact ⟨o0, o1, o2, _, rfl⟩
      obtain ⟨g, rfl⟩ : ∃ g, a = some ⟨g, 0, none⟩ := by
        rcases hown.2 with ⟨_, h⟩ | ⟨g, _, _, e, _⟩
        · omega
        · exact ⟨g, by simpa using congrArg (fun v => match v with | .slice a _ _ => a | _ => none) e⟩
      have hpl : ((markedSt k q).flatMap encSt).length = k * 3 := by rw [length_flatMap_enc encSt 3 encSt_len, markedSt_len]
      have hms : (markedSt (k + 1) q).flatMap encSt = (markedSt k q).flatMap encSt ++ [.int .i64 (q + (k : Nat) * 3), .int .i64 (q + (k : Nat) * 3 + 1), .int .i64 (q + (k : Nat) * 3 + 1 + 1)] := by rw [markedSt_succ, List.flatMap_append]; simp [encSt, mkSt]
      have HMS := Lib.hid hms
      have HPL := Lib.hid hpl
      have HG := Lib.hid hg
      have hk1 : (k : Int) < (n : Int) := by omega
      have hq1 : q + (k : Nat) * 3 ≤ 16777216 + 2097152 * 3 := by omega
      clear hlen hlen2 hlen3 hms hpl hg
      have HO : Hid (wr.ownsRow base 39 3 (.slice (some ⟨g, 0, none⟩) n cap) n ((markedSt k q).flatMap encSt ++ o0 :: o1 :: o2 :: old)) := hown
      clear hown
      obtain ⟨x0, d0, f0⟩ := own_cell HO.out (k * 3) (by omega)
      have ho := own_put (i := k * 3) HO.out (by simp [HPL.out]) (.int .i64 (q + (k : Nat) * 3))
      have HO := Lib.hid ho.1
      have HG := Lib.hid (gT HG.out ho.2)
      clear ho
      obtain ⟨x1, d1, f1⟩ := own_cell HO.out (k * 3 + 1) (by omega)
      have ho := own_put (i := k * 3 + 1) HO.out (by simp [HPL.out]) (.int .i64 (q + (k : Nat) * 3 + 1))
      have HO := Lib.hid ho.1
      have HG := Lib.hid (gT HG.out ho.2)
      clear ho
      obtain ⟨x2, d2, f2⟩ := own_cell HO.out (k * 3 + 2) (by omega)
      have ho := own_put (i := k * 3 + 2) HO.out (by simp [HPL.out]) (.int .i64 (q + (k : Nat) * 3 + 1 + 1))
      have HO := Lib.hid ho.1
      have HG := Lib.hid (gT HG.out ho.2)
      clear ho
      go_wp2
      go_roundw
      case rel =>
        refine ⟨k + 1, old, by omega, by go_num, ?_, ?_, HG.out⟩
        · congr 1; simp; omega
        · rw [HMS.out]; simpa using HO.out
      case measure => simp [intOf]; omega
    · obtain rfl : k = n := by omega
      have hold : old = [] := by
        have hlen := hown.1
        rw [List.length_append, length_flatMap_enc encSt 3 encSt_len, markedSt_len] at hlen
        exact List.eq_nil_of_length_eq_zero (by omega)
      subst hold
      rw [List.append_nil] at hown
      go_wp2
      go_ret
      exact ⟨rfl, hown, hg⟩
end Go.Proofs.YtipdcgfdejmjfaaDoor
