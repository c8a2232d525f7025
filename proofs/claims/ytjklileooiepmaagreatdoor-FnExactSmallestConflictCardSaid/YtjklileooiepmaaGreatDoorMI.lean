/- Walks: markInt64S and heldInt64S. Printed by gen_mark.py. -/
import Derived.Test.YtjklileooiepmaaGreatDoorTI
import Derived.Test.YtjklileooiepmaaGreatDoorMarkText
namespace Go.Proofs.YtjklileooiepmaaGreatDoor
open Go.ChangeShapes Go.WideShapes Go.ChangeAt Go.RowKit

def mkI (q : Int) (i : Nat) : Int := (q + i : Int)
def markedI (n : Nat) (q : Int) : List Int := (List.range n).map (mkI q)
theorem markedI_len (n : Nat) (q : Int) : (markedI n q).length = n := by simp [markedI]
theorem markedI_succ (n : Nat) (q : Int) : markedI (n + 1) q = markedI n q ++ [mkI q n] := by simp [markedI, List.range_succ]
theorem markedI_at {n k : Nat} (q : Int) (h : k < n) : (markedI n q)[k]? = some (mkI q k) := by simp [markedI, h]


set_option maxRecDepth 100000 in
set_option maxHeartbeats 1000000 in
theorem markInt64S_any (base : Nat) (a : Option Addr) (cap n : Nat) (cells : List Value) (q : Int) (w : World) (h : w.ownsRow base 2 1 (.slice a n cap) n cells) (hn : n ≤ 2097152) (h0 : 0 ≤ q) (h1 : q ≤ 16777216) :
    Calls Tryz.prog 15 #[.slice a n cap, .int .i64 q] w fun e w' => e = .returned (.int .i64 (q + (n : Nat))) ∧ w'.ownsRow base 2 1 (.slice a n cap) n ((markedI n q).flatMap encI) ∧ w.grownBy w' (Value.slice a n cap).ownBlock := by
  go_enter Tryz.func15, Tryz.ntmps15
  go_wp2
  go_loopw [1, 5] (fun z i wr => ∃ (k : Nat) (old : List Value), k ≤ n ∧ i = .int .i64 k ∧ z = .int .i64 (q + (k : Nat)) ∧ wr.ownsRow base 2 1 (.slice a n cap) n ((markedI k q).flatMap encI ++ old) ∧ w.grownBy wr (Value.slice a n cap).ownBlock) (fun _ i _ => n - (intOf i).toNat)
  case atStart => exact ⟨0, cells, Nat.zero_le _, rfl, by simp, by simpa [markedI] using h, World.grownBy.refl w _⟩
  case round =>
    clear h
    obtain ⟨k, old, hk, rfl, rfl, hown, hg⟩ := hrel
    by_cases hlt : k < n
    · have hlen := hown.1
      rw [List.length_append, length_flatMap_enc encI 1 encI_len, markedI_len] at hlen
      have hlen2 : old.length = (n - k) * 1 := by rw [Nat.sub_mul]; omega
      have hlen3 : 1 ≤ old.length := by rw [hlen2]; have := Nat.mul_le_mul_right 1 (show 1 ≤ n - k by omega); omega
      obtain ⟨o0, old, rfl⟩ : ∃ o0, ∃ old', old = o0 :: old' := by
        match old, hlen3 with
        | o0 :: rest, _ => exact ⟨o0, _, rfl⟩
      obtain ⟨g, rfl⟩ : ∃ g, a = some ⟨g, 0, none⟩ := by
        rcases hown.2 with ⟨_, h⟩ | ⟨g, _, _, e, _⟩
        · omega
        · exact ⟨g, by simpa using congrArg (fun v => match v with | .slice a _ _ => a | _ => none) e⟩
      have hpl : ((markedI k q).flatMap encI).length = k * 1 := by rw [length_flatMap_enc encI 1 encI_len, markedI_len]
      have hms : (markedI (k + 1) q).flatMap encI = (markedI k q).flatMap encI ++ [.int .i64 (q + (k : Nat))] := by rw [markedI_succ, List.flatMap_append]; simp [encI, mkI]
      have HMS := Lib.hid hms
      have HPL := Lib.hid hpl
      have HG := Lib.hid hg
      have hk1 : (k : Int) < (n : Int) := by omega
      have hq1 : q + (k : Nat) ≤ 16777216 + 2097152 * 1 := by omega
      clear hlen hlen2 hlen3 hms hpl hg
      have HO : Hid (wr.ownsRow base 2 1 (.slice (some ⟨g, 0, none⟩) n cap) n ((markedI k q).flatMap encI ++ o0 :: old)) := hown
      clear hown
      obtain ⟨x0, d0, f0⟩ := own_cell HO.out (k) (by omega)
      have ho := own_put (i := k) HO.out (by simp [HPL.out]) (.int .i64 (q + (k : Nat)))
      have HO := Lib.hid ho.1
      have HG := Lib.hid (gT HG.out ho.2)
      clear ho
      go_wp2
      go_roundw
      case rel =>
        refine ⟨k + 1, old, by omega, by go_num, ?_, ?_, HG.out⟩
        · congr 1; simp; omega
        · rw [HMS.out]; simpa using HO.out
      case measure => simp [intOf]; omega
    · obtain rfl : k = n := by omega
      have hold : old = [] := by
        have hlen := hown.1
        rw [List.length_append, length_flatMap_enc encI 1 encI_len, markedI_len] at hlen
        exact List.eq_nil_of_length_eq_zero (by omega)
      subst hold
      rw [List.append_nil] at hown
      go_wp2
      go_ret
      exact ⟨rfl, hown, hg⟩
end Go.Proofs.YtjklileooiepmaaGreatDoor
