/- Walks: markStringS and heldStringS. Printed by gen_mark.py. -/
import Derived.Test.YtihmacmieofbgaaDoorTS
import Derived.Test.YtihmacmieofbgaaDoorMarkText
namespace Go.Proofs.YtihmacmieofbgaaDoor
open Go.ChangeShapes Go.WideShapes Go.ChangeAt Go.RowKit

def mkS (q : Int) (i : Nat) : ByteArray := mtxt (q + i)
def markedS (n : Nat) (q : Int) : List ByteArray := (List.range n).map (mkS q)
theorem markedS_len (n : Nat) (q : Int) : (markedS n q).length = n := by simp [markedS]
theorem markedS_succ (n : Nat) (q : Int) : markedS (n + 1) q = markedS n q ++ [mkS q n] := by simp [markedS, List.range_succ]
theorem markedS_at {n k : Nat} (q : Int) (h : k < n) : (markedS n q)[k]? = some (mkS q k) := by simp [markedS, h]


set_option maxRecDepth 100000 in
set_option maxHeartbeats 1000000 in
theorem markStringS_any (base : Nat) (a : Option Addr) (cap n : Nat) (cells : List Value) (q : Int) (w : World) (h : w.ownsRow base 9 1 (.slice a n cap) n cells) (hn : n ≤ 2097152) (h0 : 0 ≤ q) (h1 : q ≤ 16777216) :
    Calls Tryd.prog 65 #[.slice a n cap, .int .i64 q] w fun e w' => e = .returned (.int .i64 (q + (n : Nat))) ∧ w'.ownsRow base 9 1 (.slice a n cap) n ((markedS n q).flatMap encS) ∧ w.grownBy w' (Value.slice a n cap).ownBlock := by
  go_enter Tryd.func65, Tryd.ntmps65
  go_wp2
  go_loopw [1, 5] (fun z i wr => ∃ (k : Nat) (old : List Value), k ≤ n ∧ i = .int .i64 k ∧ z = .int .i64 (q + (k : Nat)) ∧ wr.ownsRow base 9 1 (.slice a n cap) n ((markedS k q).flatMap encS ++ old) ∧ w.grownBy wr (Value.slice a n cap).ownBlock) (fun _ i _ => n - (intOf i).toNat)
  case atStart => exact ⟨0, cells, Nat.zero_le _, rfl, by simp, by simpa [markedS] using h, World.grownBy.refl w _⟩
  case round =>
    clear h
    obtain ⟨k, old, hk, rfl, rfl, hown, hg⟩ := hrel
    by_cases hlt : k < n
    · have hlen := hown.1
      rw [List.length_append, length_flatMap_enc encS 1 encS_len, markedS_len] at hlen
      have hlen2 : old.length = (n - k) * 1 := by rw [Nat.sub_mul]; omega
      have hlen3 : 1 ≤ old.length := by rw [hlen2]; have := Nat.mul_le_mul_right 1 (show 1 ≤ n - k by omega); omega
      obtain ⟨o0, old, rfl⟩ : ∃ o0, ∃ old', old = o0 :: old' := by
        match old, hlen3 with
        | o0 :: rest, _ => exact ⟨o0, _, rfl⟩
      obtain ⟨g, rfl⟩ : ∃ g, a = some ⟨g, 0, none⟩ := by
        rcases hown.2 with ⟨_, h⟩ | ⟨g, _, _, e, _⟩
        · omega
        · exact ⟨g, by simpa using congrArg (fun v => match v with | .slice a _ _ => a | _ => none) e⟩
      have hpl : ((markedS k q).flatMap encS).length = k * 1 := by rw [length_flatMap_enc encS 1 encS_len, markedS_len]
      have hms : (markedS (k + 1) q).flatMap encS = (markedS k q).flatMap encS ++ [.string (mtxt (q + (k : Nat)))] := by rw [markedS_succ, List.flatMap_append]; simp [encS, mkS]
      have HMS := Lib.hid hms
      have HPL := Lib.hid hpl
      have HG := Lib.hid hg
      have hk1 : (k : Int) < (n : Int) := by omega
      have hq1 : q + (k : Nat) ≤ 16777216 + 2097152 * 1 := by omega
      clear hlen hlen2 hlen3 hms hpl hg
      have HO : Hid (wr.ownsRow base 9 1 (.slice (some ⟨g, 0, none⟩) n cap) n ((markedS k q).flatMap encS ++ o0 :: old)) := hown
      clear hown
      go_wp2_with fail
      refine (markText_any _ _ (by omega)).mono ?_
      rintro e w0 ⟨rfl, hB0⟩
      have HO := Lib.hid (own_below HO.out hB0)
      have HG := Lib.hid (gB HG.out hB0)
      obtain ⟨x0, d0, f0⟩ := own_cell HO.out (k) (by omega)
      have ho := own_put (i := k) HO.out (by simp [HPL.out]) (.string (mtxt (q + (k : Nat))))
      have HO := Lib.hid ho.1
      have HG := Lib.hid (gT HG.out ho.2)
      clear ho
      go_wp2
      go_roundw
      case rel =>
        refine ⟨k + 1, old, by omega, by go_num, ?_, ?_, HG.out⟩
        · congr 1; simp; omega
        · rw [HMS.out]; simpa using HO.out
      case measure => simp [intOf]; omega
    · obtain rfl : k = n := by omega
      have hold : old = [] := by
        have hlen := hown.1
        rw [List.length_append, length_flatMap_enc encS 1 encS_len, markedS_len] at hlen
        exact List.eq_nil_of_length_eq_zero (by omega)
      subst hold
      rw [List.append_nil] at hown
      go_wp2
      go_ret
      exact ⟨rfl, hown, hg⟩
end Go.Proofs.YtihmacmieofbgaaDoor
