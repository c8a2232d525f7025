/- Walks: ReadClause of both sides. Printed by gen_rdi.py. -/
import Derived.Test.YteajkofgcmfaoaaGreatDoorRdG
import Derived.Test.YteajkofgcmfaoaaGreatDoorRs
import Derived.Test.YteajkofgcmfaoaaGreatDoorCl
namespace Go.Proofs.YteajkofgcmfaoaaGreatDoor
section
open Go.ChangeShapes Go.WideShapes Go.ChangeAt Go.RowKit Go.IntWalk

theorem guessNo (L : List ByteArray) (a : ByteArray) (g c : Nat) (w : World) (hx : Rd encS w (some ⟨g, 0, none⟩) L) (h0 : L[0]? = some a) (hl : L.length ≤ 2000000)
    (hA : a = wAT → L.length ≠ 2 ∧ L.length ≠ 5) (hO : a = wON → L.length ≠ 3 ∧ L.length ≠ 5) (hI : a = wIN → L.length ≠ 6) (hg : guS rnB L = clN) :
    Calls Tryz.prog 51 #[.slice (some ⟨g, 0, none⟩) L.length c] w fun e w' => e = .returned (clV (guS rnB L)) ∧ Below w.heap.size w w' := by
  have hpos := (List.getElem?_eq_some_iff.1 h0).1
  obtain ⟨n, hn⟩ : ∃ n, L.length = n + 1 := ⟨L.length - 1, by omega⟩
  obtain ⟨y, hy⟩ : ∃ y, L[n]? = some y := ⟨L[n], List.getElem?_eq_getElem (by omega)⟩
  have ne : ∀ k : Nat, L.length ≠ k → ((L.length : Int) == (k : Int)) = false := fun k h => by simp only [beq_eq_false_iff_ne, ne_eq]; omega
  by_cases a1 : a = wAT
  · exact guessAt a y L g c w hx n hn h0 hy hl (lit_yes a1) (lit_no (by subst a1; decide)) (lit_no (by subst a1; decide)) (ne 2 (hA a1).1) (ne 5 (hA a1).2) hg
  by_cases a2 : a = wON
  · exact guessOn a y L g c w hx n hn h0 hy hl (lit_no a1) (lit_yes a2) (lit_no (by subst a2; decide)) (ne 3 (hO a2).1) (ne 5 (hO a2).2) hg
  by_cases a3 : a = wIN
  · exact guessIn a y L g c w hx n hn h0 hy hl (lit_no a1) (lit_no a2) (lit_yes a3) (ne 6 (hI a3)) hg
  exact guessOt a y L g c w hx n hn h0 hy hl (lit_no a1) (lit_no a2) (lit_no a3) hg
theorem l11Guess_any (L : List ByteArray) (g c : Nat) (w : World) (hne : L ≠ []) (hl : L.length ≤ 2000000) (hx : Rd encS w (some ⟨g, 0, none⟩) L) :
    Calls Tryz.prog 51 #[.slice (some ⟨g, 0, none⟩) L.length c] w fun e w' => e = .returned (clV (guS rnB L)) ∧ Below w.heap.size w w' := by
  have dAO : ¬ wAT = wON := by decide
  have dOA : ¬ wON = wAT := by decide
  match L, hne, hl, hx with
  | [a, y], _, _, hx =>
    by_cases a1 : a = wAT
    · exact guess2 a y g c w hx (lit_yes a1) (by rw [guS2, if_pos a1])
    · exact guessNo [a, y] a g c w hx rfl (by simp) (fun h => absurd h a1) (fun _ => ⟨by simp, by simp⟩) (fun _ => by simp) (by rw [guS2, if_neg a1])
  | [a, b, y], _, _, hx =>
    by_cases a1 : a = wON
    · exact guess3 a b y g c w hx (lit_no (by subst a1; exact dOA)) (lit_yes a1) (by rw [guS3, if_pos a1])
    · exact guessNo [a, b, y] a g c w hx rfl (by simp) (fun _ => ⟨by simp, by simp⟩) (fun h => absurd h a1) (fun _ => by simp) (by rw [guS3, if_neg a1])
  | [a, b, x, d, y], _, _, hx =>
    by_cases a1 : a = wAT
    · by_cases x1 : x = wEVE
      · exact guess5e a b x d y g c w hx (lit_yes a1) (lit_yes x1) (by rw [guS5, if_pos a1, if_pos x1])
      · exact guess5o a b x d y g c w hx (lit_yes a1) (lit_no x1) (by rw [guS5, if_pos a1, if_neg x1])
    · by_cases a2 : a = wON
      · by_cases d1 : d = wOF
        · exact guess5d a b x d y g c w hx (lit_no a1) (lit_yes a2) (lit_yes d1) (by rw [guS5, if_neg a1, if_pos a2, if_pos d1])
        · by_cases d2 : d = wBEF
          · exact guess5b a b x d y g c w hx (lit_no a1) (lit_yes a2) (lit_no d1) (lit_yes d2) (by rw [guS5, if_neg a1, if_pos a2, if_neg d1, if_pos d2])
          · exact guess5a a b x d y g c w hx (lit_no a1) (lit_yes a2) (lit_no d1) (lit_no d2) (by rw [guS5, if_neg a1, if_pos a2, if_neg d1, if_neg d2])
      · exact guessNo [a, b, x, d, y] a g c w hx rfl (by simp) (fun h => absurd h a1) (fun h => absurd h a2) (fun _ => by simp) (by rw [guS5, if_neg a1, if_neg a2])
  | [a, b, z, x, u, y], _, _, hx =>
    by_cases a1 : a = wIN
    · have n1 : ¬ a = wAT := by subst a1; decide
      have n2 : ¬ a = wON := by subst a1; decide
      by_cases z1 : z = wIND
      · exact guess6i a b z x u y g c w hx (lit_no n1) (lit_no n2) (lit_yes a1) (lit_yes z1) (by rw [guS6, if_pos a1, if_pos z1])
      · by_cases u1 : u = wOF
        · exact guess6k a b z x u y g c w hx (lit_no n1) (lit_no n2) (lit_yes a1) (lit_no z1) (lit_yes u1) (by rw [guS6, if_pos a1, if_neg z1, if_pos u1])
        · exact guess6s a b z x u y g c w hx (lit_no n1) (lit_no n2) (lit_yes a1) (lit_no z1) (lit_no u1) (by rw [guS6, if_pos a1, if_neg z1, if_neg u1])
    · exact guessNo [a, b, z, x, u, y] a g c w hx rfl (by simp) (fun _ => ⟨by simp, by simp⟩) (fun _ => ⟨by simp, by simp⟩) (fun h => absurd h a1) (by rw [guS6, if_neg a1])
  | [a], _, hl, hx => exact guessNo [a] a g c w hx rfl hl (fun _ => ⟨by simp, by simp⟩) (fun _ => ⟨by simp, by simp⟩) (fun _ => by simp) rfl
  | [a, b, x, y], _, hl, hx => exact guessNo [a, b, x, y] a g c w hx rfl hl (fun _ => ⟨by simp, by simp⟩) (fun _ => ⟨by simp, by simp⟩) (fun _ => by simp) rfl
  | a :: b1 :: b2 :: b3 :: b4 :: b5 :: b6 :: r, _, hl, hx => exact guessNo (a :: b1 :: b2 :: b3 :: b4 :: b5 :: b6 :: r) a g c w hx rfl hl (fun _ => ⟨by simp, by simp⟩) (fun _ => ⟨by simp, by simp⟩) (fun _ => by simp) rfl
end

section
open Go.ChangeShapes Go.WideShapes Go.ChangeAt Go.RowKit Go.IntWalk

def clZ : Cl := ⟨0, 0, 0, 0, 0, 0, 0, ⟨#[]⟩⟩
/-- A clause read from its text, and the code. -/
noncomputable def rdR (s : ByteArray) : Cl × Int := if okCl (readI rnB (wsB 32 s)) then (readI rnB (wsB 32 s), 0) else (clZ, 6)
theorem readI_king (rn : ByteArray → Int) (b : Nat) : ∀ L : List ByteArray, (∀ x ∈ L, x.size ≤ b) → (readI rn L).king.size ≤ b
  | [], _ => Nat.zero_le _
  | [_], _ => Nat.zero_le _
  | [a, x], h => by rw [readI2]; split <;> exact Nat.zero_le _
  | [a, c, x], h => by rw [readI3]; split <;> exact Nat.zero_le _
  | [_, _, _, _], _ => Nat.zero_le _
  | [a, c, x, d, y], h => by
    rw [readI5]; unfold rd5
    repeat' split
    all_goals exact Nat.zero_le _
  | [a, c, d, x, u, y], h => by
    rw [readI6]; unfold rd6
    split
    · exact h y (by simp)
    repeat' split
    all_goals exact Nat.zero_le _
  | _ :: _ :: _ :: _ :: _ :: _ :: _ :: _, _ => Nat.zero_le _
theorem guS_king (rn : ByteArray → Int) (b : Nat) : ∀ L : List ByteArray, (∀ x ∈ L, x.size ≤ b) → (guS rn L).king.size ≤ b
  | [], _ => Nat.zero_le _
  | [_], _ => Nat.zero_le _
  | [a, x], h => by rw [guS2]; split <;> exact Nat.zero_le _
  | [a, c, x], h => by rw [guS3]; split <;> exact Nat.zero_le _
  | [_, _, _, _], _ => Nat.zero_le _
  | [a, c, x, d, y], h => by
    rw [guS5]
    repeat' split
    all_goals exact Nat.zero_le _
  | [a, c, d, x, u, y], h => by
    rw [guS6]
    split
    · split
      · exact Nat.zero_le _
      · split
        · exact h y (by simp)
        · exact Nat.zero_le _
    · exact Nat.zero_le _
  | _ :: _ :: _ :: _ :: _ :: _ :: _ :: _, _ => Nat.zero_le _
/-- What stands while a clause is read. -/
structure RP (w : World) (W : World) : Prop where
  res : Box w.heap.size W 31 w.heap.size [.int .i64 0, .int .i64 0, .int .i64 0, .int .i64 0, .int .i64 0, .int .i64 0, .int .i64 0, .string ⟨#[]⟩]
  below : Below w.heap.size w W
theorem RP.go {w W W2 : World} (h : RP w W) (hB : Below W.heap.size W W2) : RP w W2 := ⟨h.res.below hB, stepB h.below hB h.below.size⟩
theorem RP.start (w : World) : RP w (w.alloc (.cells #[.int .i64 0, .int .i64 0, .int .i64 0, .int .i64 0, .int .i64 0, .int .i64 0, .int .i64 0, .string ⟨#[]⟩] 31)) :=
  ⟨Box.new w 31 [.int .i64 0, .int .i64 0, .int .i64 0, .int .i64 0, .int .i64 0, .int .i64 0, .int .i64 0, .string ⟨#[]⟩] w.heap.size (Nat.le_refl _) (by decide), (Below.refl _ w).alloc (Nat.le_refl _) _⟩
theorem RP.fin {w W W2 : World} (h : RP w W) (hg : W.grownBy W2 (some w.heap.size)) : Below w.heap.size w W2 :=
  h.below.trans ⟨hg.os, hg.tape, hg.output, hg.size, fun j hj => hg.block j (Nat.lt_of_lt_of_le hj h.below.size) (fun e => by cases e; omega)⟩
end
end Go.Proofs.YteajkofgcmfaoaaGreatDoor
