/- Walks: ReadClause of both sides. Printed by gen_rdi.py. -/
import Derived.Test.YteajkofgcmfaoaaGreatDoorRdG
import Derived.Test.YteajkofgcmfaoaaGreatDoorRdS
import Derived.Test.YteajkofgcmfaoaaGreatDoorClauseI
import Derived.Test.YteajkofgcmfaoaaGreatDoorClauseS
namespace Go.Proofs.YteajkofgcmfaoaaGreatDoor
section
open Go.ChangeShapes Go.WideShapes Go.ChangeAt Go.RowKit Go.IntWalk

theorem guessNo (L : List ByteArray) (a : ByteArray) (g c : Nat) (w : World) (hx : Rd encS w (some ⟨g, 0, none⟩) L) (h0 : L[0]? = some a) (hl : L.length ≤ 2000000)
    (hA : a = wAT → L.length ≠ 2 ∧ L.length ≠ 5) (hO : a = wON → L.length ≠ 3 ∧ L.length ≠ 5) (hI : a = wIN → L.length ≠ 6) (hg : guS rnB L = clN) :
    Calls Tryz.prog 51 #[.slice (some ⟨g, 0, none⟩) L.length c] w fun e w' => e = .returned (clV (guS rnB L)) ∧ Below w.heap.size w w' := by
  have hpos := (List.getElem?_eq_some_iff.1 h0).1
  obtain ⟨n, hn⟩ : ∃ n, L.length = n + 1 := ⟨L.length - 1, by omega⟩
  obtain ⟨y, hy⟩ : ∃ y, L[n]? = some y := ⟨L[n], List.getElem?_eq_getElem (by omega)⟩
  have ne : ∀ k : Nat, L.length ≠ k → ((L.length : Int) == (k : Int)) = false := fun k h => by simp only [beq_eq_false_iff_ne, ne_eq]; omega
  by_cases a1 : a = wAT
  · exact guessAt a y L g c w hx n hn h0 hy hl (lit_yes a1) (lit_no (by subst a1; decide)) (lit_no (by subst a1; decide)) (ne 2 (hA a1).1) (ne 5 (hA a1).2) hg
  by_cases a2 : a = wON
  · exact guessOn a y L g c w hx n hn h0 hy hl (lit_no a1) (lit_yes a2) (lit_no (by subst a2; decide)) (ne 3 (hO a2).1) (ne 5 (hO a2).2) hg
  by_cases a3 : a = wIN
  · exact guessIn a y L g c w hx n hn h0 hy hl (lit_no a1) (lit_no a2) (lit_yes a3) (ne 6 (hI a3)) hg
  exact guessOt a y L g c w hx n hn h0 hy hl (lit_no a1) (lit_no a2) (lit_no a3) hg
theorem l11Guess_any (L : List ByteArray) (g c : Nat) (w : World) (hne : L ≠ []) (hl : L.length ≤ 2000000) (hx : Rd encS w (some ⟨g, 0, none⟩) L) :
    Calls Tryz.prog 51 #[.slice (some ⟨g, 0, none⟩) L.length c] w fun e w' => e = .returned (clV (guS rnB L)) ∧ Below w.heap.size w w' := by
  have dAO : ¬ wAT = wON := by decide
  have dOA : ¬ wON = wAT := by decide
  match L, hne, hl, hx with
  | [a, y], _, _, hx =>
    by_cases a1 : a = wAT
    · exact guess2 a y g c w hx (lit_yes a1) (by rw [guS2, if_pos a1])
    · exact guessNo [a, y] a g c w hx rfl (by simp) (fun h => absurd h a1) (fun _ => ⟨by simp, by simp⟩) (fun _ => by simp) (by rw [guS2, if_neg a1])
  | [a, b, y], _, _, hx =>
    by_cases a1 : a = wON
    · exact guess3 a b y g c w hx (lit_no (by subst a1; exact dOA)) (lit_yes a1) (by rw [guS3, if_pos a1])
    · exact guessNo [a, b, y] a g c w hx rfl (by simp) (fun _ => ⟨by simp, by simp⟩) (fun h => absurd h a1) (fun _ => by simp) (by rw [guS3, if_neg a1])
  | [a, b, x, d, y], _, _, hx =>
    by_cases a1 : a = wAT
    · by_cases x1 : x = wEVE
      · exact guess5e a b x d y g c w hx (lit_yes a1) (lit_yes x1) (by rw [guS5, if_pos a1, if_pos x1])
      · exact guess5o a b x d y g c w hx (lit_yes a1) (lit_no x1) (by rw [guS5, if_pos a1, if_neg x1])
    · by_cases a2 : a = wON
      · by_cases d1 : d = wOF
        · exact guess5d a b x d y g c w hx (lit_no a1) (lit_yes a2) (lit_yes d1) (by rw [guS5, if_neg a1, if_pos a2, if_pos d1])
        · by_cases d2 : d = wBEF
          · exact guess5b a b x d y g c w hx (lit_no a1) (lit_yes a2) (lit_no d1) (lit_yes d2) (by rw [guS5, if_neg a1, if_pos a2, if_neg d1, if_pos d2])
          · exact guess5a a b x d y g c w hx (lit_no a1) (lit_yes a2) (lit_no d1) (lit_no d2) (by rw [guS5, if_neg a1, if_pos a2, if_neg d1, if_neg d2])
      · exact guessNo [a, b, x, d, y] a g c w hx rfl (by simp) (fun h => absurd h a1) (fun h => absurd h a2) (fun _ => by simp) (by rw [guS5, if_neg a1, if_neg a2])
  | [a, b, z, x, u, y], _, _, hx =>
    by_cases a1 : a = wIN
    · have n1 : ¬ a = wAT := by subst a1; decide
      have n2 : ¬ a = wON := by subst a1; decide
      by_cases z1 : z = wIND
      · exact guess6i a b z x u y g c w hx (lit_no n1) (lit_no n2) (lit_yes a1) (lit_yes z1) (by rw [guS6, if_pos a1, if_pos z1])
      · by_cases u1 : u = wOF
        · exact guess6k a b z x u y g c w hx (lit_no n1) (lit_no n2) (lit_yes a1) (lit_no z1) (lit_yes u1) (by rw [guS6, if_pos a1, if_neg z1, if_pos u1])
        · exact guess6s a b z x u y g c w hx (lit_no n1) (lit_no n2) (lit_yes a1) (lit_no z1) (lit_no u1) (by rw [guS6, if_pos a1, if_neg z1, if_neg u1])
    · exact guessNo [a, b, z, x, u, y] a g c w hx rfl (by simp) (fun _ => ⟨by simp, by simp⟩) (fun _ => ⟨by simp, by simp⟩) (fun h => absurd h a1) (by rw [guS6, if_neg a1])
  | [a], _, hl, hx => exact guessNo [a] a g c w hx rfl hl (fun _ => ⟨by simp, by simp⟩) (fun _ => ⟨by simp, by simp⟩) (fun _ => by simp) rfl
  | [a, b, x, y], _, hl, hx => exact guessNo [a, b, x, y] a g c w hx rfl hl (fun _ => ⟨by simp, by simp⟩) (fun _ => ⟨by simp, by simp⟩) (fun _ => by simp) rfl
  | a :: b1 :: b2 :: b3 :: b4 :: b5 :: b6 :: r, _, hl, hx => exact guessNo (a :: b1 :: b2 :: b3 :: b4 :: b5 :: b6 :: r) a g c w hx rfl hl (fun _ => ⟨by simp, by simp⟩) (fun _ => ⟨by simp, by simp⟩) (fun _ => by simp) rfl
end

section
open Go.ChangeShapes Go.WideShapes Go.ChangeAt Go.RowKit Go.IntWalk

def clZ : Cl := ⟨0, 0, 0, 0, 0, 0, 0, ⟨#[]⟩⟩
/-- A clause read from its text, and the code. -/
noncomputable def rdR (s : ByteArray) : Cl × Int := if okCl (readI rnB (wsB 32 s)) then (readI rnB (wsB 32 s), 0) else (clZ, 6)
theorem readI_king (rn : ByteArray → Int) (b : Nat) : ∀ L : List ByteArray, (∀ x ∈ L, x.size ≤ b) → (readI rn L).king.size ≤ b
  | [], _ => Nat.zero_le _
  | [_], _ => Nat.zero_le _
  | [a, x], h => by rw [readI2]; split <;> exact Nat.zero_le _
  | [a, c, x], h => by rw [readI3]; split <;> exact Nat.zero_le _
  | [_, _, _, _], _ => Nat.zero_le _
  | [a, c, x, d, y], h => by
    rw [readI5]; unfold rd5
    repeat' split
    all_goals exact Nat.zero_le _
  | [a, c, d, x, u, y], h => by
    rw [readI6]; unfold rd6
    split
    · exact h y (by simp)
    repeat' split
    all_goals exact Nat.zero_le _
  | _ :: _ :: _ :: _ :: _ :: _ :: _ :: _, _ => Nat.zero_le _
theorem guS_king (rn : ByteArray → Int) (b : Nat) : ∀ L : List ByteArray, (∀ x ∈ L, x.size ≤ b) → (guS rn L).king.size ≤ b
  | [], _ => Nat.zero_le _
  | [_], _ => Nat.zero_le _
  | [a, x], h => by rw [guS2]; split <;> exact Nat.zero_le _
  | [a, c, x], h => by rw [guS3]; split <;> exact Nat.zero_le _
  | [_, _, _, _], _ => Nat.zero_le _
  | [a, c, x, d, y], h => by
    rw [guS5]
    repeat' split
    all_goals exact Nat.zero_le _
  | [a, c, d, x, u, y], h => by
    rw [guS6]
    split
    · split
      · exact Nat.zero_le _
      · split
        · exact h y (by simp)
        · exact Nat.zero_le _
    · exact Nat.zero_le _
  | _ :: _ :: _ :: _ :: _ :: _ :: _ :: _, _ => Nat.zero_le _
/-- What stands while a clause is read. -/
structure RP (w : World) (W : World) : Prop where
  res : Box w.heap.size W 31 w.heap.size [.int .i64 0, .int .i64 0, .int .i64 0, .int .i64 0, .int .i64 0, .int .i64 0, .int .i64 0, .string ⟨#[]⟩]
  below : Below w.heap.size w W
theorem RP.go {w W W2 : World} (h : RP w W) (hB : Below W.heap.size W W2) : RP w W2 := ⟨h.res.below hB, stepB h.below hB h.below.size⟩
theorem RP.start (w : World) : RP w (w.alloc (.cells #[.int .i64 0, .int .i64 0, .int .i64 0, .int .i64 0, .int .i64 0, .int .i64 0, .int .i64 0, .string ⟨#[]⟩] 31)) :=
  ⟨Box.new w 31 [.int .i64 0, .int .i64 0, .int .i64 0, .int .i64 0, .int .i64 0, .int .i64 0, .int .i64 0, .string ⟨#[]⟩] w.heap.size (Nat.le_refl _) (by decide), (Below.refl _ w).alloc (Nat.le_refl _) _⟩
theorem RP.fin {w W W2 : World} (h : RP w W) (hg : W.grownBy W2 (some w.heap.size)) : Below w.heap.size w W2 :=
  h.below.trans ⟨hg.os, hg.tape, hg.output, hg.size, fun j hj => hg.block j (Nat.lt_of_lt_of_le hj h.below.size) (fun e => by cases e; omega)⟩
set_option maxRecDepth 100000 in
set_option maxHeartbeats 4000000 in
theorem implReadClause_any (s : ByteArray) (hs : s.size ≤ 1048576) (w : World) (hN : NumW w) :
    Calls Tryz.prog 17 #[.string s] w fun e w' => e = .returned (.tuple #[clV (rdR s).1, .int .i64 (rdR s).2]) ∧ Below w.heap.size w w' := by
  have hk := readI_king rnB s.size (wsB 32 s) (wsB_part 32 s)
  have hR0 : rdR s = if okCl (readI rnB (wsB 32 s)) then (readI rnB (wsB 32 s), 0) else (clZ, 6) := rfl
  have HC : ∀ W, NumW W → Calls Tryz.prog 40 #[.string s] W fun e w' => e = .returned (clV (readI rnB (wsB 32 s))) ∧ Below W.heap.size W w' := fun W h => readClause_any s hs W h
  generalize rdR s = RR at hR0 ⊢
  generalize readI rnB (wsB 32 s) = m at hk hR0 HC
  unfold clV at HC
  replace HC := Lib.hid HC
  have R := RP.start w
  have HM := Lib.hid (fun W => implClause_any m W (by omega))
  cases hok : okCl m
  · rw [hok] at hR0 HM
    have hE := Lib.hid hR0
    clear hR0 hok
    go_enter Tryz.func17, Tryz.ntmps17
    go_upto_region 1 with (fail)
    replace hN := hN.below R.below
    generalize w.alloc (.cells #[.int .i64 0, .int .i64 0, .int .i64 0, .int .i64 0, .int .i64 0, .int .i64 0, .int .i64 0, .string ⟨#[]⟩] 31) = w2 at R hN ⊢
    go_wp2_with fail
    refine (HC.out _ hN).mono ?_
    rintro e w3 ⟨rfl, hB3⟩
    replace R := R.go hB3
    clear hB3 HC hN
    have hA := At.start w3 [.int .i64 m.kind, .int .i64 m.number, .int .i64 m.month, .int .i64 m.feast, .int .i64 m.relation, .int .i64 m.weekday, .int .i64 m.style, .string m.king] 31
    go_upto_region 2 with (fail)
    generalize hW : w3.alloc (.cells #[.int .i64 m.kind, .int .i64 m.number, .int .i64 m.month, .int .i64 m.feast, .int .i64 m.relation, .int .i64 m.weekday, .int .i64 m.style, .string m.king] 31) = w4 at hA ⊢
    clear hW
    replace R := R.go hA.below
    have c0 := hA.cell 0 _ rfl
    have c1 := hA.cell 1 _ rfl
    have c2 := hA.cell 2 _ rfl
    have c3 := hA.cell 3 _ rfl
    have c4 := hA.cell 4 _ rfl
    have c5 := hA.cell 5 _ rfl
    have c6 := hA.cell 6 _ rfl
    have c7 := hA.cell 7 _ rfl
    go_wp2_with fail
    refine (HM.out _).mono ?_
    rintro e w5 ⟨rfl, hB5⟩
    replace R := R.go hB5
    replace hA := hA.step hB5
    clear hB5 HM c0 c1 c2 c3 c4 c5 c6 c7
    have c0 := hA.cell 0 _ rfl
    have c1 := hA.cell 1 _ rfl
    have c2 := hA.cell 2 _ rfl
    have c3 := hA.cell 3 _ rfl
    have c4 := hA.cell 4 _ rfl
    have c5 := hA.cell 5 _ rfl
    have c6 := hA.cell 6 _ rfl
    have c7 := hA.cell 7 _ rfl
    have res := R.res
    have r0 := Box.cell res 0 _ rfl
    have r1 := Box.cell res 1 _ rfl
    have r2 := Box.cell res 2 _ rfl
    have r3 := Box.cell res 3 _ rfl
    have r4 := Box.cell res 4 _ rfl
    have r5 := Box.cell res 5 _ rfl
    have r6 := Box.cell res 6 _ rfl
    have r7 := Box.cell res 7 _ rfl
    have f0 := World.ownsRow.frozenAt res 0
    have f1 := World.ownsRow.frozenAt res 1
    have f2 := World.ownsRow.frozenAt res 2
    have f3 := World.ownsRow.frozenAt res 3
    have f4 := World.ownsRow.frozenAt res 4
    have f5 := World.ownsRow.frozenAt res 5
    have f6 := World.ownsRow.frozenAt res 6
    have f7 := World.ownsRow.frozenAt res 7
    have HP8 := Lib.hid (Box.put8 res (.int .i64 0) (.int .i64 0) (.int .i64 0) (.int .i64 0) (.int .i64 0) (.int .i64 0) (.int .i64 0) (.string ⟨#[]⟩))
    go_wp2
    have hp := HP8.out
    have hGf := RP.fin R hp.2
    generalize (((((((w5.setCell ⟨w.heap.size, 0, none⟩ (.int .i64 0)).setCell ⟨w.heap.size, 1, none⟩ (.int .i64 0)).setCell ⟨w.heap.size, 2, none⟩ (.int .i64 0)).setCell ⟨w.heap.size, 3, none⟩ (.int .i64 0)).setCell ⟨w.heap.size, 4, none⟩ (.int .i64 0)).setCell ⟨w.heap.size, 5, none⟩ (.int .i64 0)).setCell ⟨w.heap.size, 6, none⟩ (.int .i64 0)).setCell ⟨w.heap.size, 7, none⟩ (.string ⟨#[]⟩) = Wf at hp hGf ⊢
    have z0 := hp.1.cell 0 _ rfl
    have z1 := hp.1.cell 1 _ rfl
    have z2 := hp.1.cell 2 _ rfl
    have z3 := hp.1.cell 3 _ rfl
    have z4 := hp.1.cell 4 _ rfl
    have z5 := hp.1.cell 5 _ rfl
    have z6 := hp.1.cell 6 _ rfl
    have z7 := hp.1.cell 7 _ rfl
    refine bodyPost_ret_by (v := .tuple #[.agg #[.int .i64 0, .int .i64 0, .int .i64 0, .int .i64 0, .int .i64 0, .int .i64 0, .int .i64 0, .string ⟨#[]⟩], .int .i64 6]) ?_ rfl ⟨by rw [hE.out]; rfl, hGf⟩
    simp [results, go_sem, z0, z1, z2, z3, z4, z5, z6, z7]
  · rw [hok] at hR0 HM
    have hE := Lib.hid hR0
    clear hR0 hok
    go_enter Tryz.func17, Tryz.ntmps17
    go_upto_region 1 with (fail)
    replace hN := hN.below R.below
    generalize w.alloc (.cells #[.int .i64 0, .int .i64 0, .int .i64 0, .int .i64 0, .int .i64 0, .int .i64 0, .int .i64 0, .string ⟨#[]⟩] 31) = w2 at R hN ⊢
    go_wp2_with fail
    refine (HC.out _ hN).mono ?_
    rintro e w3 ⟨rfl, hB3⟩
    replace R := R.go hB3
    clear hB3 HC hN
    have hA := At.start w3 [.int .i64 m.kind, .int .i64 m.number, .int .i64 m.month, .int .i64 m.feast, .int .i64 m.relation, .int .i64 m.weekday, .int .i64 m.style, .string m.king] 31
    go_upto_region 2 with (fail)
    generalize hW : w3.alloc (.cells #[.int .i64 m.kind, .int .i64 m.number, .int .i64 m.month, .int .i64 m.feast, .int .i64 m.relation, .int .i64 m.weekday, .int .i64 m.style, .string m.king] 31) = w4 at hA ⊢
    clear hW
    replace R := R.go hA.below
    have c0 := hA.cell 0 _ rfl
    have c1 := hA.cell 1 _ rfl
    have c2 := hA.cell 2 _ rfl
    have c3 := hA.cell 3 _ rfl
    have c4 := hA.cell 4 _ rfl
    have c5 := hA.cell 5 _ rfl
    have c6 := hA.cell 6 _ rfl
    have c7 := hA.cell 7 _ rfl
    go_wp2_with fail
    refine (HM.out _).mono ?_
    rintro e w5 ⟨rfl, hB5⟩
    replace R := R.go hB5
    replace hA := hA.step hB5
    clear hB5 HM c0 c1 c2 c3 c4 c5 c6 c7
    have c0 := hA.cell 0 _ rfl
    have c1 := hA.cell 1 _ rfl
    have c2 := hA.cell 2 _ rfl
    have c3 := hA.cell 3 _ rfl
    have c4 := hA.cell 4 _ rfl
    have c5 := hA.cell 5 _ rfl
    have c6 := hA.cell 6 _ rfl
    have c7 := hA.cell 7 _ rfl
    have res := R.res
    have r0 := Box.cell res 0 _ rfl
    have r1 := Box.cell res 1 _ rfl
    have r2 := Box.cell res 2 _ rfl
    have r3 := Box.cell res 3 _ rfl
    have r4 := Box.cell res 4 _ rfl
    have r5 := Box.cell res 5 _ rfl
    have r6 := Box.cell res 6 _ rfl
    have r7 := Box.cell res 7 _ rfl
    have f0 := World.ownsRow.frozenAt res 0
    have f1 := World.ownsRow.frozenAt res 1
    have f2 := World.ownsRow.frozenAt res 2
    have f3 := World.ownsRow.frozenAt res 3
    have f4 := World.ownsRow.frozenAt res 4
    have f5 := World.ownsRow.frozenAt res 5
    have f6 := World.ownsRow.frozenAt res 6
    have f7 := World.ownsRow.frozenAt res 7
    have HP8 := Lib.hid (Box.put8 res (.int .i64 m.kind) (.int .i64 m.number) (.int .i64 m.month) (.int .i64 m.feast) (.int .i64 m.relation) (.int .i64 m.weekday) (.int .i64 m.style) (.string m.king))
    go_wp2
    have hp := HP8.out
    have hGf := RP.fin R hp.2
    generalize (((((((w5.setCell ⟨w.heap.size, 0, none⟩ (.int .i64 m.kind)).setCell ⟨w.heap.size, 1, none⟩ (.int .i64 m.number)).setCell ⟨w.heap.size, 2, none⟩ (.int .i64 m.month)).setCell ⟨w.heap.size, 3, none⟩ (.int .i64 m.feast)).setCell ⟨w.heap.size, 4, none⟩ (.int .i64 m.relation)).setCell ⟨w.heap.size, 5, none⟩ (.int .i64 m.weekday)).setCell ⟨w.heap.size, 6, none⟩ (.int .i64 m.style)).setCell ⟨w.heap.size, 7, none⟩ (.string m.king) = Wf at hp hGf ⊢
    have z0 := hp.1.cell 0 _ rfl
    have z1 := hp.1.cell 1 _ rfl
    have z2 := hp.1.cell 2 _ rfl
    have z3 := hp.1.cell 3 _ rfl
    have z4 := hp.1.cell 4 _ rfl
    have z5 := hp.1.cell 5 _ rfl
    have z6 := hp.1.cell 6 _ rfl
    have z7 := hp.1.cell 7 _ rfl
    refine bodyPost_ret_by (v := .tuple #[.agg #[.int .i64 m.kind, .int .i64 m.number, .int .i64 m.month, .int .i64 m.feast, .int .i64 m.relation, .int .i64 m.weekday, .int .i64 m.style, .string m.king], .int .i64 0]) ?_ rfl ⟨by rw [hE.out]; rfl, hGf⟩
    simp [results, go_sem, z0, z1, z2, z3, z4, z5, z6, z7]
end
end Go.Proofs.YteajkofgcmfaoaaGreatDoor
