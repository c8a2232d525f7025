/- Walks: DoesHold. Printed by gen_does.py. -/
import Derived.Test.YtdbgnbohdplndaaGreatDoorNextH
namespace Go.Proofs.YtdbgnbohdplndaaGreatDoor
open Go.ChangeShapes Go.WideShapes Go.ChangeAt Go.RowKit Go.IntWalk

def doesR (rs : List Rg) (c : Cl) (n : Int) : Bool × Int := (decide (codeC rs c n = 0) && holdB rs c n, codeC rs c n)
theorem codeC_zero {rs : List Rg} {c : Cl} {n : Int} : codeC rs c n = 0 ↔ okCl c = true ∧ areReignsB rs = true ∧ dayB n = true := by
  unfold codeC
  constructor
  · intro hc
    split at hc
    · rename_i h
      split at hc
      · exact ⟨h.1, h.2, by assumption⟩
      · cases hc
    · cases hc
  · rintro ⟨h1, h2, h3⟩
    rw [if_pos ⟨h1, h2⟩, if_pos h3]
theorem does_ok {rs : List Rg} {c : Cl} {n : Int} (h : codeC rs c n = 0) : doesR rs c n = (holdB rs c n, 0) := by
  unfold doesR; rw [h]; simp
theorem does_bad {rs : List Rg} {c : Cl} {n : Int} (h : codeC rs c n ≠ 0) : doesR rs c n = (false, codeC rs c n) := by
  unfold doesR; simp [h]
theorem next_ok {rs : List Rg} {c : Cl} {n : Int} (h : (nextR rs c n).2 = 0) : okCl c = true ∧ areReignsB rs = true ∧ dayB n = true ∧ dayB (nextR rs c n).1 = true ∧ holdB rs c (nextR rs c n).1 = true ∧ n ≤ (nextR rs c n).1 ∧ ∀ z, n ≤ z → z < (nextR rs c n).1 → holdB rs c z = false := by
  by_cases hc : codeC rs c n = 0
  · obtain ⟨h1, h2, h3⟩ := codeC_zero.1 hc
    cases hf : fstR (holdB rs c) n (nextN n) with
    | none => rw [nextR_none h1 h2 h3 hf] at h; cases h
    | some y =>
      rw [nextR_some h1 h2 h3 hf]
      obtain ⟨g1, g2, g3, g4⟩ := fstR_some hf
      have hd : 0 ≤ n ∧ n ≤ 730499 := by simpa [dayB, inB] using h3
      have hn : n + (nextN n : Nat) ≤ 730500 := by unfold nextN; omega
      refine ⟨h1, h2, h3, ?_, g1, g2, g4⟩
      simp [dayB, inB]; omega
  · rw [nextR_code hc] at h
    exact absurd h hc
set_option maxHeartbeats 1000000 in
theorem specDoes_any (a : Option Addr) (cap : Nat) (rs : List Rg) (m : Cl) (n : Int) (w : World) (hl : rs.length ≤ 1048576) (hx : Rd encRg w a rs) (hs : ∀ r ∈ rs, r.king.size ≤ 1048576) (hk : m.king.size ≤ 1048576) :
    Calls Tryz.prog 38 #[.slice a rs.length cap, .agg #[.int .i64 m.kind, .int .i64 m.number, .int .i64 m.month, .int .i64 m.feast, .int .i64 m.relation, .int .i64 m.weekday, .int .i64 m.style, .string m.king], .int .i64 n] w fun e w' => e = .returned (.tuple #[.bool (doesR rs m n).1, .int .i64 (doesR rs m n).2]) ∧ Below w.heap.size w w' := by
  have hA := At.start w [.int .i64 m.kind, .int .i64 m.number, .int .i64 m.month, .int .i64 m.feast, .int .i64 m.relation, .int .i64 m.weekday, .int .i64 m.style, .string m.king] 57
  have c0 := hA.cell 0 _ rfl
  have c1 := hA.cell 1 _ rfl
  have c2 := hA.cell 2 _ rfl
  have c3 := hA.cell 3 _ rfl
  have c4 := hA.cell 4 _ rfl
  have c5 := hA.cell 5 _ rfl
  have c6 := hA.cell 6 _ rfl
  have c7 := hA.cell 7 _ rfl
  have HC := Lib.hid (fun W (h : At w [.int .i64 m.kind, .int .i64 m.number, .int .i64 m.month, .int .i64 m.feast, .int .i64 m.relation, .int .i64 m.weekday, .int .i64 m.style, .string m.king] W) => l11Code_any a cap rs m n W hl (hx.below h.below) hs hk)
  by_cases hc : codeC rs m n = 0
  · obtain ⟨h2, h1, h3⟩ := codeC_zero.1 hc
    have hR := Lib.hid (does_ok hc)
    have HC := Lib.hid (fun W h => hc ▸ HC.out W h)
    have hd : 0 ≤ n ∧ n ≤ 730499 := by simpa [dayB, inB] using h3
    have HH := Lib.hid (fun W (h : At w [.int .i64 m.kind, .int .i64 m.number, .int .i64 m.month, .int .i64 m.feast, .int .i64 m.relation, .int .i64 m.weekday, .int .i64 m.style, .string m.king] W) => l11Holds_any a cap rs m n W h2 hl (hx.below h.below) (reigns_fr h1) hd.1 hd.2)
    generalize doesR rs m n = V at hR ⊢
    generalize holdB rs m n = q at HH hR
    clear hc h1 h2 h3
    go_enter Tryz.func38, Tryz.ntmps38
    go_wp2_with fail
    refine (HC.out _ hA).mono ?_
    rintro e w1 ⟨rfl, hB1⟩
    have hA := hA.step hB1
    clear c0 c1 c2 c3 c4 c5 c6 c7 hB1
    have c0 := hA.cell 0 _ rfl
    have c1 := hA.cell 1 _ rfl
    have c2 := hA.cell 2 _ rfl
    have c3 := hA.cell 3 _ rfl
    have c4 := hA.cell 4 _ rfl
    have c5 := hA.cell 5 _ rfl
    have c6 := hA.cell 6 _ rfl
    have c7 := hA.cell 7 _ rfl
    go_wp2_with fail
    refine (HH.out _ hA).mono ?_
    rintro e w2 ⟨rfl, hB2⟩
    go_wp2
    go_ret2
    rw [hR.out]
    exact ⟨rfl, (hA.step hB2).below⟩
  · have hR := Lib.hid (does_bad hc)
    generalize doesR rs m n = V at hR ⊢
    have hc' : (codeC rs m n != 0) = true := by simpa using hc
    generalize codeC rs m n = C at HC hR hc'
    clear hc
    go_enter Tryz.func38, Tryz.ntmps38
    go_wp2_with fail
    refine (HC.out _ hA).mono ?_
    rintro e w1 ⟨rfl, hB1⟩
    go_wp2
    go_ret2
    rw [hR.out]
    exact ⟨rfl, (hA.step hB1).below⟩
set_option maxHeartbeats 1000000 in
theorem implDoes_any (a : Option Addr) (cap : Nat) (rs : List Rg) (m : Cl) (n : Int) (w : World) (hl : rs.length ≤ 1048576) (hx : Rd encRg w a rs) (hs : ∀ r ∈ rs, r.king.size ≤ 1048576) (hk : m.king.size ≤ 1048576) :
    Calls Tryz.prog 37 #[.slice a rs.length cap, .agg #[.int .i64 m.kind, .int .i64 m.number, .int .i64 m.month, .int .i64 m.feast, .int .i64 m.relation, .int .i64 m.weekday, .int .i64 m.style, .string m.king], .int .i64 n] w fun e w' => e = .returned (.tuple #[.bool (doesR rs m n).1, .int .i64 (doesR rs m n).2]) ∧ Below w.heap.size w w' := by
  have hA := At.start w [.int .i64 m.kind, .int .i64 m.number, .int .i64 m.month, .int .i64 m.feast, .int .i64 m.relation, .int .i64 m.weekday, .int .i64 m.style, .string m.king] 57
  have c0 := hA.cell 0 _ rfl
  have c1 := hA.cell 1 _ rfl
  have c2 := hA.cell 2 _ rfl
  have c3 := hA.cell 3 _ rfl
  have c4 := hA.cell 4 _ rfl
  have c5 := hA.cell 5 _ rfl
  have c6 := hA.cell 6 _ rfl
  have c7 := hA.cell 7 _ rfl
  have HR := Lib.hid (fun W (h : At w [.int .i64 m.kind, .int .i64 m.number, .int .i64 m.month, .int .i64 m.feast, .int .i64 m.relation, .int .i64 m.weekday, .int .i64 m.style, .string m.king] W) => implAreReigns_any a cap rs W hl (hx.below h.below) hs)
  have HC := Lib.hid (fun W => implClause_any m W (by omega))
  cases h2 : okCl m
  · have hc : codeC rs m n = 1 := by unfold codeC; rw [h2]; simp
    have hR : Hid (doesR rs m n = (false, 1)) := by unfold Hid; rw [does_bad (by rw [hc]; decide), hc]
    generalize doesR rs m n = V at hR ⊢
    clear hc
    have HC := Lib.hid (fun W => h2 ▸ HC.out W)
    go_enter Tryz.func37, Tryz.ntmps37
    go_wp2_with fail
    refine (HC.out _).mono ?_
    rintro e w1 ⟨rfl, hB1⟩
    go_wp2
    go_ret2
    rw [hR.out]
    exact ⟨rfl, (hA.step hB1).below⟩
  have HC := Lib.hid (fun W => h2 ▸ HC.out W)
  cases h1 : areReignsB rs
  · have hc : codeC rs m n = 1 := by unfold codeC; rw [h1]; simp
    have hR : Hid (doesR rs m n = (false, 1)) := by unfold Hid; rw [does_bad (by rw [hc]; decide), hc]
    generalize doesR rs m n = V at hR ⊢
    clear hc
    have HR := Lib.hid (fun W h => h1 ▸ HR.out W h)
    go_enter Tryz.func37, Tryz.ntmps37
    go_wp2_with fail
    refine (HC.out _).mono ?_
    rintro e w1 ⟨rfl, hB1⟩
    have hA := hA.step hB1
    go_wp2_with fail
    refine (HR.out _ hA).mono ?_
    rintro e w2 ⟨rfl, hB2⟩
    go_wp2
    go_ret2
    rw [hR.out]
    exact ⟨rfl, (hA.step hB2).below⟩
  have HR := Lib.hid (fun W h => h1 ▸ HR.out W h)
  have HD := Lib.hid (fun W => isDay_any n W)
  cases h3 : dayB n
  · have hc : codeC rs m n = 2 := by unfold codeC; rw [h1, h2, h3]; simp
    have hR : Hid (doesR rs m n = (false, 2)) := by unfold Hid; rw [does_bad (by rw [hc]; decide), hc]
    generalize doesR rs m n = V at hR ⊢
    clear hc
    have HD := Lib.hid (fun W => h3 ▸ HD.out W)
    go_enter Tryz.func37, Tryz.ntmps37
    go_wp2_with fail
    refine (HC.out _).mono ?_
    rintro e w1 ⟨rfl, hB1⟩
    have hA := hA.step hB1
    go_wp2_with fail
    refine (HR.out _ hA).mono ?_
    rintro e w2 ⟨rfl, hB2⟩
    go_wp2_with (refine (HD.out _).mono ?_; rintro e w3 ⟨rfl, rfl⟩)
    go_ret2
    rw [hR.out]
    exact ⟨rfl, (hA.step hB2).below⟩
  have HD := Lib.hid (fun W => h3 ▸ HD.out W)
  have hd : 0 ≤ n ∧ n ≤ 730499 := by simpa [dayB, inB] using h3
  have hR := Lib.hid (does_ok (codeC_zero.2 ⟨h2, h1, h3⟩))
  have HH := Lib.hid (fun W (h : At w [.int .i64 m.kind, .int .i64 m.number, .int .i64 m.month, .int .i64 m.feast, .int .i64 m.relation, .int .i64 m.weekday, .int .i64 m.style, .string m.king] W) => holds_any a cap rs m n W h2 hl (hx.below h.below) (reigns_fr h1) hd.1 hd.2)
  generalize doesR rs m n = V at hR ⊢
  generalize holdB rs m n = q at HH hR
  clear h1 h2 h3
  go_enter Tryz.func37, Tryz.ntmps37
  go_wp2_with fail
  refine (HC.out _).mono ?_
  rintro e w1 ⟨rfl, hB1⟩
  have hA := hA.step hB1
  go_wp2_with fail
  refine (HR.out _ hA).mono ?_
  rintro e w2 ⟨rfl, hB2⟩
  have hA := hA.step hB2
  clear c0 c1 c2 c3 c4 c5 c6 c7 hB1 hB2
  go_wp2_with fail
  refine (HD.out _).mono ?_
  rintro e w3 ⟨rfl, rfl⟩
  have c0 := hA.cell 0 _ rfl
  have c1 := hA.cell 1 _ rfl
  have c2 := hA.cell 2 _ rfl
  have c3 := hA.cell 3 _ rfl
  have c4 := hA.cell 4 _ rfl
  have c5 := hA.cell 5 _ rfl
  have c6 := hA.cell 6 _ rfl
  have c7 := hA.cell 7 _ rfl
  go_wp2_with fail
  refine (HH.out _ hA).mono ?_
  rintro e w4 ⟨rfl, hB4⟩
  go_wp2
  go_ret2
  rw [hR.out]
  exact ⟨rfl, (hA.step hB4).below⟩
end Go.Proofs.YtdbgnbohdplndaaGreatDoor
