/- Walks: NextHolding. Printed by gen_next.py. -/
import Derived.Test.YtkfgbnmeiknlnaaGreatDoorHoldI
import Derived.Test.YtkfgbnmeiknlnaaGreatDoorHoldS
import Derived.Test.YtkfgbnmeiknlnaaGreatDoorClauseI
namespace Go.Proofs.YtkfgbnmeiknlnaaGreatDoor
open Go.ChangeShapes Go.WideShapes Go.ChangeAt Go.RowKit Go.IntWalk

theorem reigns_fr {xs : List Rg} (h : areReignsB xs = true) : ∀ r ∈ xs, 0 ≤ r.fr := fun r hr => by
  unfold areReignsB at h
  simp only [Bool.and_eq_true] at h
  have := upGo_all h.1 r hr
  simp only [okRg, spanB, dayB, inB, Bool.and_eq_true, decide_eq_true_eq] at this
  omega
def codeC (rs : List Rg) (c : Cl) (n : Int) : Int := if okCl c = true ∧ areReignsB rs = true then (if dayB n = true then 0 else 2) else 1
theorem nextR_code {rs : List Rg} {c : Cl} {n : Int} (h : codeC rs c n ≠ 0) : nextR rs c n = (0, codeC rs c n) := by
  unfold codeC nextR at *
  split
  · rename_i h1
    rw [if_pos h1] at h
    split
    · rename_i h2
      rw [if_pos h2] at h
      exact absurd rfl h
    · rfl
  · rfl
theorem nextR_some {rs : List Rg} {c : Cl} {n y : Int} (h1 : okCl c = true) (h2 : areReignsB rs = true) (h3 : dayB n = true) (h : fstR (holdB rs c) n (nextN n) = some y) : nextR rs c n = (y, 0) := by
  unfold nextR
  rw [if_pos ⟨h1, h2⟩, if_pos h3, h]
theorem nextR_none {rs : List Rg} {c : Cl} {n : Int} (h1 : okCl c = true) (h2 : areReignsB rs = true) (h3 : dayB n = true) (h : fstR (holdB rs c) n (nextN n) = none) : nextR rs c n = (0, 4) := by
  unfold nextR
  rw [if_pos ⟨h1, h2⟩, if_pos h3, h]
set_option maxHeartbeats 1000000 in
theorem l11Code_any (a : Option Addr) (cap : Nat) (rs : List Rg) (m : Cl) (n : Int) (w : World) (hl : rs.length ≤ 1048576) (hx : Rd encRg w a rs) (hs : ∀ r ∈ rs, r.king.size ≤ 1048576) (hk : m.king.size ≤ 1048576) :
    Calls Tryz.prog 41 #[.slice a rs.length cap, .agg #[.int .i64 m.kind, .int .i64 m.number, .int .i64 m.month, .int .i64 m.feast, .int .i64 m.relation, .int .i64 m.weekday, .int .i64 m.style, .string m.king], .int .i64 n] w fun e w' => e = .returned (.int .i64 (codeC rs m n)) ∧ Below w.heap.size w w' := by
  have hA := At.start w [.int .i64 m.kind, .int .i64 m.number, .int .i64 m.month, .int .i64 m.feast, .int .i64 m.relation, .int .i64 m.weekday, .int .i64 m.style, .string m.king] 31
  have c0 := hA.cell 0 _ rfl
  have c1 := hA.cell 1 _ rfl
  have c2 := hA.cell 2 _ rfl
  have c3 := hA.cell 3 _ rfl
  have c4 := hA.cell 4 _ rfl
  have c5 := hA.cell 5 _ rfl
  have c6 := hA.cell 6 _ rfl
  have c7 := hA.cell 7 _ rfl
  have HR := Lib.hid (fun W (h : At w [.int .i64 m.kind, .int .i64 m.number, .int .i64 m.month, .int .i64 m.feast, .int .i64 m.relation, .int .i64 m.weekday, .int .i64 m.style, .string m.king] W) => specAreReigns_any a cap rs W hl (hx.below h.below) hs)
  have HC := Lib.hid (fun W => specClause_any m W (by omega))
  have hV : Hid (codeC rs m n = if okCl m = true ∧ areReignsB rs = true then (if dayB n = true then 0 else 2) else 1) := rfl
  generalize codeC rs m n = V at hV ⊢
  cases h1 : areReignsB rs
  · have hR : Hid (V = 1) := by unfold Hid; rw [hV.out, h1]; simp
    have HR := Lib.hid (fun W h => h1 ▸ HR.out W h)
    go_enter Tryz.func41, Tryz.ntmps41
    go_wp2_with fail
    refine (HR.out _ hA).mono ?_
    rintro e w1 ⟨rfl, hB1⟩
    go_wp2
    go_ret
    exact ⟨ret_int hR.out.symm, (hA.step hB1).below⟩
  have HR := Lib.hid (fun W h => h1 ▸ HR.out W h)
  cases h2 : okCl m
  · have hR : Hid (V = 1) := by unfold Hid; rw [hV.out, h2]; simp
    have HC := Lib.hid (fun W => h2 ▸ HC.out W)
    go_enter Tryz.func41, Tryz.ntmps41
    go_wp2_with fail
    refine (HR.out _ hA).mono ?_
    rintro e w1 ⟨rfl, hB1⟩
    have hA := hA.step hB1
    clear c0 c1 c2 c3 c4 c5 c6 c7
    have c0 := hA.cell 0 _ rfl
    have c1 := hA.cell 1 _ rfl
    have c2 := hA.cell 2 _ rfl
    have c3 := hA.cell 3 _ rfl
    have c4 := hA.cell 4 _ rfl
    have c5 := hA.cell 5 _ rfl
    have c6 := hA.cell 6 _ rfl
    have c7 := hA.cell 7 _ rfl
    go_wp2_with fail
    refine (HC.out _).mono ?_
    rintro e w2 ⟨rfl, hB2⟩
    go_wp2
    go_ret
    exact ⟨ret_int hR.out.symm, (hA.step hB2).below⟩
  have HC := Lib.hid (fun W => h2 ▸ HC.out W)
  have HD := Lib.hid (fun W => l01Day_any n W)
  cases h3 : dayB n
  · have hR : Hid (V = 2) := by unfold Hid; rw [hV.out, h1, h2, h3]; simp
    have HD := Lib.hid (fun W => h3 ▸ HD.out W)
    go_enter Tryz.func41, Tryz.ntmps41
    go_wp2_with fail
    refine (HR.out _ hA).mono ?_
    rintro e w1 ⟨rfl, hB1⟩
    have hA := hA.step hB1
    clear c0 c1 c2 c3 c4 c5 c6 c7
    have c0 := hA.cell 0 _ rfl
    have c1 := hA.cell 1 _ rfl
    have c2 := hA.cell 2 _ rfl
    have c3 := hA.cell 3 _ rfl
    have c4 := hA.cell 4 _ rfl
    have c5 := hA.cell 5 _ rfl
    have c6 := hA.cell 6 _ rfl
    have c7 := hA.cell 7 _ rfl
    go_wp2_with fail
    refine (HC.out _).mono ?_
    rintro e w2 ⟨rfl, hB2⟩
    go_wp2_with (refine (HD.out _).mono ?_; rintro e w3 ⟨rfl, rfl⟩)
    go_ret
    exact ⟨ret_int hR.out.symm, (hA.step hB2).below⟩
  · have hR : Hid (V = 0) := by unfold Hid; rw [hV.out, h1, h2, h3]; simp
    have HD := Lib.hid (fun W => h3 ▸ HD.out W)
    go_enter Tryz.func41, Tryz.ntmps41
    go_wp2_with fail
    refine (HR.out _ hA).mono ?_
    rintro e w1 ⟨rfl, hB1⟩
    have hA := hA.step hB1
    clear c0 c1 c2 c3 c4 c5 c6 c7
    have c0 := hA.cell 0 _ rfl
    have c1 := hA.cell 1 _ rfl
    have c2 := hA.cell 2 _ rfl
    have c3 := hA.cell 3 _ rfl
    have c4 := hA.cell 4 _ rfl
    have c5 := hA.cell 5 _ rfl
    have c6 := hA.cell 6 _ rfl
    have c7 := hA.cell 7 _ rfl
    go_wp2_with fail
    refine (HC.out _).mono ?_
    rintro e w2 ⟨rfl, hB2⟩
    go_wp2_with (refine (HD.out _).mono ?_; rintro e w3 ⟨rfl, rfl⟩)
    go_ret
    exact ⟨ret_int hR.out.symm, (hA.step hB2).below⟩
set_option maxHeartbeats 1000000 in
theorem specNext_any (a : Option Addr) (cap : Nat) (rs : List Rg) (m : Cl) (n : Int) (w : World) (hl : rs.length ≤ 1048576) (hx : Rd encRg w a rs) (hs : ∀ r ∈ rs, r.king.size ≤ 1048576) (hk : m.king.size ≤ 1048576) :
    Calls Tryz.prog 11 #[.slice a rs.length cap, .agg #[.int .i64 m.kind, .int .i64 m.number, .int .i64 m.month, .int .i64 m.feast, .int .i64 m.relation, .int .i64 m.weekday, .int .i64 m.style, .string m.king], .int .i64 n] w fun e w' => e = .returned (.tuple #[.int .i64 (nextR rs m n).1, .int .i64 (nextR rs m n).2]) ∧ Below w.heap.size w w' := by
  have hA := At.start w [.int .i64 m.kind, .int .i64 m.number, .int .i64 m.month, .int .i64 m.feast, .int .i64 m.relation, .int .i64 m.weekday, .int .i64 m.style, .string m.king] 31
  have c0 := hA.cell 0 _ rfl
  have c1 := hA.cell 1 _ rfl
  have c2 := hA.cell 2 _ rfl
  have c3 := hA.cell 3 _ rfl
  have c4 := hA.cell 4 _ rfl
  have c5 := hA.cell 5 _ rfl
  have c6 := hA.cell 6 _ rfl
  have c7 := hA.cell 7 _ rfl
  have HC := Lib.hid (fun W (h : At w [.int .i64 m.kind, .int .i64 m.number, .int .i64 m.month, .int .i64 m.feast, .int .i64 m.relation, .int .i64 m.weekday, .int .i64 m.style, .string m.king] W) => l11Code_any a cap rs m n W hl (hx.below h.below) hs hk)
  by_cases hc : codeC rs m n = 0
  · have hall : okCl m = true ∧ areReignsB rs = true ∧ dayB n = true := by
      unfold codeC at hc
      split at hc
      · rename_i h
        split at hc
        · exact ⟨h.1, h.2, by assumption⟩
        · cases hc
      · cases hc
    obtain ⟨h2, h1, h3⟩ := hall
    have HC := Lib.hid (fun W h => hc ▸ HC.out W h)
    clear hc
    have hd : 0 ≤ n ∧ n ≤ 730499 := by simpa [dayB, inB] using h3
    have HH := Lib.hid (fun y W (h : At w [.int .i64 m.kind, .int .i64 m.number, .int .i64 m.month, .int .i64 m.feast, .int .i64 m.relation, .int .i64 m.weekday, .int .i64 m.style, .string m.king] W) h0 h4 => l11Holds_any a cap rs m y W h2 hl (hx.below h.below) (reigns_fr h1) h0 h4)
    have hSome := Lib.hid (fun y h => nextR_some (rs := rs) (c := m) (n := n) (y := y) h2 h1 h3 h)
    have hNone := Lib.hid (fun h => nextR_none (rs := rs) (c := m) (n := n) h2 h1 h3 h)
    generalize nextR rs m n = V at *
    generalize holdB rs m = q at *
    obtain ⟨hi, hhi⟩ : ∃ hi : Int, min 730499 (n + 20000) = hi := ⟨_, rfl⟩
    have hN : n + (nextN n : Nat) = hi + 1 := by unfold nextN; omega
    have hib : hi ≤ 730499 := by omega
    have v1 := i64_in (n + 20000) (by omega)
    clear h1 h2 h3
    go_enter Tryz.func11, Tryz.ntmps11
    go_wp2_with fail
    refine (HC.out _ hA).mono ?_
    rintro e w1 ⟨rfl, hB1⟩
    have hA := hA.step hB1
    clear c0 c1 c2 c3 c4 c5 c6 c7 hB1
    go_wp2
    go_loopw [9] (fun i wr => ∃ (y : Int) (k : Nat), n ≤ y ∧ y + k = hi + 1 ∧ i = .int .i64 y ∧ Hid (fstR q n (nextN n) = fstR q y k) ∧ At w [.int .i64 m.kind, .int .i64 m.number, .int .i64 m.month, .int .i64 m.feast, .int .i64 m.relation, .int .i64 m.weekday, .int .i64 m.style, .string m.king] wr) (fun i _ => (730500 - intOf i).toNat)
    case atStart => exact ⟨n, nextN n, Int.le_refl _, hN, rfl, rfl, hA⟩
    case round =>
      clear hA
      obtain ⟨y, k, hny, hyk, rfl, hq, hA⟩ := hrel
      by_cases hlt : y ≤ hi
      · obtain ⟨k, rfl⟩ : ∃ k', k = k' + 1 := ⟨k - 1, by omega⟩
        have v3 := i64_in (y + 1) (by omega)
        have HHy := Lib.hid (fun W h => HH.out y W h (by omega) (by omega))
        have hq : Hid (fstR q n (nextN n) = if q y = true then some y else fstR q (y + 1) k) := hq
        have c0 := hA.cell 0 _ rfl
        have c1 := hA.cell 1 _ rfl
        have c2 := hA.cell 2 _ rfl
        have c3 := hA.cell 3 _ rfl
        have c4 := hA.cell 4 _ rfl
        have c5 := hA.cell 5 _ rfl
        have c6 := hA.cell 6 _ rfl
        have c7 := hA.cell 7 _ rfl
        cases hg : q y
        · rw [hg] at hq
          have hq := Lib.hid hq
          have HHy := Lib.hid (fun W h => hg ▸ HHy.out W h)
          go_wp2_with fail
          refine (HHy.out _ hA).mono ?_
          rintro e w2 ⟨rfl, hB2⟩
          go_wp2
          go_roundw
          case rel => exact ⟨y + 1, k, by omega, by omega, rfl, hq.out, hA.step hB2⟩
          case measure => simp [intOf]; omega
        · rw [hg] at hq
          have hR := Lib.hid (hSome.out y hq.out)
          have HHy := Lib.hid (fun W h => hg ▸ HHy.out W h)
          go_wp2_with fail
          refine (HHy.out _ hA).mono ?_
          rintro e w2 ⟨rfl, hB2⟩
          go_wp2
          go_ret2
          rw [hR.out]
          exact ⟨rfl, (hA.step hB2).below⟩
      · have hlt' : decide (y ≤ hi) = false := by simpa using hlt
        have hR := Lib.hid (hNone.out (by rw [hq.out, show k = 0 by omega]; rfl))
        go_wp2
        go_ret2
        rw [hR.out]
        exact ⟨rfl, hA.below⟩
  · have hR := Lib.hid (nextR_code hc)
    generalize nextR rs m n = V at hR ⊢
    have hc' : (codeC rs m n != 0) = true := by simpa using hc
    generalize codeC rs m n = C at HC hR hc'
    clear hc
    go_enter Tryz.func11, Tryz.ntmps11
    go_wp2_with fail
    refine (HC.out _ hA).mono ?_
    rintro e w1 ⟨rfl, hB1⟩
    go_wp2
    go_ret2
    rw [hR.out]
    exact ⟨rfl, (hA.step hB1).below⟩
set_option maxHeartbeats 1000000 in
theorem implNext_any (a : Option Addr) (cap : Nat) (rs : List Rg) (m : Cl) (n : Int) (w : World) (hl : rs.length ≤ 1048576) (hx : Rd encRg w a rs) (hs : ∀ r ∈ rs, r.king.size ≤ 1048576) (hk : m.king.size ≤ 1048576) :
    Calls Tryz.prog 14 #[.slice a rs.length cap, .agg #[.int .i64 m.kind, .int .i64 m.number, .int .i64 m.month, .int .i64 m.feast, .int .i64 m.relation, .int .i64 m.weekday, .int .i64 m.style, .string m.king], .int .i64 n] w fun e w' => e = .returned (.tuple #[.int .i64 (nextR rs m n).1, .int .i64 (nextR rs m n).2]) ∧ Below w.heap.size w w' := by
  have hA := At.start w [.int .i64 m.kind, .int .i64 m.number, .int .i64 m.month, .int .i64 m.feast, .int .i64 m.relation, .int .i64 m.weekday, .int .i64 m.style, .string m.king] 31
  have c0 := hA.cell 0 _ rfl
  have c1 := hA.cell 1 _ rfl
  have c2 := hA.cell 2 _ rfl
  have c3 := hA.cell 3 _ rfl
  have c4 := hA.cell 4 _ rfl
  have c5 := hA.cell 5 _ rfl
  have c6 := hA.cell 6 _ rfl
  have c7 := hA.cell 7 _ rfl
  have HR := Lib.hid (fun W (h : At w [.int .i64 m.kind, .int .i64 m.number, .int .i64 m.month, .int .i64 m.feast, .int .i64 m.relation, .int .i64 m.weekday, .int .i64 m.style, .string m.king] W) => implAreReigns_any a cap rs W hl (hx.below h.below) hs)
  have HC := Lib.hid (fun W => implClause_any m W (by omega))
  cases h2 : okCl m
  · have hR : Hid (nextR rs m n = (0, 1)) := by unfold Hid nextR; rw [h2]; rfl
    generalize nextR rs m n = V at hR ⊢
    have HC := Lib.hid (fun W => h2 ▸ HC.out W)
    go_enter Tryz.func14, Tryz.ntmps14
    go_wp2_with fail
    refine (HC.out _).mono ?_
    rintro e w1 ⟨rfl, hB1⟩
    go_wp2
    go_ret2
    rw [hR.out]
    exact ⟨rfl, (hA.step hB1).below⟩
  have HC := Lib.hid (fun W => h2 ▸ HC.out W)
  cases h1 : areReignsB rs
  · have hR : Hid (nextR rs m n = (0, 1)) := by unfold Hid nextR; rw [h1]; simp
    generalize nextR rs m n = V at hR ⊢
    have HR := Lib.hid (fun W h => h1 ▸ HR.out W h)
    go_enter Tryz.func14, Tryz.ntmps14
    go_wp2_with fail
    refine (HC.out _).mono ?_
    rintro e w1 ⟨rfl, hB1⟩
    have hA := hA.step hB1
    go_wp2_with fail
    refine (HR.out _ hA).mono ?_
    rintro e w2 ⟨rfl, hB2⟩
    go_wp2
    go_ret2
    rw [hR.out]
    exact ⟨rfl, (hA.step hB2).below⟩
  have HR := Lib.hid (fun W h => h1 ▸ HR.out W h)
  have HD := Lib.hid (fun W => isDay_any n W)
  cases h3 : dayB n
  · have hR : Hid (nextR rs m n = (0, 2)) := by unfold Hid nextR; rw [h1, h2, h3]; rfl
    generalize nextR rs m n = V at hR ⊢
    have HD := Lib.hid (fun W => h3 ▸ HD.out W)
    go_enter Tryz.func14, Tryz.ntmps14
    go_wp2_with fail
    refine (HC.out _).mono ?_
    rintro e w1 ⟨rfl, hB1⟩
    have hA := hA.step hB1
    go_wp2_with fail
    refine (HR.out _ hA).mono ?_
    rintro e w2 ⟨rfl, hB2⟩
    go_wp2_with (refine (HD.out _).mono ?_; rintro e w3 ⟨rfl, rfl⟩)
    go_ret2
    rw [hR.out]
    exact ⟨rfl, (hA.step hB2).below⟩
  have HD := Lib.hid (fun W => h3 ▸ HD.out W)
  have hd : 0 ≤ n ∧ n ≤ 730499 := by simpa [dayB, inB] using h3
  have HH := Lib.hid (fun y W (h : At w [.int .i64 m.kind, .int .i64 m.number, .int .i64 m.month, .int .i64 m.feast, .int .i64 m.relation, .int .i64 m.weekday, .int .i64 m.style, .string m.king] W) h0 h4 => holds_any a cap rs m y W h2 hl (hx.below h.below) (reigns_fr h1) h0 h4)
  have hSome := Lib.hid (fun y h => nextR_some (rs := rs) (c := m) (n := n) (y := y) h2 h1 h3 h)
  have hNone := Lib.hid (fun h => nextR_none (rs := rs) (c := m) (n := n) h2 h1 h3 h)
  generalize nextR rs m n = V at *
  generalize holdB rs m = q at *
  obtain ⟨hi, hhi⟩ : ∃ hi : Int, min (n + 20000) 730499 = hi := ⟨_, rfl⟩
  have hN : n + (nextN n : Nat) = hi + 1 := by unfold nextN; omega
  have hib : hi ≤ 730499 := by omega
  have v1 := i64_in (n + 20000) (by omega)
  clear h1 h2 h3
  go_enter Tryz.func14, Tryz.ntmps14
  go_wp2_with fail
  refine (HC.out _).mono ?_
  rintro e w1 ⟨rfl, hB1⟩
  have hA := hA.step hB1
  go_wp2_with fail
  refine (HR.out _ hA).mono ?_
  rintro e w2 ⟨rfl, hB2⟩
  have hA := hA.step hB2
  clear c0 c1 c2 c3 c4 c5 c6 c7 hB1 hB2
  go_wp2_with (refine (HD.out _).mono ?_; rintro e w3 ⟨rfl, rfl⟩)
  go_loopw [8] (fun i wr => ∃ (y : Int) (k : Nat), n ≤ y ∧ y + k = hi + 1 ∧ i = .int .i64 y ∧ Hid (fstR q n (nextN n) = fstR q y k) ∧ At w [.int .i64 m.kind, .int .i64 m.number, .int .i64 m.month, .int .i64 m.feast, .int .i64 m.relation, .int .i64 m.weekday, .int .i64 m.style, .string m.king] wr) (fun i _ => (730500 - intOf i).toNat)
  case atStart => exact ⟨n, nextN n, Int.le_refl _, hN, rfl, rfl, hA⟩
  case round =>
    clear hA
    obtain ⟨y, k, hny, hyk, rfl, hq, hA⟩ := hrel
    by_cases hlt : y ≤ hi
    · obtain ⟨k, rfl⟩ : ∃ k', k = k' + 1 := ⟨k - 1, by omega⟩
      have v3 := i64_in (y + 1) (by omega)
      have HHy := Lib.hid (fun W h => HH.out y W h (by omega) (by omega))
      have hq : Hid (fstR q n (nextN n) = if q y = true then some y else fstR q (y + 1) k) := hq
      have c0 := hA.cell 0 _ rfl
      have c1 := hA.cell 1 _ rfl
      have c2 := hA.cell 2 _ rfl
      have c3 := hA.cell 3 _ rfl
      have c4 := hA.cell 4 _ rfl
      have c5 := hA.cell 5 _ rfl
      have c6 := hA.cell 6 _ rfl
      have c7 := hA.cell 7 _ rfl
      cases hg : q y
      · rw [hg] at hq
        have hq := Lib.hid hq
        have HHy := Lib.hid (fun W h => hg ▸ HHy.out W h)
        go_wp2_with fail
        refine (HHy.out _ hA).mono ?_
        rintro e w2 ⟨rfl, hB2⟩
        go_wp2
        go_roundw
        case rel => exact ⟨y + 1, k, by omega, by omega, rfl, hq.out, hA.step hB2⟩
        case measure => simp [intOf]; omega
      · rw [hg] at hq
        have hR := Lib.hid (hSome.out y hq.out)
        have HHy := Lib.hid (fun W h => hg ▸ HHy.out W h)
        go_wp2_with fail
        refine (HHy.out _ hA).mono ?_
        rintro e w2 ⟨rfl, hB2⟩
        go_wp2
        go_ret2
        rw [hR.out]
        exact ⟨rfl, (hA.step hB2).below⟩
    · have hlt' : decide (y ≤ hi) = false := by simpa using hlt
      have hR := Lib.hid (hNone.out (by rw [hq.out, show k = 0 by omega]; rfl))
      go_wp2
      go_ret2
      rw [hR.out]
      exact ⟨rfl, hA.below⟩
end Go.Proofs.YtkfgbnmeiknlnaaGreatDoor
