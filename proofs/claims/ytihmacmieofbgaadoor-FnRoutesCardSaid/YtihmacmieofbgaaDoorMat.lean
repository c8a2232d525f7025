/- A square of numbers in memory: a row of slices, each a row of numbers of its own. -/
import Derived.Test.YtihmacmieofbgaaDoorRowI
namespace Go.Proofs.YtihmacmieofbgaaDoor
open Go.ChangeShapes Go.WideShapes Go.ChangeAt Go.RowKit

def hdrI (n m : Nat) (g : Nat → Nat) : List Value := (List.range m).map fun i => .slice (some ⟨g i, 0, none⟩) n n
structure Mat (B : Nat) (w : World) (H c n m : Nat) (g : Nat → Nat) (M : Nat → Nat → Int) : Prop where
  hdr : w.ownsRow B 30 1 (.slice (some ⟨H, 0, none⟩) m c) m (hdrI n m g)
  row : ∀ i, i < m → w.ownsRow B 2 1 (.slice (some ⟨g i, 0, none⟩) n n) n (rowI n (M i))
  inj : ∀ i j, i < m → j < m → g i = g j → i = j
theorem Mat.below {B : Nat} {w w' : World} {H c n m : Nat} {g : Nat → Nat} {M : Nat → Nat → Int} (h : Mat B w H c n m g M) (hB : Below w.heap.size w w') : Mat B w' H c n m g M :=
  ⟨own_below h.hdr hB, fun i hi => own_below (h.row i hi) hB, h.inj⟩
theorem Mat.base {B B' : Nat} {w : World} {H c n m : Nat} {g : Nat → Nat} {M : Nat → Nat → Int} (h : Mat B w H c n m g M) (hb : B' ≤ B) : Mat B' w H c n m g M :=
  ⟨own_base h.hdr hb, fun i hi => own_base (h.row i hi) hb, h.inj⟩
theorem Mat.congr {B : Nat} {w : World} {H c n m : Nat} {g : Nat → Nat} {M M' : Nat → Nat → Int} (h : Mat B w H c n m g M) (he : ∀ i j, i < m → j < n → M i j = M' i j) : Mat B w H c n m g M' :=
  ⟨h.hdr, fun i hi => by rw [← rowI_congr (fun j hj => he i j hi hj)]; exact h.row i hi, h.inj⟩
theorem Mat.ne {B : Nat} {w : World} {H c n m : Nat} {g : Nat → Nat} {M : Nat → Nat → Int} (h : Mat B w H c n m g M) {i : Nat} (hi : i < m) : H ≠ g i := own_apart h.hdr (h.row i hi) (by decide)
theorem Mat.hcell {B : Nat} {w : World} {H c n m : Nat} {g : Nat → Nat} {M : Nat → Nat → Int} (h : Mat B w H c n m g M) {i : Nat} (hi : i < m) : w.cell? ⟨H, i, none⟩ = some (.slice (some ⟨g i, 0, none⟩) n n) :=
  (h.hdr.cellAt i (by omega)).trans (by simp [hdrI, hi])
theorem Mat.cell {B : Nat} {w : World} {H c n m : Nat} {g : Nat → Nat} {M : Nat → Nat → Int} (h : Mat B w H c n m g M) {i j : Nat} (hi : i < m) (hj : j < n) : w.cell? ⟨g i, j, none⟩ = some (.int .i64 (M i j)) := own_rowI (h.row i hi) hj
theorem Mat.frozen {B : Nat} {w : World} {H c n m : Nat} {g : Nat → Nat} {M : Nat → Nat → Int} (h : Mat B w H c n m g M) {i j : Nat} (hi : i < m) : w.frozen? ⟨g i, j, none⟩ = false := (h.row i hi).frozenAt j
theorem Mat.lt {B : Nat} {w : World} {H c n m : Nat} {g : Nat → Nat} {M : Nat → Nat → Int} (h : Mat B w H c n m g M) {i : Nat} (hi : i < m) : B ≤ g i ∧ g i < w.heap.size := own_lt (h.row i hi)
theorem Mat.hlt {B : Nat} {w : World} {H c n m : Nat} {g : Nat → Nat} {M : Nat → Nat → Int} (h : Mat B w H c n m g M) : B ≤ H ∧ H < w.heap.size := own_lt h.hdr
theorem Mat.put {B : Nat} {w : World} {H c n m : Nat} {g : Nat → Nat} {M : Nat → Nat → Int} (h : Mat B w H c n m g M) {i : Nat} (hi : i < m) (j : Nat) (v : Int) :
    Mat B (w.setCell ⟨g i, j, none⟩ (.int .i64 v)) H c n m g (upd2 M i j v) ∧ w.grownBy (w.setCell ⟨g i, j, none⟩ (.int .i64 v)) (some (g i)) := by
  obtain ⟨h1, h2⟩ := own_putI (h.row i hi) j v
  refine ⟨⟨h.hdr.kept h2 (.inr ?_), fun x hx => ?_, h.inj⟩, h2⟩
  · simp [Value.ownBlock]; exact h.ne hi
  · by_cases e : x = i
    · subst e
      have e2 : upd2 M x j v x = upd (M x) j v := by funext y; simp [upd2, upd]
      rw [e2]; exact h1
    · have e2 : upd2 M i j v x = M x := by funext y; simp [upd2, e]
      rw [e2]
      refine (h.row x hx).kept h2 (.inr ?_)
      simp [Value.ownBlock]
      exact fun e3 => e (h.inj x i hx hi e3)
theorem Mat.kept {B : Nat} {w w' : World} {H c n m x : Nat} {g : Nat → Nat} {M : Nat → Nat → Int} (h : Mat B w H c n m g M) (hg : w.grownBy w' (some x)) (hH : H ≠ x) (hr : ∀ i, i < m → g i ≠ x) : Mat B w' H c n m g M := by
  refine ⟨h.hdr.kept hg (.inr ?_), fun i hi => (h.row i hi).kept hg (.inr ?_), h.inj⟩
  · simp [Value.ownBlock]; exact hH
  · simp [Value.ownBlock]; exact hr i hi
/-- A row more. -/
theorem Mat.add {B : Nat} {w w' : World} {H H' c c' n k h : Nat} {g : Nat → Nat} {M : Nat → Nat → Int} (hm : Mat B w H c n k g M) (hg : w.grownBy w' (some H)) (hh : w.ownsRow B 2 1 (.slice (some ⟨h, 0, none⟩) n n) n (rowI n (M k)))
    (hnew : ∀ i, i < k → g i ≠ h) (ho : w'.ownsRow B 30 1 (.slice (some ⟨H', 0, none⟩) (k + 1) c') (k + 1) (hdrI n k g ++ [.slice (some ⟨h, 0, none⟩) n n])) :
    Mat B w' H' c' n (k + 1) (fun i => if i < k then g i else h) M := by
  refine ⟨?_, fun i hi => ?_, fun i j hi hj e => ?_⟩
  · have e : hdrI n (k + 1) (fun i => if i < k then g i else h) = hdrI n k g ++ [.slice (some ⟨h, 0, none⟩) n n] := by
      unfold hdrI
      rw [List.range_succ, List.map_append]
      congr 1
      · apply List.map_congr_left
        intro i hi
        have := List.mem_range.1 hi
        simp only [this, if_true]
      · simp
    rw [e]; exact ho
  · by_cases e : i < k
    · simp only [e, if_true]
      refine (hm.row i e).kept hg (.inr ?_)
      simp [Value.ownBlock]
      exact fun e3 => hm.ne e e3.symm
    · obtain rfl : i = k := by omega
      simp only [e, if_false]
      refine hh.kept hg (.inr ?_)
      simp [Value.ownBlock]
      exact fun e3 => own_apart hm.hdr hh (by decide) e3.symm
  · by_cases e1 : i < k <;> by_cases e2 : j < k <;> simp only [e1, e2, if_true, if_false] at e
    · exact hm.inj i j e1 e2 e
    · exact absurd e (hnew i e1)
    · exact absurd e.symm (hnew j e2)
    · omega
theorem infoSI : (Tryd.prog.info? 30).map (fun i => (i.zero, i.size, i.bytes)) = some (some (.slice none 0 0), 1, 24) := by kernel_rfl
end Go.Proofs.YtihmacmieofbgaaDoor
