/- The clauses that fail, and the best day; plain. -/
import Derived.Test.YtdbgnbohdplndaaGreatDoorMaskI
namespace Go.Proofs.YtdbgnbohdplndaaGreatDoor

theorem ones8 (bs : List Bool) (h : bs.length ≤ 8) : onesGo (maskB bs) 0 8 = idxGo 0 bs := by
  have h3 := onesGo_mask bs []
  simp only [List.nil_append, List.length_nil] at h3
  obtain ⟨g, hg⟩ : ∃ g, 8 = bs.length + g := ⟨8 - bs.length, by omega⟩
  rw [hg, onesGo_add, h3, onesGo_zero _ g _ (by rw [Nat.zero_add]; exact maskB_lt bs), List.append_nil]
def failN (rs : List Rg) (cs : List Cl) (n : Int) : Nat := (idxGo 0 (failL rs cs n)).length
theorem failN_le (rs : List Rg) (cs : List Cl) (n : Int) : failN rs cs n ≤ cs.length := by
  have := idxGo_len (failL rs cs n) 0
  rw [failL_len] at this
  exact this
/-- The first day with the fewest failing clauses, from day a on. -/
def bestGo (q : Int → Nat) : Int → Nat → Int → Nat → Int × Nat
  | _, 0, b, l => (b, l)
  | a, k + 1, b, l => if q a < l then bestGo q (a + 1) k a (q a) else bestGo q (a + 1) k b l
theorem best_hit {q : Int → Nat} {a b : Int} {l : Nat} (k : Nat) (h : q a < l) : bestGo q a (k + 1) b l = bestGo q (a + 1) k a (q a) := by
  show (if q a < l then _ else _) = _
  rw [if_pos h]
theorem best_no {q : Int → Nat} {a b : Int} {l : Nat} (k : Nat) (h : ¬ q a < l) : bestGo q a (k + 1) b l = bestGo q (a + 1) k b l := by
  show (if q a < l then _ else _) = _
  rw [if_neg h]
def bestF (rs : List Rg) (f t : Int) (cs : List Cl) : Int × Nat × Int :=
  if datedB rs f t cs = true then ((bestGo (failN rs cs) f (t - f + 1).toNat f (cs.length + 1)).1, (bestGo (failN rs cs) f (t - f + 1).toNat f (cs.length + 1)).2, 0) else (0, 0, 1)
theorem best_start {q : Int → Nat} {a b c : Int} {l : Nat} {k : Nat} (hk : 0 < k) (h : q a < l) : bestGo q a k b l = bestGo q a k c l := by
  obtain ⟨k, rfl⟩ : ∃ k', k = k' + 1 := ⟨k - 1, by omega⟩
  rw [best_hit k h, best_hit k h]
def failR (rs : List Rg) (f t : Int) (cs : List Cl) (n : Int) : List Int × Int :=
  if datedB rs f t cs = true then if inB n f t = true then (idxGo 0 (failL rs cs n), 0) else ([], 2) else ([], 1)
theorem failR_len (rs : List Rg) (f t : Int) (cs : List Cl) (n : Int) (h : cs.length ≤ 1048576) : (failR rs f t cs n).1.length ≤ 1048576 := by
  have h1 : (idxGo 0 (failL rs cs n)).length ≤ cs.length := failN_le rs cs n
  unfold failR
  split
  · split
    · simp; omega
    · simp
  · simp
end Go.Proofs.YtdbgnbohdplndaaGreatDoor
