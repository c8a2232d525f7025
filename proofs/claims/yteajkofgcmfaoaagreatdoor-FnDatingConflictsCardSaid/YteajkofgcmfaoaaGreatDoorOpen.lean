/- How the arguments of the laws read: slices of structs as lists of rows. -/
import Derived.Deep.DeepHandedRow
import Derived.Lib.LaidTab
import Derived.Carry
import Derived.Test.YteajkofgcmfaoaaGreatDoorBase
namespace Go.Proofs.YteajkofgcmfaoaaGreatDoor
open Go.ChangeShapes Go.WideShapes Go.ChangeAt Go.RowKit Go.Deep

section
variable {H : Type} {enc0 : TypeId × Value → H} {P : Program} {w : World} {base : Nat} {spare : Nat → Bool} {held : Bool}

/-- From 'each place of a list has an x' to one list. -/
theorem list_of {α : Type} (n : Nat) (p : Nat → α → Prop) (h : ∀ i, i < n → ∃ x, p i x) : ∃ xs : List α, xs.length = n ∧ ∀ i x, xs[i]? = some x → p i x := by
  induction n with
  | zero => exact ⟨[], rfl, fun i x h => by cases h⟩
  | succ n ih =>
    obtain ⟨xs, hl, hp⟩ := ih (fun i hi => h i (by omega))
    obtain ⟨x, hx⟩ := h n (by omega)
    refine ⟨xs ++ [x], by simp [hl], fun i y hy => ?_⟩
    by_cases hi : i < n
    · rw [List.getElem?_append_left (by omega)] at hy
      exact hp i y hy
    · rw [List.getElem?_append_right (by omega)] at hy
      obtain ⟨hj, hy'⟩ := List.getElem?_eq_some_iff.1 hy
      simp at hj hy'
      obtain rfl : i = n := by omega
      exact hy' ▸ hx

theorem open_rows1 {α : Type} (enc : α → List Value) (good : α → Prop) (k : Nat) (hk : ∀ x, (enc x).length = k) (hk0 : 0 < k) {fuel : Nat} {t e : TypeId} {v : Value} {x : DataW H × List MemPlace}
    (ht : P.underlying t = some (.slice e)) (hC : P.cellsOf e = k)
    (hrow : ∀ (n : Nat) (cs : List Value) (y : DataW H × List MemPlace), cs.length = k → DataW.trod enc0 P w base spare held n e cs = some y → ∃ x, good x ∧ cs = enc x)
    (hf : DataW.trod enc0 P w base spare held fuel t [v] = some x) :
    ∃ (a : Option Addr) (xs : List α) (cap : Nat), v = .slice a xs.length cap ∧ xs.length ≤ maxLen ∧ (∀ x ∈ xs, good x) ∧ Rd enc w a xs := by
  rcases open_slice ht hf with ⟨h0, _⟩ | ⟨a, len, cap, m, n, D, Pl, hcs, hb, hl, hm, hmm, _, hx⟩
  · obtain rfl : v = .slice none 0 0 := by simpa using h0
    exact ⟨none, [], 0, rfl, by simp, by simp, Rd.nil _ _ _⟩
  · obtain rfl : v = .slice (some a) len cap := by simpa using hcs
    rw [hC] at hx
    have hlm : len ≤ m := by rw [hmm]; split <;> omega
    obtain ⟨xs, hlen, hp⟩ := list_of (α := α) len (fun i x => good x ∧ ∀ j u, (enc x)[j]? = some u → w.cell? (a.add (i * k + j)) = some u) (fun i hi => by
      obtain ⟨cs', hc, htr⟩ := hx i (by omega)
      obtain ⟨_, hcl, hat⟩ := World.cells?_some hc
      obtain ⟨x, hgx, rfl⟩ := hrow n cs' _ hcl htr
      refine ⟨x, hgx, fun j u hu => ?_⟩
      have hj : j < k := by rw [← hk x]; exact (List.getElem?_eq_some_iff.1 hu).1
      have := hat j hj
      rw [Deep.add_add] at this
      rw [this, hu])
    subst hlen
    refine ⟨some a, xs, cap, rfl, by omega, fun x hx => ?_, fun i x hx1 => ?_⟩
    · obtain ⟨i, hi⟩ := List.getElem?_of_mem hx
      exact (hp i x hi).1
    · have hi : i < xs.length := (List.getElem?_eq_some_iff.1 hx1).1
      have hsp : a.spot = none := by
        have h0 : ∃ x0, xs[0]? = some x0 := ⟨xs[0], List.getElem?_eq_getElem (by omega)⟩
        obtain ⟨x0, hx0⟩ := h0
        have hu : (enc x0)[0]? = some ((enc x0)[0]'(by rw [hk]; exact hk0)) := List.getElem?_eq_getElem _
        have := (hp 0 x0 hx0).2 0 _ hu
        simpa [Addr.add] using World.cell?_spot this
      obtain ⟨ab, ao, asp⟩ := a
      simp only at hsp
      subst hsp
      have hcell := (hp i x hx1).2
      have hb0 : ab < w.heap.size := by
        have hu : (enc x)[0]? = some ((enc x)[0]'(by rw [hk]; exact hk0)) := List.getElem?_eq_getElem _
        have h2 := World.block_lt_of_cell? w _ (hcell 0 _ hu)
        rw [Addr.add_mid] at h2
        exact h2
      refine ⟨ab, ao, rfl, hb0, fun j u hu => ?_⟩
      have := hcell j u hu
      rw [Addr.add_mid] at this
      rw [hk x]
      simpa [Nat.add_assoc] using this
theorem open_rows {α : Type} (enc : α → List Value) (good : α → Prop) (k : Nat) (hk : ∀ x, (enc x).length = k) (hk0 : 0 < k) {r : Reach} {b0 : Nat} {t e : TypeId} {v : Value} {d : DataW H} {p : List MemPlace}
    (ht : P.underlying t = some (.slice e)) (hC : P.cellsOf e = k)
    (hrow : ∀ (n : Nat) (cs : List Value) (y : DataW H × List MemPlace), cs.length = k → DataW.trod enc0 P w base spare held n e cs = some y → ∃ x, good x ∧ cs = enc x)
    (hv : Value.okWide P w r b0 t v) (h : DataW.Trod enc0 P w base spare held t v d p) :
    ∃ (a : Option Addr) (xs : List α) (cap : Nat), v = .slice a xs.length cap ∧ xs.length ≤ maxLen ∧ (∀ x ∈ xs, good x) ∧ Rd enc w a xs := by
  obtain ⟨a0, len, cap, rfl⟩ := okWide_slice ht hv
  obtain ⟨fuel, hf⟩ := h
  exact open_rows1 enc good k hk hk0 ht hC hrow hf
end
end Go.Proofs.YteajkofgcmfaoaaGreatDoor
