/- Rows of structs: what lies at an element, an element written anew, all cells of a row that is read. -/
import Derived.Test.YteajkofgcmfaoaaGreatDoorRSp
import Derived.Test.YteajkofgcmfaoaaGreatDoorIxl
namespace Go.Proofs.YteajkofgcmfaoaaGreatDoor
open Go.ChangeShapes Go.WideShapes Go.ChangeAt Go.RowKit

theorem own_at {α : Type} {enc : α → List Value} {k : Nat} (hk : ∀ x, (enc x).length = k) {w : World} {base : Nat} {E : TypeId} {g n cap : Nat} {xs : List α} (h : w.ownsRow base E k (.slice (some ⟨g, 0, none⟩) n cap) n (xs.flatMap enc))
    {i j : Nat} {x : α} {v : Value} (hx : xs[i]? = some x) (hv : (enc x)[j]? = some v) : w.cell? ⟨g, i * k + j, none⟩ = some v := by
  have h1 := flatMap_at enc k hk xs i x j v hx hv
  have h2 := (List.getElem?_eq_some_iff.1 h1).1
  rw [h.1] at h2
  exact (h.cellAt _ h2).trans h1
theorem own_putRow {α : Type} {enc : α → List Value} {k : Nat} (hk : ∀ x, (enc x).length = k) {w : World} {base : Nat} {E : TypeId} {g n cap : Nat} {pre post : List α} {x : α} (h : w.ownsRow base E k (.slice (some ⟨g, 0, none⟩) n cap) n ((pre ++ x :: post).flatMap enc)) {i : Nat} (hi : i = pre.length) (y : α) :
    (w.setCells g (i * k) (enc y)).ownsRow base E k (.slice (some ⟨g, 0, none⟩) n cap) n ((pre ++ y :: post).flatMap enc) ∧ w.grownBy (w.setCells g (i * k) (enc y)) (some g) := by
  have hp := length_flatMap_enc enc k hk pre
  have := own_setCells (enc y) (enc x) (pre.flatMap enc) (post.flatMap enc) w (by rw [hk, hk]) (by simpa using h)
  rw [hp, ← hi] at this
  refine ⟨?_, this.2⟩
  simpa using this.1
theorem own_putTo {w : World} {base : Nat} {E : TypeId} {g n cap : Nat} {pre post : List Sp} {x : Sp} (h : w.ownsRow base E 2 (.slice (some ⟨g, 0, none⟩) n cap) n ((pre ++ x :: post).flatMap encSp)) {i : Nat} (hi : i = pre.length) (v : Int) :
    (w.setCell ⟨g, i * 2 + 1, none⟩ (.int .i64 v)).ownsRow base E 2 (.slice (some ⟨g, 0, none⟩) n cap) n ((pre ++ (⟨x.fr, v⟩ : Sp) :: post).flatMap encSp) ∧ w.grownBy (w.setCell ⟨g, i * 2 + 1, none⟩ (.int .i64 v)) (some g) := by
  have hp := length_flatMap_enc encSp 2 encSp_len pre
  have h0 : w.ownsRow base E 2 (.slice (some ⟨g, 0, none⟩) n cap) n ((pre.flatMap encSp ++ [.int .i64 x.fr]) ++ .int .i64 x.to :: post.flatMap encSp) := by simpa [encSp] using h
  have := own_put h0 (i := i * 2 + 1) (by simp [hp, hi]) (.int .i64 v)
  refine ⟨?_, this.2⟩
  simpa [encSp] using this.1
theorem rd_cells {α : Type} {enc : α → List Value} {k : Nat} (hk : ∀ x, (enc x).length = k) (hk0 : 0 < k) {w : World} {b off : Nat} {xs : List α} (h : Rd enc w (some ⟨b, off, none⟩) xs) :
    ∀ j u, (xs.flatMap enc)[j]? = some u → w.cell? ⟨b, off + j, none⟩ = some u := by
  intro j u hu
  have hj := (List.getElem?_eq_some_iff.1 hu).1
  rw [length_flatMap_enc enc k hk] at hj
  have hi : j / k < xs.length := (Nat.div_lt_iff_lt_mul hk0).2 hj
  have hx := List.getElem?_eq_getElem hi
  have hr : j % k < (enc xs[j / k]).length := by rw [hk]; exact Nat.mod_lt _ hk0
  have hv := List.getElem?_eq_getElem hr
  have he : j / k * k + j % k = j := by rw [Nat.mul_comm]; exact Nat.div_add_mod j k
  have h1 := flatMap_at enc k hk xs _ _ _ _ hx hv
  rw [he, hu] at h1
  obtain ⟨_, _, e, _, hc⟩ := h _ _ hx
  simp only [Option.some.injEq, Addr.mk.injEq, and_true] at e
  obtain ⟨rfl, rfl⟩ := e
  have h2 := hc _ _ hv
  rw [hk, Nat.add_assoc, he] at h2
  rw [h2]
  exact h1.symm
end Go.Proofs.YteajkofgcmfaoaaGreatDoor
