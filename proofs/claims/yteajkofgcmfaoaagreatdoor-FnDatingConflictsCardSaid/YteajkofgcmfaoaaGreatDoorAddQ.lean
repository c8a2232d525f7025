/- Helpers of AddStay: what an append reads and writes. -/
import Derived.Test.YteajkofgcmfaoaaGreatDoorAppAny
import Derived.Test.YteajkofgcmfaoaaGreatDoorTt
import Derived.Test.YteajkofgcmfaoaaGreatDoorBB
import Derived.Test.YteajkofgcmfaoaaGreatDoorLi
namespace Go.Proofs.YteajkofgcmfaoaaGreatDoor
open Go.ChangeShapes Go.WideShapes Go.ChangeAt Go.RowKit Go.IntWalk

theorem rd_partQ {α : Type} {enc : α → List Value} {k : Nat} (hk : ∀ x, (enc x).length = k) (hk0 : 0 < k) {w : World} {g : Nat} {xs : List α} (h : Rd enc w (some ⟨g, 0, none⟩) xs) (q r : Nat) : ∀ j u, (((xs.drop q).take r).flatMap enc)[j]? = some u → w.cell? (Addr.add ⟨g, q * k, none⟩ j) = some u := by
  intro j u hu
  rw [Addr.add_lit]
  have hj := (List.getElem?_eq_some_iff.1 hu).1
  rw [length_flatMap_enc enc k hk] at hj
  have hi : j / k < ((xs.drop q).take r).length := (Nat.div_lt_iff_lt_mul hk0).2 hj
  have hx := List.getElem?_eq_getElem hi
  have hv := List.getElem?_eq_getElem (show j % k < (enc ((xs.drop q).take r)[j / k]).length by rw [hk]; exact Nat.mod_lt _ hk0)
  have h3 := flatMap_at enc k hk _ (j / k) _ (j % k) _ hx hv
  have hjk : j / k * k + j % k = j := by rw [Nat.mul_comm]; exact Nat.div_add_mod j k
  rw [hjk, hu] at h3
  injection h3 with h3
  generalize ((xs.drop q).take r)[j / k] = x at hx hv h3
  have hx2 : xs[q + j / k]? = some x := by
    rw [List.getElem?_take] at hx
    split at hx
    · rw [List.getElem?_drop] at hx; exact hx
    · cases hx
  obtain ⟨b, off, e0, hb, hc⟩ := h _ x hx2
  injection e0 with e0
  injection e0 with e0 e1
  subst e0; subst e1
  have := hc _ _ hv
  rw [← h3] at this
  rw [hk, Nat.zero_add, Nat.add_mul] at this
  rw [← hjk, ← Nat.add_assoc]
  exact this
theorem rd_takeQ {α : Type} {enc : α → List Value} {k : Nat} (hk : ∀ x, (enc x).length = k) (hk0 : 0 < k) {w : World} {g : Nat} {xs : List α} (h : Rd enc w (some ⟨g, 0, none⟩) xs) (q : Nat) : ∀ j u, ((xs.take q).flatMap enc)[j]? = some u → w.cell? (Addr.add ⟨g, 0, none⟩ j) = some u := by
  have := rd_partQ hk hk0 h 0 q
  simpa using this
theorem rd_dropQ {α : Type} {enc : α → List Value} {k : Nat} (hk : ∀ x, (enc x).length = k) (hk0 : 0 < k) {w : World} {g : Nat} {xs : List α} (h : Rd enc w (some ⟨g, 0, none⟩) xs) (q : Nat) : ∀ j u, ((xs.drop q).flatMap enc)[j]? = some u → w.cell? (Addr.add ⟨g, q * k, none⟩ j) = some u := by
  have := rd_partQ hk hk0 h q (xs.length - q)
  rw [List.take_of_length_le (by simp)] at this
  exact this
end Go.Proofs.YteajkofgcmfaoaaGreatDoor
