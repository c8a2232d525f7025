/- Plain: compact of a list that grows at its end. -/
import Derived.Test.YtggcpaiogliboaaDoorCompact
namespace Go.Proofs.YtggcpaiogliboaaDoor
theorem compact_snoc {α : Type} [Inhabited α] [DecidableEq α] (ys : List α) (x : α) : Lib.compact (ys ++ [x]) = Lib.compact ys ++ (if ys.getLast? = some x then [] else [x]) := by
  have hd : ∀ j, j < ys.length → (ys ++ [x]).toArray[j]! = ys.toArray[j]! := fun j hj => by
    simp [getElem!_pos, hj, Nat.lt_succ_of_lt hj]
  have hx : (ys ++ [x]).toArray[ys.length]! = x := by simp [getElem!_pos]
  unfold Lib.compact
  rw [List.length_append, List.length_singleton, Lib.compactUpTo_succ, hx]
  congr 1
  · unfold Lib.compactUpTo
    have hf : (List.range ys.length).filter (Lib.keeps (ys ++ [x]).toArray) = (List.range ys.length).filter (Lib.keeps ys.toArray) := by
      apply List.filter_congr
      intro j hj
      have hj := List.mem_range.1 hj
      unfold Lib.keeps
      rw [hd j hj, hd (j - 1) (by omega)]
    rw [hf]
    apply List.map_congr_left
    intro j hj
    exact hd j (List.mem_range.1 (List.mem_filter.1 hj).1)
  · unfold Lib.keeps
    rw [hx]
    cases ys with
    | nil => simp
    | cons a l =>
      have h2 := hd ((a :: l).length - 1) (by simp)
      rw [h2]
      have h3 : (a :: l).getLast? = some (a :: l).toArray[(a :: l).length - 1]! := by
        rw [List.getLast?_eq_getElem?]
        simp [getElem!_pos]
      rw [h3]
      by_cases h : (a :: l).toArray[(a :: l).length - 1]! = x
      · rw [h]; simp
      · have h' : ¬ x = (a :: l).toArray[(a :: l).length - 1]! := fun e => h e.symm
        rw [if_neg (fun e => h (Option.some.inj e)), if_pos (by simpa using h')]
theorem mem_compact {α : Type} [Inhabited α] [DecidableEq α] (x : α) (n : Nat) : ∀ (ys : List α), ys.length = n → (x ∈ Lib.compact ys ↔ x ∈ ys) := by
  induction n with
  | zero => intro ys h; obtain rfl := List.eq_nil_of_length_eq_zero h; simp [Lib.compact, Lib.compactUpTo]
  | succ n ih =>
    intro ys h
    have hne : ys ≠ [] := fun e => by subst e; simp at h
    obtain ⟨zs, z, rfl⟩ : ∃ zs z, ys = zs ++ [z] := ⟨ys.dropLast, ys.getLast hne, (List.dropLast_concat_getLast hne).symm⟩
    have ih := ih zs (by simpa using h)
    rw [compact_snoc, List.mem_append, ih, List.mem_append]
    by_cases hl : zs.getLast? = some z
    · rw [if_pos hl]
      constructor
      · rintro (h | h)
        · exact .inl h
        · cases h
      · rintro (h | h)
        · exact .inl h
        · left; rw [List.mem_singleton.1 h]; exact List.mem_of_getLast? hl
    · rw [if_neg hl]
end Go.Proofs.YtggcpaiogliboaaDoor
