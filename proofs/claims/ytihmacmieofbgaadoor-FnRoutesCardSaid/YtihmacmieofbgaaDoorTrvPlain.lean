/- What the laws of travel ask of the answers; plain. -/
import Derived.Test.YtihmacmieofbgaaDoorRtPlain
import Derived.Test.YtihmacmieofbgaaDoorTrFar
import Derived.Test.YtihmacmieofbgaaDoorWithin
import Derived.Test.YtihmacmieofbgaaDoorTrConn
namespace Go.Proofs.YtihmacmieofbgaaDoor

theorem bestS_ge (f : Nat → Int) : ∀ k v, v < k → f v ≤ f (bestS f k)
  | 0, _, h => absurd h (Nat.not_lt_zero _)
  | k + 1, v, h => by
    have ih := bestS_ge f k v
    simp only [bestS]
    by_cases e : v = k
    · subst e
      split
      · exact Int.le_refl _
      · omega
    · have := ih (by omega)
      split
      · omega
      · exact this
theorem ixl_mem {q : Nat → Bool} {x : Int} : ∀ {k : Nat}, x ∈ ixl q k → ∃ v : Nat, x = v ∧ v < k ∧ q v = true
  | 0, h => by simp [ixl] at h
  | k + 1, h => by
    cases hq : q k
    · rw [ixl_no hq] at h
      obtain ⟨v, h1, h2, h3⟩ := ixl_mem h
      exact ⟨v, h1, by omega, h3⟩
    · rw [ixl_yes hq] at h
      rcases List.mem_append.1 h with h | h
      · obtain ⟨v, h1, h2, h3⟩ := ixl_mem h
        exact ⟨v, h1, by omega, h3⟩
      · exact ⟨k, by simpa using h, by omega, hq⟩
theorem codeL_two {ps : List ByteArray} {ws : List Wy} {A B : Nat} (hA : isLandB ps ws = true) (ha : A < ps.length) (hb : B < ps.length) : codeL ps ws [(A : Int), (B : Int)] = 0 := by
  unfold codeL
  have h1 : placeB ps.length (A : Int) = true := by simp [placeB, inB]; omega
  have h2 : placeB ps.length (B : Int) = true := by simp [placeB, inB]; omega
  simp [hA, h1, h2]
theorem travR_at {ps : List ByteArray} {ws : List Wy} {A B : Nat} (hA : isLandB ps ws = true) (ha : A < ps.length) (hb : B < ps.length) : travR ps ws A B = if travM ps.length ws A B < 1000000 then (travM ps.length ws A B, 0) else (0, 4) := by
  unfold travR
  rw [if_pos (codeL_two hA ha hb)]
  rfl
theorem trav_tri {ps : List ByteArray} {ws : List Wy} {a b : Int} {k : Nat} (h : (travR ps ws a b).2 = 0) (hk : k < ps.length) :
    (travR ps ws b a).2 = 0 ∧ (travR ps ws b a).1 = (travR ps ws a b).1 ∧ ((travR ps ws a k).2 = 4 ∨ ((travR ps ws a k).2 = 0 ∧ (travR ps ws k b).2 = 0 ∧ (travR ps ws a b).1 ≤ (travR ps ws a k).1 + (travR ps ws k b).1)) := by
  have hz : codeL ps ws [a, b] = 0 ∧ travM ps.length ws a.toNat b.toNat < 1000000 := by
    unfold travR at h
    split at h
    · rename_i hz
      split at h
      · rename_i h2; exact ⟨hz, h2⟩
      · cases h
    · rename_i hz; exact absurd h hz
  obtain ⟨hz, hf⟩ := hz
  obtain ⟨hA, hall⟩ := codeL_zero hz
  obtain ⟨⟨a, rfl, ha⟩, ⟨b, rfl, hb⟩⟩ := all2 hall
  obtain ⟨hs, _, hn12, hl40⟩ := landOk hA
  have hf : travM ps.length ws a b < 1000000 := hf
  have ho := hs.ok
  have h1 := travR_at hA ha hb
  have h2 := travR_at hA hb ha
  have h3 := travR_at hA ha hk
  have h4 := travR_at hA hk hb
  have e1 := travM_flip ho ha hb
  rw [if_pos hf] at h1
  rw [if_pos (by omega)] at h2
  rw [h1, h2]
  refine ⟨rfl, e1.symm, ?_⟩
  by_cases c : travM ps.length ws a k < 1000000
  · refine .inr ?_
    have s1 := trav_small ho hn12 hl40 ha hk c
    have s2 := trav_small ho hn12 hl40 ha hb hf
    have e2 := travM_flip ho ha hk
    have wka := (travM_snd ho k a hk ha).2.2 (by omega)
    have wab := (travM_snd ho a b ha hb).2.2 hf
    have l1 := travM_le ho hk hb (wka.trans wab)
    have wkb := (travM_snd ho k b hk hb).2.2 (by omega)
    have wak := (travM_snd ho a k ha hk).2.2 c
    have l2 := travM_le ho ha hb (wak.trans wkb)
    rw [if_pos c] at h3
    rw [if_pos (by omega)] at h4
    rw [h3, h4]
    exact ⟨rfl, rfl, l2⟩
  · rw [if_neg c] at h3
    rw [h3]
    exact .inl rfl
theorem within_fact {ps : List ByteArray} {ws : List Wy} {p days x : Int} (h : (withinR ps ws p days (codeL ps ws [p])).2 = 0) (hx : x ∈ (withinR ps ws p days (codeL ps ws [p])).1) :
    (travR ps ws p x).2 = 0 ∧ (travR ps ws p x).1 ≤ days ∧ (travR ps ws p x).1 ≤ (farR ps ws p (codeL ps ws [p])).2.1 := by
  unfold withinR at h hx
  split at hx
  · rename_i hz
    obtain ⟨hA, hall⟩ := codeL_zero hz
    obtain ⟨a, rfl, ha⟩ := all1 hall
    split at hx
    · obtain ⟨v, rfl, hv, hq⟩ := ixl_mem hx
      have hq : 0 ≤ distF ps.length ws a v ∧ distF ps.length ws a v ≤ days := by
        have := hq
        simp only [inB, Bool.and_eq_true, decide_eq_true_eq] at this
        exact this
      have hg := bestS_ge (distF ps.length ws a) ps.length v hv
      have hr := travR_at hA ha hv
      unfold farR
      rw [if_pos hz]
      show _ ∧ _ ∧ _ ≤ distF ps.length ws a (bestS (distF ps.length ws a) ps.length)
      unfold distF at hq
      by_cases c : travM ps.length ws a v < 1000000
      · rw [if_pos c] at hq hr
        have e : distF ps.length ws a v = travM ps.length ws a v := if_pos c
        rw [hr]
        exact ⟨rfl, hq.2, by rw [e] at hg; exact hg⟩
      · rw [if_neg c] at hq
        omega
    · simp at hx
  · simp at hx
theorem conn_land (ps : List ByteArray) (ws : List Wy) : isLandB ps ws = ((connR ps ws).2 == 0) := by
  unfold connR
  cases isLandB ps ws <;> simp
theorem trav_len {ps : List ByteArray} {ws : List Wy} {a b : Int} (h : (travR ps ws a b).2 = 0) : 1 ≤ ps.length := by
  unfold travR at h
  split at h
  · rename_i hz
    exact (landOk (codeL_zero hz).1).2.1
  · rename_i hz; exact absurd h hz
theorem trav_val {ps : List ByteArray} {ws : List Wy} {a b : Int} : 0 ≤ (travR ps ws a b).1 ∧ (travR ps ws a b).1 ≤ 1000000 := by
  unfold travR
  split
  · rename_i hz
    obtain ⟨hA, hall⟩ := codeL_zero hz
    obtain ⟨⟨a, rfl, ha⟩, ⟨b, rfl, hb⟩⟩ := all2 hall
    have := trav_bd hA ha hb
    split
    · exact this
    · simp
  · simp
end Go.Proofs.YtihmacmieofbgaaDoor
