/- Sets of days as lists of spans: what the merge of a sorted list holds, and that a set is one list; plain. -/
import Derived.Test.YteajkofgcmfaoaaGreatDoorTt
import Derived.Test.YteajkofgcmfaoaaGreatDoorOpen
import Derived.Test.YteajkofgcmfaoaaGreatDoorLi
namespace Go.Proofs.YteajkofgcmfaoaaGreatDoor
section
open Go.ChangeShapes Go.WideShapes Go.ChangeAt Go.RowKit

theorem own_at {α : Type} {enc : α → List Value} {k : Nat} (hk : ∀ x, (enc x).length = k) {w : World} {base : Nat} {E : TypeId} {g n cap : Nat} {xs : List α} (h : w.ownsRow base E k (.slice (some ⟨g, 0, none⟩) n cap) n (xs.flatMap enc))
    {i j : Nat} {x : α} {v : Value} (hx : xs[i]? = some x) (hv : (enc x)[j]? = some v) : w.cell? ⟨g, i * k + j, none⟩ = some v := by
  have h1 := flatMap_at enc k hk xs i x j v hx hv
  have h2 := (List.getElem?_eq_some_iff.1 h1).1
  rw [h.1] at h2
  exact (h.cellAt _ h2).trans h1
theorem own_putRow {α : Type} {enc : α → List Value} {k : Nat} (hk : ∀ x, (enc x).length = k) {w : World} {base : Nat} {E : TypeId} {g n cap : Nat} {pre post : List α} {x : α} (h : w.ownsRow base E k (.slice (some ⟨g, 0, none⟩) n cap) n ((pre ++ x :: post).flatMap enc)) {i : Nat} (hi : i = pre.length) (y : α) :
    (w.setCells g (i * k) (enc y)).ownsRow base E k (.slice (some ⟨g, 0, none⟩) n cap) n ((pre ++ y :: post).flatMap enc) ∧ w.grownBy (w.setCells g (i * k) (enc y)) (some g) := by
  have hp := length_flatMap_enc enc k hk pre
  have := own_setCells (enc y) (enc x) (pre.flatMap enc) (post.flatMap enc) w (by rw [hk, hk]) (by simpa using h)
  rw [hp, ← hi] at this
  refine ⟨?_, this.2⟩
  simpa using this.1
theorem own_putTo {w : World} {base : Nat} {E : TypeId} {g n cap : Nat} {pre post : List Sp} {x : Sp} (h : w.ownsRow base E 2 (.slice (some ⟨g, 0, none⟩) n cap) n ((pre ++ x :: post).flatMap encSp)) {i : Nat} (hi : i = pre.length) (v : Int) :
    (w.setCell ⟨g, i * 2 + 1, none⟩ (.int .i64 v)).ownsRow base E 2 (.slice (some ⟨g, 0, none⟩) n cap) n ((pre ++ (⟨x.fr, v⟩ : Sp) :: post).flatMap encSp) ∧ w.grownBy (w.setCell ⟨g, i * 2 + 1, none⟩ (.int .i64 v)) (some g) := by
  have hp := length_flatMap_enc encSp 2 encSp_len pre
  have h0 : w.ownsRow base E 2 (.slice (some ⟨g, 0, none⟩) n cap) n ((pre.flatMap encSp ++ [.int .i64 x.fr]) ++ .int .i64 x.to :: post.flatMap encSp) := by simpa [encSp] using h
  have := own_put h0 (i := i * 2 + 1) (by simp [hp, hi]) (.int .i64 v)
  refine ⟨?_, this.2⟩
  simpa [encSp] using this.1
end

section
def mergeStep (out : List Sp) (s : Sp) : List Sp := match out.getLast? with
  | some l => if s.fr ≤ l.to + 1 then out.dropLast ++ [⟨l.fr, max l.to s.to⟩] else out ++ [s]
  | none => [s]
theorem mergeStep_nil (s : Sp) : mergeStep [] s = [s] := rfl
theorem mergeStep_in {pre : List Sp} {l s : Sp} (h : s.fr ≤ l.to + 1) : mergeStep (pre ++ [l]) s = pre ++ [⟨l.fr, max l.to s.to⟩] := by
  unfold mergeStep
  simp only [List.getLast?_concat, List.dropLast_concat, if_pos h]
theorem mergeStep_out {pre : List Sp} {l s : Sp} (h : ¬ s.fr ≤ l.to + 1) : mergeStep (pre ++ [l]) s = pre ++ [l] ++ [s] := by
  unfold mergeStep
  simp only [List.getLast?_concat, if_neg h]
/-- Whole spans of days. -/
def OkSp (lo hi : Int) (s : Sp) : Prop := lo ≤ s.fr ∧ s.fr ≤ s.to ∧ s.to ≤ hi
def Sep (xs : List Sp) : Prop := xs.Pairwise fun a b => a.to + 1 < b.fr
theorem mergeStep_ok {lo hi : Int} {out : List Sp} {s : Sp} (ho : ∀ x ∈ out, OkSp lo hi x) (hs : OkSp lo hi s) : ∀ x ∈ mergeStep out s, OkSp lo hi x := by
  rcases List.eq_nil_or_concat out with rfl | ⟨pre, l, rfl⟩
  · simpa [mergeStep_nil] using hs
  · rw [List.concat_eq_append] at *
    have hl := ho l (by simp)
    by_cases h : s.fr ≤ l.to + 1
    · rw [mergeStep_in h]
      intro x hx
      rcases List.mem_append.1 hx with hx | hx
      · exact ho x (by simp [hx])
      · obtain rfl := List.mem_singleton.1 hx
        unfold OkSp at *
        simp only
        omega
    · rw [mergeStep_out h]
      intro x hx
      rcases List.mem_append.1 hx with hx | hx
      · exact ho x hx
      · obtain rfl := List.mem_singleton.1 hx
        exact hs
/-- What a round of the merge keeps. -/
structure MI (lo hi : Int) (out : List Sp) (b : Int) : Prop where
  ok : ∀ x ∈ out, OkSp lo hi x
  sep : Sep out
  up : ∀ x ∈ out, x.fr ≤ b
theorem MI.step {lo hi b : Int} {out : List Sp} {s : Sp} (h : MI lo hi out b) (hs : OkSp lo hi s) (hb : b ≤ s.fr) : MI lo hi (mergeStep out s) s.fr where
  ok := mergeStep_ok h.ok hs
  sep := by
    rcases List.eq_nil_or_concat out with rfl | ⟨pre, l, rfl⟩
    · simp [mergeStep_nil, Sep]
    · rw [List.concat_eq_append] at *
      have h2 := h.sep
      unfold Sep at h2
      rw [List.pairwise_append] at h2
      by_cases hc : s.fr ≤ l.to + 1
      · rw [mergeStep_in hc]
        unfold Sep
        rw [List.pairwise_append]
        refine ⟨h2.1, by simp, fun a ha c hcc => ?_⟩
        obtain rfl := List.mem_singleton.1 hcc
        exact h2.2.2 a ha l (by simp)
      · rw [mergeStep_out hc]
        unfold Sep
        rw [List.pairwise_append]
        refine ⟨h.sep, by simp, fun a ha c hcc => ?_⟩
        obtain rfl := List.mem_singleton.1 hcc
        rcases List.mem_append.1 ha with ha | ha
        · have := h2.2.2 a ha l (by simp)
          have := h.ok l (by simp)
          unfold OkSp at this
          omega
        · obtain rfl := List.mem_singleton.1 ha
          omega
  up := by
    rcases List.eq_nil_or_concat out with rfl | ⟨pre, l, rfl⟩
    · simp [mergeStep_nil]
    · rw [List.concat_eq_append] at *
      have hl := h.up l (by simp)
      by_cases hc : s.fr ≤ l.to + 1
      · rw [mergeStep_in hc]
        intro x hx
        rcases List.mem_append.1 hx with hx | hx
        · have := h.up x (by simp [hx]); omega
        · obtain rfl := List.mem_singleton.1 hx
          simp only; omega
      · rw [mergeStep_out hc]
        intro x hx
        rcases List.mem_append.1 hx with hx | hx
        · have := h.up x hx; omega
        · obtain rfl := List.mem_singleton.1 hx
          omega
/-! ### The reference's sort -/
/-! ### Common days, other days -/
end
end Go.Proofs.YteajkofgcmfaoaaGreatDoor
