/- What the law of witnesses wants: the days on which all could sign; plain. -/
import Derived.Test.YtdebmijlipkoeaaGreatDoorSigning
import Derived.Test.YtdebmijlipkoeaaGreatDoorAbsent
import Derived.Test.YtdebmijlipkoeaaGreatDoorSetH
namespace Go.Proofs.YtdebmijlipkoeaaGreatDoor

theorem person_span {ps : List Ps} {ts : List Tm} (h : isPeopleB ps ts = true) {m : Ps} (hm : m ∈ ps) : OkSp 0 730499 ⟨m.fr, m.to⟩ := by
  unfold isPeopleB at h
  simp only [Bool.and_eq_true] at h
  have := upGo_all h.1.1.1 m hm
  unfold okPs spanB at this
  simp only [Bool.and_eq_true, decide_eq_true_eq] at this
  have a := dayB_bd this.2.1.1
  have b := dayB_bd this.2.1.2
  exact ⟨a.1, this.2.2, b.2⟩
theorem witL_ok {ps : List Ps} {ts : List Tm} (h : isPeopleB ps ts = true) (m : Wt) : (∀ s ∈ witL ps ts m, OkSp 0 730499 s) ∧ Sep (witL ps ts m) := by
  unfold witL
  split
  · split
    · rename_i p hp
      refine ⟨fun s hs => ?_, List.pairwise_singleton _ _⟩
      obtain rfl := List.mem_singleton.1 hs
      exact person_span h (List.mem_of_getElem? hp)
    · exact ⟨fun s hs => (by cases hs), List.Pairwise.nil⟩
  · have := uni_facts (tsp_ok h (isOP m.office m.person))
    exact ⟨this.2.1, this.1⟩
theorem sg_facts {ps : List Ps} {ts : List Tm} (h : isPeopleB ps ts = true) : ∀ (l : List Wt) (out : List Sp), (∀ s ∈ out, OkSp 0 730499 s) → Sep out →
    (∀ s ∈ l.foldl (sgStep ps ts) out, OkSp 0 730499 s) ∧ Sep (l.foldl (sgStep ps ts) out) ∧ ∀ d, Hs (l.foldl (sgStep ps ts) out) d ↔ Hs out d ∧ ∀ m ∈ l, Hs (witL ps ts m) d
  | [], out, ho, hs => ⟨ho, hs, fun d => ⟨fun g => ⟨g, fun m hm => by cases hm⟩, fun g => g.1⟩⟩
  | m :: l, out, ho, hs => by
    have hw := witL_ok h m
    have ih := sg_facts h l (sgStep ps ts out m) (met_ok ho hw.1) (met_sep hs hw.2)
    refine ⟨ih.1, ih.2.1, fun d => ?_⟩
    rw [List.foldl_cons, ih.2.2 d]
    unfold sgStep
    rw [met_has hs hw.2 d]
    constructor
    · rintro ⟨⟨g1, g2⟩, g3⟩
      refine ⟨g1, fun x hx => ?_⟩
      rcases List.mem_cons.1 hx with rfl | hx
      · exact g2
      · exact g3 x hx
    · rintro ⟨g1, g2⟩
      exact ⟨⟨g1, g2 m (by simp)⟩, fun x hx => g2 x (by simp [hx])⟩
theorem all_days : (∀ s ∈ ([⟨0, 730499⟩] : List Sp), OkSp 0 730499 s) ∧ Sep [⟨0, 730499⟩] := by
  refine ⟨fun s hs => ?_, List.pairwise_singleton _ _⟩
  obtain rfl := List.mem_singleton.1 hs
  exact ⟨Int.le_refl _, by decide, Int.le_refl _⟩
theorem signL_facts {ps : List Ps} {ts : List Tm} (h : isPeopleB ps ts = true) (l : List Wt) : (∀ s ∈ signL ps ts l, OkSp 0 730499 s) ∧ Sep (signL ps ts l) ∧ ∀ d, Hs (signL ps ts l) d ↔ (0 ≤ d ∧ d ≤ 730499) ∧ ∀ m ∈ l, Hs (witL ps ts m) d := by
  have := sg_facts h l [⟨0, 730499⟩] all_days.1 all_days.2
  refine ⟨this.1, this.2.1, fun d => ?_⟩
  have g := this.2.2 d
  rw [Hs_one] at g
  exact g
theorem sg_len2 {ps : List Ps} {ts : List Tm} {c : Nat} (h : ∀ m, (witL ps ts m).length ≤ c) : ∀ (l : List Wt) (out : List Sp), (l.foldl (sgStep ps ts) out).length ≤ out.length + c * l.length
  | [], out => by simp
  | m :: l, out => by
    have h1 := sg_len2 h l (sgStep ps ts out m)
    have h2 := met_len out (witL ps ts m)
    have h3 := h m
    have e : c * (m :: l).length = c + c * l.length := by rw [List.length_cons, Nat.mul_add]; omega
    rw [List.foldl_cons, e]
    have h4 : (sgStep ps ts out m).length ≤ out.length + c := by unfold sgStep; omega
    omega
/-- A few terms and witnesses: the set is short. -/
theorem signL_short {ps : List Ps} {ts : List Tm} (h1 : ts.length ≤ 20) {l : List Wt} (h2 : l.length ≤ 12) : (signL ps ts l).length ≤ 300 := by
  have hw : ∀ m, (witL ps ts m).length ≤ 20 := by
    intro m
    have h1 := uni_len (tsp (isOP m.office m.person) ts)
    have h2 := tsp_len (isOP m.office m.person) ts
    unfold witL
    split
    · split <;> simp
    · omega
  have := sg_len2 hw l [⟨0, 730499⟩]
  unfold signL
  simp only [List.length_singleton] at this
  omega
theorem jxl_nil {p : Nat → Bool} : ∀ k, (jxl p k).length = 0 ↔ ∀ i, i < k → p i = false
  | 0 => by simp [jxl]
  | k + 1 => by
    have ih := jxl_nil (p := p) k
    cases hp : p k
    · rw [jxl_no hp, ih]
      constructor
      · intro h i hi
        by_cases e : i = k
        · subst e; exact hp
        · exact h i (by omega)
      · intro h i hi; exact h i (by omega)
    · rw [jxl_yes hp]
      constructor
      · intro h; simp at h
      · intro h; have := h k (by omega); rw [hp] at this; cases this
/-- A day is among the signing days if nobody is absent. -/
theorem sign_absent {ps : List Ps} {ts : List Tm} (h : isPeopleB ps ts = true) (l : List Wt) {n : Int} (hn : dayB n = true) : hasB (signL ps ts l) n = decide ((jxl (pA ps ts l n) l.length).length = 0) := by
  rw [Bool.eq_iff_iff, hasB_iff, (signL_facts h l).2.2 n, decide_eq_true_eq, jxl_nil]
  constructor
  · rintro ⟨_, hm⟩ i hi
    have hg := List.getElem?_eq_getElem hi
    rw [pA_at hg, hasB_iff.2 (hm _ (List.getElem_mem hi))]
    rfl
  · intro hp
    refine ⟨dayB_bd hn, fun m hm => ?_⟩
    obtain ⟨i, hi, rfl⟩ := List.getElem_of_mem hm
    have := hp i hi
    rw [pA_at (List.getElem?_eq_getElem hi)] at this
    simpa [hasB_iff] using this
/-- The days of one witness and those of all: these are those of all. -/
theorem sign_one {ps : List Ps} {ts : List Tm} (h : isPeopleB ps ts = true) {l : List Wt} {m : Wt} (hm : m ∈ l) : met (signL ps ts [m]) (signL ps ts l) = signL ps ts l := by
  have h1 := signL_facts h [m]
  have h2 := signL_facts h l
  refine sep_one (met_sep h1.2.1 h2.2.1) h2.2.1 (met_ok h1.1 h2.1) h2.1 fun d => ?_
  rw [met_has h1.2.1 h2.2.1 d, h1.2.2 d, h2.2.2 d]
  constructor
  · exact fun g => g.2
  · rintro ⟨g1, g2⟩
    refine ⟨⟨g1, fun x hx => ?_⟩, g1, g2⟩
    obtain rfl := List.mem_singleton.1 hx
    exact g2 _ hm
end Go.Proofs.YtdebmijlipkoeaaGreatDoor
