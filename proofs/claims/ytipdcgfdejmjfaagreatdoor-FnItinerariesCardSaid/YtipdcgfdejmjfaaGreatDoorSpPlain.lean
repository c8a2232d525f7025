/- Sets of days as lists of spans: what the merge of a sorted list holds, and that a set is one list; plain. -/
import Derived.Test.YtipdcgfdejmjfaaGreatDoorTSp
namespace Go.Proofs.YtipdcgfdejmjfaaGreatDoor

def hasB (xs : List Sp) (d : Int) : Bool := xs.any fun s => inB d s.fr s.to
def Hs (xs : List Sp) (d : Int) : Prop := ∃ s ∈ xs, s.fr ≤ d ∧ d ≤ s.to
theorem hasB_iff {xs : List Sp} {d : Int} : hasB xs d = true ↔ Hs xs d := by
  unfold hasB Hs inB
  simp only [List.any_eq_true, Bool.and_eq_true, decide_eq_true_eq]
theorem hasB_eq {xs ys : List Sp} {d : Int} (h : Hs xs d ↔ Hs ys d) : hasB xs d = hasB ys d := by
  rw [Bool.eq_iff_iff, hasB_iff, hasB_iff]; exact h

def mergeStep (out : List Sp) (s : Sp) : List Sp := match out.getLast? with
  | some l => if s.fr ≤ l.to + 1 then out.dropLast ++ [⟨l.fr, max l.to s.to⟩] else out ++ [s]
  | none => [s]
def mergeL (xs : List Sp) : List Sp := xs.foldl mergeStep []
theorem mergeStep_nil (s : Sp) : mergeStep [] s = [s] := rfl
theorem mergeStep_in {pre : List Sp} {l s : Sp} (h : s.fr ≤ l.to + 1) : mergeStep (pre ++ [l]) s = pre ++ [⟨l.fr, max l.to s.to⟩] := by
  unfold mergeStep
  simp only [List.getLast?_concat, List.dropLast_concat, if_pos h]
theorem mergeStep_out {pre : List Sp} {l s : Sp} (h : ¬ s.fr ≤ l.to + 1) : mergeStep (pre ++ [l]) s = pre ++ [l] ++ [s] := by
  unfold mergeStep
  simp only [List.getLast?_concat, if_neg h]
theorem mergeStep_len (out : List Sp) (s : Sp) : (mergeStep out s).length ≤ out.length + 1 := by
  rcases List.eq_nil_or_concat out with rfl | ⟨pre, l, rfl⟩
  · simp [mergeStep]
  · rw [List.concat_eq_append]
    by_cases h : s.fr ≤ l.to + 1
    · rw [mergeStep_in h]; simp
    · rw [mergeStep_out h]; simp
theorem mergeL_len : ∀ (xs : List Sp) (out : List Sp), (xs.foldl mergeStep out).length ≤ out.length + xs.length
  | [], out => Nat.le_refl _
  | x :: xs, out => by
    have h1 := mergeL_len xs (mergeStep out x)
    have h2 := mergeStep_len out x
    simp only [List.foldl_cons, List.length_cons]
    omega
/-- Whole spans of days. -/
def OkSp (lo hi : Int) (s : Sp) : Prop := lo ≤ s.fr ∧ s.fr ≤ s.to ∧ s.to ≤ hi
def Sep (xs : List Sp) : Prop := xs.Pairwise fun a b => a.to + 1 < b.fr
theorem mergeStep_ok {lo hi : Int} {out : List Sp} {s : Sp} (ho : ∀ x ∈ out, OkSp lo hi x) (hs : OkSp lo hi s) : ∀ x ∈ mergeStep out s, OkSp lo hi x := by
  rcases List.eq_nil_or_concat out with rfl | ⟨pre, l, rfl⟩
  · simpa [mergeStep_nil] using hs
  · rw [List.concat_eq_append] at *
    have hl := ho l (by simp)
    by_cases h : s.fr ≤ l.to + 1
    · rw [mergeStep_in h]
      intro x hx
      rcases List.mem_append.1 hx with hx | hx
      · exact ho x (by simp [hx])
      · obtain rfl := List.mem_singleton.1 hx
        unfold OkSp at *
        simp only
        omega
    · rw [mergeStep_out h]
      intro x hx
      rcases List.mem_append.1 hx with hx | hx
      · exact ho x hx
      · obtain rfl := List.mem_singleton.1 hx
        exact hs
theorem mergeFold_ok {lo hi : Int} : ∀ (xs out : List Sp), (∀ x ∈ out, OkSp lo hi x) → (∀ x ∈ xs, OkSp lo hi x) → ∀ x ∈ xs.foldl mergeStep out, OkSp lo hi x
  | [], _, ho, _ => ho
  | y :: ys, out, ho, hx => mergeFold_ok ys _ (mergeStep_ok ho (hx y (by simp))) (fun x h => hx x (by simp [h]))
theorem Hs_append {xs ys : List Sp} {d : Int} : Hs (xs ++ ys) d ↔ Hs xs d ∨ Hs ys d := by
  unfold Hs
  simp only [List.mem_append, or_and_right, exists_or]
theorem Hs_one {s : Sp} {d : Int} : Hs [s] d ↔ s.fr ≤ d ∧ d ≤ s.to := by
  unfold Hs; simp
theorem mergeStep_has {lo hi : Int} {out : List Sp} {s : Sp} (ho : ∀ x ∈ out, OkSp lo hi x) (hup : ∀ l, out.getLast? = some l → l.fr ≤ s.fr) (d : Int) : Hs (mergeStep out s) d ↔ Hs (out ++ [s]) d := by
  rcases List.eq_nil_or_concat out with rfl | ⟨pre, l, rfl⟩
  · simp [mergeStep_nil]
  · rw [List.concat_eq_append] at *
    have hl := ho l (by simp)
    have hls := hup l (by simp)
    by_cases h : s.fr ≤ l.to + 1
    · rw [mergeStep_in h, Hs_append, Hs_append, Hs_append, Hs_one, Hs_one, Hs_one]
      unfold OkSp at *
      by_cases hq : Hs pre d
      · simp only [hq, true_or]
      · simp only [hq, false_or]
        omega
    · rw [mergeStep_out h]
/-- What a round of the merge keeps. -/
structure MI (lo hi : Int) (out : List Sp) (b : Int) : Prop where
  ok : ∀ x ∈ out, OkSp lo hi x
  sep : Sep out
  up : ∀ x ∈ out, x.fr ≤ b
theorem MI.step {lo hi b : Int} {out : List Sp} {s : Sp} (h : MI lo hi out b) (hs : OkSp lo hi s) (hb : b ≤ s.fr) : MI lo hi (mergeStep out s) s.fr where
  ok := mergeStep_ok h.ok hs
  sep := by
    rcases List.eq_nil_or_concat out with rfl | ⟨pre, l, rfl⟩
    · simp [mergeStep_nil, Sep]
    · rw [List.concat_eq_append] at *
      have h2 := h.sep
      unfold Sep at h2
      rw [List.pairwise_append] at h2
      by_cases hc : s.fr ≤ l.to + 1
      · rw [mergeStep_in hc]
        unfold Sep
        rw [List.pairwise_append]
        refine ⟨h2.1, by simp, fun a ha c hcc => ?_⟩
        obtain rfl := List.mem_singleton.1 hcc
        exact h2.2.2 a ha l (by simp)
      · rw [mergeStep_out hc]
        unfold Sep
        rw [List.pairwise_append]
        refine ⟨h.sep, by simp, fun a ha c hcc => ?_⟩
        obtain rfl := List.mem_singleton.1 hcc
        rcases List.mem_append.1 ha with ha | ha
        · have := h2.2.2 a ha l (by simp)
          have := h.ok l (by simp)
          unfold OkSp at this
          omega
        · obtain rfl := List.mem_singleton.1 ha
          omega
  up := by
    rcases List.eq_nil_or_concat out with rfl | ⟨pre, l, rfl⟩
    · simp [mergeStep_nil]
    · rw [List.concat_eq_append] at *
      have hl := h.up l (by simp)
      by_cases hc : s.fr ≤ l.to + 1
      · rw [mergeStep_in hc]
        intro x hx
        rcases List.mem_append.1 hx with hx | hx
        · have := h.up x (by simp [hx]); omega
        · obtain rfl := List.mem_singleton.1 hx
          simp only; omega
      · rw [mergeStep_out hc]
        intro x hx
        rcases List.mem_append.1 hx with hx | hx
        · have := h.up x hx; omega
        · obtain rfl := List.mem_singleton.1 hx
          omega
theorem merge_fold {lo hi : Int} : ∀ (xs out : List Sp) (b : Int), MI lo hi out b → (∀ x ∈ xs, OkSp lo hi x ∧ b ≤ x.fr) → xs.Pairwise (fun a c => a.fr ≤ c.fr) →
    Sep (xs.foldl mergeStep out) ∧ (∀ x ∈ xs.foldl mergeStep out, OkSp lo hi x) ∧ ∀ d, Hs (xs.foldl mergeStep out) d ↔ Hs out d ∨ Hs xs d
  | [], out, b, h, _, _ => ⟨h.sep, h.ok, fun d => by unfold Hs; simp⟩
  | y :: ys, out, b, h, hx, hp => by
    have hy := hx y (by simp)
    have hp' := List.pairwise_cons.1 hp
    have h1 := h.step hy.1 hy.2
    obtain ⟨r1, r2, r3⟩ := merge_fold ys (mergeStep out y) y.fr h1 (fun x hm => ⟨(hx x (by simp [hm])).1, hp'.1 x hm⟩) hp'.2
    refine ⟨r1, r2, fun d => ?_⟩
    rw [List.foldl_cons, r3, mergeStep_has h.ok (fun l hl => by have := h.up l (List.mem_of_getLast? hl); omega), Hs_append]
    have : Hs (y :: ys) d ↔ Hs [y] d ∨ Hs ys d := by rw [← Hs_append]; rfl
    rw [this]
    constructor
    · rintro ((h | h) | h)
      · exact .inl h
      · exact .inr (.inl h)
      · exact .inr (.inr h)
    · rintro (h | h | h)
      · exact .inl (.inl h)
      · exact .inl (.inr h)
      · exact .inr h
theorem mergeL_facts {lo hi : Int} {xs : List Sp} (hx : ∀ x ∈ xs, OkSp lo hi x) (hp : xs.Pairwise (fun a c => a.fr ≤ c.fr)) : Sep (mergeL xs) ∧ (∀ x ∈ mergeL xs, OkSp lo hi x) ∧ ∀ d, Hs (mergeL xs) d ↔ Hs xs d := by
  obtain ⟨r1, r2, r3⟩ := merge_fold xs [] lo ⟨by simp, by simp [Sep], by simp⟩ (fun x h => ⟨hx x h, (hx x h).1⟩) hp
  refine ⟨r1, r2, fun d => ?_⟩
  have := r3 d
  unfold mergeL
  rw [this]
  unfold Hs
  simp
theorem sep_one : ∀ {lo hi lo' hi' : Int} {xs ys : List Sp}, Sep xs → Sep ys → (∀ x ∈ xs, OkSp lo hi x) → (∀ x ∈ ys, OkSp lo' hi' x) → (∀ d, Hs xs d ↔ Hs ys d) → xs = ys
  | _, _, _, _, [], [], _, _, _, _, _ => rfl
  | _, _, _, _, [], y :: ys, _, _, _, oy, h => by
    have h1 := oy y (by simp)
    obtain ⟨s, hs, _⟩ := (h y.fr).2 ⟨y, by simp, Int.le_refl _, h1.2.1⟩
    cases hs
  | _, _, _, _, x :: xs, [], _, _, ox, _, h => by
    have h1 := ox x (by simp)
    obtain ⟨s, hs, _⟩ := (h x.fr).1 ⟨x, by simp, Int.le_refl _, h1.2.1⟩
    cases hs
  | lo, hi, lo', hi', x :: xs, y :: ys, sx, sy, ox, oy, h => by
    have hx := ox x (by simp)
    have hy := oy y (by simp)
    unfold OkSp at hx hy
    have px := List.pairwise_cons.1 sx
    have py := List.pairwise_cons.1 sy
    have lx : ∀ d, Hs (x :: xs) d → x.fr ≤ d ∧ (d ≤ x.to ∨ x.to + 1 < d) := by
      rintro d ⟨s, hs, h1, h2⟩
      rcases List.mem_cons.1 hs with rfl | hs
      · exact ⟨h1, .inl h2⟩
      · have := px.1 s hs; omega
    have ly : ∀ d, Hs (y :: ys) d → y.fr ≤ d ∧ (d ≤ y.to ∨ y.to + 1 < d) := by
      rintro d ⟨s, hs, h1, h2⟩
      rcases List.mem_cons.1 hs with rfl | hs
      · exact ⟨h1, .inl h2⟩
      · have := py.1 s hs; omega
    have inx : ∀ d, x.fr ≤ d → d ≤ x.to → Hs (x :: xs) d := fun d h1 h2 => ⟨x, by simp, h1, h2⟩
    have iny : ∀ d, y.fr ≤ d → d ≤ y.to → Hs (y :: ys) d := fun d h1 h2 => ⟨y, by simp, h1, h2⟩
    have a1 := (lx y.fr ((h _).2 (iny _ (Int.le_refl _) hy.2.1))).1
    have a2 := (ly x.fr ((h _).1 (inx _ (Int.le_refl _) hx.2.1))).1
    have e1 : x.fr = y.fr := by omega
    have e2 : x.to = y.to := by
      rcases Int.lt_trichotomy x.to y.to with hl | he | hg
      · have := lx (x.to + 1) ((h _).2 (iny _ (by omega) (by omega)))
        omega
      · exact he
      · have := ly (y.to + 1) ((h _).1 (inx _ (by omega) (by omega)))
        omega
    have e : x = y := by cases x; cases y; simp only at e1 e2; subst e1 e2; rfl
    subst e
    congr 1
    refine sep_one px.2 py.2 (fun s hs => ox s (by simp [hs])) (fun s hs => oy s (by simp [hs])) (fun d => ?_)
    constructor
    · rintro ⟨s, hs, h1, h2⟩
      obtain ⟨t, ht, g1, g2⟩ := (h d).1 ⟨s, by simp [hs], h1, h2⟩
      rcases List.mem_cons.1 ht with rfl | ht
      · have := px.1 s hs; omega
      · exact ⟨t, ht, g1, g2⟩
    · rintro ⟨s, hs, h1, h2⟩
      obtain ⟨t, ht, g1, g2⟩ := (h d).2 ⟨s, by simp [hs], h1, h2⟩
      rcases List.mem_cons.1 ht with rfl | ht
      · have := py.1 s hs; omega
      · exact ⟨t, ht, g1, g2⟩

/-! ### The reference's sort -/
def pos (s : Sp) : List Sp → Nat
  | [] => 0
  | y :: ys => if y.fr ≤ s.fr then pos s ys + 1 else 0
theorem pos_len (s : Sp) : ∀ ys, pos s ys ≤ ys.length
  | [] => Nat.le_refl _
  | y :: ys => by
    have := pos_len s ys
    unfold pos
    split
    · simp; exact this
    · omega
theorem pos_go {s y : Sp} : ∀ {ys : List Sp} {i : Nat}, i ≤ pos s ys → ys[i]? = some y → y.fr ≤ s.fr → i + 1 ≤ pos s ys
  | [], _, _, h, _ => by cases h
  | z :: ys, 0, _, h, hy => by
    obtain rfl : z = y := by simpa using h
    unfold pos; rw [if_pos hy]; omega
  | z :: ys, i + 1, hp, h, hy => by
    unfold pos at hp ⊢
    split at hp
    · rename_i hz
      rw [if_pos hz]
      have := pos_go (ys := ys) (i := i) (by omega) (by simpa using h) hy
      omega
    · omega
theorem pos_stop {s y : Sp} : ∀ {ys : List Sp} {i : Nat}, i ≤ pos s ys → ys[i]? = some y → ¬ y.fr ≤ s.fr → i = pos s ys
  | [], _, _, h, _ => by cases h
  | z :: ys, 0, _, h, hy => by
    obtain rfl : z = y := by simpa using h
    unfold pos; rw [if_neg hy]
  | z :: ys, i + 1, hp, h, hy => by
    unfold pos at hp ⊢
    split at hp
    · rename_i hz
      rw [if_pos hz]
      have := pos_stop (ys := ys) (i := i) (by omega) (by simpa using h) hy
      omega
    · omega
def insS (ys : List Sp) (s : Sp) : List Sp := ys.take (pos s ys) ++ s :: ys.drop (pos s ys)
def isort (xs : List Sp) : List Sp := xs.foldl insS []
def uni (xs : List Sp) : List Sp := mergeL (isort xs)
theorem insS_perm (ys : List Sp) (s : Sp) : (insS ys s).Perm (s :: ys) := by
  unfold insS
  refine List.perm_middle.trans ?_
  rw [List.take_append_drop]
theorem insS_len (ys : List Sp) (s : Sp) : (insS ys s).length = ys.length + 1 := by
  have := (insS_perm ys s).length_eq; simpa using this
theorem pos_low {s : Sp} : ∀ {ys : List Sp}, ∀ x ∈ ys.take (pos s ys), x.fr ≤ s.fr
  | [], x, h => by simp [pos] at h
  | y :: ys, x, h => by
    unfold pos at h
    split at h
    · rename_i hy
      rw [List.take_succ_cons] at h
      rcases List.mem_cons.1 h with rfl | h
      · exact hy
      · exact pos_low x h
    · simp at h
theorem pos_high {s : Sp} : ∀ {ys : List Sp}, ys.Pairwise (fun a c => a.fr ≤ c.fr) → ∀ x ∈ ys.drop (pos s ys), s.fr ≤ x.fr
  | [], _, x, h => by simp [pos] at h
  | y :: ys, hp, x, h => by
    have hp' := List.pairwise_cons.1 hp
    unfold pos at h
    split at h
    · rw [List.drop_succ_cons] at h
      exact pos_high hp'.2 x h
    · rename_i hy
      rw [List.drop_zero] at h
      rcases List.mem_cons.1 h with rfl | h
      · omega
      · have := hp'.1 x h; omega
theorem insS_up {ys : List Sp} (hp : ys.Pairwise (fun a c => a.fr ≤ c.fr)) (s : Sp) : (insS ys s).Pairwise (fun a c => a.fr ≤ c.fr) := by
  unfold insS
  rw [List.pairwise_append]
  refine ⟨hp.sublist (List.take_sublist _ _), List.pairwise_cons.2 ⟨pos_high hp, hp.sublist (List.drop_sublist _ _)⟩, fun a ha c hc => ?_⟩
  have h1 := pos_low a ha
  rcases List.mem_cons.1 hc with rfl | hc
  · exact h1
  · have := pos_high hp c hc; omega
theorem isort_facts : ∀ (xs out : List Sp), out.Pairwise (fun a c => a.fr ≤ c.fr) → (xs.foldl insS out).Pairwise (fun a c => a.fr ≤ c.fr) ∧ (xs.foldl insS out).Perm (out ++ xs)
  | [], out, h => ⟨h, by simp⟩
  | x :: xs, out, h => by
    obtain ⟨h1, h2⟩ := isort_facts xs (insS out x) (insS_up h x)
    refine ⟨h1, h2.trans ?_⟩
    refine ((insS_perm out x).append_right xs).trans ?_
    simpa using (List.perm_middle (a := x) (l₁ := out) (l₂ := xs)).symm
theorem isort_perm (xs : List Sp) : (isort xs).Perm xs := by simpa [isort] using (isort_facts xs [] .nil).2
theorem isort_up (xs : List Sp) : (isort xs).Pairwise (fun a c => a.fr ≤ c.fr) := (isort_facts xs [] .nil).1
theorem isort_len (xs : List Sp) : (isort xs).length = xs.length := (isort_perm xs).length_eq
theorem Hs_perm {xs ys : List Sp} (h : xs.Perm ys) (d : Int) : Hs xs d ↔ Hs ys d := by
  unfold Hs
  constructor
  · rintro ⟨s, hs, r⟩; exact ⟨s, h.mem_iff.1 hs, r⟩
  · rintro ⟨s, hs, r⟩; exact ⟨s, h.mem_iff.2 hs, r⟩
theorem uni_facts {lo hi : Int} {xs : List Sp} (hx : ∀ x ∈ xs, OkSp lo hi x) : Sep (uni xs) ∧ (∀ x ∈ uni xs, OkSp lo hi x) ∧ ∀ d, Hs (uni xs) d ↔ Hs xs d := by
  obtain ⟨h1, h2, h3⟩ := mergeL_facts (xs := isort xs) (fun x h => hx x ((isort_perm xs).mem_iff.1 h)) (isort_up xs)
  exact ⟨h1, h2, fun d => (h3 d).trans (Hs_perm (isort_perm xs) d)⟩
/-- Any sort gives the same set. -/
theorem uni_of_sorted {lo hi : Int} {xs ys : List Sp} (hx : ∀ x ∈ xs, OkSp lo hi x) (hp : ys.Perm xs) (hup : ys.Pairwise (fun a c => a.fr ≤ c.fr)) : mergeL ys = uni xs := by
  obtain ⟨h1, h2, h3⟩ := mergeL_facts (xs := ys) (fun x h => hx x (hp.mem_iff.1 h)) hup
  obtain ⟨g1, g2, g3⟩ := uni_facts hx
  exact sep_one h1 g1 h2 g2 (fun d => (h3 d).trans ((Hs_perm hp d).trans (g3 d).symm))
theorem uni_len (xs : List Sp) : (uni xs).length ≤ xs.length := by
  have := mergeL_len (isort xs) []
  rw [isort_len] at this
  simpa [uni, mergeL] using this
theorem hasB_uni {lo hi : Int} {xs : List Sp} (hx : ∀ x ∈ xs, OkSp lo hi x) (d : Int) : hasB (uni xs) d = hasB xs d := hasB_eq ((uni_facts hx).2.2 d)

/-! ### Common days, other days -/
def met : List Sp → List Sp → List Sp
  | [], _ => []
  | _ :: _, [] => []
  | a :: as', b :: bs => (if max a.fr b.fr ≤ min a.to b.to then [⟨max a.fr b.fr, min a.to b.to⟩] else []) ++ (if a.to < b.to then met as' (b :: bs) else met (a :: as') bs)
termination_by xs ys => xs.length + ys.length
theorem met_end {xs ys : List Sp} (h : xs = [] ∨ ys = []) : met xs ys = [] := by
  rcases h with rfl | rfl
  · unfold met; rfl
  · cases xs <;> (unfold met; rfl)
theorem met_cons (a b : Sp) (as' bs : List Sp) : met (a :: as') (b :: bs) = (if max a.fr b.fr ≤ min a.to b.to then [⟨max a.fr b.fr, min a.to b.to⟩] else []) ++ (if a.to < b.to then met as' (b :: bs) else met (a :: as') bs) := by
  rw [met]
theorem met_len : ∀ (xs ys : List Sp), (met xs ys).length ≤ xs.length + ys.length
  | [], ys => by rw [met_end (.inl rfl)]; simp
  | x :: xs, [] => by rw [met_end (.inr rfl)]; simp
  | a :: as', b :: bs => by
    rw [met_cons]
    have h1 := met_len as' (b :: bs)
    have h2 := met_len (a :: as') bs
    simp only [List.length_cons] at h1 h2 ⊢
    rw [List.length_append]
    split <;> split <;> simp <;> omega
termination_by xs ys => xs.length + ys.length
theorem met_ok {lo hi lo' hi' : Int} : ∀ {xs ys : List Sp}, (∀ x ∈ xs, OkSp lo hi x) → (∀ x ∈ ys, OkSp lo' hi' x) → ∀ x ∈ met xs ys, OkSp lo hi x
  | [], ys, _, _ => by rw [met_end (.inl rfl)]; simp
  | x :: xs, [], _, _ => by rw [met_end (.inr rfl)]; simp
  | a :: as', b :: bs, ha, hb => by
    rw [met_cons]
    intro x hx
    rcases List.mem_append.1 hx with hx | hx
    · split at hx
      · obtain rfl := List.mem_singleton.1 hx
        have h1 := ha a (by simp)
        have h2 := hb b (by simp)
        unfold OkSp at *
        simp only
        omega
      · cases hx
    · split at hx
      · exact met_ok (fun x h => ha x (by simp [h])) hb x hx
      · exact met_ok ha (fun x h => hb x (by simp [h])) x hx
termination_by xs ys => xs.length + ys.length
def othGo : Int → List Sp → List Sp
  | at', [] => if at' ≤ 730499 then [⟨at', 730499⟩] else []
  | at', s :: ss => (if at' < s.fr then [⟨at', s.fr - 1⟩] else []) ++ othGo (s.to + 1) ss
theorem othGo_len : ∀ (xs : List Sp) (z : Int), (othGo z xs).length ≤ xs.length + 1
  | [], z => by unfold othGo; split <;> simp
  | x :: xs, z => by
    have := othGo_len xs (x.to + 1)
    unfold othGo
    rw [List.length_append]
    split <;> simp <;> omega
theorem othGo_ok : ∀ {xs : List Sp} {z : Int}, 0 ≤ z → (∀ x ∈ xs, OkSp 0 730499 x) → ∀ x ∈ othGo z xs, OkSp 0 730499 x
  | [], z, hz, _, x, hx => by
    unfold othGo at hx
    split at hx
    · obtain rfl := List.mem_singleton.1 hx
      unfold OkSp; simp only; omega
    · cases hx
  | y :: ys, z, hz, ho, x, hx => by
    unfold othGo at hx
    have hy := ho y (by simp)
    rcases List.mem_append.1 hx with hx | hx
    · split at hx
      · obtain rfl := List.mem_singleton.1 hx
        unfold OkSp at *; simp only; omega
      · cases hx
    · exact othGo_ok (by unfold OkSp at hy; omega) (fun x h => ho x (by simp [h])) x hx
end Go.Proofs.YtipdcgfdejmjfaaGreatDoor
