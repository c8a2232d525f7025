/- What the law of people wants: holders live, vacant days have no holder, shared days have one; plain. -/
import Derived.Test.YtmjbigeeokofeaaGreatDoorLiving
import Derived.Test.YtmjbigeeokofeaaGreatDoorHolders
import Derived.Test.YtmjbigeeokofeaaGreatDoorVacant
import Derived.Test.YtmjbigeeokofeaaGreatDoorShared
import Derived.Test.YtmjbigeeokofeaaGreatDoorSetH
namespace Go.Proofs.YtmjbigeeokofeaaGreatDoor

theorem dayB_of {n : Int} (h1 : n ≤ 730499) (h0 : 0 ≤ n) : dayB n = true := by simp [dayB, inB]; omega
theorem u8_tri (a b : UInt8) : a < b ∨ a = b ∨ b < a := by
  rcases Nat.lt_trichotomy a.toNat b.toNat with h | h | h
  · exact .inl (UInt8.lt_iff_toNat_lt.2 h)
  · exact .inr (.inl (UInt8.toNat_inj.1 h))
  · exact .inr (.inr (UInt8.lt_iff_toNat_lt.2 h))
theorem bl_cons (a b : UInt8) (x y : List UInt8) : Op.bytesLess (a :: x) (b :: y) = true ↔ a < b ∨ (a = b ∧ Op.bytesLess x y = true) := by
  simp only [Op.bytesLess]
  rcases u8_tri a b with h | h | h
  · simp [h]
  · subst h; simp
  · have h2 : ¬ a < b := UInt8.lt_asymm h
    have h3 : a ≠ b := fun e => by subst e; exact h2 h
    simp [h2, h3]
theorem bl_trans : ∀ x y z : List UInt8, Op.bytesLess x y = true → Op.bytesLess y z = true → Op.bytesLess x z = true
  | [], [], _, h, _ => by simp [Op.bytesLess] at h
  | [], _ :: _, [], _, h => by simp [Op.bytesLess] at h
  | [], _ :: _, _ :: _, _, _ => by simp [Op.bytesLess]
  | _ :: _, [], _, h, _ => by simp [Op.bytesLess] at h
  | _ :: _, _ :: _, [], _, h => by simp [Op.bytesLess] at h
  | a :: x, b :: y, c :: z, h1, h2 => by
    rw [bl_cons] at h1 h2 ⊢
    rcases h1 with h1 | ⟨rfl, h1⟩
    · rcases h2 with h2 | ⟨rfl, h2⟩
      · exact .inl (UInt8.lt_trans h1 h2)
      · exact .inl h1
    · rcases h2 with h2 | ⟨rfl, h2⟩
      · exact .inl h2
      · exact .inr ⟨rfl, bl_trans x y z h1 h2⟩
theorem upGo_sort {α : Type} {ok : α → Bool} {lt : α → α → Bool} (ht : ∀ a b c, lt a b = true → lt b c = true → lt a c = true) : ∀ {xs : List α} {p : Option α}, upGo ok lt p xs = true → xs.Pairwise (fun a b => lt a b = true) ∧ ∀ q, p = some q → ∀ x ∈ xs, lt q x = true
  | [], _, _ => ⟨List.Pairwise.nil, fun _ _ x hx => by cases hx⟩
  | y :: ys, p, h => by
    have h' : (∀ q, p = some q → lt q y = true) ∧ upGo ok lt (some y) ys = true := by
      cases p <;> simp [upGo] at h <;> simp [h]
    have ih := upGo_sort ht h'.2
    refine ⟨List.pairwise_cons.2 ⟨ih.2 y rfl, ih.1⟩, fun q hq x hx => ?_⟩
    rcases List.mem_cons.1 hx with rfl | hx
    · exact h'.1 q hq
    · exact ht _ _ _ (h'.1 q hq) (ih.2 y rfl x hx)
theorem jxl_iff {p : Nat → Bool} {x : Int} : ∀ {k : Nat}, x ∈ jxl p k ↔ ∃ v : Nat, x = v ∧ v < k ∧ p v = true
  | 0 => by simp [jxl]
  | k + 1 => by
    have ih := jxl_iff (p := p) (x := x) (k := k)
    cases hp : p k
    · rw [jxl_no hp, ih]
      constructor
      · rintro ⟨v, h1, h2, h3⟩; exact ⟨v, h1, by omega, h3⟩
      · rintro ⟨v, h1, h2, h3⟩
        refine ⟨v, h1, ?_, h3⟩
        by_cases e : v = k
        · subst e; rw [hp] at h3; cases h3
        · omega
    · rw [jxl_yes hp, List.mem_append, ih, List.mem_singleton]
      constructor
      · rintro (⟨v, h1, h2, h3⟩ | rfl)
        · exact ⟨v, h1, by omega, h3⟩
        · exact ⟨k, rfl, by omega, hp⟩
      · rintro ⟨v, rfl, h2, h3⟩
        by_cases e : v = k
        · subst e; exact .inr rfl
        · exact .inl ⟨v, rfl, by omega, h3⟩
/-- A name that stands once is found where it stands. -/
theorem personIx_at {ps : List Ps} {ts : List Tm} (h : isPeopleB ps ts = true) {i : Nat} {m : Ps} (hm : ps[i]? = some m) {s : ByteArray} (hs : m.name.toList = s.toList) : personIx ps s = (i : Nat) := by
  unfold isPeopleB at h
  simp only [Bool.and_eq_true] at h
  have hp := (upGo_sort (lt := ltPs) (fun a b c h1 h2 => bl_trans _ _ _ h1 h2) h.1.1.1).1
  rcases fidx_bd (isNm s) ps 0 with e | ⟨k, x, e, hk, hx, hxs⟩
  · have h1 := fidx_any (isNm s) ps
    rw [e] at h1
    have : ps.any (isNm s) = true := List.any_eq_true.2 ⟨m, List.mem_of_getElem? hm, by unfold isNm; rw [hs]; simp⟩
    rw [this] at h1
    simp at h1
  · unfold personIx
    rw [e, Nat.zero_add]
    unfold isNm at hxs
    have hxs : x.name.toList = s.toList := by simpa using hxs
    obtain ⟨l1, e1⟩ := List.getElem?_eq_some_iff.1 hm
    obtain ⟨l2, e2⟩ := List.getElem?_eq_some_iff.1 hx
    have key : ∀ (a b : Nat) (ha : a < ps.length) (hb : b < ps.length), a < b → ps[a].name.toList = s.toList → ps[b].name.toList = s.toList → False := by
      intro a b ha hb hab h1 h2
      have := List.pairwise_iff_getElem.1 hp a b ha hb hab
      unfold ltPs at this
      rw [h1, h2, bl_irrefl] at this
      cases this
    rcases Nat.lt_trichotomy i k with hlt | heq | hlt
    · exact (key i k l1 l2 hlt (by rw [e1]; exact hs) (by rw [e2]; exact hxs)).elim
    · rw [heq]
    · exact (key k i l2 l1 hlt (by rw [e2]; exact hxs) (by rw [e1]; exact hs)).elim
theorem tsp_has {p : Tm → Bool} {ts : List Tm} {d : Int} : Hs (tsp p ts) d ↔ ∃ t ∈ ts, p t = true ∧ t.fr ≤ d ∧ d ≤ t.to := by
  unfold tsp Hs
  constructor
  · rintro ⟨s, hs, h⟩
    obtain ⟨t, ht, rfl⟩ := List.mem_map.1 hs
    have := List.mem_filter.1 ht
    exact ⟨t, this.1, this.2, h⟩
  · rintro ⟨t, ht, hp, h⟩
    exact ⟨⟨t.fr, t.to⟩, List.mem_map.2 ⟨t, List.mem_filter.2 ⟨ht, hp⟩, rfl⟩, h⟩
/-- The person of a term. -/
theorem term_person {ps : List Ps} {ts : List Tm} (h : isPeopleB ps ts = true) {t : Tm} (ht : t ∈ ts) : ∃ k x, k < ps.length ∧ ps[k]? = some x ∧ x.name.toList = t.person.toList ∧ x.fr ≤ t.fr ∧ t.to ≤ x.to := by
  have h0 := h
  unfold isPeopleB at h
  simp only [Bool.and_eq_true, List.all_eq_true] at h
  have h1 := h.1.1.2 t ht
  by_cases hz : personIx ps t.person < 0
  · rw [okTm_neg hz] at h1; cases h1
  · rcases fidx_bd (isNm t.person) ps 0 with e | ⟨k, x, e, hk, hx, hxs⟩
    · unfold personIx at hz; omega
    · have e' : personIx ps t.person = (k : Nat) := by unfold personIx; rw [e, Nat.zero_add]
      rw [okTm_at e' hx] at h1
      simp only [Bool.and_eq_true, decide_eq_true_eq] at h1
      unfold isNm at hxs
      exact ⟨k, x, hk, hx, by simpa using hxs, h1.2.1.2, h1.2.2⟩
/-- Who holds an office lives. -/
theorem holder_lives {ps : List Ps} {ts : List Tm} (h : isPeopleB ps ts = true) {o : ByteArray} {n : Int} {i : Nat} (hp : pH ps ts o n i = true) : pL ps n i = true := by
  unfold pH at hp
  split at hp
  · rename_i m hm
    rw [pL_at hm]
    obtain ⟨t, ht, hi, h1, h2⟩ := tsp_has.1 (hasB_iff.1 hp)
    unfold isOP at hi
    simp only [Bool.and_eq_true] at hi
    have hi : t.person.toList = m.name.toList := by simpa using hi.2
    obtain ⟨k, x, hk, hx, hxs, hf, ht2⟩ := term_person h ht
    have e1 := personIx_at h hm (s := t.person) hi.symm
    have e2 := personIx_at h hx (s := t.person) hxs
    obtain rfl : i = k := by rw [e1] at e2; exact Int.ofNat.inj e2
    rw [hx] at hm
    injection hm with hm
    subst hm
    unfold inB
    simp only [Bool.and_eq_true, decide_eq_true_eq]
    omega
  · cases hp
theorem holders_living {ps : List Ps} {ts : List Tm} {o : ByteArray} {n : Int} (h : (holdersR ps ts o n).2 = 0) : (livingR ps ts n).2 = 0 ∧ ∀ x ∈ (holdersR ps ts o n).1, x ∈ (livingR ps ts n).1 := by
  unfold holdersR at h ⊢
  unfold livingR
  by_cases hA : isPeopleB ps ts = true
  · rw [if_pos hA] at h ⊢
    rw [if_pos hA]
    by_cases hn : dayB n = true
    · rw [if_pos hn, if_pos hn]
      refine ⟨rfl, fun x hx => ?_⟩
      obtain ⟨v, rfl, h1, h2⟩ := jxl_iff.1 hx
      exact jxl_iff.2 ⟨v, rfl, h1, holder_lives hA h2⟩
    · rw [if_neg hn] at h; cases h
  · rw [if_neg hA] at h; cases h
theorem met_sub : ∀ {xs ys : List Sp} {d : Int}, Hs (met xs ys) d → Hs xs d ∧ Hs ys d
  | [], ys, d, h => by rw [met_end (.inl rfl)] at h; exact absurd h hs_nil
  | x :: xs, [], d, h => by rw [met_end (.inr rfl)] at h; exact absurd h hs_nil
  | a :: as', b :: bs, d, h => by
    rw [met_cons, Hs_append, hs_if] at h
    rw [hs_cons, hs_cons]
    simp only at h
    rcases h with ⟨_, h1, h2⟩ | h
    · exact ⟨.inl (by omega), .inl (by omega)⟩
    · split at h
      · have := met_sub h; rw [hs_cons] at this; exact ⟨.inr this.1, this.2⟩
      · have := met_sub h; rw [hs_cons] at this; exact ⟨this.1, .inr this.2⟩
termination_by xs ys => xs.length + ys.length
theorem oth_out : ∀ {xs : List Sp} {z d : Int}, Sep xs → (∀ x ∈ xs, z ≤ x.fr ∧ x.fr ≤ x.to) → Hs (othGo z xs) d → z ≤ d ∧ ¬ Hs xs d
  | [], z, d, _, _, h => by
    unfold othGo at h
    rw [hs_if] at h
    exact ⟨h.2.1, hs_nil⟩
  | s :: ss, z, d, hs, ho, h => by
    unfold othGo at h
    rw [Hs_append, hs_if] at h
    rw [hs_cons]
    have hl := fun (g : Hs ss d) => sep_low hs g
    have h0 := ho s (by simp)
    rcases h with ⟨_, h1, h2⟩ | h
    · simp only at h1 h2
      refine ⟨h1, ?_⟩
      rintro (g | g)
      · omega
      · have := hl g; omega
    · have ih := oth_out (List.pairwise_cons.1 hs).2 (fun x hx => ⟨by have := (List.pairwise_cons.1 hs).1 x hx; omega, (ho x (by simp [hx])).2⟩) h
      refine ⟨by omega, ?_⟩
      rintro (g | g)
      · omega
      · exact ih.2 g
theorem vac_facts {hs : List Sp} (hs1 : Sep hs) (ho : ∀ x ∈ hs, OkSp 0 730499 x) : (∀ s ∈ vac hs, OkSp 0 730499 s) ∧ ∀ d, Hs (vac hs) d → ¬ Hs hs d := by
  unfold vac
  split
  · rename_i a b ha hb
    have h1 := ho a (by cases hs with | nil => cases ha | cons y ys => simp at ha; simp [ha])
    have h2 := ho b (List.mem_of_getLast? hb)
    have h3 : (∀ s ∈ ([⟨a.fr, b.to⟩] : List Sp), OkSp 0 730499 s) ∨ b.to < a.fr := by
      by_cases e : a.fr ≤ b.to
      · left
        intro s hs
        obtain rfl := List.mem_singleton.1 hs
        exact ⟨h1.1, e, h2.2.2⟩
      · right; omega
    refine ⟨fun s hs => ?_, fun d hd => (oth_out hs1 (fun x hx => ⟨(ho x hx).1, (ho x hx).2.1⟩) (met_sub hd).2).2⟩
    rcases h3 with h3 | h3
    · exact met_ok h3 (othGo_ok (Int.le_refl _) ho) s hs
    · obtain ⟨⟨x, hx, hx1⟩, _⟩ := met_low s hs
      obtain rfl := List.mem_singleton.1 hx
      have h4 := met_span s hs
      have h5 := (met_sub (d := s.fr) ⟨s, hs, Int.le_refl _, h4⟩).1
      rw [Hs_one] at h5
      simp only at h5
      omega
  · exact ⟨fun s hs => (by cases hs), fun d hd => absurd hd hs_nil⟩
theorem holders_none {ps : List Ps} {ts : List Tm} {o : ByteArray} {d : Int} (h : isPeopleB ps ts = true) (hd : dayB d = true) (hn : ¬ Hs (tsp (isO o) ts) d) : holdersR ps ts o d = ([], 0) := by
  unfold holdersR
  rw [if_pos h, if_pos hd]
  have : jxl (pH ps ts o d) ps.length = [] := by
    rw [List.eq_nil_iff_forall_not_mem]
    intro x hx
    obtain ⟨v, _, h1, h2⟩ := jxl_iff.1 hx
    unfold pH at h2
    split at h2
    · obtain ⟨t, ht, hi, h3⟩ := tsp_has.1 (hasB_iff.1 h2)
      unfold isOP at hi
      simp only [Bool.and_eq_true] at hi
      exact hn (tsp_has.2 ⟨t, ht, hi.1, h3⟩)
    · cases h2
  rw [this]
theorem holders_some {ps : List Ps} {ts : List Tm} {o : ByteArray} {d : Int} (h : isPeopleB ps ts = true) (hd : dayB d = true) (hn : Hs (tsp (isO o) ts) d) : (holdersR ps ts o d).2 = 0 ∧ (holdersR ps ts o d).1 ≠ [] := by
  unfold holdersR
  rw [if_pos h, if_pos hd]
  refine ⟨rfl, ?_⟩
  obtain ⟨t, ht, hi, h3⟩ := tsp_has.1 hn
  obtain ⟨k, x, hk, hx, hxs, _⟩ := term_person h ht
  have : ((k : Nat) : Int) ∈ jxl (pH ps ts o d) ps.length := by
    refine jxl_iff.2 ⟨k, rfl, hk, ?_⟩
    rw [pH_at hx]
    refine hasB_iff.2 (tsp_has.2 ⟨t, ht, ?_, h3⟩)
    unfold isOP
    unfold isO at hi
    rw [hi, hxs]
    simp
  intro e
  simp only at e
  rw [e] at this
  cases this
/-- On a vacant day nobody holds the office. -/
theorem vacant_law {ps : List Ps} {ts : List Tm} {o : ByteArray} (h : (vacantR ps ts o).2 = 0) : ∀ s ∈ (vacantR ps ts o).1, holdersR ps ts o s.to = ([], 0) := by
  unfold vacantR at h ⊢
  by_cases hA : isPeopleB ps ts = true
  · rw [if_pos hA]
    intro s hs
    have hu := uni_facts (tsp_ok hA (isO o))
    have hv := vac_facts hu.1 hu.2.1
    have h1 := hv.1 s hs
    refine holders_none hA (dayB_of h1.2.2 (Int.le_trans h1.1 h1.2.1)) fun hh => ?_
    exact hv.2 s.to ⟨s, hs, h1.2.1, Int.le_refl _⟩ ((hu.2.2 _).2 hh)
  · rw [if_neg hA] at h; cases h
theorem shIn_has {xs : List Sp} {d : Int} (i : Nat) : ∀ k, Hs (shIn xs i k) d → Hs xs d
  | 0, h => absurd h hs_nil
  | k + 1, h => by
    unfold shIn at h
    rcases Hs_append.1 h with h | h
    · exact shIn_has i k h
    · unfold shAt at h
      split at h
      · rename_i a b ha hb
        unfold shC at h
        rw [hs_if] at h
        simp only at h
        exact ⟨a, List.mem_of_getElem? ha, by omega, by omega⟩
      · exact absurd h hs_nil
theorem shAll_has {xs : List Sp} {d : Int} : ∀ i, Hs (shAll xs i) d → Hs xs d
  | 0, h => absurd h hs_nil
  | i + 1, h => by
    unfold shAll at h
    rcases Hs_append.1 h with h | h
    · exact shAll_has i h
    · exact shIn_has i i h
/-- On a shared day somebody holds the office. -/
theorem shared_law {ps : List Ps} {ts : List Tm} {o : ByteArray} (h : (sharedR ps ts o).2 = 0) : ∀ s ∈ (sharedR ps ts o).1, (holdersR ps ts o s.fr).2 = 0 ∧ (holdersR ps ts o s.fr).1 ≠ [] := by
  unfold sharedR at h ⊢
  by_cases hA : isPeopleB ps ts = true
  · rw [if_pos hA]
    intro s hs
    have hu := uni_facts (shAll_ok (tsp_ok hA (isO o)) (tsp (isO o) ts).length)
    have h1 := hu.2.1 s hs
    refine holders_some hA (dayB_of (Int.le_trans h1.2.1 h1.2.2) h1.1) ?_
    exact shAll_has _ ((hu.2.2 _).1 ⟨s, hs, Int.le_refl _, h1.2.1⟩)
  · rw [if_neg hA] at h; cases h
theorem vacant_code {ps : List Ps} {ts : List Tm} {o : ByteArray} : (vacantR ps ts o).2 = if isPeopleB ps ts then 0 else 1 := by
  unfold vacantR; split <;> rfl
theorem shared_code {ps : List Ps} {ts : List Tm} {o : ByteArray} : (sharedR ps ts o).2 = if isPeopleB ps ts then 0 else 1 := by
  unfold sharedR; split <;> rfl
end Go.Proofs.YtmjbigeeokofeaaGreatDoor
