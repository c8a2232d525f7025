/- The route from a place to another, step by step; plain. -/
import Derived.Test.YtihmacmieofbgaaDoorTrDays
namespace Go.Proofs.YtihmacmieofbgaaDoor

theorem Ed.flip {ws : List Wy} {i j : Nat} {d : Int} (h : Ed ws i j d) : Ed ws j i d := by
  obtain ⟨m, hm, hd, h⟩ := h
  exact ⟨m, hm, hd, h.elim (fun h => .inr ⟨h.2, h.1⟩) (fun h => .inl ⟨h.2, h.1⟩)⟩
theorem walk_flip {ws : List Wy} {i j : Nat} {c : Int} (h : Walk ws i j c) : Walk ws j i c := by
  induction h with
  | nil => exact .nil
  | snoc _ e ih => rw [Int.add_comm]; exact e.flip.walk.trans ih
theorem travM_flip {n : Nat} {ws : List Wy} (ho : OkW n ws) {i j : Nat} (hi : i < n) (hj : j < n) : travM n ws i j = travM n ws j i := by
  have h1 := travM_snd ho i j hi hj
  have h2 := travM_snd ho j i hj hi
  by_cases c1 : travM n ws i j < 1000000
  · have := travM_le ho hj hi (walk_flip (h1.2.2 c1))
    by_cases c2 : travM n ws j i < 1000000
    · have := travM_le ho hi hj (walk_flip (h2.2.2 c2)); omega
    · omega
  · by_cases c2 : travM n ws j i < 1000000
    · have := travM_le ho hi hj (walk_flip (h2.2.2 c2)); omega
    · omega

/-- The least number below k that answers to q; k if none does. -/
def firstQ (q : Nat → Bool) : Nat → Nat
  | 0 => 0
  | k + 1 => if firstQ q k < k then firstQ q k else if q k then k else k + 1
theorem firstQ_le (q : Nat → Bool) : ∀ k, firstQ q k ≤ k
  | 0 => Nat.le_refl _
  | k + 1 => by
    have := firstQ_le q k
    simp only [firstQ]
    split
    · omega
    · split <;> omega
theorem firstQ_hit (q : Nat → Bool) : ∀ k, firstQ q k < k → q (firstQ q k) = true
  | 0, h => absurd h (Nat.not_lt_zero _)
  | k + 1, h => by
    have ih := firstQ_hit q k
    simp only [firstQ] at h ⊢
    split
    · rename_i c; exact ih c
    · rename_i c
      rw [if_neg c] at h
      split
      · assumption
      · rename_i c2; rw [if_neg c2] at h; omega
theorem firstQ_low (q : Nat → Bool) : ∀ k u, u < firstQ q k → q u = false
  | 0, u, h => absurd h (Nat.not_lt_zero _)
  | k + 1, u, h => by
    have ih := firstQ_low q k u
    have := firstQ_le q k
    simp only [firstQ] at h
    split at h
    · exact ih h
    · split at h
      · exact ih (by omega)
      · rename_i c1 c2
        by_cases e : u = k
        · subst e; simpa using c2
        · exact ih (by omega)

theorem waysM_ed (ws : List Wy) : ∀ i j, waysM ws i j = wayStart i j ∨ Ed ws i j (waysM ws i j) := by
  have half : ∀ (M : Nat → Nat → Int) (a b : Nat) (d : Int), Ed ws a b d → (∀ i j, M i j = wayStart i j ∨ Ed ws i j (M i j)) → ∀ i j, wayHalf M a b d i j = wayStart i j ∨ Ed ws i j (wayHalf M a b d i j) := by
    intro M a b d e h i j
    unfold wayHalf upd2
    by_cases c : i = a ∧ j = b
    · obtain ⟨rfl, rfl⟩ := c
      simp only [and_self, if_true]
      by_cases q : M i j ≤ d
      · rw [Int.min_eq_left q]; exact h i j
      · rw [Int.min_eq_right (by omega)]; exact .inr e
    · simp only [if_neg c]; exact h i j
  exact foldl_keep wayStep (fun M => ∀ i j, M i j = wayStart i j ∨ Ed ws i j (M i j)) ws (fun M m hm h => half _ _ _ _ ⟨m, hm, rfl, .inr ⟨rfl, rfl⟩⟩ (half _ _ _ _ ⟨m, hm, rfl, .inl ⟨rfl, rfl⟩⟩ h)) _ (fun i j => .inl rfl)
theorem walk_first {ws : List Wy} {i j : Nat} {c : Int} (h : Walk ws i j c) : (i = j ∧ c = 0) ∨ ∃ v d c', Ed ws i v d ∧ Walk ws v j c' ∧ c = d + c' := by
  induction h with
  | nil => exact .inl ⟨rfl, rfl⟩
  | snoc h e ih =>
    rcases ih with ⟨h1, h2⟩ | ⟨v, d, c', e1, h1, h2⟩
    · subst h1
      exact .inr ⟨_, _, 0, e, .nil, by omega⟩
    · exact .inr ⟨v, d, _, e1, .snoc h1 e, by omega⟩

def qN (n : Nat) (ws : List Wy) (b v u : Nat) : Bool := decide (0 < waysM ws v u) && decide (waysM ws v u < 1000000) && decide (waysM ws v u + travM n ws u b = travM n ws v b)
def nxN (n : Nat) (ws : List Wy) (b v : Nat) : Nat := firstQ (qN n ws b v) n
def rtF (nx : Nat → Nat) (b : Nat) : Nat → Nat → List Int
  | 0, _ => []
  | k + 1, v => if v = b then [] else (nx v : Int) :: rtF nx b k (nx v)
def rtL (n : Nat) (ws : List Wy) (b v : Nat) : List Int := rtF (nxN n ws b) b (travM n ws v b).toNat v
theorem rtF_len (nx : Nat → Nat) (b : Nat) : ∀ k v, (rtF nx b k v).length ≤ k
  | 0, v => by simp [rtF]
  | k + 1, v => by
    have := rtF_len nx b k (nx v)
    simp only [rtF]
    split
    · simp
    · simp only [List.length_cons]; omega

theorem q_ed {n : Nat} {ws : List Wy} {b v u : Nat} (q : qN n ws b v u = true) : Ed ws v u (waysM ws v u) ∧ travM n ws u b + waysM ws v u = travM n ws v b := by
  unfold qN at q
  simp only [Bool.and_eq_true, decide_eq_true_eq] at q
  rcases waysM_ed ws v u with h | h
  · unfold wayStart at h
    split at h <;> omega
  · exact ⟨h, by omega⟩
section
variable {n : Nat} {ws : List Wy} (ho : OkW n ws) {b : Nat} (hb : b < n)
include ho hb
theorem ed_q {v u : Nat} {d : Int} (hv : v < n) (e : Ed ws v u d) (h : travM n ws u b + d = travM n ws v b) (hf : travM n ws v b < 1000000) : qN n ws b v u = true := by
  have he := e.ok ho
  have h1 : waysM ws v u ≤ d := comp_start (n := n) v u d hv he.2.1 (.edge e)
  have h2 := (waysM_snd ho v u hv he.2.1)
  have h3 := (travM_snd ho u b he.2.1 hb)
  have h4 := travM_le ho hv hb ((h2.2.2 (by omega)).trans (h3.2.2 (by omega)))
  unfold qN
  simp only [Bool.and_eq_true, decide_eq_true_eq]
  omega
theorem q_some {v : Nat} (hv : v < n) (hne : v ≠ b) (hf : travM n ws v b < 1000000) : ∃ u, u < n ∧ qN n ws b v u = true := by
  have h1 := (travM_snd ho v b hv hb).2.2 hf
  rcases walk_first h1 with ⟨h2, _⟩ | ⟨u, d, c, e, h2, h3⟩
  · exact absurd h2 hne
  · have he := e.ok ho
    have h4 := travM_le ho he.2.1 hb h2
    have h5 := (travM_snd ho u b he.2.1 hb)
    have h6 := travM_le ho hv hb (e.walk.trans (h5.2.2 (by omega)))
    exact ⟨u, he.2.1, ed_q ho hb hv e (by omega) hf⟩
theorem nx_ok {v : Nat} (hv : v < n) (hne : v ≠ b) (hf : travM n ws v b < 1000000) :
    nxN n ws b v < n ∧ qN n ws b v (nxN n ws b v) = true ∧ (∀ u, u < nxN n ws b v → qN n ws b v u = false) ∧ 0 ≤ travM n ws (nxN n ws b v) b ∧ travM n ws (nxN n ws b v) b + 1 ≤ travM n ws v b := by
  obtain ⟨u, hu, q⟩ := q_some ho hb hv hne hf
  have hlow := firstQ_low (qN n ws b v) n
  have hlt : nxN n ws b v < n := by
    refine Nat.lt_of_not_le fun h => ?_
    have := hlow u (Nat.lt_of_lt_of_le hu h)
    rw [q] at this; cases this
  have hq := firstQ_hit (qN n ws b v) n hlt
  have h1 := q_ed hq
  have h2 := h1.1.ok ho
  have h3 := (travM_snd ho (nxN n ws b v) b hlt hb)
  refine ⟨hlt, hq, hlow, h3.1, ?_⟩
  have h4 := h1.2
  have h5 := h2.2.2.1
  unfold nxN at *
  omega
theorem rtF_fuel : ∀ (k k' v : Nat), v < n → travM n ws v b < 1000000 → travM n ws v b ≤ k → travM n ws v b ≤ k' → rtF (nxN n ws b) b k v = rtF (nxN n ws b) b k' v := by
  have h0 : ∀ v, v < n → travM n ws v b < 1000000 → travM n ws v b ≤ 0 → v = b := fun v hv hf h => by
    refine Classical.byContradiction fun hne => ?_
    have := nx_ok ho hb hv hne hf
    omega
  have hbb : ∀ k, rtF (nxN n ws b) b k b = [] := fun k => by cases k <;> simp [rtF]
  intro k
  induction k with
  | zero =>
    intro k' v hv hf h1 h2
    obtain rfl := h0 v hv hf h1
    rw [hbb, hbb]
  | succ k ih =>
    intro k' v hv hf h1 h2
    by_cases e : v = b
    · subst e; rw [hbb, hbb]
    · have hn := nx_ok ho hb hv e hf
      cases k' with
      | zero => omega
      | succ k' =>
        simp only [rtF, if_neg e]
        rw [ih k' (nxN n ws b v) hn.1 (by omega) (by omega) (by omega)]
theorem rt_step {v : Nat} (hv : v < n) (hne : v ≠ b) (hf : travM n ws v b < 1000000) : rtL n ws b v = (nxN n ws b v : Int) :: rtL n ws b (nxN n ws b v) := by
  have hn := nx_ok ho hb hv hne hf
  unfold rtL
  obtain ⟨k, hk⟩ : ∃ k, (travM n ws v b).toNat = k + 1 := ⟨(travM n ws v b).toNat - 1, by omega⟩
  rw [hk]
  simp only [rtF, if_neg hne]
  rw [rtF_fuel ho hb k (travM n ws (nxN n ws b v) b).toNat (nxN n ws b v) hn.1 (by omega) (by omega) (by omega)]
end
theorem rt_stop (n : Nat) (ws : List Wy) (b : Nat) : rtL n ws b b = [] := by
  unfold rtL
  generalize (travM n ws b b).toNat = k
  cases k <;> simp [rtF]

/-- The reference's search for the next place, way for way. -/
def mStep (f : Nat → Int) (v : Nat) (m : Int) (w : Wy) : Int :=
  if w.b.toNat = v ∧ f w.a.toNat + w.days = f v then min (if w.a.toNat = v ∧ f w.b.toNat + w.days = f v then min m w.b else m) w.a
  else if w.a.toNat = v ∧ f w.b.toNat + w.days = f v then min m w.b else m
def Hit (f : Nat → Int) (v : Nat) (l : List Wy) (r : Int) : Prop := ∃ w ∈ l, (w.a.toNat = v ∧ f w.b.toNat + w.days = f v ∧ r = w.b) ∨ (w.b.toNat = v ∧ f w.a.toNat + w.days = f v ∧ r = w.a)
theorem mStep_cases (f : Nat → Int) (v : Nat) (m : Int) (w : Wy) : (mStep f v m w = m ∨ Hit f v [w] (mStep f v m w)) ∧ mStep f v m w ≤ m ∧ ∀ r, Hit f v [w] r → mStep f v m w ≤ r := by
  have hA : w.a.toNat = v ∧ f w.b.toNat + w.days = f v → Hit f v [w] w.b := fun c => ⟨w, by simp, .inl ⟨c.1, c.2, rfl⟩⟩
  have hB : w.b.toNat = v ∧ f w.a.toNat + w.days = f v → Hit f v [w] w.a := fun c => ⟨w, by simp, .inr ⟨c.1, c.2, rfl⟩⟩
  have hH : ∀ r, Hit f v [w] r → (w.a.toNat = v ∧ f w.b.toNat + w.days = f v ∧ r = w.b) ∨ (w.b.toNat = v ∧ f w.a.toNat + w.days = f v ∧ r = w.a) := by
    rintro r ⟨w', hw, h⟩
    obtain rfl : w' = w := by simpa using hw
    exact h
  unfold mStep
  by_cases c1 : w.b.toNat = v ∧ f w.a.toNat + w.days = f v <;> by_cases c2 : w.a.toNat = v ∧ f w.b.toNat + w.days = f v
  · rw [if_pos c1, if_pos c2]
    refine ⟨?_, by omega, fun r hr => ?_⟩
    · rcases (show min (min m w.b) w.a = m ∨ min (min m w.b) w.a = w.b ∨ min (min m w.b) w.a = w.a by omega) with h | h | h
      · exact .inl h
      · rw [h]; exact .inr (hA c2)
      · rw [h]; exact .inr (hB c1)
    · rcases hH r hr with h | h <;> omega
  · rw [if_pos c1, if_neg c2]
    refine ⟨?_, by omega, fun r hr => ?_⟩
    · rcases (show min m w.a = m ∨ min m w.a = w.a by omega) with h | h
      · exact .inl h
      · rw [h]; exact .inr (hB c1)
    · rcases hH r hr with h | h
      · exact absurd ⟨h.1, h.2.1⟩ c2
      · omega
  · rw [if_neg c1, if_pos c2]
    refine ⟨?_, by omega, fun r hr => ?_⟩
    · rcases (show min m w.b = m ∨ min m w.b = w.b by omega) with h | h
      · exact .inl h
      · rw [h]; exact .inr (hA c2)
    · rcases hH r hr with h | h
      · omega
      · exact absurd ⟨h.1, h.2.1⟩ c1
  · rw [if_neg c1, if_neg c2]
    refine ⟨.inl rfl, Int.le_refl _, fun r hr => ?_⟩
    rcases hH r hr with h | h
    · exact absurd ⟨h.1, h.2.1⟩ c2
    · exact absurd ⟨h.1, h.2.1⟩ c1
theorem mFold (f : Nat → Int) (v : Nat) : ∀ (l : List Wy) (m : Int), (l.foldl (mStep f v) m = m ∨ Hit f v l (l.foldl (mStep f v) m)) ∧ l.foldl (mStep f v) m ≤ m ∧ ∀ r, Hit f v l r → l.foldl (mStep f v) m ≤ r
  | [], m => ⟨.inl rfl, Int.le_refl _, fun r ⟨w, hw, _⟩ => absurd hw (by simp)⟩
  | w :: l, m => by
    obtain ⟨h1, h2, h3⟩ := mStep_cases f v m w
    obtain ⟨i1, i2, i3⟩ := mFold f v l (mStep f v m w)
    rw [List.foldl_cons]
    have e1 : ∀ r, Hit f v [w] r → Hit f v (w :: l) r := fun r ⟨x, hx, hh⟩ => ⟨x, by simp at hx; simp [hx], hh⟩
    have e2 : ∀ r, Hit f v l r → Hit f v (w :: l) r := fun r ⟨x, hx, hh⟩ => ⟨x, by simp [hx], hh⟩
    refine ⟨?_, by omega, fun r hr => ?_⟩
    · rcases i1 with h | h
      · rw [h]
        rcases h1 with h | h
        · exact .inl h
        · exact .inr (e1 _ h)
      · exact .inr (e2 _ h)
    · obtain ⟨x, hx, hh⟩ := hr
      rcases List.mem_cons.1 hx with rfl | hx
      · exact Int.le_trans i2 (h3 r ⟨x, by simp, hh⟩)
      · exact i3 r ⟨x, hx, hh⟩
theorem trav_small {n : Nat} {ws : List Wy} (ho : OkW n ws) (hn : n ≤ 12) (hw : ws.length ≤ 40) {a v : Nat} (ha : a < n) (hv : v < n) (hf : travM n ws a v < 1000000) : travM n ws a v ≤ 57600 := by
  have h1 := bf_eq ho hn hw ha hv
  have h2 := bfRounds_bound ho hw a n v
  rw [if_pos hf] at h1
  omega
theorem dist_bd {n : Nat} {ws : List Wy} (ho : OkW n ws) (hn : n ≤ 12) (hw : ws.length ≤ 40) {a v : Nat} (ha : a < n) (hv : v < n) : -1 ≤ distF n ws a v ∧ distF n ws a v ≤ 57600 := by
  have h1 := travM_snd ho a v ha hv
  unfold distF
  split
  · rename_i h; have := trav_small ho hn hw ha hv h; omega
  · omega
theorem mF_eq {n : Nat} {ws : List Wy} (hs : OkWs n ws) (hn : n ≤ 12) (hw : ws.length ≤ 40) {b v : Nat} (hb : b < n) (hv : v < n) (hne : v ≠ b) (hf : travM n ws v b < 1000000) : ws.foldl (mStep (distF n ws b) v) n = (nxN n ws b v : Int) := by
  have ho := hs.ok
  obtain ⟨k1, k2, k3, _, _⟩ := nx_ok ho hb hv hne hf
  have dv : distF n ws b v = travM n ws v b := by
    unfold distF; rw [travM_flip ho hb hv, if_pos hf]
  have du : ∀ u d, Ed ws v u d → distF n ws b u = travM n ws u b := fun u d e => by
    have he := e.ok ho
    have h1 := trav_small ho hn hw hb hv (by rw [travM_flip ho hb hv]; exact hf)
    have h2 := travM_le ho hb he.2.1 (((travM_snd ho b v hb hv).2.2 (by omega)).snoc e)
    unfold distF
    rw [if_pos (by omega), travM_flip ho hb he.2.1]
  have hit : ∀ r, Hit (distF n ws b) v ws r → ∃ u d, r = (u : Nat) ∧ Ed ws v u d ∧ travM n ws u b + d = travM n ws v b := by
    rintro r ⟨m, hm, ⟨h1, h2, h3⟩ | ⟨h1, h2, h3⟩⟩
    · obtain ⟨A, B, ea, eb, _⟩ := hs m hm
      have e : Ed ws v B m.days := ⟨m, hm, rfl, .inl ⟨h1, by rw [eb]; rfl⟩⟩
      rw [eb, show ((B : Int)).toNat = B from rfl, du _ _ e, dv] at h2
      exact ⟨B, m.days, by rw [h3, eb], e, h2⟩
    · obtain ⟨A, B, ea, eb, _⟩ := hs m hm
      have e : Ed ws v A m.days := ⟨m, hm, rfl, .inr ⟨h1, by rw [ea]; rfl⟩⟩
      rw [ea, show ((A : Int)).toNat = A from rfl, du _ _ e, dv] at h2
      exact ⟨A, m.days, by rw [h3, ea], e, h2⟩
  have tih : ∀ u d, Ed ws v u d → travM n ws u b + d = travM n ws v b → Hit (distF n ws b) v ws u := by
    intro u d e h
    have hd := du _ _ e
    obtain ⟨m, hm, e1, ⟨e2, e3⟩ | ⟨e2, e3⟩⟩ := e
    · obtain ⟨A, B, ea, eb, _⟩ := hs m hm
      refine ⟨m, hm, .inl ⟨e2, ?_, ?_⟩⟩
      · rw [e3, hd, dv, e1]; exact h
      · rw [eb] at e3 ⊢; exact congrArg Int.ofNat e3.symm
    · obtain ⟨A, B, ea, eb, _⟩ := hs m hm
      refine ⟨m, hm, .inr ⟨e2, ?_, ?_⟩⟩
      · rw [e3, hd, dv, e1]; exact h
      · rw [ea] at e3 ⊢; exact congrArg Int.ofNat e3.symm
  obtain ⟨f1, f2, f3⟩ := mFold (distF n ws b) v ws n
  obtain ⟨q1, q2⟩ := q_ed k2
  have f4 := f3 _ (tih _ _ q1 q2)
  rcases f1 with h | h
  · omega
  · obtain ⟨u, d, e1, e2, e3⟩ := hit _ h
    have hq := ed_q ho hb hv e2 e3 hf
    have : ¬ u < nxN n ws b v := fun hlt => by
      have := k3 u hlt
      rw [hq] at this; cases this
    omega
/-- What RouteOf answers. -/
def routeR (ps : List ByteArray) (ws : List Wy) (a b : Int) : List Int × Int :=
  if (travR ps ws a b).2 = 0 then (a :: rtL ps.length ws b.toNat a.toNat, 0) else ([], (travR ps ws a b).2)
theorem routeR_len (ps : List ByteArray) (ws : List Wy) (a b : Int) : (routeR ps ws a b).1.length ≤ 1048576 := by
  unfold routeR
  split
  · rename_i h
    have h1 := rtF_len (nxN ps.length ws b.toNat) b.toNat (travM ps.length ws a.toNat b.toNat).toNat a.toNat
    have h2 : travM ps.length ws a.toNat b.toNat < 1000000 := by
      unfold travR at h
      split at h
      · split at h
        · assumption
        · cases h
      · rename_i c; exact absurd h c
    simp only [List.length_cons, rtL]
    omega
  · simp
end Go.Proofs.YtihmacmieofbgaaDoor
