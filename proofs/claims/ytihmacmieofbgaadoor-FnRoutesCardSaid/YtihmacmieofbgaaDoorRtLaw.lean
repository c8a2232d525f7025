/- What the laws of routes ask of the answers; plain. -/
import Derived.Test.YtihmacmieofbgaaDoorTrvPlain
import Derived.Test.YtihmacmieofbgaaDoorUseless
import Derived.Test.YtihmacmieofbgaaDoorLandNamed
namespace Go.Proofs.YtihmacmieofbgaaDoor

theorem jxl_mem {q : Nat → Bool} {x : Int} : ∀ {k : Nat}, x ∈ jxl q k → ∃ v : Nat, x = v ∧ v < k ∧ q v = true
  | 0, h => by simp [jxl] at h
  | k + 1, h => by
    cases hq : q k
    · rw [jxl_no hq] at h
      obtain ⟨v, h1, h2, h3⟩ := jxl_mem h
      exact ⟨v, h1, by omega, h3⟩
    · rw [jxl_yes hq] at h
      rcases List.mem_append.1 h with h | h
      · obtain ⟨v, h1, h2, h3⟩ := jxl_mem h
        exact ⟨v, h1, by omega, h3⟩
      · exact ⟨k, by simpa using h, by omega, hq⟩
theorem useless_law {ps : List ByteArray} {ws : List Wy} {x : Int} (hx : x ∈ (uselessR ps ws).1) : ∃ (v : Nat) (m : Wy), x = v ∧ v < ws.length ∧ ws[v]? = some m ∧ (travR ps ws m.a m.b).2 = 0 ∧ (travR ps ws m.a m.b).1 < m.days := by
  unfold uselessR at hx
  split at hx
  · rename_i hA
    obtain ⟨v, rfl, hv, hq⟩ := jxl_mem hx
    have hm := List.getElem?_eq_getElem hv
    generalize ws[v] = m at hm
    obtain ⟨A, B, ea, eb, ha, hb, _, h2, h3⟩ := useless_facts hA hm
    rw [hq] at h3
    have h4 : travM ps.length ws A B < m.days := by simpa using h3.symm
    have hr := travR_at hA ha hb
    rw [if_pos (by omega)] at hr
    refine ⟨v, m, rfl, hv, hm, ?_, ?_⟩
    · rw [ea, eb, hr]
    · rw [ea, eb, hr]; exact h4
  · simp at hx
theorem fidx_hit (p : ByteArray → Bool) : ∀ (xs : List ByteArray) (i : Nat), 0 ≤ fidx p xs i → ∃ (v : Nat) (m : ByteArray), fidx p xs i = ((i + v : Nat) : Int) ∧ v < xs.length ∧ xs[v]? = some m ∧ p m = true
  | [], i, h => by simp [fidx] at h
  | x :: xs, i, h => by
    unfold fidx at h ⊢
    by_cases c : p x = true
    · rw [if_pos c]
      exact ⟨0, x, by simp, by simp, by simp, c⟩
    · rw [if_neg c] at h ⊢
      obtain ⟨v, m, h1, h2, h3, h4⟩ := fidx_hit p xs (i + 1) h
      exact ⟨v + 1, m, by rw [h1]; congr 1; omega, by simp; omega, by simpa using h3, h4⟩
theorem named_law {ps : List ByteArray} {ws : List Wy} {s : ByteArray} (h : (placeNamedR ps ws s).2 = 0) : ∃ (v : Nat) (m : ByteArray), (placeNamedR ps ws s).1 = v ∧ v < ps.length ∧ ps[v]? = some m ∧ m.toList = s.toList := by
  unfold placeNamedR at h ⊢
  split at h
  · rename_i hA
    rw [if_pos hA]
    split at h
    · cases h
    · rename_i hn
      rw [if_neg hn]
      obtain ⟨v, m, h1, h2, h3, h4⟩ := fidx_hit (isS s) ps 0 (by omega)
      exact ⟨v, m, by rw [h1]; simp, h2, h3, by simpa [isS] using h4⟩
  · cases h

/-- At place k of the route: what has been travelled is what is missing no longer. -/
def RtAt (ps : List ByteArray) (ws : List Wy) (r : List Int) (b : Nat) (k : Nat) (tot : Int) : Prop :=
  ∃ v : Nat, v < ps.length ∧ r[k]? = some (v : Int) ∧ travM ps.length ws v b < 1000000 ∧ r.drop (k + 1) = rtL ps.length ws b v ∧ tot + travM ps.length ws v b = (travR ps ws (r[0]?.getD 0) b).1
theorem rt_law {ps : List ByteArray} {ws : List Wy} {x y : Int} (h : (routeR ps ws x y).2 = 0) : ∃ b : Nat, y = b ∧ b < ps.length ∧ isLandB ps ws = true ∧ (routeR ps ws x y).1[0]? = some x ∧ (travR ps ws x y).2 = 0 ∧ RtAt ps ws (routeR ps ws x y).1 b 0 0 := by
  unfold routeR at h ⊢
  split at h
  · rename_i hz
    rw [if_pos hz]
    obtain ⟨hc, hf⟩ := (by
      unfold travR at hz
      split at hz
      · rename_i hc
        split at hz
        · rename_i hf; exact ⟨hc, hf⟩
        · cases hz
      · rename_i hc; exact absurd hz hc : codeL ps ws [x, y] = 0 ∧ travM ps.length ws x.toNat y.toNat < 1000000)
    obtain ⟨hA, hall⟩ := codeL_zero hc
    obtain ⟨⟨a, rfl, ha⟩, ⟨b, rfl, hb⟩⟩ := all2 hall
    have hr := travR_at hA ha hb
    have hf : travM ps.length ws a b < 1000000 := hf
    rw [if_pos hf] at hr
    refine ⟨b, rfl, hb, hA, by simp, hz, a, ha, by simp, hf, by simp, ?_⟩
    simp [hr]
  · rename_i hz; exact absurd h hz
theorem rt_next {ps : List ByteArray} {ws : List Wy} {r : List Int} {b k : Nat} {tot : Int} (hA : isLandB ps ws = true) (hb : b < ps.length) (h : RtAt ps ws r b k tot) (hk : k + 1 < r.length) :
    ∃ v u : Int, r[k]? = some v ∧ r[k + 1]? = some u ∧ (travR ps ws v u).2 = 0 ∧ RtAt ps ws r b (k + 1) (tot + (travR ps ws v u).1) := by
  obtain ⟨v, hv, h1, h2, h3, h4⟩ := h
  obtain ⟨hs, _, hn12, hl40⟩ := landOk hA
  have ho := hs.ok
  have hne : v ≠ b := by
    rintro rfl
    rw [rt_stop] at h3
    have := congrArg List.length h3
    simp at this
    omega
  have hst := rt_step ho hb hv hne h2
  rw [hst] at h3
  obtain ⟨x1, x2, _, x4, x5⟩ := nx_ok ho hb hv hne h2
  obtain ⟨e1, e2⟩ := q_ed x2
  generalize nxN ps.length ws b v = u at h3 x1 x2 x4 x5 e1 e2
  have hu : r[k + 1]? = some (u : Int) := by
    have := congrArg (fun l => l[0]?) h3
    simpa using this
  have hd : r.drop (k + 1 + 1) = rtL ps.length ws b u := by
    have := congrArg (fun l => l.drop 1) h3
    simpa [List.drop_drop] using this
  have w1 := travM_le ho hv x1 e1.walk
  have wu := (travM_snd ho u b x1 hb).2.2 (by omega)
  have wv := (travM_snd ho v u hv x1)
  have hT : travM ps.length ws v u = waysM ws v u := by
    have w2 := travM_le ho hv hb ((wv.2.2 (by omega)).trans wu)
    omega
  have hr := travR_at hA hv x1
  rw [if_pos (by omega)] at hr
  refine ⟨v, u, h1, hu, by rw [hr], u, x1, hu, by omega, hd, ?_⟩
  rw [hr]
  show tot + travM ps.length ws v u + travM ps.length ws u b = _
  rw [← h4]
  omega
theorem rt_end {ps : List ByteArray} {ws : List Wy} {r : List Int} {b k : Nat} {tot : Int} (hA : isLandB ps ws = true) (hb : b < ps.length) (h : RtAt ps ws r b k tot) (hk : k + 1 = r.length) :
    r[k]? = some (b : Int) ∧ tot = (travR ps ws (r[0]?.getD 0) b).1 := by
  obtain ⟨v, hv, h1, h2, h3, h4⟩ := h
  have ho := (landOk hA).1.ok
  have he : v = b := by
    refine Classical.byContradiction fun hne => ?_
    rw [rt_step ho hb hv hne h2] at h3
    have := congrArg List.length h3
    simp at this
    omega
  subst he
  rw [travM_self ho hb] at h4
  exact ⟨h1, by omega⟩
theorem rt_bd {ps : List ByteArray} {ws : List Wy} {r : List Int} {b k : Nat} {tot : Int} (hA : isLandB ps ws = true) (hb : b < ps.length) (h : RtAt ps ws r b k tot) : -1000000 ≤ tot ∧ tot ≤ 1000000 := by
  obtain ⟨v, hv, h1, h2, h3, h4⟩ := h
  have h5 := trav_bd hA hv hb
  have h6 := trav_val (ps := ps) (ws := ws) (a := r[0]?.getD 0) (b := b)
  omega
end Go.Proofs.YtihmacmieofbgaaDoor
