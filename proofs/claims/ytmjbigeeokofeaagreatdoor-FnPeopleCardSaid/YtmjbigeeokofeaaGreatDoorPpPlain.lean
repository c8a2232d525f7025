/- The spans of terms; plain. -/
import Derived.Test.YtmjbigeeokofeaaGreatDoorSpPlain
import Derived.Test.YtmjbigeeokofeaaGreatDoorPeopB
namespace Go.Proofs.YtmjbigeeokofeaaGreatDoor

def isO (o : ByteArray) (t : Tm) : Bool := t.office.toList == o.toList
def isOP (o p : ByteArray) (t : Tm) : Bool := t.office.toList == o.toList && t.person.toList == p.toList
def tsp (p : Tm → Bool) (ts : List Tm) : List Sp := (ts.filter p).map fun t => ⟨t.fr, t.to⟩
theorem tsp_take {p : Tm → Bool} {ts : List Tm} {k : Nat} {m : Tm} (h : ts[k]? = some m) : tsp p (ts.take (k + 1)) = tsp p (ts.take k) ++ (if p m then [⟨m.fr, m.to⟩] else []) := by
  unfold tsp
  rw [List.take_succ_eq_append_getElem (List.getElem?_eq_some_iff.1 h).1, (List.getElem?_eq_some_iff.1 h).2, List.filter_append, List.map_append]
  congr 1
  cases hp : p m <;> simp [hp]
theorem tsp_yes {p : Tm → Bool} {ts : List Tm} {k : Nat} {m : Tm} (h : ts[k]? = some m) (hp : p m = true) : tsp p (ts.take (k + 1)) = tsp p (ts.take k) ++ [⟨m.fr, m.to⟩] := by rw [tsp_take h, if_pos hp]
theorem tsp_no {p : Tm → Bool} {ts : List Tm} {k : Nat} {m : Tm} (h : ts[k]? = some m) (hp : p m = false) : tsp p (ts.take (k + 1)) = tsp p (ts.take k) := by rw [tsp_take h, hp]; simp
theorem tsp_all (p : Tm → Bool) (ts : List Tm) : tsp p (ts.take ts.length) = tsp p ts := by rw [List.take_length]
theorem tsp_len (p : Tm → Bool) (ts : List Tm) : (tsp p ts).length ≤ ts.length := by
  unfold tsp
  rw [List.length_map]
  exact List.length_filter_le _ _
theorem tsp_ok {ps : List Ps} {ts : List Tm} (h : isPeopleB ps ts = true) (p : Tm → Bool) : ∀ s ∈ tsp p ts, OkSp 0 730499 s := by
  intro s hs
  unfold tsp at hs
  obtain ⟨t, ht, rfl⟩ := List.mem_map.1 hs
  have ht := (List.mem_filter.1 ht).1
  unfold isPeopleB at h
  simp only [Bool.and_eq_true, List.all_eq_true] at h
  have h1 := h.1.1.2 t ht
  unfold okTm at h1
  simp only [Bool.and_eq_true] at h1
  have h2 := h1.2
  split at h2
  · simp only [Bool.and_eq_true, spanB, decide_eq_true_eq] at h2
    have a := dayB_bd h2.1.1.2.1.1
    have b := dayB_bd h2.1.1.2.1.2
    exact ⟨a.1, h2.1.1.2.2, b.2⟩
  · cases h2
theorem people_bd {ps : List Ps} {ts : List Tm} (h : isPeopleB ps ts = true) : ps.length ≤ 40 ∧ ts.length ≤ 60 := by
  unfold isPeopleB at h
  simp only [Bool.and_eq_true, decide_eq_true_eq] at h
  exact ⟨h.1.2, h.2⟩
theorem people_name {ps : List Ps} {ts : List Tm} (h : isPeopleB ps ts = true) {m : Ps} (hm : m ∈ ps) : nameB m.name.data.toList 12 = true := by
  unfold isPeopleB at h
  simp only [Bool.and_eq_true] at h
  have := upGo_all h.1.1.1 m hm
  unfold okPs at this
  simp only [Bool.and_eq_true] at this
  exact this.1
theorem isOP_of {o p : ByteArray} {ts : List Tm} : ∀ t ∈ ts, isOP o p t = (isO o t && t.person.toList == p.toList) := fun _ _ => rfl

/-! ### Days that two terms share -/
def shC (a b : Sp) : List Sp := if max a.fr b.fr ≤ min a.to b.to then [⟨max a.fr b.fr, min a.to b.to⟩] else []
theorem met_one (a b : Sp) : met [a] [b] = shC a b := by
  rw [met_cons]
  unfold shC
  rw [met_end (.inl rfl), met_end (.inr rfl)]
  simp
theorem shC_len (a b : Sp) : (shC a b).length ≤ 1 := by unfold shC; split <;> simp
theorem shC_ok {lo hi : Int} {a b : Sp} (ha : OkSp lo hi a) (hb : OkSp lo hi b) : ∀ s ∈ shC a b, OkSp lo hi s := by
  intro s hs
  unfold shC at hs
  split at hs
  · obtain rfl := List.mem_singleton.1 hs
    unfold OkSp at *
    simp only
    omega
  · cases hs
def shAt (xs : List Sp) (i k : Nat) : List Sp := match xs[i]?, xs[k]? with
  | some a, some b => shC a b
  | _, _ => []
theorem shAt_at {xs : List Sp} {i k : Nat} {a b : Sp} (ha : xs[i]? = some a) (hb : xs[k]? = some b) : shAt xs i k = shC a b := by unfold shAt; rw [ha, hb]
def shIn (xs : List Sp) (i : Nat) : Nat → List Sp
  | 0 => []
  | k + 1 => shIn xs i k ++ shAt xs i k
def shAll (xs : List Sp) : Nat → List Sp
  | 0 => []
  | i + 1 => shAll xs i ++ shIn xs i i
theorem shAt_len (xs : List Sp) (i k : Nat) : (shAt xs i k).length ≤ 1 := by
  unfold shAt
  split
  · exact shC_len _ _
  · simp
theorem shIn_len (xs : List Sp) (i : Nat) : ∀ k, (shIn xs i k).length ≤ k
  | 0 => Nat.le_refl _
  | k + 1 => by
    have := shIn_len xs i k
    have := shAt_len xs i k
    unfold shIn
    rw [List.length_append]; omega
theorem shAll_len (xs : List Sp) : ∀ i, i ≤ 60 → (shAll xs i).length ≤ i * 60
  | 0, _ => Nat.le_refl _
  | i + 1, h => by
    have := shAll_len xs i (by omega)
    have := shIn_len xs i i
    unfold shAll
    rw [List.length_append]; omega
theorem shAt_ok {lo hi : Int} {xs : List Sp} (hx : ∀ x ∈ xs, OkSp lo hi x) (i k : Nat) : ∀ s ∈ shAt xs i k, OkSp lo hi s := by
  intro s hs
  unfold shAt at hs
  split at hs
  · rename_i a b ha hb
    exact shC_ok (hx a (List.mem_of_getElem? ha)) (hx b (List.mem_of_getElem? hb)) s hs
  · cases hs
theorem shIn_ok {lo hi : Int} {xs : List Sp} (hx : ∀ x ∈ xs, OkSp lo hi x) (i : Nat) : ∀ k, ∀ s ∈ shIn xs i k, OkSp lo hi s
  | 0, s, h => by cases h
  | k + 1, s, h => by
    unfold shIn at h
    rcases List.mem_append.1 h with h | h
    · exact shIn_ok hx i k s h
    · exact shAt_ok hx i k s h
theorem shAll_ok {lo hi : Int} {xs : List Sp} (hx : ∀ x ∈ xs, OkSp lo hi x) : ∀ i, ∀ s ∈ shAll xs i, OkSp lo hi s
  | 0, s, h => by cases h
  | i + 1, s, h => by
    unfold shAll at h
    rcases List.mem_append.1 h with h | h
    · exact shAll_ok hx i s h
    · exact shIn_ok hx i i s h
end Go.Proofs.YtmjbigeeokofeaaGreatDoor
