/- Plain: numerals are read from the right and from the left with one result. -/
import Derived.Lib.SplitLaws
import Derived.Lib.IndexBytes
import Derived.Lib.Join
import Derived.Test.YteajkofgcmfaoaaGreatDoorTt
namespace Go.Proofs.YteajkofgcmfaoaaGreatDoor
section
/-- A text cut at every c. -/
def spl (c : UInt8) : List UInt8 → List (List UInt8)
  | [] => [[]]
  | b :: l => if b = c then [] :: spl c l else match spl c l with
    | [] => [[b]]
    | h :: t => (b :: h) :: t
theorem spl_cons (c b : UInt8) (l : List UInt8) : spl c (b :: l) = if b = c then [] :: spl c l else match spl c l with
    | [] => [[b]]
    | h :: t => (b :: h) :: t := rfl
theorem spl_ne (c : UInt8) : ∀ l, spl c l ≠ []
  | [] => by simp [spl]
  | b :: l => by
    unfold spl
    split
    · simp
    · split <;> simp
theorem spl_free (c : UInt8) : ∀ l, ∀ x ∈ spl c l, c ∉ x
  | [], x, h => by
    simp [spl] at h
    subst h
    simp
  | b :: l, x, h => by
    have ih := spl_free c l
    unfold spl at h
    split at h
    · rcases List.mem_cons.1 h with rfl | h
      · simp
      · exact ih x h
    · rename_i hb
      split at h
      · rename_i e; exact absurd e (spl_ne c l)
      · rename_i hh t e
        rw [e] at ih
        rcases List.mem_cons.1 h with rfl | h
        · have := ih hh (by simp)
          simp [this, Ne.symm hb]
        · exact ih x (by simp [h])
theorem spl_none (c : UInt8) : ∀ {l : List UInt8}, c ∉ l → spl c l = [l]
  | [], _ => rfl
  | b :: l, h => by
    simp only [List.mem_cons, not_or] at h
    unfold spl
    rw [if_neg (fun e => h.1 e.symm), spl_none c h.2]
theorem spl_cut (c : UInt8) : ∀ {p : List UInt8} (r : List UInt8), c ∉ p → spl c (p ++ c :: r) = p :: spl c r
  | [], r, _ => by simp [spl]
  | b :: p, r, h => by
    simp only [List.mem_cons, not_or] at h
    rw [List.cons_append, spl_cons, if_neg (fun e => h.1 e.symm), spl_cut c r h.2]
theorem spl_join (c : UInt8) : ∀ {L : List (List UInt8)}, L ≠ [] → (∀ x ∈ L, c ∉ x) → spl c (Lib.join L [c]) = L
  | [], h, _ => absurd rfl h
  | [x], _, h => by rw [Lib.join_one]; exact spl_none c (h x (by simp))
  | x :: y :: r, _, h => by
    have ih := spl_join c (L := y :: r) (by simp) (fun z hz => h z (by simp [hz]))
    have e : Lib.join (x :: y :: r) [c] = x ++ c :: Lib.join (y :: r) [c] := by
      rw [Lib.join_cons, Lib.join_cons]
      unfold Lib.joinTail
      simp
    rw [e, spl_cut c _ (h x (by simp)), ih]
theorem join_inj (c : UInt8) {L M : List (List UInt8)} (hL : L ≠ []) (hM : M ≠ []) (fL : ∀ x ∈ L, c ∉ x) (fM : ∀ x ∈ M, c ∉ x) (h : Lib.join L [c] = Lib.join M [c]) : L = M := by
  rw [← spl_join c hL fL, h, spl_join c hM fM]
theorem spl_parts (c : UInt8) (l : List UInt8) : c ∉ l ∨ ∃ p r, l = p ++ c :: r ∧ c ∉ p := by
  induction l with
  | nil => exact .inl (by simp)
  | cons b l ih =>
    by_cases hb : b = c
    · exact .inr ⟨[], l, by simp [hb], by simp⟩
    · rcases ih with h | ⟨p, r, rfl, h⟩
      · exact .inl (by simp [h, Ne.symm hb])
      · exact .inr ⟨b :: p, r, by simp, by simp [h, Ne.symm hb]⟩
theorem indexByte_at (c : UInt8) : ∀ {p : List UInt8} (r : List UInt8), c ∉ p → Lib.indexByte (p ++ c :: r) c = p.length
  | [], r, _ => by simp [Lib.indexByte]
  | b :: p, r, h => by
    simp only [List.mem_cons, not_or] at h
    rw [List.cons_append]
    unfold Lib.indexByte
    have e : (b == c) = false := by simpa using fun e => h.1 e.symm
    have ih := indexByte_at c r h.2
    have e2 : ((p.length : Int) == -1) = false := by simp
    rw [e, ih, e2]
    simp
theorem splitK_spl (c : UInt8) : ∀ (n : Nat) (l : List UInt8), l.length ≤ n → Lib.splitK [c] 0 (l.count c) l = spl c l
  | n, l, hn => by
    rcases spl_parts c l with h | ⟨p, r, rfl, h⟩
    · rw [List.count_eq_zero.2 h, spl_none c h]
      rfl
    · have e1 : (p ++ c :: r).count c = r.count c + 1 := by rw [List.count_append, List.count_eq_zero.2 h, List.count_cons_self]; omega
      have e2 := indexByte_at c r h
      cases n with
      | zero => simp at hn
      | succ n =>
        have ih := splitK_spl c n r (by simp at hn; omega)
        rw [e1, spl_cut c r h]
        unfold Lib.splitK
        rw [Lib.index_one, e2]
        have e3 : ((p.length : Int) == -1) = false := by simp
        rw [e3]
        simp [ih]
/-- The words of a text. -/
def wsB (c : UInt8) (s : ByteArray) : List ByteArray := (spl c s.data.toList).map fun l => ⟨l.toArray⟩
theorem ba_inj {x y : ByteArray} (h : x.data.toList = y.data.toList) : x = y := by
  cases x; cases y
  simp at h
  simp [h]
theorem map_data_inj : ∀ {L M : List ByteArray}, L.map (·.data.toList) = M.map (·.data.toList) → L = M
  | [], [], _ => rfl
  | [], _ :: _, h => by simp at h
  | _ :: _, [], h => by simp at h
  | x :: L, y :: M, h => by
    simp only [List.map_cons, List.cons.injEq] at h
    rw [ba_inj h.1, map_data_inj h.2]
theorem wsB_data (c : UInt8) (s : ByteArray) : (wsB c s).map (·.data.toList) = spl c s.data.toList := by
  unfold wsB
  rw [List.map_map]
  exact (List.map_congr_left (fun l _ => by simp)).trans (List.map_id _)
theorem splitB_ws (c : UInt8) (s : ByteArray) : Lib.splitB ⟨#[c]⟩ 0 (Lib.countB s ⟨#[c]⟩) s = wsB c s := by
  apply map_data_inj
  rw [Lib.splitB_data, wsB_data]
  have e : Lib.countB s ⟨#[c]⟩ = s.data.toList.count c := Lib.count_one _ _
  rw [e]
  exact splitK_spl c _ _ (Nat.le_refl _)
theorem wsB_ne (c : UInt8) (s : ByteArray) : wsB c s ≠ [] := by
  unfold wsB
  intro h
  exact spl_ne c _ (List.map_eq_nil_iff.1 h)
theorem wsB_free (c : UInt8) (s : ByteArray) : ∀ x ∈ wsB c s, c ∉ x.data.toList := by
  intro x hx
  obtain ⟨l, hl, rfl⟩ := List.mem_map.1 hx
  simpa using spl_free c _ l hl
/-- Words joined by a byte. -/
def jnS (c : UInt8) (xs : List ByteArray) : ByteArray := ⟨(Lib.join (xs.map (·.data.toList)) [c]).toArray⟩
theorem jnS_inj (c : UInt8) {L M : List ByteArray} (hL : L ≠ []) (hM : M ≠ []) (fL : ∀ x ∈ L, c ∉ x.data.toList) (fM : ∀ x ∈ M, c ∉ x.data.toList) : jnS c L = jnS c M ↔ L = M := by
  constructor
  · intro h
    have h1 : (jnS c L).data.toList = (jnS c M).data.toList := by rw [h]
    unfold jnS at h1
    simp only at h1
    refine map_data_inj (join_inj c (by simpa using hL) (by simpa using hM) (fun l hl => ?_) (fun l hl => ?_) h1)
    · obtain ⟨x, hx, rfl⟩ := List.mem_map.1 hl
      exact fL x hx
    · obtain ⟨x, hx, rfl⟩ := List.mem_map.1 hl
      exact fM x hx
  · rintro rfl; rfl
end

section
/-- What a letter counts, 0 if it is none. -/
def lv (b : UInt8) : Int := if b = 105 then 1 else if b = 118 then 5 else if b = 120 then 10 else if b = 108 then 50 else if b = 99 then 100 else if b = 100 then 500 else if b = 109 then 1000 else 0
theorem lv_bd (b : UInt8) : 0 ≤ lv b ∧ lv b ≤ 1000 := by unfold lv; repeat' split; all_goals omega
def hdv : List UInt8 → Int
  | [] => 0
  | b :: _ => lv b
/-- A letter ahead of one that counts more is taken off. -/
def lsum : List UInt8 → Int
  | [] => 0
  | b :: l => (if lv b < hdv l then - lv b else lv b) + lsum l
theorem lsum_drop (l : List UInt8) (i : Nat) (h : i < l.length) :
    lsum (l.drop i) = (if lv l[i] < hdv (l.drop (i + 1)) then - lv l[i] else lv l[i]) + lsum (l.drop (i + 1)) := by
  rw [List.drop_eq_getElem_cons h]; rfl
theorem hdv_drop (l : List UInt8) (i : Nat) (h : i < l.length) : hdv (l.drop i) = lv l[i] := by
  rw [List.drop_eq_getElem_cons h]; rfl
theorem hdv_end (l : List UInt8) (i : Nat) (h : l.length ≤ i) : hdv (l.drop i) = 0 := by
  rw [List.drop_eq_nil_of_le h]; rfl

/-- v instead of u. -/
def uv (b : UInt8) : UInt8 := if b = 117 then 118 else b
theorem uv_j (b : UInt8) : uv b = 106 ↔ b = 106 := by
  unfold uv
  split
  · rename_i h; subst h; decide
  · exact Iff.rfl
/-- A word with v instead of u and a last i instead of j. -/
def plL (l : List UInt8) : List UInt8 := if (l.map uv).getLast? = some 106 then (l.map uv).dropLast ++ [105] else l.map uv
theorem plL_length (l : List UInt8) : (plL l).length = l.length := by
  unfold plL
  split
  · rename_i h
    cases l with
    | nil => simp at h
    | cons a l => simp
  · simp
theorem plL_get (l : List UInt8) (i : Nat) (h : i < l.length) : (plL l)[i]'(by rw [plL_length]; exact h) = if l[i] = 106 ∧ i + 1 = l.length then 105 else uv l[i] := by
  by_cases hL : (l.map uv).getLast? = some 106
  · have e : plL l = (l.map uv).dropLast ++ [105] := if_pos hL
    have hj : l[l.length - 1]'(by omega) = 106 := by
      rw [List.getLast?_eq_getElem?, List.length_map, List.getElem?_map, List.getElem?_eq_getElem (by omega), Option.map_some, Option.some.injEq] at hL
      exact (uv_j _).1 hL
    simp only [e]
    by_cases hi : i + 1 = l.length
    · have : i = l.length - 1 := by omega
      subst this
      rw [List.getElem_append_right (by simp), if_pos ⟨hj, hi⟩]
      simp
    · rw [List.getElem_append_left (by simp; omega), if_neg (fun hh => hi hh.2)]
      simp
  · have e : plL l = l.map uv := if_neg hL
    simp only [e, List.getElem_map]
    rw [if_neg]
    intro hh
    apply hL
    rw [List.getLast?_eq_getElem?, List.length_map, List.getElem?_map, List.getElem?_eq_getElem (by omega), Option.map_some, Option.some.injEq, uv_j]
    have : l.length - 1 = i := by omega
    simp only [this]
    exact hh.1

/-- The letters for a digit. -/
def digL (d : Nat) (a b c : UInt8) (old : Bool) : List UInt8 :=
  if d = 4 ∧ old = false then [a, b] else if d = 9 ∧ old = false then [a, c] else if 5 ≤ d then b :: List.replicate (d - 5) a else List.replicate d a
def formL (n : Nat) (old : Bool) : List UInt8 :=
  List.replicate (n / 1000) 109 ++ digL (n / 100 % 10) 99 100 109 old ++ digL (n / 10 % 10) 120 108 99 old ++ digL (n % 10) 105 118 120 old
theorem digL_mem {d : Nat} {a b c x : UInt8} {old : Bool} (h : x ∈ digL d a b c old) : x = a ∨ x = b ∨ x = c := by
  unfold digL at h
  split at h
  · simp at h; rcases h with h | h <;> simp [h]
  · split at h
    · simp at h; rcases h with h | h <;> simp [h]
    · split at h
      · rcases List.mem_cons.1 h with h | h
        · simp [h]
        · simp [List.eq_of_mem_replicate h]
      · simp [List.eq_of_mem_replicate h]
theorem formL_known {n : Nat} {old : Bool} {x : UInt8} (h : x ∈ formL n old) : lv x ≠ 0 := by
  unfold formL at h
  simp only [List.mem_append] at h
  rcases h with ((h | h) | h) | h
  · rw [List.eq_of_mem_replicate h]; decide
  all_goals (rcases digL_mem h with h | h | h <;> subst h <;> decide)

/-- The number that a numeral writes, 0 if it is none: as the reference reads it. -/
def numL (l : List UInt8) : Int :=
  if l.length ≤ 20 ∧ (1 ≤ lsum (plL l) ∧ lsum (plL l) ≤ 3999) ∧ (plL l = formL (lsum (plL l)).toNat false ∨ plL l = formL (lsum (plL l)).toNat true) then lsum (plL l) else 0
/-- As the program reads it: it ends at a letter that counts nothing. -/
def numI (l : List UInt8) : Int :=
  if 1 ≤ l.length ∧ l.length ≤ 20 ∧ (∀ x ∈ plL l, lv x ≠ 0) ∧ (1 ≤ lsum (plL l) ∧ lsum (plL l) ≤ 3999) ∧ (plL l = formL (lsum (plL l)).toNat false ∨ plL l = formL (lsum (plL l)).toNat true) then lsum (plL l) else 0
theorem numI_eq (l : List UInt8) : numI l = numL l := by
  unfold numI numL
  congr 1
  apply propext
  constructor
  · rintro ⟨_, h1, _, h3⟩; exact ⟨h1, h3⟩
  · rintro ⟨h1, h2, h3⟩
    refine ⟨?_, h1, ?_, h2, h3⟩
    · cases l with
      | nil =>
        have : lsum (plL []) = 0 := rfl
        omega
      | cons a l => simp
    · intro x hx
      rcases h3 with e | e
      · rw [e] at hx; exact formL_known hx
      · rw [e] at hx; exact formL_known hx
end
end Go.Proofs.YteajkofgcmfaoaaGreatDoor
