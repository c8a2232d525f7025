/- Walk: the law FnItineraries. Printed by gen_lawitn.py. -/
import Derived.Test.YtipdcgfdejmjfaaGreatDoorAddI
import Derived.Test.YtipdcgfdejmjfaaGreatDoorPoss
import Derived.Test.YtipdcgfdejmjfaaGreatDoorSetH
import Derived.Test.YtipdcgfdejmjfaaGreatDoorDmu
import Derived.Test.YtipdcgfdejmjfaaGreatDoorDice
namespace Go.Proofs.YtipdcgfdejmjfaaGreatDoor
section
/-- The stays follow one another, each from its first to its last day. -/
def Dis (l : List St) : Prop := (∀ x ∈ l, x.fr ≤ x.to) ∧ l.Pairwise fun x y => x.to < y.fr
theorem okSt_le {n : Nat} {p : St} (h : okSt n p = true) : p.fr ≤ p.to := by
  unfold okSt spanB at h
  simp only [Bool.and_eq_true, decide_eq_true_eq] at h
  exact h.2.2
theorem dis_go {n : Nat} {ws : List Wy} : ∀ {xs : List St} {p : St}, upGo (okSt n) (ltSt n ws) (some p) xs = true → (∀ x ∈ xs, p.to < x.fr) ∧ Dis xs
  | [], _, _ => ⟨by simp, by simp, List.Pairwise.nil⟩
  | x :: xs, p, h => by
    simp only [upGo, Bool.and_eq_true] at h
    obtain ⟨h1, h2, h3⟩ := dis_go h.2
    have h4 : p.to < x.fr := by
      have h4 := h.1.2
      unfold ltSt at h4
      simp only [Bool.and_eq_true, decide_eq_true_eq] at h4
      omega
    have h5 := okSt_le h.1.1
    refine ⟨fun y hy => ?_, fun y hy => ?_, List.Pairwise.cons h1 h3⟩
    · rcases List.mem_cons.1 hy with rfl | hy
      · exact h4
      · have := h1 y hy
        omega
    · rcases List.mem_cons.1 hy with rfl | hy
      · exact h5
      · exact h2 y hy
theorem itin_dis {ps : List ByteArray} {ws : List Wy} {xs : List St} (h : isItinB ps ws xs = true) : Dis xs := by
  unfold isItinB areStaysB at h
  simp only [Bool.and_eq_true, decide_eq_true_eq] at h
  cases xs with
  | nil => exact ⟨by simp, List.Pairwise.nil⟩
  | cons x xs =>
    have h1 := h.1.2
    simp only [upGo, Bool.and_eq_true] at h1
    obtain ⟨h2, h3, h4⟩ := dis_go h1.2
    have h5 := okSt_le h1.1
    exact ⟨fun y hy => by rcases List.mem_cons.1 hy with rfl | hy; exact h5; exact h3 y hy, List.Pairwise.cons h2 h4⟩
theorem Dis.lt {l : List St} (h : Dis l) {i j : Nat} {x y : St} (hx : l[i]? = some x) (hy : l[j]? = some y) (hij : i < j) : x.to < y.fr := by
  obtain ⟨h1, rfl⟩ := List.getElem?_eq_some_iff.1 hx
  obtain ⟨h2, rfl⟩ := List.getElem?_eq_some_iff.1 hy
  exact List.pairwise_iff_getElem.1 h.2 i j h1 h2 hij
theorem Dis.le {l : List St} (h : Dis l) {i : Nat} {x : St} (hx : l[i]? = some x) : x.fr ≤ x.to := h.1 x (List.mem_of_getElem? hx)
/-- Where a day stands among the stays. -/
theorem day_pos (z : Int) : ∀ {l : List St}, Dis l → ∃ k, k ≤ l.length ∧ (∀ (i : Nat) x, l[i]? = some x → i < k → x.fr ≤ z) ∧ ∀ (i : Nat) x, l[i]? = some x → k ≤ i → z < x.fr
  | [], _ => ⟨0, Nat.le_refl _, fun i x h _ => by simp at h, fun i x h _ => by simp at h⟩
  | y :: l, h => by
    have hd : Dis l := ⟨fun x hx => h.1 x (by simp [hx]), (List.pairwise_cons.1 h.2).2⟩
    by_cases hy : y.fr ≤ z
    · obtain ⟨k, h1, h2, h3⟩ := day_pos z hd
      refine ⟨k + 1, by simp; omega, fun i x hx hi => ?_, fun i x hx hi => ?_⟩
      · cases i with
        | zero => simp at hx; subst hx; exact hy
        | succ i => exact h2 i x (by simpa using hx) (by omega)
      · cases i with
        | zero => omega
        | succ i => exact h3 i x (by simpa using hx) (by omega)
    · refine ⟨0, Nat.zero_le _, fun i x _ hi => by omega, fun i x hx _ => ?_⟩
      cases i with
      | zero => simp at hx; subst hx; omega
      | succ i =>
        have h1 := h.lt (i := 0) (j := i + 1) (x := y) (by simp) hx (by omega)
        have h2 := h.1 y (by simp)
        omega
theorem cbl_has {p : Int} {T : Nat → Int} {xs : List St} {z : Int} : ∀ {k : Nat}, Hs (cbl p T xs k) z ↔ ∃ i, i < k ∧ ((gapF T xs i ≤ z ∧ z ≤ gapT T xs i) ∨ ∃ s, xs[i]? = some s ∧ s.place = p ∧ s.fr ≤ z ∧ z ≤ s.to)
  | 0 => by
    constructor
    · rintro ⟨s, hs, _⟩
      cases hs
    · rintro ⟨i, hi, _⟩
      omega
  | k + 1 => by
    have ih := @cbl_has p T xs z k
    constructor
    · rintro ⟨s, hs, h1, h2⟩
      unfold cbl at hs
      rcases List.mem_append.1 hs with hs | hs
      · rcases List.mem_append.1 hs with hs | hs
        · obtain ⟨i, hi, h⟩ := ih.1 ⟨s, hs, h1, h2⟩
          exact ⟨i, by omega, h⟩
        · unfold gapL at hs
          split at hs
          · obtain rfl := List.mem_singleton.1 hs
            exact ⟨k, by omega, .inl ⟨h1, h2⟩⟩
          · cases hs
      · unfold stL at hs
        split at hs
        · rename_i b hb
          split at hs
          · rename_i hp
            obtain rfl := List.mem_singleton.1 hs
            exact ⟨k, by omega, .inr ⟨b, hb, hp, h1, h2⟩⟩
          · cases hs
        · cases hs
    · rintro ⟨i, hi, h⟩
      by_cases hik : i < k
      · obtain ⟨s, hs, h1⟩ := ih.2 ⟨i, hik, h⟩
        exact ⟨s, by unfold cbl; simp [hs], h1⟩
      · obtain rfl : i = k := by omega
        rcases h with h | ⟨b, hb, hp, h1, h2⟩
        · refine ⟨⟨gapF T xs i, gapT T xs i⟩, ?_, h.1, h.2⟩
          unfold cbl gapL
          rw [if_pos (by omega)]
          simp
        · refine ⟨⟨b.fr, b.to⟩, ?_, h1, h2⟩
          unfold cbl stL
          rw [hb]
          simp [hp]
theorem prevOf_succ {xs : List St} {i : Nat} {b : St} : prevOf xs i = some b ↔ ∃ j, i = j + 1 ∧ xs[j]? = some b := by
  cases i with
  | zero => simp [prevOf]
  | succ i => simp [prevOf]
/-- A day in a gap stands at its place, and in no stay. -/
theorem gap_at {T : Nat → Int} {xs : List St} {z : Int} {k : Nat} (hd : Dis xs) (h1 : ∀ (i : Nat) x, xs[i]? = some x → i < k → x.fr ≤ z) (h2 : ∀ (i : Nat) x, xs[i]? = some x → k ≤ i → z < x.fr) {i : Nat} (hi : i ≤ xs.length) (hk : k ≤ xs.length)
    (hf : gapF T xs i ≤ z) (ht : z ≤ gapT T xs i) : i = k ∧ ∀ (j : Nat) x, xs[j]? = some x → ¬ (x.fr ≤ z ∧ z ≤ x.to) := by
  have hF : ∀ (j : Nat) (b : St), i = j + 1 → xs[j]? = some b → b.to < z := by
    intro j b hj hb
    have e : prevOf xs i = some b := prevOf_succ.2 ⟨j, hj, hb⟩
    unfold gapF at hf
    rw [e] at hf
    simp only at hf
    omega
  have hT : ∀ b : St, xs[i]? = some b → z < b.fr := by
    intro b hb
    unfold gapT at ht
    rw [hb] at ht
    simp only at ht
    omega
  have hik : i = k := by
    rcases Nat.lt_trichotomy i k with h | h | h
    · have hb := List.getElem?_eq_getElem (show i < xs.length by omega)
      have := hT _ hb
      have := h1 i _ hb h
      omega
    · exact h
    · have hb := List.getElem?_eq_getElem (show i - 1 < xs.length by omega)
      have := hF (i - 1) _ (by omega) hb
      have := h2 (i - 1) _ hb (by omega)
      have := hd.le hb
      omega
  refine ⟨hik, fun j x hx hin => ?_⟩
  by_cases hj : j < i
  · by_cases hj1 : j + 1 = i
    · have := hF j x hj1.symm hx
      omega
    · have hb := List.getElem?_eq_getElem (show i - 1 < xs.length by omega)
      have := hF (i - 1) _ (by omega) hb
      have h5 := hd.lt hx hb (by omega)
      have := hd.le hb
      omega
  · by_cases hj1 : j = i
    · subst hj1
      have := hT x hx
      omega
    · have hl := (List.getElem?_eq_some_iff.1 hx).1
      have hb := List.getElem?_eq_getElem (show i < xs.length by omega)
      have := hT _ hb
      have h5 := hd.lt hb hx (by omega)
      have := hd.le hb
      omega
theorem upGo_ins {α : Type} {ok : α → Bool} {lt : α → α → Bool} {s : α} : ∀ {xs : List α} {p : Option α} {k : Nat}, upGo ok lt p xs = true → k ≤ xs.length →
    upGo ok lt p (xs.take k ++ s :: xs.drop k) = (ok s && (match (if k = 0 then p else xs[k - 1]?) with | some b => lt b s | none => true) && (match xs[k]? with | some m => lt s m | none => true))
  | xs, p, 0, h, _ => by
    simp only [List.take_zero, List.nil_append, List.drop_zero, if_pos]
    have h2 : upGo ok lt (some s) xs = (match xs[0]? with | some m => lt s m | none => true) := by
      cases xs with
      | nil => rfl
      | cons m r =>
        have h3 : ok m = true ∧ upGo ok lt (some m) r = true := by
          cases p <;> simp [upGo] at h <;> simp [h]
        simp [upGo, h3]
    cases p with
    | none => simp [upGo, h2]
    | some b => simp [upGo, h2]
  | [], p, k + 1, _, hk => by simp at hk
  | x :: xs, p, k + 1, h, hk => by
    have h1 : upGo ok lt (some x) xs = true := by cases p <;> simp [upGo] at h <;> simp [h]
    have ih := upGo_ins (s := s) (k := k) h1 (by simpa using hk)
    simp only [List.take_succ_cons, List.cons_append, List.drop_succ_cons, List.getElem?_cons_succ, Nat.add_sub_cancel]
    rw [if_neg (by omega)]
    have e : (if k = 0 then some x else xs[k - 1]?) = (x :: xs)[k]? := by
      cases k with
      | zero => rfl
      | succ k => simp
    rw [e] at ih
    cases p with
    | none => simp [upGo] at h; simp [upGo, h, ih]
    | some b => simp [upGo] at h; simp [upGo, h, ih]
theorem fidx_neg {α : Type} {p : α → Bool} {xs : List α} (h : ∀ (j : Nat) x, xs[j]? = some x → p x = false) : fidx p xs 0 = -1 := by
  rcases fidx_bd p xs 0 with e | ⟨k, x, e, _, hx, hp⟩
  · exact e
  · rw [h k x hx] at hp; cases hp
theorem fidx_some {α : Type} {p : α → Bool} {xs : List α} {j : Nat} {x : α} (hx : xs[j]? = some x) (hp : p x = true) : ∃ (k : Nat) (y : α), fidx p xs 0 = (k : Int) ∧ xs[k]? = some y ∧ p y = true := by
  rcases fidx_bd p xs 0 with e | ⟨k, y, e, _, hy, hq⟩
  · have h1 := fidx_any p xs
    rw [e] at h1
    have h2 : xs.any p = true := List.any_eq_true.2 ⟨x, List.mem_of_getElem? hx, hp⟩
    rw [h2] at h1
    simp at h1
  · exact ⟨k, y, by simpa using e, hy, hq⟩
theorem inStay_iff {z : Int} {m : St} : inStay z m = true ↔ m.fr ≤ z ∧ z ≤ m.to := by unfold inStay inB; simp
/-- PlaceOn on a day that is in a stay, or in none. -/
theorem placeOn_in {xs : List St} {z : Int} {j : Nat} {x : St} (hd : Dis xs) (hx : xs[j]? = some x) (h : x.fr ≤ z ∧ z ≤ x.to) : placeOnR xs z 0 = (x.place, 0) := by
  obtain ⟨k, y, e, hy, hq⟩ := fidx_some hx (inStay_iff.2 h)
  have hjk : k = j := by
    have h1 := inStay_iff.1 hq
    rcases Nat.lt_trichotomy k j with h2 | h2 | h2
    · have := hd.lt hy hx h2; omega
    · exact h2
    · have := hd.lt hx hy h2; omega
  subst hjk
  rw [hx] at hy
  cases hy
  unfold placeOnR
  rw [if_pos rfl, e, if_neg (by omega), Int.toNat_natCast, hx]
theorem placeOn_out {xs : List St} {z : Int} (h : ∀ (j : Nat) x, xs[j]? = some x → ¬ (x.fr ≤ z ∧ z ≤ x.to)) : placeOnR xs z 0 = (0, 4) := by
  have e : fidx (inStay z) xs 0 = -1 := fidx_neg fun j x hx => by
    cases hq : inStay z x
    · rfl
    · exact absurd (inStay_iff.1 hq) (h j x hx)
  unfold placeOnR
  rw [if_pos rfl, e]
  rfl
theorem jxl_none {p : Nat → Bool} : ∀ {k : Nat}, (∀ v, v < k → p v = false) → jxl p k = []
  | 0, _ => rfl
  | k + 1, h => by
    unfold jxl
    rw [h k (by omega), jxl_none (fun v hv => h v (by omega))]
    rfl
theorem jxl_one {p : Nat → Bool} {q : Nat} : ∀ {k : Nat}, q < k → p q = true → (∀ v, v < k → p v = true → v = q) → jxl p k = [(q : Int)]
  | 0, h, _, _ => by omega
  | k + 1, h, h1, h2 => by
    unfold jxl
    by_cases hk : q = k
    · subst hk
      rw [h1, jxl_none (fun v hv => by
        cases e : p v
        · rfl
        · have := h2 v (by omega) e; omega)]
      rfl
    · have e : p k = false := by
        cases e : p k
        · rfl
        · have := h2 k (by omega) e; omega
      rw [e, jxl_one (by omega) h1 (fun v hv => h2 v (by omega))]
      rfl
theorem codeI_ok {ps : List ByteArray} {ws : List Wy} {xs : List St} {b : Bool} (h : isItinB ps ws xs = true) (hb : b = true) : codeI ps ws xs b = 0 := by unfold codeI; rw [h, hb]; rfl
/-- On a day of a stay, its place is the only possible one. -/
theorem place_law {ps : List ByteArray} {ws : List Wy} {xs : List St} {z : Int} (h : (placeOnR xs z (codeI ps ws xs (dayB z))).2 = 0) :
    (possR ps ws xs z (codeI ps ws xs (dayB z))).1 = [(placeOnR xs z (codeI ps ws xs (dayB z))).1] := by
  have hc : codeI ps ws xs (dayB z) = 0 := by
    unfold placeOnR at h
    split at h
    · assumption
    · exact h
  obtain ⟨hi, hz⟩ := codeI_zero hc
  have hd := itin_dis hi
  obtain ⟨hA, ho, _⟩ := itin_facts hi
  obtain ⟨k, hk, h1, h2⟩ := day_pos z hd
  by_cases hin : ∃ (j : Nat) (x : St), xs[j]? = some x ∧ (x.fr ≤ z ∧ z ≤ x.to)
  · obtain ⟨j, x, hx, hxz⟩ := hin
    rw [hc, placeOn_in hd hx hxz]
    obtain ⟨⟨q, hq, hqn⟩, _⟩ := okSt_bd (ho x (List.mem_of_getElem? hx))
    unfold possR
    rw [if_pos rfl]
    show jxl _ _ = [x.place]
    rw [hq]
    have hP : ∀ v, pP ps.length ws xs z v = true ↔ v = q := by
      intro v
      unfold pP
      rw [hasB_uni (cbl_ok ho _), hasB_iff, cbl_has]
      constructor
      · rintro ⟨i, hi2, hg | ⟨s, hs, hp, hs2⟩⟩
        · exact absurd hxz ((gap_at hd h1 h2 (by omega) hk hg.1 hg.2).2 j x hx)
        · have hij : i = j := by
            rcases Nat.lt_trichotomy i j with h3 | h3 | h3
            · have := hd.lt hs hx h3; omega
            · exact h3
            · have := hd.lt hx hs h3; omega
          subst hij
          rw [hx] at hs
          cases hs
          omega
      · rintro rfl
        exact ⟨j, by have := (List.getElem?_eq_some_iff.1 hx).1; omega, .inr ⟨x, hx, hq, hxz⟩⟩
    exact jxl_one hqn ((hP q).2 rfl) (fun v _ hv => (hP v).1 hv)
  · rw [hc, placeOn_out (fun j x hx hxz => hin ⟨j, x, hx, hxz⟩)] at h
    simp at h
theorem placeB_nat {n : Nat} {q : Int} (h : placeB n q = true) : ∃ a : Nat, q = a ∧ a < n := place_nat h
/-- A day at a place can be added exactly if somebody could be there. -/
theorem add_law {ps : List ByteArray} {ws : List Wy} {xs : List St} {q z : Int} (h : codeI ps ws xs (placeB ps.length q && dayB z) = 0) (h40 : ¬ xs.length = 40) :
    ((placeOnR xs z (codeI ps ws xs (dayB z))).2 = 0 ∧ (addR ps ws xs ⟨q, z, z⟩).2 = 5) ∨
      ((placeOnR xs z (codeI ps ws xs (dayB z))).2 = 4 ∧ ((cbR ps ws xs q z 0).1 = true ↔ (addR ps ws xs ⟨q, z, z⟩).2 = 0)) := by
  obtain ⟨hi, hb⟩ := codeI_zero h
  simp only [Bool.and_eq_true] at hb
  obtain ⟨hpl, hz⟩ := hb
  have hd := itin_dis hi
  obtain ⟨hA, ho, hl⟩ := itin_facts hi
  have hco : codeI ps ws xs (dayB z) = 0 := codeI_ok hi hz
  rw [hco]
  obtain ⟨k, hk, h1, h2⟩ := day_pos z hd
  obtain ⟨a, rfl, ha⟩ := placeB_nat hpl
  have hzb := dayB_bd hz
  have hos : okSt ps.length ⟨(a : Int), z, z⟩ = true := by unfold okSt spanB; simp [hpl, hz]
  have hins : insSt ⟨(a : Int), z, z⟩ xs = xs.take k ++ ⟨(a : Int), z, z⟩ :: xs.drop k := by
    refine insSt_at (fun x hx => ?_) (fun x hx => ?_)
    · obtain ⟨i, hi2, rfl⟩ := List.getElem_of_mem hx
      rw [List.length_take] at hi2
      rw [List.getElem_take]
      exact h1 i _ (List.getElem?_eq_getElem (by omega)) (by omega)
    · have := h2 k x hx (Nat.le_refl _)
      simp only; omega
  have hup : upGo (okSt ps.length) (ltSt ps.length ws) none xs = true := by
    unfold isItinB areStaysB at hi
    simp only [Bool.and_eq_true] at hi
    exact hi.1.2
  have hit : isItinB ps ws (insSt ⟨(a : Int), z, z⟩ xs) = ((match prevOf xs k with | some b => ltSt ps.length ws b ⟨(a : Int), z, z⟩ | none => true) && (match xs[k]? with | some m => ltSt ps.length ws ⟨(a : Int), z, z⟩ m | none => true)) := by
    unfold isItinB areStaysB
    rw [hA, insSt_len, hins, upGo_ins hup hk, hos, decide_eq_true (show xs.length + 1 ≤ 40 by omega)]
    have e : (if k = 0 then none else xs[k - 1]?) = prevOf xs k := by cases k <;> simp [prevOf]
    rw [e]
    simp only [Bool.true_and, Bool.and_true]
    cases prevOf xs k <;> cases xs[k]? <;> rfl
  by_cases hin : ∃ (j : Nat) (x : St), xs[j]? = some x ∧ (x.fr ≤ z ∧ z ≤ x.to)
  · obtain ⟨j, x, hx, hxz⟩ := hin
    refine .inl ⟨by rw [placeOn_in hd hx hxz], ?_⟩
    have hjk : k = j + 1 := by
      have h3 : ¬ k ≤ j := fun h3 => by have := h2 j x hx h3; omega
      rcases Nat.lt_or_ge (j + 1) k with h4 | h4
      · have hb := List.getElem?_eq_getElem (show j + 1 < xs.length by omega)
        have h5 := h1 (j + 1) _ hb h4
        have h6 := hd.lt hx hb (by omega)
        omega
      · omega
    have hpv : prevOf xs k = some x := prevOf_succ.2 ⟨j, hjk, hx⟩
    have hlt : ltSt ps.length ws x ⟨(a : Int), z, z⟩ = false := by
      unfold ltSt
      rw [decide_eq_false (show ¬ x.to < z by omega)]
      simp
    rw [hpv] at hit
    simp only at hit
    rw [hlt, Bool.false_and] at hit
    rw [addR_not hi hos h40 hit]
  · have hout : ∀ (j : Nat) x, xs[j]? = some x → ¬ (x.fr ≤ z ∧ z ≤ x.to) := fun j x hx hxz => hin ⟨j, x, hx, hxz⟩
    refine .inr ⟨by rw [placeOn_out hout], ?_⟩
    have hadd : (addR ps ws xs ⟨(a : Int), z, z⟩).2 = 0 ↔ isItinB ps ws (insSt ⟨(a : Int), z, z⟩ xs) = true := by
      cases e : isItinB ps ws (insSt ⟨(a : Int), z, z⟩ xs)
      · rw [addR_not hi hos h40 e]; simp
      · rw [addR_ok hi hos h40 e]; simp
    rw [hadd, hit]
    unfold cbR
    rw [if_pos rfl]
    show hasB _ _ = true ↔ _
    rw [hasB_uni (cbl_ok ho _), hasB_iff, cbl_has, Int.toNat_natCast]
    have hF : gapF (fun v => travM ps.length ws v a) xs k ≤ z ↔ (match prevOf xs k with | some b => ltSt ps.length ws b ⟨(a : Int), z, z⟩ | none => true) = true := by
      unfold gapF
      cases e : prevOf xs k with
      | none => simp; omega
      | some b =>
        obtain ⟨j, _, hb⟩ := prevOf_succ.1 e
        obtain ⟨⟨u, hu, hun⟩, hbd⟩ := okSt_bd (ho b (List.mem_of_getElem? hb))
        have ht := trav_bd hA hun ha
        unfold ltSt
        simp only [Bool.and_eq_true, decide_eq_true_eq, hu, Int.toNat_natCast]
        omega
    have hT : z ≤ gapT (fun v => travM ps.length ws v a) xs k ↔ (match xs[k]? with | some m => ltSt ps.length ws ⟨(a : Int), z, z⟩ m | none => true) = true := by
      unfold gapT
      cases e : xs[k]? with
      | none => simp; omega
      | some b =>
        obtain ⟨⟨u, hu, hun⟩, hbd⟩ := okSt_bd (ho b (List.mem_of_getElem? e))
        have ht := trav_bd hA hun ha
        have hs := travM_symm (landOk hA).1.ok ha hun
        unfold ltSt
        simp only [Bool.and_eq_true, decide_eq_true_eq, hu, Int.toNat_natCast]
        rw [hs]
        omega
    rw [Bool.and_eq_true, ← hF, ← hT]
    constructor
    · rintro ⟨i, hi2, hg | ⟨s, hs, _, hs2⟩⟩
      · obtain rfl := (gap_at hd h1 h2 (by omega) hk hg.1 hg.2).1
        exact hg
      · exact absurd hs2 (hout i s hs)
    · intro hg
      exact ⟨k, by omega, .inl hg⟩
/-- What AddStay answers. -/
theorem addR_good {ps : List ByteArray} {ws : List Wy} {xs : List St} {s : St} (h : (addR ps ws xs s).2 = 0) : isItinB ps ws (addR ps ws xs s).1 = true ∧ (addR ps ws xs s).1.length = xs.length + 1 := by
  unfold addR at *
  split at h <;> rename_i h1
  · split at h <;> rename_i h2
    · split at h <;> rename_i h3
      · simp at h
      · split at h <;> rename_i h4
        · rw [if_pos h1, if_pos h2, if_neg h3, if_pos h4]
          exact ⟨h4, insSt_len _ _⟩
        · simp at h
    · simp at h
  · simp at h
/-- The days on which somebody could be at a place are a set, and it has the day exactly if CouldBe says so. -/
theorem cbd_law {ps : List ByteArray} {ws : List Wy} {xs : List St} {q z : Int} (h : codeI ps ws xs (placeB ps.length q && dayB z) = 0) (hl : xs.length ≤ 5) :
    (cbdR ps ws xs q (codeI ps ws xs (placeB ps.length q))).2 = 0 ∧ isSetP (cbdR ps ws xs q (codeI ps ws xs (placeB ps.length q))).1 ∧ (cbdR ps ws xs q (codeI ps ws xs (placeB ps.length q))).1.length ≤ 300 ∧
      hasB (cbdR ps ws xs q (codeI ps ws xs (placeB ps.length q))).1 z = (cbR ps ws xs q z (codeI ps ws xs (placeB ps.length q && dayB z))).1 ∧ dayB z = true := by
  obtain ⟨hi, hb⟩ := codeI_zero h
  simp only [Bool.and_eq_true] at hb
  obtain ⟨hA, ho, _⟩ := itin_facts hi
  rw [h, codeI_ok hi hb.1]
  unfold cbdR cbR
  rw [if_pos rfl, if_pos rfl]
  have hf := uni_facts (cbl_ok (p := q) (T := fun v => travM ps.length ws v q.toNat) ho (xs.length + 1))
  have h1 := uni_len (cbl q (fun v => travM ps.length ws v q.toNat) xs (xs.length + 1))
  have h2 := cbl_len q (fun v => travM ps.length ws v q.toNat) xs (xs.length + 1)
  exact ⟨rfl, isSetP_of hf.2.1 hf.1, by show (uni _).length ≤ 300; omega, rfl, hb.2⟩
theorem possR_code (ps : List ByteArray) (ws : List Wy) (xs : List St) (z : Int) : ((possR ps ws xs z (codeI ps ws xs (dayB z))).2 != 1) = isItinB ps ws xs := by
  have e : (possR ps ws xs z (codeI ps ws xs (dayB z))).2 = codeI ps ws xs (dayB z) := by
    unfold possR
    split
    · rename_i h; exact h.symm
    · rfl
  rw [e]
  unfold codeI
  cases isItinB ps ws xs
  · rfl
  · cases dayB z <;> rfl
theorem cbR_code (ps : List ByteArray) (ws : List Wy) (xs : List St) (q z c : Int) : (cbR ps ws xs q z c).2 = c := by
  unfold cbR
  split
  · rename_i h; exact h.symm
  · rfl
end

section
open Go.ChangeShapes Go.WideShapes Go.ChangeAt Go.RowKit Go.IntWalk

theorem own_capQ {w : World} {base : Nat} {E : TypeId} {k g n cap : Nat} {xs : List Value} (h : w.ownsRow base E k (.slice (some ⟨g, 0, none⟩) n cap) n xs) : n ≤ cap := by
  rcases h.2 with ⟨e0, _⟩ | ⟨g', cap', cur, e0, hb, hg, hn, hm, hs, ht⟩
  · cases e0
  · injection e0 with _ _ e3
    omega
set_option maxRecDepth 100000 in
set_option maxHeartbeats 2000000 in
theorem likeStays_self (a b : Option Addr) (ca cb : Nat) (xs : List St) (w : World) (hl : xs.length ≤ 2097152) (hx : Rd encSt w a xs) (hy : Rd encSt w b xs) :
    Calls Tryz.prog 23 #[.slice a xs.length ca, .slice b xs.length cb] w fun e w' => e = .returned (.bool true) ∧ Below w.heap.size w w' := by
  have hne : (((xs.length : Nat) : Int) != (xs.length : Nat)) = false := by simp
  have hB0 := Below.refl w.heap.size w
  go_enter Tryz.func23, Tryz.ntmps23
  go_wp2
  go_loopw [5] (fun i wr => ∃ (k : Nat), k ≤ xs.length ∧ i = .int .i64 k ∧ Below w.heap.size w wr) (fun i _ => xs.length - (intOf i).toNat)
  case atStart => exact ⟨0, Nat.zero_le _, rfl, hB0⟩
  case round =>
    clear hB0
    obtain ⟨k, hk, rfl, hB⟩ := hrel
    by_cases hlt : k < xs.length
    · have hk1 : (k : Int) < (xs.length : Int) := by omega
      have hm := List.getElem?_eq_getElem hlt
      generalize xs[k] = m at hm
      obtain ⟨b, off, rfl, hb, c0, c1, c2⟩ := (hx.below hB).st hm
      obtain ⟨b', off', rfl, hb', e0, e1, e2⟩ := (hy.below hB).st hm
      have q0 : (m.place != m.place) = false := by simp
      have q1 : (m.fr != m.fr) = false := by simp
      have q2 : (m.to != m.to) = false := by simp
      clear hm
      go_wp2_with fail
      go_still (by kernel_rfl)
      go_wp2
      go_roundw
      case rel => exact ⟨k + 1, by omega, by go_num, hB.drew⟩
      case measure => simp [intOf]; omega
    · have hk' : decide ((k : Int) < (xs.length : Int)) = false := by simp; omega
      go_wp2
      go_ret
      exact ⟨rfl, hB⟩
set_option maxRecDepth 100000 in
set_option maxHeartbeats 16000000 in
theorem lawItin_any (cs : Option Addr) (cap : Nat) (bs : List Int) (w : World) (_hl : bs.length ≤ maxLen) (hx : Rd encB w cs bs) (hb : ∀ m ∈ bs, goodB m) :
    Calls Tryz.prog 4 #[.slice cs bs.length cap] w fun e w' => e = .returned (.bool true) ∧ Below w.heap.size w w' := by
  have HBIG := Lib.hid (big_any cs cap bs.length w)
  by_cases hbig : 4096 < bs.length
  · have HBIG := Lib.hid ((show decide (4096 < bs.length) = true by simpa using hbig) ▸ HBIG.out)
    go_enter Tryz.func4, Tryz.ntmps4
    go_wp2_with fail
    refine HBIG.out.mono ?_
    rintro e w1 ⟨rfl, rfl⟩
    go_wp2
    go_ret
    exact ⟨rfl, Below.refl _ _⟩
  have HBIG := Lib.hid ((show decide (4096 < bs.length) = false by simpa using hbig) ▸ HBIG.out)
  have hl : bs.length ≤ 4096 := by omega
  go_enter Tryz.func4, Tryz.ntmps4
  go_wp2_with fail
  refine HBIG.out.mono ?_
  rintro e w0 ⟨rfl, rfl⟩
  clear HBIG hbig
  go_wp2_with fail
  refine (drawCouldBe_any cs cap bs w hx hb hl).mono ?_
  rintro e w1 ⟨a0, a1, c0, c1, ns, ws, g, c, sts, q, z, rfl, L1, hsl, hz, o1, hB⟩
  generalize hW : w1.alloc (.cells #[.slice a0 ns.length c0, .slice a1 ws.length c1] 35) = W3
  have hB1 : Below w1.heap.size w1 W3 := by rw [← hW]; exact belowA _ _
  have A0 : W3.cell? ⟨w1.heap.size, 0, none⟩ = some (.slice a0 ns.length c0) := by rw [← hW]; exact World.cell?_alloc_at _ _ _ _ rfl
  have A1 : W3.cell? ⟨w1.heap.size, 1, none⟩ = some (.slice a1 ws.length c1) := by rw [← hW]; exact World.cell?_alloc_at _ _ _ _ rfl
  have hla : w1.heap.size < W3.heap.size := by rw [← hW]; simp
  have L1 := L1.below hB1
  have o1 := own_below o1 hB1
  have hB := stepB hB hB1 hB.size
  clear hB1
  have HBI := Lib.hid (fun W (h0 : Rd encS W a0 ns) (h1 : Rd encWy W a1 ws) (h2 : Rd encSt W (some ⟨g, 0, none⟩) sts) => implCbOne_any a0 a1 (some ⟨g, 0, none⟩) c0 c1 c ns ws sts q z W L1.cap.1 L1.cap.2 (by have := L1.n1; omega) h0 (fun m hm => by have := L1.n3 m hm; omega) (by have := L1.n2; omega) h1 (by omega) h2)
  have HBS := Lib.hid (fun W (h0 : Rd encS W a0 ns) (h1 : Rd encWy W a1 ws) (h2 : Rd encSt W (some ⟨g, 0, none⟩) sts) => specCbOne_any a0 a1 (some ⟨g, 0, none⟩) c0 c1 c ns ws sts q z W L1.cap.1 L1.cap.2 (by have := L1.n1; omega) h0 (fun m hm => by have := L1.n3 m hm; omega) (by have := L1.n2; omega) h1 (by omega) h2)
  have hBc := cbR_code ns ws sts q z (codeI ns ws sts (placeB ns.length q && dayB z))
  have hBx : (cbR ns ws sts q z (codeI ns ws sts (placeB ns.length q && dayB z))).2 = 0 → (cbR ns ws sts q z (codeI ns ws sts (placeB ns.length q && dayB z))).1 = (cbR ns ws sts q z 0).1 := fun h => by rw [hBc] at h; rw [h]
  have hcbd := fun h => cbd_law (ps := ns) (ws := ws) (xs := sts) (q := q) (z := z) h (by omega)
  obtain ⟨⟨E1, E2⟩, hR0⟩ : ∃ R, cbR ns ws sts q z (codeI ns ws sts (placeB ns.length q && dayB z)) = R := ⟨_, rfl⟩
  rw [hR0] at HBI HBS hBc hBx hcbd
  dsimp only at HBI HBS hBc hBx hcbd
  clear hR0
  have HBC := Lib.hid hBc
  have HBX := Lib.hid hBx
  have HCBD := Lib.hid hcbd
  clear hBc hBx hcbd
  go_wp2_with fail
  clear hW
  refine (HBI.out _ L1.rd0 L1.rd1 (Rd.of_own encSt_len (by decide) o1)).mono ?_
  rintro e W4 ⟨rfl, hB1⟩
  have A0 := (hB1.cell (p := ⟨w1.heap.size, 0, none⟩) hla).trans A0
  have A1 := (hB1.cell (p := ⟨w1.heap.size, 1, none⟩) hla).trans A1
  have hla := Nat.lt_of_lt_of_le hla hB1.size
  have L1 := L1.below hB1
  have o1 := own_below o1 hB1
  have hB := stepB hB hB1 hB.size
  clear hB1
  go_wp2_with fail
  refine (HBS.out _ L1.rd0 L1.rd1 (Rd.of_own encSt_len (by decide) o1)).mono ?_
  rintro e W5 ⟨rfl, hB1⟩
  have A0 := (hB1.cell (p := ⟨w1.heap.size, 0, none⟩) hla).trans A0
  have A1 := (hB1.cell (p := ⟨w1.heap.size, 1, none⟩) hla).trans A1
  have hla := Nat.lt_of_lt_of_le hla hB1.size
  have L1 := L1.below hB1
  have o1 := own_below o1 hB1
  have hB := stepB hB hB1 hB.size
  clear hB1
  go_wp2_with fail
  refine (drawPlaceOn_any cs cap bs _ (hx.below hB) hb hl).mono ?_
  rintro e W6 ⟨a0', a1', c0', c1', ns', ws', g', c', sts', z', rfl, L2, hsl', hz', o2, hB1⟩
  have L2 := L2.base hB.size
  have o2 := own_base o2 hB.size
  have A0 := (hB1.cell (p := ⟨w1.heap.size, 0, none⟩) hla).trans A0
  have A1 := (hB1.cell (p := ⟨w1.heap.size, 1, none⟩) hla).trans A1
  have hla := Nat.lt_of_lt_of_le hla hB1.size
  have L1 := L1.below hB1
  have o1 := own_below o1 hB1
  have hB := stepB hB hB1 hB.size
  clear hB1
  generalize hW : W6.alloc (.cells #[.slice a0' ns'.length c0', .slice a1' ws'.length c1'] 35) = W7
  have hB1 : Below W6.heap.size W6 W7 := by rw [← hW]; exact belowA _ _
  have B0 : W7.cell? ⟨W6.heap.size, 0, none⟩ = some (.slice a0' ns'.length c0') := by rw [← hW]; exact World.cell?_alloc_at _ _ _ _ rfl
  have B1 : W7.cell? ⟨W6.heap.size, 1, none⟩ = some (.slice a1' ws'.length c1') := by rw [← hW]; exact World.cell?_alloc_at _ _ _ _ rfl
  have hlb : W6.heap.size < W7.heap.size := by rw [← hW]; simp
  have A0 := (hB1.cell (p := ⟨w1.heap.size, 0, none⟩) hla).trans A0
  have A1 := (hB1.cell (p := ⟨w1.heap.size, 1, none⟩) hla).trans A1
  have hla := Nat.lt_of_lt_of_le hla hB1.size
  have L1 := L1.below hB1
  have L2 := L2.below hB1
  have o1 := own_below o1 hB1
  have o2 := own_below o2 hB1
  have hB := stepB hB hB1 hB.size
  clear hB1
  have HPI := Lib.hid (fun W (h0 : Rd encS W a0' ns') (h1 : Rd encWy W a1' ws') (h2 : Rd encSt W (some ⟨g', 0, none⟩) sts') => implPlaceOn_any a0' a1' (some ⟨g', 0, none⟩) c0' c1' c' ns' ws' sts' z' W L2.cap.1 L2.cap.2 (by have := L2.n1; omega) h0 (fun m hm => by have := L2.n3 m hm; omega) (by have := L2.n2; omega) h1 (by omega) h2)
  have HPS := Lib.hid (fun W (h0 : Rd encS W a0' ns') (h1 : Rd encWy W a1' ws') (h2 : Rd encSt W (some ⟨g', 0, none⟩) sts') => specPlaceOn_any a0' a1' (some ⟨g', 0, none⟩) c0' c1' c' ns' ws' sts' z' W L2.cap.1 L2.cap.2 (by have := L2.n1; omega) h0 (fun m hm => by have := L2.n3 m hm; omega) (by have := L2.n2; omega) h1 (by omega) h2)
  have HXI := Lib.hid (fun W (h0 : Rd encS W a0' ns') (h1 : Rd encWy W a1' ws') (h2 : Rd encSt W (some ⟨g', 0, none⟩) sts') => implPoss_any a0' a1' (some ⟨g', 0, none⟩) c0' c1' c' ns' ws' sts' z' W L2.cap.1 L2.cap.2 (by have := L2.n1; omega) h0 (fun m hm => by have := L2.n3 m hm; omega) (by have := L2.n2; omega) h1 (by omega) h2)
  have HXS := Lib.hid (fun W (h0 : Rd encS W a0' ns') (h1 : Rd encWy W a1' ws') (h2 : Rd encSt W (some ⟨g', 0, none⟩) sts') => specPoss_any a0' a1' (some ⟨g', 0, none⟩) c0' c1' c' ns' ws' sts' z' W L2.cap.1 L2.cap.2 (by have := L2.n1; omega) h0 (fun m hm => by have := L2.n3 m hm; omega) (by have := L2.n2; omega) h1 (by omega) h2)
  have HIT := Lib.hid (fun W (h0 : Rd encS W a0' ns') (h1 : Rd encWy W a1' ws') (h2 : Rd encSt W (some ⟨g', 0, none⟩) sts') => implIsItin_any a0' a1' (some ⟨g', 0, none⟩) c0' c1' c' ns' ws' sts' W L2.cap.1 L2.cap.2 (by have := L2.n1; omega) h0 (fun m hm => by have := L2.n3 m hm; omega) (by have := L2.n2; omega) h1 (by omega) h2)
  have hpl := place_law (ps := ns') (ws := ws') (xs := sts') (z := z')
  have hXc := possR_code ns' ws' sts' z'
  have lX := possR_len ns' ws' sts' z' (codeI ns' ws' sts' (dayB z')) (by have := L2.n1; omega)
  rw [← hXc] at HIT
  clear hXc
  obtain ⟨⟨P1, P2⟩, hR0⟩ : ∃ R, placeOnR sts' z' (codeI ns' ws' sts' (dayB z')) = R := ⟨_, rfl⟩
  rw [hR0] at HPI HPS hpl
  dsimp only at HPI HPS hpl
  clear hR0
  obtain ⟨⟨X1, X2⟩, hR0⟩ : ∃ R, possR ns' ws' sts' z' (codeI ns' ws' sts' (dayB z')) = R := ⟨_, rfl⟩
  rw [hR0] at HXI HXS HIT hpl lX
  dsimp only at HXI HXS HIT hpl lX
  clear hR0
  have HPL := Lib.hid hpl
  clear hpl
  go_wp2_with fail
  clear hW
  refine (HPI.out _ L2.rd0 L2.rd1 (Rd.of_own encSt_len (by decide) o2)).mono ?_
  rintro e W8 ⟨rfl, hB1⟩
  have A0 := (hB1.cell (p := ⟨w1.heap.size, 0, none⟩) hla).trans A0
  have A1 := (hB1.cell (p := ⟨w1.heap.size, 1, none⟩) hla).trans A1
  have B0 := (hB1.cell (p := ⟨W6.heap.size, 0, none⟩) hlb).trans B0
  have B1 := (hB1.cell (p := ⟨W6.heap.size, 1, none⟩) hlb).trans B1
  have hla := Nat.lt_of_lt_of_le hla hB1.size
  have hlb := Nat.lt_of_lt_of_le hlb hB1.size
  have L1 := L1.below hB1
  have L2 := L2.below hB1
  have o1 := own_below o1 hB1
  have o2 := own_below o2 hB1
  have hB := stepB hB hB1 hB.size
  clear hB1
  go_wp2_with fail
  refine (HPS.out _ L2.rd0 L2.rd1 (Rd.of_own encSt_len (by decide) o2)).mono ?_
  rintro e W9 ⟨rfl, hB1⟩
  have A0 := (hB1.cell (p := ⟨w1.heap.size, 0, none⟩) hla).trans A0
  have A1 := (hB1.cell (p := ⟨w1.heap.size, 1, none⟩) hla).trans A1
  have B0 := (hB1.cell (p := ⟨W6.heap.size, 0, none⟩) hlb).trans B0
  have B1 := (hB1.cell (p := ⟨W6.heap.size, 1, none⟩) hlb).trans B1
  have hla := Nat.lt_of_lt_of_le hla hB1.size
  have hlb := Nat.lt_of_lt_of_le hlb hB1.size
  have L1 := L1.below hB1
  have L2 := L2.below hB1
  have o1 := own_below o1 hB1
  have o2 := own_below o2 hB1
  have hB := stepB hB hB1 hB.size
  clear hB1
  go_wp2_with fail
  refine (HXI.out _ L2.rd0 L2.rd1 (Rd.of_own encSt_len (by decide) o2)).mono ?_
  rintro e W10 ⟨bq1, eq1, rfl, q1, hB1⟩
  have q1 := own_base q1 hB.size
  have A0 := (hB1.cell (p := ⟨w1.heap.size, 0, none⟩) hla).trans A0
  have A1 := (hB1.cell (p := ⟨w1.heap.size, 1, none⟩) hla).trans A1
  have B0 := (hB1.cell (p := ⟨W6.heap.size, 0, none⟩) hlb).trans B0
  have B1 := (hB1.cell (p := ⟨W6.heap.size, 1, none⟩) hlb).trans B1
  have hla := Nat.lt_of_lt_of_le hla hB1.size
  have hlb := Nat.lt_of_lt_of_le hlb hB1.size
  have L1 := L1.below hB1
  have L2 := L2.below hB1
  have o1 := own_below o1 hB1
  have o2 := own_below o2 hB1
  have hB := stepB hB hB1 hB.size
  clear hB1
  go_wp2_with fail
  refine (HXS.out _ L2.rd0 L2.rd1 (Rd.of_own encSt_len (by decide) o2)).mono ?_
  rintro e W11 ⟨bq2, eq2, rfl, q2, hB1⟩
  have q2 := own_base q2 hB.size
  have A0 := (hB1.cell (p := ⟨w1.heap.size, 0, none⟩) hla).trans A0
  have A1 := (hB1.cell (p := ⟨w1.heap.size, 1, none⟩) hla).trans A1
  have B0 := (hB1.cell (p := ⟨W6.heap.size, 0, none⟩) hlb).trans B0
  have B1 := (hB1.cell (p := ⟨W6.heap.size, 1, none⟩) hlb).trans B1
  have hla := Nat.lt_of_lt_of_le hla hB1.size
  have hlb := Nat.lt_of_lt_of_le hlb hB1.size
  have L1 := L1.below hB1
  have L2 := L2.below hB1
  have o1 := own_below o1 hB1
  have o2 := own_below o2 hB1
  have q1 := own_below q1 hB1
  have hB := stepB hB hB1 hB.size
  clear hB1
  go_wp2_with fail
  refine (drawAddStay_any cs cap bs _ (hx.below hB) hb hl).mono ?_
  rintro e W12 ⟨a02, a12, c02, c12, ns2, ws2, g4, c4, sts4, s4, rfl, L3, hsl4, o4, hB1⟩
  have L3 := L3.base hB.size
  have o4 := own_base o4 hB.size
  have A0 := (hB1.cell (p := ⟨w1.heap.size, 0, none⟩) hla).trans A0
  have A1 := (hB1.cell (p := ⟨w1.heap.size, 1, none⟩) hla).trans A1
  have B0 := (hB1.cell (p := ⟨W6.heap.size, 0, none⟩) hlb).trans B0
  have B1 := (hB1.cell (p := ⟨W6.heap.size, 1, none⟩) hlb).trans B1
  have hla := Nat.lt_of_lt_of_le hla hB1.size
  have hlb := Nat.lt_of_lt_of_le hlb hB1.size
  have L1 := L1.below hB1
  have L2 := L2.below hB1
  have o1 := own_below o1 hB1
  have o2 := own_below o2 hB1
  have q1 := own_below q1 hB1
  have q2 := own_below q2 hB1
  have hB := stepB hB hB1 hB.size
  clear hB1
  generalize hW : (W12.alloc (.cells #[.slice a02 ns2.length c02, .slice a12 ws2.length c12] 35)).alloc (.cells #[.int .i64 s4.place, .int .i64 s4.fr, .int .i64 s4.to] 49) = W13
  have hB1 : Below W12.heap.size W12 W13 := by rw [← hW]; exact ((Below.refl _ _).alloc (Nat.le_refl _) _).alloc (by simp) _
  have C0 : W13.cell? ⟨W12.heap.size, 0, none⟩ = some (.slice a02 ns2.length c02) := by rw [← hW, World.cell?_alloc_past _ _ _ (by simp)]; exact World.cell?_alloc_at _ _ _ _ rfl
  have C1 : W13.cell? ⟨W12.heap.size, 1, none⟩ = some (.slice a12 ws2.length c12) := by rw [← hW, World.cell?_alloc_past _ _ _ (by simp)]; exact World.cell?_alloc_at _ _ _ _ rfl
  have C2 : W13.cell? ⟨W12.heap.size + 1, 0, none⟩ = some (.int .i64 s4.place) := by rw [← hW]; exact World.cell?_alloc_at _ _ _ _ (by simp)
  have C3 : W13.cell? ⟨W12.heap.size + 1, 1, none⟩ = some (.int .i64 s4.fr) := by rw [← hW]; exact World.cell?_alloc_at _ _ _ _ (by simp)
  have C4 : W13.cell? ⟨W12.heap.size + 1, 2, none⟩ = some (.int .i64 s4.to) := by rw [← hW]; exact World.cell?_alloc_at _ _ _ _ (by simp)
  have hlc : W12.heap.size < W13.heap.size := by rw [← hW]; simp; omega
  have hlc9 : W12.heap.size + 1 < W13.heap.size := by rw [← hW]; simp
  have A0 := (hB1.cell (p := ⟨w1.heap.size, 0, none⟩) hla).trans A0
  have A1 := (hB1.cell (p := ⟨w1.heap.size, 1, none⟩) hla).trans A1
  have B0 := (hB1.cell (p := ⟨W6.heap.size, 0, none⟩) hlb).trans B0
  have B1 := (hB1.cell (p := ⟨W6.heap.size, 1, none⟩) hlb).trans B1
  have hla := Nat.lt_of_lt_of_le hla hB1.size
  have hlb := Nat.lt_of_lt_of_le hlb hB1.size
  have L1 := L1.below hB1
  have L2 := L2.below hB1
  have L3 := L3.below hB1
  have o1 := own_below o1 hB1
  have o2 := own_below o2 hB1
  have q1 := own_below q1 hB1
  have q2 := own_below q2 hB1
  have o4 := own_below o4 hB1
  have hB := stepB hB hB1 hB.size
  clear hB1
  have hcp4 := own_capQ o4
  have HAI := Lib.hid (fun W (h0 : Rd encS W a02 ns2) (h1 : Rd encWy W a12 ws2) (h2 : Rd encSt W (some ⟨g4, 0, none⟩) sts4) => implAdd_any a02 a12 g4 c02 c12 c4 ns2 ws2 sts4 s4 W L3.cap.1 L3.cap.2 (by have := L3.n1; omega) h0 (fun m hm => by have := L3.n3 m hm; omega) (by have := L3.n2; omega) h1 (by omega) h2)
  have HAS := Lib.hid (fun W (h0 : Rd encS W a02 ns2) (h1 : Rd encWy W a12 ws2) (h2 : Rd encSt W (some ⟨g4, 0, none⟩) sts4) => specAdd_any a02 a12 g4 c02 c12 c4 ns2 ws2 sts4 s4 W L3.cap.1 L3.cap.2 (by have := L3.n1; omega) h0 (fun m hm => by have := L3.n3 m hm; omega) (by have := L3.n2; omega) h1 (by omega) h2 hcp4)
  have HIE := Lib.hid (fun W (ys : List St) b2 e2 (hy : ys.length ≤ 1048576) (h0 : Rd encS W a02 ns2) (h1 : Rd encWy W a12 ws2) (h2 : Rd encSt W b2 ys) => implIsItin_any a02 a12 b2 c02 c12 e2 ns2 ws2 ys W L3.cap.1 L3.cap.2 (by have := L3.n1; omega) h0 (fun m hm => by have := L3.n3 m hm; omega) (by have := L3.n2; omega) h1 hy h2)
  have hgd := addR_good (ps := ns2) (ws := ws2) (xs := sts4) (s := s4)
  have lY := addR_len ns2 ws2 sts4 s4
  obtain ⟨⟨Y1, Y2⟩, hR0⟩ : ∃ R, addR ns2 ws2 sts4 s4 = R := ⟨_, rfl⟩
  rw [hR0] at HAI HAS hgd lY
  dsimp only at HAI HAS hgd lY
  clear hR0
  have HGD := Lib.hid hgd
  clear hgd hcp4
  go_wp2_with fail
  clear hW
  refine (HAI.out _ L3.rd0 L3.rd1 (Rd.of_own encSt_len (by decide) o4)).mono ?_
  rintro e W14 ⟨bq3, eq3, rfl, q3, hB1⟩
  have q3 := own_base q3 hB.size
  have A0 := (hB1.cell (p := ⟨w1.heap.size, 0, none⟩) hla).trans A0
  have A1 := (hB1.cell (p := ⟨w1.heap.size, 1, none⟩) hla).trans A1
  have B0 := (hB1.cell (p := ⟨W6.heap.size, 0, none⟩) hlb).trans B0
  have B1 := (hB1.cell (p := ⟨W6.heap.size, 1, none⟩) hlb).trans B1
  have C0 := (hB1.cell (p := ⟨W12.heap.size, 0, none⟩) hlc).trans C0
  have C1 := (hB1.cell (p := ⟨W12.heap.size, 1, none⟩) hlc).trans C1
  have C2 := (hB1.cell (p := ⟨W12.heap.size + 1, 0, none⟩) hlc9).trans C2
  have C3 := (hB1.cell (p := ⟨W12.heap.size + 1, 1, none⟩) hlc9).trans C3
  have C4 := (hB1.cell (p := ⟨W12.heap.size + 1, 2, none⟩) hlc9).trans C4
  have hla := Nat.lt_of_lt_of_le hla hB1.size
  have hlb := Nat.lt_of_lt_of_le hlb hB1.size
  have hlc := Nat.lt_of_lt_of_le hlc hB1.size
  have hlc9 := Nat.lt_of_lt_of_le hlc9 hB1.size
  have L1 := L1.below hB1
  have L2 := L2.below hB1
  have L3 := L3.below hB1
  have o1 := own_below o1 hB1
  have o2 := own_below o2 hB1
  have q1 := own_below q1 hB1
  have q2 := own_below q2 hB1
  have o4 := own_below o4 hB1
  have hB := stepB hB hB1 hB.size
  clear hB1
  go_wp2_with fail
  refine (HAS.out _ L3.rd0 L3.rd1 (Rd.of_own encSt_len (by decide) o4)).mono ?_
  rintro e W15 ⟨bq4, eq4, rfl, q4, hB1⟩
  have q4 := own_base q4 hB.size
  have A0 := (hB1.cell (p := ⟨w1.heap.size, 0, none⟩) hla).trans A0
  have A1 := (hB1.cell (p := ⟨w1.heap.size, 1, none⟩) hla).trans A1
  have B0 := (hB1.cell (p := ⟨W6.heap.size, 0, none⟩) hlb).trans B0
  have B1 := (hB1.cell (p := ⟨W6.heap.size, 1, none⟩) hlb).trans B1
  have C0 := (hB1.cell (p := ⟨W12.heap.size, 0, none⟩) hlc).trans C0
  have C1 := (hB1.cell (p := ⟨W12.heap.size, 1, none⟩) hlc).trans C1
  have C2 := (hB1.cell (p := ⟨W12.heap.size + 1, 0, none⟩) hlc9).trans C2
  have C3 := (hB1.cell (p := ⟨W12.heap.size + 1, 1, none⟩) hlc9).trans C3
  have C4 := (hB1.cell (p := ⟨W12.heap.size + 1, 2, none⟩) hlc9).trans C4
  have hla := Nat.lt_of_lt_of_le hla hB1.size
  have hlb := Nat.lt_of_lt_of_le hlb hB1.size
  have hlc := Nat.lt_of_lt_of_le hlc hB1.size
  have hlc9 := Nat.lt_of_lt_of_le hlc9 hB1.size
  have L1 := L1.below hB1
  have L2 := L2.below hB1
  have L3 := L3.below hB1
  have o1 := own_below o1 hB1
  have o2 := own_below o2 hB1
  have q1 := own_below q1 hB1
  have q2 := own_below q2 hB1
  have o4 := own_below o4 hB1
  have q3 := own_below q3 hB1
  have hB := stepB hB hB1 hB.size
  clear hB1
  have nE2 := (show (E2 != E2) = false by simp)
  have nE1 := (show (E1 != E1) = false by simp)
  have nP2 := (show (P2 != P2) = false by simp)
  have nP1 := (show (P1 != P1) = false by simp)
  have nX2 := (show (X2 != X2) = false by simp)
  have nY2 := (show (Y2 != Y2) = false by simp)
  have nX9 := (show ((X2 != 1) != (X2 != 1)) = false by simp)
  have K1 := Lib.hid (fun W (hh : Rd encI W bq1 X1 ∧ Rd encI W bq2 X1) => likeInts_self bq1 bq2 eq1 eq2 X1 W (by omega) hh.1 hh.2)
  have K2 := Lib.hid (fun W (hh : Rd encSt W bq3 Y1 ∧ Rd encSt W bq4 Y1) => likeStays_self bq3 bq4 eq3 eq4 Y1 W (by omega) hh.1 hh.2)
  clear HBI HBS HPI HPS HXI HXS HAI HAS
  go_wp2_with fail
  refine (K1.out _ ⟨Rd.of_own encI_len (by decide) q1, Rd.of_own encI_len (by decide) q2⟩).mono ?_
  rintro e W16 ⟨rfl, hB1⟩
  have A0 := (hB1.cell (p := ⟨w1.heap.size, 0, none⟩) hla).trans A0
  have A1 := (hB1.cell (p := ⟨w1.heap.size, 1, none⟩) hla).trans A1
  have B0 := (hB1.cell (p := ⟨W6.heap.size, 0, none⟩) hlb).trans B0
  have B1 := (hB1.cell (p := ⟨W6.heap.size, 1, none⟩) hlb).trans B1
  have C0 := (hB1.cell (p := ⟨W12.heap.size, 0, none⟩) hlc).trans C0
  have C1 := (hB1.cell (p := ⟨W12.heap.size, 1, none⟩) hlc).trans C1
  have C2 := (hB1.cell (p := ⟨W12.heap.size + 1, 0, none⟩) hlc9).trans C2
  have C3 := (hB1.cell (p := ⟨W12.heap.size + 1, 1, none⟩) hlc9).trans C3
  have C4 := (hB1.cell (p := ⟨W12.heap.size + 1, 2, none⟩) hlc9).trans C4
  have hla := Nat.lt_of_lt_of_le hla hB1.size
  have hlb := Nat.lt_of_lt_of_le hlb hB1.size
  have hlc := Nat.lt_of_lt_of_le hlc hB1.size
  have hlc9 := Nat.lt_of_lt_of_le hlc9 hB1.size
  have L1 := L1.below hB1
  have L2 := L2.below hB1
  have L3 := L3.below hB1
  have o1 := own_below o1 hB1
  have o2 := own_below o2 hB1
  have q1 := own_below q1 hB1
  have q2 := own_below q2 hB1
  have o4 := own_below o4 hB1
  have q3 := own_below q3 hB1
  have q4 := own_below q4 hB1
  have hB := stepB hB hB1 hB.size
  clear hB1
  go_wp2_with fail
  refine (K2.out _ ⟨Rd.of_own encSt_len (by decide) q3, Rd.of_own encSt_len (by decide) q4⟩).mono ?_
  rintro e W17 ⟨rfl, hB1⟩
  have A0 := (hB1.cell (p := ⟨w1.heap.size, 0, none⟩) hla).trans A0
  have A1 := (hB1.cell (p := ⟨w1.heap.size, 1, none⟩) hla).trans A1
  have B0 := (hB1.cell (p := ⟨W6.heap.size, 0, none⟩) hlb).trans B0
  have B1 := (hB1.cell (p := ⟨W6.heap.size, 1, none⟩) hlb).trans B1
  have C0 := (hB1.cell (p := ⟨W12.heap.size, 0, none⟩) hlc).trans C0
  have C1 := (hB1.cell (p := ⟨W12.heap.size, 1, none⟩) hlc).trans C1
  have C2 := (hB1.cell (p := ⟨W12.heap.size + 1, 0, none⟩) hlc9).trans C2
  have C3 := (hB1.cell (p := ⟨W12.heap.size + 1, 1, none⟩) hlc9).trans C3
  have C4 := (hB1.cell (p := ⟨W12.heap.size + 1, 2, none⟩) hlc9).trans C4
  have hla := Nat.lt_of_lt_of_le hla hB1.size
  have hlb := Nat.lt_of_lt_of_le hlb hB1.size
  have hlc := Nat.lt_of_lt_of_le hlc hB1.size
  have hlc9 := Nat.lt_of_lt_of_le hlc9 hB1.size
  have L1 := L1.below hB1
  have L2 := L2.below hB1
  have L3 := L3.below hB1
  have o1 := own_below o1 hB1
  have o2 := own_below o2 hB1
  have q1 := own_below q1 hB1
  have q2 := own_below q2 hB1
  have o4 := own_below o4 hB1
  have q3 := own_below q3 hB1
  have q4 := own_below q4 hB1
  have hB := stepB hB hB1 hB.size
  clear hB1
  go_wp2_with fail
  refine (HIT.out _ L2.rd0 L2.rd1 (Rd.of_own encSt_len (by decide) o2)).mono ?_
  rintro e W18 ⟨rfl, hB1⟩
  have A0 := (hB1.cell (p := ⟨w1.heap.size, 0, none⟩) hla).trans A0
  have A1 := (hB1.cell (p := ⟨w1.heap.size, 1, none⟩) hla).trans A1
  have B0 := (hB1.cell (p := ⟨W6.heap.size, 0, none⟩) hlb).trans B0
  have B1 := (hB1.cell (p := ⟨W6.heap.size, 1, none⟩) hlb).trans B1
  have C0 := (hB1.cell (p := ⟨W12.heap.size, 0, none⟩) hlc).trans C0
  have C1 := (hB1.cell (p := ⟨W12.heap.size, 1, none⟩) hlc).trans C1
  have C2 := (hB1.cell (p := ⟨W12.heap.size + 1, 0, none⟩) hlc9).trans C2
  have C3 := (hB1.cell (p := ⟨W12.heap.size + 1, 1, none⟩) hlc9).trans C3
  have C4 := (hB1.cell (p := ⟨W12.heap.size + 1, 2, none⟩) hlc9).trans C4
  have hla := Nat.lt_of_lt_of_le hla hB1.size
  have hlb := Nat.lt_of_lt_of_le hlb hB1.size
  have hlc := Nat.lt_of_lt_of_le hlc hB1.size
  have hlc9 := Nat.lt_of_lt_of_le hlc9 hB1.size
  have L1 := L1.below hB1
  have L2 := L2.below hB1
  have L3 := L3.below hB1
  have o1 := own_below o1 hB1
  have o2 := own_below o2 hB1
  have q1 := own_below q1 hB1
  have q2 := own_below q2 hB1
  have o4 := own_below o4 hB1
  have q3 := own_below q3 hB1
  have q4 := own_below q4 hB1
  have hB := stepB hB hB1 hB.size
  clear hB1
  clear K1 K2 HIT nE2 nE1 nP2 nP1 nX2 nY2 nX9 q2 q4 o2 L2 B0 B1 hlb
  go_upto_region 16 with (fail)
  go_cut [179] from 164 to 178 (fun s wx => s = .bool false ∧ Below W18.heap.size W18 wx)
  case first =>
    by_cases hY0 : Y2 = 0
    · have hY1 : (Y2 == 0) = true := by simpa using hY0
      have hg := HGD.out hY0
      have hlY : ((Y1.length : Int) != (sts4.length : Int) + 1) = false := by simp; omega
      have HIE2 := Lib.hid (fun W h0 h1 h2 => hg.1 ▸ HIE.out W Y1 bq3 eq3 (by omega) h0 h1 h2)
      clear hY0 hg
      go_wp2_with fail
      refine (HIE2.out _ L3.rd0 L3.rd1 (Rd.of_own encSt_len (by decide) q3)).mono ?_
      rintro e WX ⟨rfl, hB1⟩
      clear HIE2
      go_wp2
      go_meet
      case rel => exact ⟨rfl, hB1⟩
    · have hY1 : (Y2 == 0) = false := by simpa using hY0
      clear hY0
      go_wp2
      go_meet
      case rel => exact ⟨rfl, Below.refl _ _⟩
  case rest =>
    obtain ⟨rfl, hB1⟩ := hcut
    have A0 := (hB1.cell (p := ⟨w1.heap.size, 0, none⟩) hla).trans A0
    have A1 := (hB1.cell (p := ⟨w1.heap.size, 1, none⟩) hla).trans A1
    have C0 := (hB1.cell (p := ⟨W12.heap.size, 0, none⟩) hlc).trans C0
    have C1 := (hB1.cell (p := ⟨W12.heap.size, 1, none⟩) hlc).trans C1
    have C2 := (hB1.cell (p := ⟨W12.heap.size + 1, 0, none⟩) hlc9).trans C2
    have C3 := (hB1.cell (p := ⟨W12.heap.size + 1, 1, none⟩) hlc9).trans C3
    have C4 := (hB1.cell (p := ⟨W12.heap.size + 1, 2, none⟩) hlc9).trans C4
    have hla := Nat.lt_of_lt_of_le hla hB1.size
    have hlc := Nat.lt_of_lt_of_le hlc hB1.size
    have hlc9 := Nat.lt_of_lt_of_le hlc9 hB1.size
    have L1 := L1.below hB1
    have L3 := L3.below hB1
    have o1 := own_below o1 hB1
    have q1 := own_below q1 hB1
    have o4 := own_below o4 hB1
    have q3 := own_below q3 hB1
    have hB := stepB hB hB1 hB.size
    clear hB1
    go_upto_region 18 with (fail)
    obtain ⟨wd, hwd⟩ : ∃ wd, wd = wc := ⟨_, rfl⟩
    go_cut [188] from 180 to 187 (fun s wx => s = .bool false ∧ Below wd.heap.size wd wx)
    case first =>
      subst hwd
      by_cases hP0 : P2 = 0
      · have hP1 : (P2 == 0) = true := by simpa using hP0
        have hX1 := HPL.out hP0
        have HLI := Lib.hid (fun W (b2 : Option Addr) (h1 : Rd encI W bq1 X1) (h2 : Rd encI W b2 [P1]) => show Calls Tryz.prog 22 #[.slice bq1 X1.length eq1, .slice b2 1 1] W (fun e w' => e = .returned (.bool true) ∧ Below W.heap.size W w') from by
          rw [hX1] at h1 ⊢
          exact likeInts_self bq1 b2 eq1 1 [P1] W (by simp) h1 h2)
        have o5 := Box.new wd 2 [.int .i64 P1] wd.heap.size (Nat.le_refl _) (by simp)
        have hB5 := belowA wd (.cells #[.int .i64 P1] 2)
        have q5 := own_below q1 hB5
        clear hP0 hX1
        go_wp2_with fail
        refine (HLI.out _ _ (Rd.of_own encI_len (by decide) q5) (Rd.of_own (xs := [P1]) encI_len (by decide) o5)).mono ?_
        rintro e WX ⟨rfl, hB1⟩
        clear HLI
        go_wp2
        go_meet
        case rel => exact ⟨rfl, stepB hB5 hB1 hB5.size⟩
      · have hP1 : (P2 == 0) = false := by simpa using hP0
        clear hP0
        go_wp2
        go_meet
        case rel => exact ⟨rfl, Below.refl _ _⟩
    case rest =>
      obtain ⟨rfl, hB1⟩ := hwd ▸ hcut
      have A0 := (hB1.cell (p := ⟨w1.heap.size, 0, none⟩) hla).trans A0
      have A1 := (hB1.cell (p := ⟨w1.heap.size, 1, none⟩) hla).trans A1
      have C0 := (hB1.cell (p := ⟨W12.heap.size, 0, none⟩) hlc).trans C0
      have C1 := (hB1.cell (p := ⟨W12.heap.size, 1, none⟩) hlc).trans C1
      have C2 := (hB1.cell (p := ⟨W12.heap.size + 1, 0, none⟩) hlc9).trans C2
      have C3 := (hB1.cell (p := ⟨W12.heap.size + 1, 1, none⟩) hlc9).trans C3
      have C4 := (hB1.cell (p := ⟨W12.heap.size + 1, 2, none⟩) hlc9).trans C4
      have hla := Nat.lt_of_lt_of_le hla hB1.size
      have hlc := Nat.lt_of_lt_of_le hlc hB1.size
      have hlc9 := Nat.lt_of_lt_of_le hlc9 hB1.size
      have L1 := L1.below hB1
      have L3 := L3.below hB1
      have o1 := own_below o1 hB1
      have q1 := own_below q1 hB1
      have o4 := own_below o4 hB1
      have q3 := own_below q3 hB1
      have hB := stepB hB hB1 hB.size
      clear hB1
      by_cases hE : E2 = 0
      · have hE1 : (E2 != 0) = false := by simpa using hE
        have hl4 : ((sts.length : Int) == 40) = false := by simp; omega
        have hc0 := HBC.out.symm.trans hE
        have hx0 := HBX.out hE
        obtain ⟨k1, k2, k3, k4, k5⟩ := HCBD.out hc0
        have hal := add_law hc0 (show ¬ sts.length = 40 by omega)
        rw [← hx0] at hal
        have HCI := Lib.hid (fun W (h0 : Rd encS W a0 ns) (h1 : Rd encWy W a1 ws) (h2 : Rd encSt W (some ⟨g, 0, none⟩) sts) => implCbDays_any a0 a1 (some ⟨g, 0, none⟩) c0 c1 c ns ws sts q W L1.cap.1 L1.cap.2 (by have := L1.n1; omega) h0 (fun m hm => by have := L1.n3 m hm; omega) (by have := L1.n2; omega) h1 (by omega) h2)
        have HPI := Lib.hid (fun W (h0 : Rd encS W a0 ns) (h1 : Rd encWy W a1 ws) (h2 : Rd encSt W (some ⟨g, 0, none⟩) sts) => implPlaceOn_any a0 a1 (some ⟨g, 0, none⟩) c0 c1 c ns ws sts z W L1.cap.1 L1.cap.2 (by have := L1.n1; omega) h0 (fun m hm => by have := L1.n3 m hm; omega) (by have := L1.n2; omega) h1 (by omega) h2)
        have HAI := Lib.hid (fun W (h0 : Rd encS W a0 ns) (h1 : Rd encWy W a1 ws) (h2 : Rd encSt W (some ⟨g, 0, none⟩) sts) => implAdd_any a0 a1 g c0 c1 c ns ws sts ⟨q, z, z⟩ W L1.cap.1 L1.cap.2 (by have := L1.n1; omega) h0 (fun m hm => by have := L1.n3 m hm; omega) (by have := L1.n2; omega) h1 (by omega) h2)
        obtain ⟨⟨D1, D2⟩, hR0⟩ : ∃ R, cbdR ns ws sts q (codeI ns ws sts (placeB ns.length q)) = R := ⟨_, rfl⟩
        rw [hR0] at HCI k1 k2 k3 k4
        dsimp only at HCI k1 k2 k3 k4
        clear hR0
        obtain ⟨⟨N1, N2⟩, hR0⟩ : ∃ R, placeOnR sts z (codeI ns ws sts (dayB z)) = R := ⟨_, rfl⟩
        rw [hR0] at HPI hal
        dsimp only at HPI hal
        clear hR0
        obtain ⟨⟨T1, T2⟩, hR0⟩ : ∃ R, addR ns ws sts ⟨q, z, z⟩ = R := ⟨_, rfl⟩
        rw [hR0] at HAI hal
        dsimp only at HAI hal
        clear hR0
        have hD2 : D2 = 0 := k1
        subst hD2
        have HHD := Lib.hid (fun W b d (h : Rd encSp W b D1) => k4 ▸ hasDayC_any b d D1 z W k3 h k2 k5)
        have nE1 := (show (E1 != E1) = false by simp)
        have HAL := Lib.hid hal
        clear k1 k2 k3 k4 k5 hc0 hx0 hE hal
        clear o4 q1 q3 L3 C0 C1 C2 C3 C4 hlc hlc9
        go_wp2_with fail
        refine (HCI.out _ L1.rd0 L1.rd1 (Rd.of_own encSt_len (by decide) o1)).mono ?_
        rintro e W19 ⟨b6, e6, rfl, q6, hB1⟩
        have q6 := own_base q6 hB.size
        have A0 := (hB1.cell (p := ⟨w1.heap.size, 0, none⟩) hla).trans A0
        have A1 := (hB1.cell (p := ⟨w1.heap.size, 1, none⟩) hla).trans A1
        have hla := Nat.lt_of_lt_of_le hla hB1.size
        have L1 := L1.below hB1
        have o1 := own_below o1 hB1
        have hB := stepB hB hB1 hB.size
        clear hB1
        go_wp2_with fail
        refine (HHD.out _ _ _ (Rd.of_own encSp_len (by decide) q6)).mono ?_
        rintro e W20 ⟨rfl, hB1⟩
        have A0 := (hB1.cell (p := ⟨w1.heap.size, 0, none⟩) hla).trans A0
        have A1 := (hB1.cell (p := ⟨w1.heap.size, 1, none⟩) hla).trans A1
        have hla := Nat.lt_of_lt_of_le hla hB1.size
        have L1 := L1.below hB1
        have o1 := own_below o1 hB1
        have q6 := own_below q6 hB1
        have hB := stepB hB hB1 hB.size
        clear hB1
        go_wp2_with fail
        refine (HPI.out _ L1.rd0 L1.rd1 (Rd.of_own encSt_len (by decide) o1)).mono ?_
        rintro e W21 ⟨rfl, hB1⟩
        have A0 := (hB1.cell (p := ⟨w1.heap.size, 0, none⟩) hla).trans A0
        have A1 := (hB1.cell (p := ⟨w1.heap.size, 1, none⟩) hla).trans A1
        have hla := Nat.lt_of_lt_of_le hla hB1.size
        have L1 := L1.below hB1
        have o1 := own_below o1 hB1
        have q6 := own_below q6 hB1
        have hB := stepB hB hB1 hB.size
        clear hB1
        go_wp2_with fail
        refine (HAI.out _ L1.rd0 L1.rd1 (Rd.of_own encSt_len (by decide) o1)).mono ?_
        rintro e W22 ⟨b7, e7, rfl, q7, hB1⟩
        have q7 := own_base q7 hB.size
        have A0 := (hB1.cell (p := ⟨w1.heap.size, 0, none⟩) hla).trans A0
        have A1 := (hB1.cell (p := ⟨w1.heap.size, 1, none⟩) hla).trans A1
        have hla := Nat.lt_of_lt_of_le hla hB1.size
        have L1 := L1.below hB1
        have o1 := own_below o1 hB1
        have q6 := own_below q6 hB1
        have hB := stepB hB hB1 hB.size
        clear hB1
        rcases HAL.out with ⟨e1, e2⟩ | ⟨e1, e2⟩
        · have e1 : N2 = 0 := e1
          have e2 : T2 = 5 := e2
          subst e1; subst e2
          clear HAL
          go_wp2
          go_ret
          exact ⟨rfl, hB⟩
        · have e1 : N2 = 4 := e1
          have e3 : (E1 == (T2 == 0)) = true := by
            have e2 : E1 = true ↔ T2 = 0 := e2
            by_cases h : T2 = 0
            · rw [e2.2 h, h]; rfl
            · have h1 : E1 = false := by cases E1; rfl; exact absurd (e2.1 rfl) h
              have h2 : (T2 == 0) = false := by simpa using h
              rw [h1, h2]; rfl
          subst e1
          clear HAL e2
          go_wp2
          go_ret
          exact ⟨rfl, hB⟩
      · have hE1 : (E2 != 0) = true := by simpa using hE
        clear hE
        go_wp2
        go_ret
        exact ⟨rfl, hB⟩
end
end Go.Proofs.YtipdcgfdejmjfaaGreatDoor
