/- The old calendar, Easter, feasts, styles, indictions and years of reigns; plain. -/
import Derived.Test.YtjklileooiepmaaGreatDoorDays
namespace Go.Proofs.YtjklileooiepmaaGreatDoor

/-- The length of a month of the old calendar. -/
def mlO (y m : Int) : Int := if m = 2 then (if y % 4 = 0 then 29 else 28) else if m = 4 ∨ m = 6 ∨ m = 9 ∨ m = 11 then 30 else 31
theorem mlO_bd (y m : Int) : 28 ≤ mlO y m ∧ mlO y m ≤ 31 := by
  unfold mlO
  split <;> (try split) <;> omega
/-- The days of the first k months of a year. -/
def cumO (y : Int) : Nat → Int
  | 0 => 0
  | k + 1 => cumO y k + mlO y ((k : Int) + 1)
theorem cumO_succ (y : Int) (k : Nat) : cumO y (k + 1) = cumO y k + mlO y ((k : Int) + 1) := rfl
theorem cumO_bd (y : Int) : ∀ k : Nat, 28 * k ≤ cumO y k ∧ cumO y k ≤ 31 * k
  | 0 => by simp [cumO]
  | k + 1 => by
    have := cumO_bd y k
    have := mlO_bd y ((k : Int) + 1)
    rw [cumO_succ]
    omega
theorem cumO_mono (y : Int) {k l : Nat} (h : k ≤ l) : cumO y k ≤ cumO y l := by
  induction l with
  | zero => rw [Nat.le_zero.1 h]; exact Int.le_refl _
  | succ l ih =>
    by_cases e : k = l + 1
    · rw [e]; exact Int.le_refl _
    · have := ih (by omega)
      have := mlO_bd y ((l : Int) + 1)
      rw [cumO_succ]
      omega
theorem cumO_year (y : Int) : cumO y 12 = if y % 4 = 0 then 366 else 365 := by
  have e : ∀ k : Nat, cumO y (k + 1) = cumO y k + mlO y ((k : Int) + 1) := fun _ => rfl
  have h2 : mlO y 2 = if y % 4 = 0 then 29 else 28 := rfl
  have hf : ∀ m : Int, m ≠ 2 → mlO y m = if m = 4 ∨ m = 6 ∨ m = 9 ∨ m = 11 then 30 else 31 := fun m h => if_neg h
  rw [e 11, e 10, e 9, e 8, e 7, e 6, e 5, e 4, e 3, e 2, e 1, e 0]
  have e1 : ((1 : Nat) : Int) + 1 = 2 := rfl
  rw [e1, h2, hf _ (by decide), hf _ (by decide), hf _ (by decide), hf _ (by decide), hf _ (by decide), hf _ (by decide), hf _ (by decide), hf _ (by decide), hf _ (by decide), hf _ (by decide), hf _ (by decide)]
  simp [cumO]
  split <;> rfl
/-- The day on which a year begins. -/
def nyO (y : Int) : Int := 365 * (y - 1) + (y - 1) / 4
theorem nyO_next (y : Int) : nyO (y + 1) = nyO y + cumO y 12 := by
  rw [cumO_year]
  unfold nyO
  split <;> omega
def yrO (n : Int) : Int := (4 * n + 3) / 1461 + 1
theorem yrO_le (n : Int) : nyO (yrO n) ≤ n := by unfold nyO yrO; omega
theorem yrO_gt (n : Int) : n < nyO (yrO n + 1) := by unfold nyO yrO; omega
theorem nyO_lt {y z : Int} (h : y < z) : nyO y + 365 ≤ nyO z := by unfold nyO; omega
theorem yrO_of {n y : Int} (h1 : nyO y ≤ n) (h2 : n < nyO (y + 1)) : yrO n = y := by unfold nyO at h1 h2; unfold yrO; omega
theorem yrO_iff {n y : Int} : nyO y ≤ n ↔ y ≤ yrO n := by unfold nyO yrO; omega
theorem yrO_bd {n : Int} (h0 : 0 ≤ n) (h1 : n ≤ 730499) : 1 ≤ yrO n ∧ yrO n ≤ 2000 := by unfold yrO; omega
/-- The month of a day of a year. -/
def moO (y r : Int) : Nat → Nat
  | 0 => 1
  | k + 1 => if cumO y (k + 1) ≤ r then k + 2 else moO y r k
theorem moO_of {y r : Int} {k : Nat} (h1 : 1 ≤ k) (h2 : cumO y (k - 1) ≤ r) (h3 : r < cumO y k) : ∀ j, k ≤ j + 1 → moO y r j = k
  | 0, h => by simp [moO]; omega
  | j + 1, h => by
    unfold moO
    by_cases c : cumO y (j + 1) ≤ r
    · rw [if_pos c]
      have : ¬ k ≤ j + 1 := fun h => by have := cumO_mono y h; omega
      omega
    · rw [if_neg c]
      refine moO_of h1 h2 h3 j ?_
      have : ¬ k = j + 2 := by rintro rfl; exact c h2
      omega
theorem moO_at {y r : Int} (h0 : 0 ≤ r) : ∀ j, r < cumO y (j + 1) → 1 ≤ moO y r j ∧ moO y r j ≤ j + 1 ∧ cumO y (moO y r j - 1) ≤ r ∧ r < cumO y (moO y r j)
  | 0, h => by simp only [moO]; exact ⟨by omega, by omega, by simpa [cumO] using h0, h⟩
  | j + 1, h => by
    unfold moO
    by_cases c : cumO y (j + 1) ≤ r
    · rw [if_pos c]
      exact ⟨by omega, by omega, c, h⟩
    · rw [if_neg c]
      have := moO_at (y := y) h0 j (by omega)
      exact ⟨this.1, by omega, this.2.2.1, this.2.2.2⟩
def mnO (n : Int) : Nat := moO (yrO n) (n - nyO (yrO n)) 11
def dyO (n : Int) : Int := n - nyO (yrO n) - cumO (yrO n) (mnO n - 1) + 1
theorem mnO_at (n : Int) : 1 ≤ mnO n ∧ mnO n ≤ 12 ∧ cumO (yrO n) (mnO n - 1) ≤ n - nyO (yrO n) ∧ n - nyO (yrO n) < cumO (yrO n) (mnO n) := by
  have h1 := yrO_le n
  have h2 := yrO_gt n
  rw [nyO_next] at h2
  exact moO_at (y := yrO n) (by omega) 11 (by show _ < cumO (yrO n) 12; omega)
theorem mnO_of {n : Int} {k : Nat} (h1 : 1 ≤ k) (h2 : k ≤ 12) (h3 : cumO (yrO n) (k - 1) ≤ n - nyO (yrO n)) (h4 : n - nyO (yrO n) < cumO (yrO n) k) : mnO n = k :=
  moO_of h1 h3 h4 11 (by omega)
theorem dyO_bd (n : Int) : 1 ≤ dyO n ∧ dyO n ≤ mlO (yrO n) (mnO n) := by
  obtain ⟨h1, h2, h3, h4⟩ := mnO_at n
  unfold dyO
  have he : mnO n = mnO n - 1 + 1 := by omega
  generalize mnO n = k at *
  rw [he, cumO_succ] at h4
  have e : ((k - 1 : Nat) : Int) + 1 = (k : Int) := by omega
  rw [e] at h4
  omega
/-- The number of a date. -/
def numO (y : Int) (m : Nat) (d : Int) : Int := nyO y + d - 1 + cumO y (m - 1)
theorem numO_date (n : Int) : numO (yrO n) (mnO n) (dyO n) = n := by unfold numO dyO; omega
theorem numO_bd (y : Int) (m : Nat) (d : Int) (hy1 : 0 ≤ y) (hy : y ≤ 5000) (hm : m ≤ 14) (hd : -100 ≤ d) (hd2 : d ≤ 100) : -1000 ≤ numO y m d ∧ numO y m d ≤ 2000000 := by
  have := cumO_bd y (m - 1)
  unfold numO nyO
  omega
/-- Easter by the old rule. -/
def epO (y : Int) : Int := (19 * (y % 19) + 15) % 30
def eqO (y : Int) : Int := (2 * (y % 4) + 4 * (y % 7) - epO y + 34) % 7
def esO (y : Int) : Int := epO y + eqO y + 114
theorem esO_bd (y : Int) : 114 ≤ esO y ∧ esO y ≤ 149 := by unfold esO epO eqO epO; omega
def eaO (y : Int) : Int := numO y (esO y / 31).toNat (esO y % 31 + 1)
theorem eaO_bd (y : Int) : nyO y + 80 ≤ eaO y ∧ eaO y ≤ nyO y + 120 := by
  have h1 := esO_bd y
  unfold eaO numO
  have : (esO y / 31).toNat = 3 ∨ (esO y / 31).toNat = 4 := by omega
  rcases this with e | e <;> rw [e] <;> simp only [cumO, mlO] <;> split <;> simp <;> omega
/-- The first number from a on, of k numbers, that answers to q. -/
def fstR (q : Int → Bool) (a : Int) : Nat → Option Int
  | 0 => none
  | k + 1 => if q a = true then some a else fstR q (a + 1) k
theorem fstR_hit {q : Int → Bool} {a : Int} (k : Nat) (h : q a = true) : fstR q a (k + 1) = some a := if_pos h
theorem fstR_no {q : Int → Bool} {a : Int} (k : Nat) (h : q a = false) : fstR q a (k + 1) = fstR q (a + 1) k := if_neg (by simp [h])
theorem fstR_some {q : Int → Bool} : ∀ {k : Nat} {a x : Int}, fstR q a k = some x → q x = true ∧ a ≤ x ∧ x < a + k ∧ ∀ z, a ≤ z → z < x → q z = false
  | 0, a, x, h => by cases h
  | k + 1, a, x, h => by
    cases hq : q a
    · rw [fstR_no k hq] at h
      obtain ⟨h1, h2, h3, h4⟩ := fstR_some h
      refine ⟨h1, by omega, by omega, fun z hz1 hz2 => ?_⟩
      by_cases e : z = a
      · rw [e]; exact hq
      · exact h4 z (by omega) hz2
    · rw [fstR_hit k hq] at h
      cases h
      exact ⟨hq, Int.le_refl _, by omega, fun z h1 h2 => by omega⟩
theorem fstR_none {q : Int → Bool} : ∀ {k : Nat} {a : Int}, fstR q a k = none → ∀ z, a ≤ z → z < a + k → q z = false
  | 0, a, h, z, h1, h2 => by omega
  | k + 1, a, h, z, h1, h2 => by
    cases hq : q a
    · rw [fstR_no k hq] at h
      by_cases e : z = a
      · rw [e]; exact hq
      · exact fstR_none h z (by omega) (by omega)
    · rw [fstR_hit k hq] at h; cases h
def fxM : List Int := [1, 1, 2, 3, 6, 6, 8, 8, 9, 11, 11, 11, 12, 12]
def fxD : List Int := [1, 6, 2, 25, 24, 29, 10, 15, 29, 1, 11, 30, 6, 25]
def fxV : List Int := [-46, -7, 0, 39, 49, 56]
/-- The day of a feast in a year. -/
def feO (f y : Int) : Int := if f < 14 then numO y (fxM[f.toNat]?.getD 0).toNat (fxD[f.toNat]?.getD 0) else eaO y + fxV[f.toNat - 14]?.getD 0
theorem feO_bd {f y : Int} (h0 : 0 ≤ f) (h1 : f ≤ 19) : nyO y ≤ feO f y ∧ feO f y ≤ nyO y + 400 := by
  have he := eaO_bd y
  have h : f = ((f.toNat : Nat) : Int) := by omega
  have hN : f.toNat < 20 := by omega
  generalize f.toNat = N at h hN
  subst h
  unfold feO
  simp only [Int.toNat_natCast]
  have hk : ∀ m : Nat, m ≤ 12 → ∀ d, 1 ≤ d → d ≤ 31 → nyO y ≤ numO y m d ∧ numO y m d ≤ nyO y + 400 := fun m hm d h1 h2 => by
    have := cumO_bd y (m - 1)
    unfold numO
    omega
  split
  · have hN : N < 14 := by omega
    have : ∀ N : Nat, N < 14 → (fxM[N]?.getD 0).toNat ≤ 12 ∧ 1 ≤ fxD[N]?.getD 0 ∧ fxD[N]?.getD 0 ≤ 31 := by decide
    obtain ⟨h1, h2, h3⟩ := this N hN
    exact hk _ h1 _ h2 h3
  · have : ∀ N : Nat, N < 20 → 14 ≤ N → -46 ≤ fxV[N - 14]?.getD 0 ∧ fxV[N - 14]?.getD 0 ≤ 56 := by decide
    have := this N hN (by omega)
    omega
/-- The day with a relation to a feast in a year. -/
def reO (f r wd y : Int) : Int :=
  if r = 1 then feO f y - 1 else if r = 2 then feO f y + 7 else if r = 3 then feO f y + 1 + (wd - (feO f y + 5) % 7 + 13) % 7
  else if r = 4 then feO f y - 1 - ((feO f y + 5) % 7 - wd + 13) % 7 else feO f y
def fhO (f r wd n : Int) : Bool := (fstR (fun y => reO f r wd y == n) (max 1 (yrO n - 1)) (min 2000 (yrO n + 1) - max 1 (yrO n - 1) + 1).toNat).isSome
/-- The day on which a year of a style begins. -/
def beO (s y : Int) : Int :=
  if s = 1 then numO y 3 1 else if s = 2 then numO y 3 25 else if s = 3 then numO (y - 1) 3 25 else if s = 4 then eaO y
  else if s = 5 then numO (y - 1) 12 25 else if s = 6 then numO (y - 1) 9 1 else nyO y
def inY (s n y : Int) : Bool := inB y 2 1999 && inB n (beO s y) (beO s (y + 1) - 1)
def yoO (s n : Int) : Option Int := fstR (inY s n) (yrO n - 1) 3
def ioO (k n : Int) : Int := if k = 2 then (yrO n + 2) % 15 + 1 else if numO (yrO n) 9 (if k = 1 then 24 else 1) ≤ n then (yrO n + 1 + 2) % 15 + 1 else (yrO n + 2) % 15 + 1
theorem ioO_one (n : Int) : ioO 1 n = if numO (yrO n) 9 24 ≤ n then (yrO n + 1 + 2) % 15 + 1 else (yrO n + 2) % 15 + 1 := rfl
theorem ioO_two (n : Int) : ioO 2 n = (yrO n + 2) % 15 + 1 := rfl
theorem ioO_else {k n : Int} (h1 : ¬ k = 1) (h2 : ¬ k = 2) : ioO k n = if numO (yrO n) 9 1 ≤ n then (yrO n + 1 + 2) % 15 + 1 else (yrO n + 2) % 15 + 1 := by unfold ioO; rw [if_neg h2, if_neg h1]
/-- The day on which the year k of a reign would begin. -/
def bgO (fr k : Int) : Int := if mnO fr = 2 ∧ dyO fr = 29 ∧ (yrO fr + k - 1) % 4 ≠ 0 then numO (yrO fr + k - 1) 3 1 else numO (yrO fr + k - 1) (mnO fr) (dyO fr)
theorem numO_in {y d : Int} {m : Nat} (h1 : 1 ≤ m) (h2 : m ≤ 12) (h3 : 1 ≤ d) (h4 : d ≤ mlO y m) : nyO y ≤ numO y m d ∧ numO y m d < nyO (y + 1) := by
  have hb := cumO_bd y (m - 1)
  have hm := cumO_mono y h2
  have he : cumO y m = cumO y (m - 1) + mlO y m := by
    have e : m = m - 1 + 1 := by omega
    have e2 : ((m - 1 : Nat) : Int) + 1 = (m : Int) := by omega
    rw [← e2, ← cumO_succ]
    congr 1
  rw [nyO_next]
  unfold numO
  omega
theorem mlO_le {y z : Int} {m : Nat} {d : Int} (h : d ≤ mlO y m) (hn : ¬ (m = 2 ∧ d = 29 ∧ z % 4 ≠ 0)) : d ≤ mlO z m := by
  unfold mlO at h ⊢
  by_cases e : m = 2
  · subst e
    simp at h hn ⊢
    split
    · split at h <;> omega
    · split at h
      · have : d ≠ 29 := fun h => by have := hn h; omega
        omega
      · exact h
  · have e' : ¬ (m : Int) = 2 := by omega
    rw [if_neg e'] at h ⊢
    exact h
theorem bgO_in (fr k : Int) : nyO (yrO fr + k - 1) ≤ bgO fr k ∧ bgO fr k < nyO (yrO fr + k - 1 + 1) := by
  obtain ⟨h1, h2, _, _⟩ := mnO_at fr
  obtain ⟨h3, h4⟩ := dyO_bd fr
  unfold bgO
  split
  · exact numO_in (by decide) (by decide) (by decide) (by simp [mlO])
  · rename_i hn
    exact numO_in h1 h2 h3 (mlO_le h4 hn)
theorem bgO_one (fr : Int) : bgO fr 1 = fr := by
  obtain ⟨h3, h4⟩ := dyO_bd fr
  unfold bgO
  have e : yrO fr + 1 - 1 = yrO fr := by omega
  rw [e, if_neg, numO_date]
  rintro ⟨h1, h2, h5⟩
  rw [h1, h2] at h4
  simp [mlO, h5] at h4
/-- The year of a reign that a day of it is in. -/
def rgY (fr n : Int) : Int := if bgO fr (yrO n - yrO fr + 1) ≤ n then yrO n - yrO fr + 1 else yrO n - yrO fr
theorem rgY_le {fr n k : Int} : bgO fr k ≤ n ↔ k ≤ rgY fr n := by
  have h1 := bgO_in fr k
  have h2 := yrO_le n
  have h3 := yrO_gt n
  unfold rgY
  by_cases e : k = yrO n - yrO fr + 1
  · rw [← e]
    split <;> omega
  · by_cases c : k ≤ yrO n - yrO fr
    · have : bgO fr k < nyO (yrO n) + 1 := by
        by_cases d : yrO fr + k - 1 + 1 = yrO n
        · rw [d] at h1; omega
        · have := nyO_lt (y := yrO fr + k - 1 + 1) (z := yrO n) (by omega); omega
      split <;> omega
    · have : nyO (yrO n + 1) ≤ bgO fr k := by
        by_cases d : yrO n + 1 = yrO fr + k - 1
        · rw [d]; exact h1.1
        · have := nyO_lt (y := yrO n + 1) (z := yrO fr + k - 1) (by omega); omega
      split <;> omega
theorem rgY_bd {fr n : Int} (h : fr ≤ n) : 1 ≤ rgY fr n ∧ yrO n - yrO fr ≤ rgY fr n ∧ rgY fr n ≤ yrO n - yrO fr + 1 := by
  have h1 := rgY_le (fr := fr) (n := n) (k := 1)
  rw [bgO_one] at h1
  refine ⟨h1.1 h, ?_⟩
  unfold rgY
  split <;> omega
theorem bgO_if (fr k : Int) : bgO fr k = if dyO fr ≤ mlO (yrO fr + (k - 1)) (mnO fr) then numO (yrO fr + (k - 1)) (mnO fr) (dyO fr) else numO (yrO fr + (k - 1)) 3 1 := by
  obtain ⟨h3, h4⟩ := dyO_bd fr
  have e : yrO fr + k - 1 = yrO fr + (k - 1) := by omega
  unfold bgO
  rw [e]
  by_cases c : mnO fr = 2 ∧ dyO fr = 29 ∧ (yrO fr + (k - 1)) % 4 ≠ 0
  · rw [if_pos c, if_neg]
    obtain ⟨c1, c2, c5⟩ := c
    rw [c1, c2]
    simp [mlO, c5]
  · rw [if_neg c, if_pos (mlO_le h4 c)]
/-- What the program takes for the day on which the year k of a reign would begin. -/
def ybO (fr k : Int) : Int := if 2000 < k then 730500 else if 2000 < yrO fr + (k - 1) then 730500 else bgO fr k
theorem bgO_late {fr k : Int} (h : 2001 ≤ yrO fr + k - 1) : 730500 ≤ bgO fr k := by
  have h1 := (bgO_in fr k).1
  have : nyO 2001 ≤ nyO (yrO fr + k - 1) := by unfold nyO; omega
  have e : nyO 2001 = 730500 := by decide
  omega

theorem ybO_le {fr k n : Int} (hf : 0 ≤ fr) (_hk : 1 ≤ k) (hn : n ≤ 730499) : ybO fr k ≤ n ↔ bgO fr k ≤ n := by
  have h1 : 1 ≤ yrO fr := by unfold yrO; omega
  unfold ybO
  split
  · have := bgO_late (fr := fr) (k := k) (by omega); omega
  · split
    · have := bgO_late (fr := fr) (k := k) (by omega); omega
    · exact Iff.rfl
end Go.Proofs.YtjklileooiepmaaGreatDoor
