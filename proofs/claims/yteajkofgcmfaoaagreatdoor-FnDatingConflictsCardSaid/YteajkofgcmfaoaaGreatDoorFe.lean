/- Walks: feasts, styles and indictions of the reference. -/
import Derived.Test.YteajkofgcmfaoaaGreatDoorDk
import Derived.Deep.LoopGhost
import Derived.Deep.CutRange
import Derived.Deep.CutBlock
import Derived.Test.YteajkofgcmfaoaaGreatDoorBB
import Derived.BigRegion
import Derived.BigQuiet
import Derived.StillTailTactics
import Derived.Test.YteajkofgcmfaoaaGreatDoorCl
import Derived.Deep.RegionWith
namespace Go.Proofs.YteajkofgcmfaoaaGreatDoor
section
/-- The length of a month of the old calendar. -/
def mlO (y m : Int) : Int := if m = 2 then (if y % 4 = 0 then 29 else 28) else if m = 4 ∨ m = 6 ∨ m = 9 ∨ m = 11 then 30 else 31
theorem mlO_bd (y m : Int) : 28 ≤ mlO y m ∧ mlO y m ≤ 31 := by
  unfold mlO
  split <;> (try split) <;> omega
/-- The days of the first k months of a year. -/
def cumO (y : Int) : Nat → Int
  | 0 => 0
  | k + 1 => cumO y k + mlO y ((k : Int) + 1)
theorem cumO_succ (y : Int) (k : Nat) : cumO y (k + 1) = cumO y k + mlO y ((k : Int) + 1) := rfl
theorem cumO_bd (y : Int) : ∀ k : Nat, 28 * k ≤ cumO y k ∧ cumO y k ≤ 31 * k
  | 0 => by simp [cumO]
  | k + 1 => by
    have := cumO_bd y k
    have := mlO_bd y ((k : Int) + 1)
    rw [cumO_succ]
    omega
theorem cumO_mono (y : Int) {k l : Nat} (h : k ≤ l) : cumO y k ≤ cumO y l := by
  induction l with
  | zero => rw [Nat.le_zero.1 h]; exact Int.le_refl _
  | succ l ih =>
    by_cases e : k = l + 1
    · rw [e]; exact Int.le_refl _
    · have := ih (by omega)
      have := mlO_bd y ((l : Int) + 1)
      rw [cumO_succ]
      omega
theorem cumO_year (y : Int) : cumO y 12 = if y % 4 = 0 then 366 else 365 := by
  have e : ∀ k : Nat, cumO y (k + 1) = cumO y k + mlO y ((k : Int) + 1) := fun _ => rfl
  have h2 : mlO y 2 = if y % 4 = 0 then 29 else 28 := rfl
  have hf : ∀ m : Int, m ≠ 2 → mlO y m = if m = 4 ∨ m = 6 ∨ m = 9 ∨ m = 11 then 30 else 31 := fun m h => if_neg h
  rw [e 11, e 10, e 9, e 8, e 7, e 6, e 5, e 4, e 3, e 2, e 1, e 0]
  have e1 : ((1 : Nat) : Int) + 1 = 2 := rfl
  rw [e1, h2, hf _ (by decide), hf _ (by decide), hf _ (by decide), hf _ (by decide), hf _ (by decide), hf _ (by decide), hf _ (by decide), hf _ (by decide), hf _ (by decide), hf _ (by decide), hf _ (by decide)]
  simp [cumO]
  split <;> rfl
/-- The day on which a year begins. -/
def nyO (y : Int) : Int := 365 * (y - 1) + (y - 1) / 4
theorem nyO_next (y : Int) : nyO (y + 1) = nyO y + cumO y 12 := by
  rw [cumO_year]
  unfold nyO
  split <;> omega
def yrO (n : Int) : Int := (4 * n + 3) / 1461 + 1
theorem yrO_le (n : Int) : nyO (yrO n) ≤ n := by unfold nyO yrO; omega
theorem yrO_gt (n : Int) : n < nyO (yrO n + 1) := by unfold nyO yrO; omega
theorem nyO_lt {y z : Int} (h : y < z) : nyO y + 365 ≤ nyO z := by unfold nyO; omega
theorem yrO_iff {n y : Int} : nyO y ≤ n ↔ y ≤ yrO n := by unfold nyO yrO; omega
theorem yrO_bd {n : Int} (h0 : 0 ≤ n) (h1 : n ≤ 730499) : 1 ≤ yrO n ∧ yrO n ≤ 2000 := by unfold yrO; omega
/-- The month of a day of a year. -/
def moO (y r : Int) : Nat → Nat
  | 0 => 1
  | k + 1 => if cumO y (k + 1) ≤ r then k + 2 else moO y r k
theorem moO_at {y r : Int} (h0 : 0 ≤ r) : ∀ j, r < cumO y (j + 1) → 1 ≤ moO y r j ∧ moO y r j ≤ j + 1 ∧ cumO y (moO y r j - 1) ≤ r ∧ r < cumO y (moO y r j)
  | 0, h => by simp only [moO]; exact ⟨by omega, by omega, by simpa [cumO] using h0, h⟩
  | j + 1, h => by
    unfold moO
    by_cases c : cumO y (j + 1) ≤ r
    · rw [if_pos c]
      exact ⟨by omega, by omega, c, h⟩
    · rw [if_neg c]
      have := moO_at (y := y) h0 j (by omega)
      exact ⟨this.1, by omega, this.2.2.1, this.2.2.2⟩
def mnO (n : Int) : Nat := moO (yrO n) (n - nyO (yrO n)) 11
def dyO (n : Int) : Int := n - nyO (yrO n) - cumO (yrO n) (mnO n - 1) + 1
theorem mnO_at (n : Int) : 1 ≤ mnO n ∧ mnO n ≤ 12 ∧ cumO (yrO n) (mnO n - 1) ≤ n - nyO (yrO n) ∧ n - nyO (yrO n) < cumO (yrO n) (mnO n) := by
  have h1 := yrO_le n
  have h2 := yrO_gt n
  rw [nyO_next] at h2
  exact moO_at (y := yrO n) (by omega) 11 (by show _ < cumO (yrO n) 12; omega)
theorem dyO_bd (n : Int) : 1 ≤ dyO n ∧ dyO n ≤ mlO (yrO n) (mnO n) := by
  obtain ⟨h1, h2, h3, h4⟩ := mnO_at n
  unfold dyO
  have he : mnO n = mnO n - 1 + 1 := by omega
  generalize mnO n = k at *
  rw [he, cumO_succ] at h4
  have e : ((k - 1 : Nat) : Int) + 1 = (k : Int) := by omega
  rw [e] at h4
  omega
/-- The number of a date. -/
def numO (y : Int) (m : Nat) (d : Int) : Int := nyO y + d - 1 + cumO y (m - 1)
theorem numO_date (n : Int) : numO (yrO n) (mnO n) (dyO n) = n := by unfold numO dyO; omega
theorem numO_bd (y : Int) (m : Nat) (d : Int) (hy1 : 0 ≤ y) (hy : y ≤ 5000) (hm : m ≤ 14) (hd : -100 ≤ d) (hd2 : d ≤ 100) : -1000 ≤ numO y m d ∧ numO y m d ≤ 2000000 := by
  have := cumO_bd y (m - 1)
  unfold numO nyO
  omega
/-- Easter by the old rule. -/
def epO (y : Int) : Int := (19 * (y % 19) + 15) % 30
def eqO (y : Int) : Int := (2 * (y % 4) + 4 * (y % 7) - epO y + 34) % 7
def esO (y : Int) : Int := epO y + eqO y + 114
theorem esO_bd (y : Int) : 114 ≤ esO y ∧ esO y ≤ 149 := by unfold esO epO eqO epO; omega
def eaO (y : Int) : Int := numO y (esO y / 31).toNat (esO y % 31 + 1)
theorem eaO_bd (y : Int) : nyO y + 80 ≤ eaO y ∧ eaO y ≤ nyO y + 120 := by
  have h1 := esO_bd y
  unfold eaO numO
  have : (esO y / 31).toNat = 3 ∨ (esO y / 31).toNat = 4 := by omega
  rcases this with e | e <;> rw [e] <;> simp only [cumO, mlO] <;> split <;> simp <;> omega
/-- The first number from a on, of k numbers, that answers to q. -/
def fstR (q : Int → Bool) (a : Int) : Nat → Option Int
  | 0 => none
  | k + 1 => if q a = true then some a else fstR q (a + 1) k
def fxM : List Int := [1, 1, 2, 3, 6, 6, 8, 8, 9, 11, 11, 11, 12, 12]
def fxD : List Int := [1, 6, 2, 25, 24, 29, 10, 15, 29, 1, 11, 30, 6, 25]
def fxV : List Int := [-46, -7, 0, 39, 49, 56]
/-- The day of a feast in a year. -/
def feO (f y : Int) : Int := if f < 14 then numO y (fxM[f.toNat]?.getD 0).toNat (fxD[f.toNat]?.getD 0) else eaO y + fxV[f.toNat - 14]?.getD 0
theorem feO_bd {f y : Int} (h0 : 0 ≤ f) (h1 : f ≤ 19) : nyO y ≤ feO f y ∧ feO f y ≤ nyO y + 400 := by
  have he := eaO_bd y
  have h : f = ((f.toNat : Nat) : Int) := by omega
  have hN : f.toNat < 20 := by omega
  generalize f.toNat = N at h hN
  subst h
  unfold feO
  simp only [Int.toNat_natCast]
  have hk : ∀ m : Nat, m ≤ 12 → ∀ d, 1 ≤ d → d ≤ 31 → nyO y ≤ numO y m d ∧ numO y m d ≤ nyO y + 400 := fun m hm d h1 h2 => by
    have := cumO_bd y (m - 1)
    unfold numO
    omega
  split
  · have hN : N < 14 := by omega
    have : ∀ N : Nat, N < 14 → (fxM[N]?.getD 0).toNat ≤ 12 ∧ 1 ≤ fxD[N]?.getD 0 ∧ fxD[N]?.getD 0 ≤ 31 := by decide
    obtain ⟨h1, h2, h3⟩ := this N hN
    exact hk _ h1 _ h2 h3
  · have : ∀ N : Nat, N < 20 → 14 ≤ N → -46 ≤ fxV[N - 14]?.getD 0 ∧ fxV[N - 14]?.getD 0 ≤ 56 := by decide
    have := this N hN (by omega)
    omega
/-- The day with a relation to a feast in a year. -/
def reO (f r wd y : Int) : Int :=
  if r = 1 then feO f y - 1 else if r = 2 then feO f y + 7 else if r = 3 then feO f y + 1 + (wd - (feO f y + 5) % 7 + 13) % 7
  else if r = 4 then feO f y - 1 - ((feO f y + 5) % 7 - wd + 13) % 7 else feO f y
def fhO (f r wd n : Int) : Bool := (fstR (fun y => reO f r wd y == n) (max 1 (yrO n - 1)) (min 2000 (yrO n + 1) - max 1 (yrO n - 1) + 1).toNat).isSome
/-- The day on which a year of a style begins. -/
def beO (s y : Int) : Int :=
  if s = 1 then numO y 3 1 else if s = 2 then numO y 3 25 else if s = 3 then numO (y - 1) 3 25 else if s = 4 then eaO y
  else if s = 5 then numO (y - 1) 12 25 else if s = 6 then numO (y - 1) 9 1 else nyO y
def inY (s n y : Int) : Bool := inB y 2 1999 && inB n (beO s y) (beO s (y + 1) - 1)
def yoO (s n : Int) : Option Int := fstR (inY s n) (yrO n - 1) 3
def ioO (k n : Int) : Int := if k = 2 then (yrO n + 2) % 15 + 1 else if numO (yrO n) 9 (if k = 1 then 24 else 1) ≤ n then (yrO n + 1 + 2) % 15 + 1 else (yrO n + 2) % 15 + 1
theorem ioO_one (n : Int) : ioO 1 n = if numO (yrO n) 9 24 ≤ n then (yrO n + 1 + 2) % 15 + 1 else (yrO n + 2) % 15 + 1 := rfl
theorem ioO_two (n : Int) : ioO 2 n = (yrO n + 2) % 15 + 1 := rfl
theorem ioO_else {k n : Int} (h1 : ¬ k = 1) (h2 : ¬ k = 2) : ioO k n = if numO (yrO n) 9 1 ≤ n then (yrO n + 1 + 2) % 15 + 1 else (yrO n + 2) % 15 + 1 := by unfold ioO; rw [if_neg h2, if_neg h1]
/-- The day on which the year k of a reign would begin. -/
def bgO (fr k : Int) : Int := if mnO fr = 2 ∧ dyO fr = 29 ∧ (yrO fr + k - 1) % 4 ≠ 0 then numO (yrO fr + k - 1) 3 1 else numO (yrO fr + k - 1) (mnO fr) (dyO fr)
theorem numO_in {y d : Int} {m : Nat} (h1 : 1 ≤ m) (h2 : m ≤ 12) (h3 : 1 ≤ d) (h4 : d ≤ mlO y m) : nyO y ≤ numO y m d ∧ numO y m d < nyO (y + 1) := by
  have hb := cumO_bd y (m - 1)
  have hm := cumO_mono y h2
  have he : cumO y m = cumO y (m - 1) + mlO y m := by
    have e : m = m - 1 + 1 := by omega
    have e2 : ((m - 1 : Nat) : Int) + 1 = (m : Int) := by omega
    rw [← e2, ← cumO_succ]
    congr 1
  rw [nyO_next]
  unfold numO
  omega
theorem mlO_le {y z : Int} {m : Nat} {d : Int} (h : d ≤ mlO y m) (hn : ¬ (m = 2 ∧ d = 29 ∧ z % 4 ≠ 0)) : d ≤ mlO z m := by
  unfold mlO at h ⊢
  by_cases e : m = 2
  · subst e
    simp at h hn ⊢
    split
    · split at h <;> omega
    · split at h
      · have : d ≠ 29 := fun h => by have := hn h; omega
        omega
      · exact h
  · have e' : ¬ (m : Int) = 2 := by omega
    rw [if_neg e'] at h ⊢
    exact h
theorem bgO_in (fr k : Int) : nyO (yrO fr + k - 1) ≤ bgO fr k ∧ bgO fr k < nyO (yrO fr + k - 1 + 1) := by
  obtain ⟨h1, h2, _, _⟩ := mnO_at fr
  obtain ⟨h3, h4⟩ := dyO_bd fr
  unfold bgO
  split
  · exact numO_in (by decide) (by decide) (by decide) (by simp [mlO])
  · rename_i hn
    exact numO_in h1 h2 h3 (mlO_le h4 hn)
theorem bgO_one (fr : Int) : bgO fr 1 = fr := by
  obtain ⟨h3, h4⟩ := dyO_bd fr
  unfold bgO
  have e : yrO fr + 1 - 1 = yrO fr := by omega
  rw [e, if_neg, numO_date]
  rintro ⟨h1, h2, h5⟩
  rw [h1, h2] at h4
  simp [mlO, h5] at h4
/-- The year of a reign that a day of it is in. -/
def rgY (fr n : Int) : Int := if bgO fr (yrO n - yrO fr + 1) ≤ n then yrO n - yrO fr + 1 else yrO n - yrO fr
theorem rgY_le {fr n k : Int} : bgO fr k ≤ n ↔ k ≤ rgY fr n := by
  have h1 := bgO_in fr k
  have h2 := yrO_le n
  have h3 := yrO_gt n
  unfold rgY
  by_cases e : k = yrO n - yrO fr + 1
  · rw [← e]
    split <;> omega
  · by_cases c : k ≤ yrO n - yrO fr
    · have : bgO fr k < nyO (yrO n) + 1 := by
        by_cases d : yrO fr + k - 1 + 1 = yrO n
        · rw [d] at h1; omega
        · have := nyO_lt (y := yrO fr + k - 1 + 1) (z := yrO n) (by omega); omega
      split <;> omega
    · have : nyO (yrO n + 1) ≤ bgO fr k := by
        by_cases d : yrO n + 1 = yrO fr + k - 1
        · rw [d]; exact h1.1
        · have := nyO_lt (y := yrO n + 1) (z := yrO fr + k - 1) (by omega); omega
      split <;> omega
theorem rgY_bd {fr n : Int} (h : fr ≤ n) : 1 ≤ rgY fr n ∧ yrO n - yrO fr ≤ rgY fr n ∧ rgY fr n ≤ yrO n - yrO fr + 1 := by
  have h1 := rgY_le (fr := fr) (n := n) (k := 1)
  rw [bgO_one] at h1
  refine ⟨h1.1 h, ?_⟩
  unfold rgY
  split <;> omega
theorem bgO_if (fr k : Int) : bgO fr k = if dyO fr ≤ mlO (yrO fr + (k - 1)) (mnO fr) then numO (yrO fr + (k - 1)) (mnO fr) (dyO fr) else numO (yrO fr + (k - 1)) 3 1 := by
  obtain ⟨h3, h4⟩ := dyO_bd fr
  have e : yrO fr + k - 1 = yrO fr + (k - 1) := by omega
  unfold bgO
  rw [e]
  by_cases c : mnO fr = 2 ∧ dyO fr = 29 ∧ (yrO fr + (k - 1)) % 4 ≠ 0
  · rw [if_pos c, if_neg]
    obtain ⟨c1, c2, c5⟩ := c
    rw [c1, c2]
    simp [mlO, c5]
  · rw [if_neg c, if_pos (mlO_le h4 c)]
/-- What the program takes for the day on which the year k of a reign would begin. -/
def ybO (fr k : Int) : Int := if 2000 < k then 730500 else if 2000 < yrO fr + (k - 1) then 730500 else bgO fr k
theorem bgO_late {fr k : Int} (h : 2001 ≤ yrO fr + k - 1) : 730500 ≤ bgO fr k := by
  have h1 := (bgO_in fr k).1
  have : nyO 2001 ≤ nyO (yrO fr + k - 1) := by unfold nyO; omega
  have e : nyO 2001 = 730500 := by decide
  omega

theorem ybO_le {fr k n : Int} (hf : 0 ≤ fr) (_hk : 1 ≤ k) (hn : n ≤ 730499) : ybO fr k ≤ n ↔ bgO fr k ≤ n := by
  have h1 : 1 ≤ yrO fr := by unfold yrO; omega
  unfold ybO
  split
  · have := bgO_late (fr := fr) (k := k) (by omega); omega
  · split
    · have := bgO_late (fr := fr) (k := k) (by omega); omega
    · exact Iff.rfl
end

section
open Go.ChangeShapes Go.WideShapes Go.ChangeAt Go.RowKit Go.IntWalk

theorem l01Leap_any (y : Int) (w : World) (h0 : 0 ≤ y) (h1 : y ≤ 5000) : Calls Tryz.prog 211 #[.int .i64 y, .bool false] w fun e w' => e = .returned (.bool (decide (y % 4 = 0))) ∧ w = w' := by
  by_cases hy : y % 4 = 0
  · go_enter Tryz.func211, Tryz.ntmps211
    go_wp2
    go_ret
    exact ⟨ret_bool (by simp [hy]), rfl⟩
  · go_enter Tryz.func211, Tryz.ntmps211
    go_wp2
    go_ret
    exact ⟨ret_bool (by simp [hy]), rfl⟩
theorem l01Length_any (y m : Int) (w : World) (h0 : 0 ≤ y) (h1 : y ≤ 5000) : Calls Tryz.prog 203 #[.int .i64 y, .int .i64 m, .bool false] w fun e w' => e = .returned (.int .i64 (mlO y m)) ∧ w = w' := by
  have HL := Lib.hid (fun W => l01Leap_any y W h0 h1)
  have hl : Hid (mlO y m = if m = 2 then (if y % 4 = 0 then 29 else 28) else if m = 4 ∨ m = 6 ∨ m = 9 ∨ m = 11 then 30 else 31) := rfl
  generalize mlO y m = V at hl ⊢
  by_cases hy : y % 4 = 0
  all_goals
    have hy' := Lib.hid hy
    go_enter Tryz.func203, Tryz.ntmps203
    go_wp2_with (go_at_call 211; refine (HL.out _).mono ?_; rintro e w' ⟨rfl, rfl⟩)
    all_goals go_ret
    all_goals exact ⟨ret_int (by rw [hl.out]; have := hy'.out; clear hl hy'; simp_all), rfl⟩
theorem l01Weekday_any (n : Int) (w : World) (h0 : -5 ≤ n) (h1 : n ≤ 2000000) : Calls Tryz.prog 124 #[.int .i64 n] w fun e w' => e = .returned (.int .i64 ((n + 5) % 7)) ∧ w = w' := by
  have v1 := i64_in (n + 5) (by omega)
  have v2 := i64_in ((n + 5) % 7) (by omega)
  go_enter Tryz.func124, Tryz.ntmps124
  go_wp2
  go_ret
  exact ⟨rfl, rfl⟩
set_option maxRecDepth 100000 in
set_option maxHeartbeats 1000000 in
theorem l01Number_any (y : Int) (m : Nat) (d : Int) (w : World) (h0 : 1 ≤ y) (h1 : y ≤ 5000) (hm : m ≤ 20) (hm1 : 1 ≤ m) (hd0 : -100 ≤ d) (hd : d ≤ 100) :
    Calls Tryz.prog 172 #[.agg #[.int .i64 y, .int .i64 m, .int .i64 d], .bool false] w fun e w' => e = .returned (.int .i64 (numO y m d)) ∧ Below w.heap.size w w' := by
  have HM := Lib.hid (fun m W => l01Length_any y m W (by omega) h1)
  have hA0 : At w [.int .i64 y, .int .i64 m, .int .i64 d] (w.alloc (.cells #[.int .i64 y, .int .i64 m, .int .i64 d] 104)) := At.start _ _ _
  have hR : Hid (numO y m d = 365 * (y - 1) + (y - 1) / 4 + d - 1 + cumO y (m - 1)) := rfl
  generalize numO y m d = R at hR ⊢
  have HC := Lib.hid (cumO_succ y)
  have HB := Lib.hid (cumO_bd y)
  generalize cumO y = C at HC HB hR
  generalize mlO y = L at HM HC
  have v0 := i64_in (y - 1) (by omega)
  have v1 := i64_in (365 * (y - 1)) (by omega)
  have v2 := i64_in ((y - 1) / 4) (by omega)
  have v3 := i64_in (365 * (y - 1) + (y - 1) / 4) (by omega)
  have v4 := i64_in (365 * (y - 1) + (y - 1) / 4 + d) (by omega)
  have v5 := i64_in (365 * (y - 1) + (y - 1) / 4 + d - 1) (by omega)
  go_enter Tryz.func172, Tryz.ntmps172
  go_wp2
  generalize hN : 365 * (y - 1) + (y - 1) / 4 + d - 1 = N at hR v5 ⊢
  have hNb : -1000 ≤ N ∧ N ≤ 2000000 := by omega
  clear hN v0 v1 v2 v3 v4
  go_loopw [6, 7] (fun s i wr => ∃ k : Nat, k + 1 ≤ m ∧ i = .int .i64 ((k : Int) + 1) ∧ s = .int .i64 (N + C k) ∧ At w [.int .i64 y, .int .i64 m, .int .i64 d] wr) (fun _ i _ => m - (intOf i).toNat)
  case atStart => exact ⟨0, hm1, rfl, by rw [show C 0 = 0 by have := HB.out 0; omega]; simp, hA0⟩
  case round =>
    clear hA0
    obtain ⟨k, hk, rfl, rfl, hA⟩ := hrel
    have b0 := hA.cell 0 _ rfl
    have b1 := hA.cell 1 _ rfl
    have hb := HB.out k
    by_cases hlt : k + 1 < m
    · have hlt' : (k : Int) + 1 < (m : Int) := by omega
      have hs := HC.out k
      have hb2 := HB.out (k + 1)
      have v3 := i64_in (N + C k + L ((k : Int) + 1)) (by omega)
      go_wp2_with (go_at_call 203; refine (HM.out _ _).mono ?_; rintro e w' ⟨rfl, rfl⟩)
      go_roundw
      case rel => exact ⟨k + 1, by omega, by go_num, by rw [hs]; congr 1; omega, hA⟩
      case measure => simp [intOf]; omega
    · have hlt' : decide ((k : Int) + 1 < (m : Int)) = false := by simp; omega
      go_wp2
      go_ret
      exact ⟨ret_int (by rw [hR.out]; congr 2; omega), hA.below⟩

/-- The boxes of l01Date. -/
structure DsS (w0 : World) (y m d : Int) (w : World) : Prop where
  below : Below w0.heap.size w0 w
  r : Box w0.heap.size w 104 w0.heap.size [.int .i64 0, .int .i64 0, .int .i64 0]
  d : Box w0.heap.size w 104 (w0.heap.size + 1) [.int .i64 y, .int .i64 m, .int .i64 d]
theorem DsS.step {w0 w w' : World} {y m d : Int} (h : DsS w0 y m d w) (hB : Below w.heap.size w w') : DsS w0 y m d w' :=
  ⟨stepB h.below hB h.below.size, h.r.below hB, h.d.below hB⟩
theorem DsS.start (w : World) (y m d : Int) : DsS w y m d ((w.alloc (.cells #[.int .i64 0, .int .i64 0, .int .i64 0] 104)).alloc (.cells #[.int .i64 y, .int .i64 m, .int .i64 d] 104)) := by
  have s1 : (w.alloc (.cells #[.int .i64 0, .int .i64 0, .int .i64 0] 104)).heap.size = w.heap.size + 1 := by simp
  have b1 := (Below.refl _ (w.alloc (.cells #[.int .i64 0, .int .i64 0, .int .i64 0] 104))).alloc (Nat.le_refl _) (.cells #[.int .i64 y, .int .i64 m, .int .i64 d] 104)
  have h1 := Box.new w 104 [.int .i64 0, .int .i64 0, .int .i64 0] w.heap.size (Nat.le_refl _) (by simp)
  have h2 := Box.new (w.alloc (.cells #[.int .i64 0, .int .i64 0, .int .i64 0] 104)) 104 [.int .i64 y, .int .i64 m, .int .i64 d] w.heap.size (by simp) (by simp)
  rw [s1] at h2
  exact ⟨by go_grown, h1.below b1, h2⟩
theorem DsS.putY {w0 w : World} {y m d : Int} (h : DsS w0 y m d w) (x : Int) : DsS w0 x m d (w.setCell ⟨w0.heap.size + 1, 0, none⟩ (.int .i64 x)) := by
  have hp := Box.put (i := 0) (pre := []) (post := [.int .i64 m, .int .i64 d]) h.d rfl (.int .i64 x)
  exact ⟨h.below.grown hp.2 h.below.size (fun g e => by cases e; omega), h.r.keep hp.2 (by omega), hp.1⟩
theorem DsS.putM {w0 w : World} {y m d : Int} (h : DsS w0 y m d w) (x : Int) : DsS w0 y x d (w.setCell ⟨w0.heap.size + 1, 1, none⟩ (.int .i64 x)) := by
  have hp := Box.put (i := 1) (pre := [.int .i64 y]) (post := [.int .i64 d]) h.d rfl (.int .i64 x)
  exact ⟨h.below.grown hp.2 h.below.size (fun g e => by cases e; omega), h.r.keep hp.2 (by omega), hp.1⟩
theorem DsS.putD {w0 w : World} {y m d : Int} (h : DsS w0 y m d w) (x : Int) : DsS w0 y m x (w.setCell ⟨w0.heap.size + 1, 2, none⟩ (.int .i64 x)) := by
  have hp := Box.put (i := 2) (pre := [.int .i64 y, .int .i64 m]) (post := []) h.d rfl (.int .i64 x)
  exact ⟨h.below.grown hp.2 h.below.size (fun g e => by cases e; omega), h.r.keep hp.2 (by omega), hp.1⟩

set_option maxRecDepth 100000 in
set_option maxHeartbeats 2000000 in
theorem l01Date_any (n : Int) (w : World) (hn0 : 0 ≤ n) (hn : n ≤ 730499) :
    Calls Tryz.prog 168 #[.int .i64 n, .bool false] w fun e w' => e = .returned (.agg #[.int .i64 (yrO n), .int .i64 (mnO n : Nat), .int .i64 (dyO n)]) ∧ Below w.heap.size w w' := by
  have hy := yrO_bd hn0 hn
  have HN := Lib.hid (fun y W h0 h1 => l01Number_any y 1 1 W h0 h1 (by decide) (by decide) (by decide) (by decide))
  have HM := Lib.hid (fun m W hm hm1 => l01Number_any (yrO n) m 1 W (by omega) (by omega) hm hm1 (by decide) (by decide))
  have hm := mnO_at n
  have HI := Lib.hid (fun y => (show numO y 1 1 ≤ n ↔ y ≤ yrO n by rw [← yrO_iff]; unfold numO; simp [cumO]))
  have HMI := Lib.hid (fun (k : Nat) (hk : k + 1 ≤ mnO n) => (show numO (yrO n) (k + 1 + 1) 1 ≤ n ↔ k + 1 + 1 ≤ mnO n by
    unfold numO
    show nyO (yrO n) + 1 - 1 + cumO (yrO n) (k + 1) ≤ n ↔ _
    constructor
    · intro h
      refine Nat.not_lt.1 fun h2 => ?_
      have e : k + 1 = mnO n := by omega
      rw [e] at h
      omega
    · intro h
      have := cumO_mono (yrO n) (show k + 1 ≤ mnO n - 1 by omega)
      omega))
  have hD0 : Hid (dyO n = n - numO (yrO n) (mnO n) 1 + 1) := by unfold Hid dyO numO; omega
  have hst : n / 366 + 1 ≤ yrO n := by rw [← yrO_iff]; unfold nyO; omega
  have hbM := numO_bd (yrO n) (mnO n) 1 (by omega) (by omega) (by omega) (by decide) (by decide)
  generalize hM : mnO n = M at hm hD0 HMI hbM ⊢
  clear hM
  generalize dyO n = D at hD0 ⊢
  generalize yrO n = Y at *
  have hm := Lib.hid hm
  have v0 := i64_in (n / 366) (by omega)
  have v1 := i64_in (n / 366 + 1) (by omega)
  have hs0 := DsS.start w (n / 366 + 1) 1 1
  go_enter Tryz.func168, Tryz.ntmps168
  go_upto_block 0 with (fail)
  generalize (w.alloc (.cells #[.int .i64 0, .int .i64 0, .int .i64 0] 104)).alloc (.cells #[.int .i64 (n / 366 + 1), .int .i64 1, .int .i64 1] 104) = W1 at hs0 ⊢
  go_cut [] from 15 to 31 (fun wd => DsS w Y 1 1 wd)
  case first =>
    go_wp2
    go_loopg [] 2000 (fun kx wr => ∃ y : Int, 1 ≤ y ∧ y ≤ Y ∧ (2000 - y).toNat ≤ kx ∧ DsS w y 1 1 wr)
    case atStart => exact ⟨n / 366 + 1, by omega, hst, by omega, hs0⟩
    case round =>
      clear hs0 hst
      obtain ⟨y, h1, h2, hg, hD⟩ := hrel
      have c0 := hD.d.cell 0 _ rfl
      by_cases hlt : y < 2000
      · have v2 := i64_in (y + 1) (by omega)
        have hc := Lib.hid (fun W => HN.out (y + 1) W (by omega) (by omega))
        have hi := HI.out (y + 1)
        generalize numO (y + 1) 1 1 = V at hc hi
        go_wp2_with fail
        refine (hc.out _).mono ?_
        rintro e w1 ⟨rfl, hB1⟩
        have hD := hD.step hB1
        clear hB1 c0 hc
        have c0 := hD.d.cell 0 _ rfl
        by_cases hv : V ≤ n
        · have f0 := World.ownsRow.frozenAt hD.d 0
          have hD' := Lib.hid (hD.putY (y + 1))
          have hle := hi.1 hv
          clear hi
          go_wp2
          go_roundg (2000 - (y + 1)).toNat
          case measure => omega
          case rel => exact ⟨y + 1, by omega, hle, Nat.le_refl _, hD'.out⟩
        · have hv' : decide (V ≤ n) = false := by simpa using hv
          have he : Hid (y = Y) := by unfold Hid; have : ¬ y + 1 ≤ Y := fun h => hv (hi.2 h); omega
          clear hi
          go_wp2
          go_meet
          case rel => exact he.out ▸ hD
      · have hlt' : decide (y < 2000) = false := by simpa using hlt
        have he : Hid (y = Y) := by unfold Hid; omega
        go_wp2
        go_meet
        case rel => exact he.out ▸ hD
  case rest =>
    clear hs0 hst HN HI v0 v1
    go_upto_block 2 with (fail)
    go_cut [] from 32 to 50 (fun wd => DsS w Y M 1 wd)
    case first =>
      go_wp2
      go_loopg [] 13 (fun kx wr => ∃ k : Nat, k + 1 ≤ M ∧ 13 - k ≤ kx ∧ DsS w Y ((k : Int) + 1) 1 wr)
      case atStart => exact ⟨0, hm.out.1, by omega, hcut⟩
      case round =>
        clear hcut
        obtain ⟨k, hk, hg, hD⟩ := hrel
        have c0 := hD.d.cell 0 _ rfl
        have c1 := hD.d.cell 1 _ rfl
        by_cases hlt : (k : Int) + 1 < 12
        · have v2 := i64_in ((k : Int) + 1 + 1) (by omega)
          have hc := Lib.hid (fun W => HM.out (k + 1 + 1) W (by omega) (by omega))
          have e2 : ((k + 1 + 1 : Nat) : Int) = (k : Int) + 1 + 1 := by omega
          rw [e2] at hc
          have hi := Lib.hid (HMI.out k hk)
          clear e2
          generalize numO Y (k + 1 + 1) 1 = V at hc hi
          go_wp2_with fail
          refine (hc.out _).mono ?_
          rintro e w1 ⟨rfl, hB1⟩
          have hD := hD.step hB1
          clear hB1 c0 c1 hc
          have c1 := hD.d.cell 1 _ rfl
          by_cases hv : V ≤ n
          · have f1 := World.ownsRow.frozenAt hD.d 1
            have hD' := Lib.hid (hD.putM ((k : Int) + 1 + 1))
            have hle := hi.out.1 hv
            go_wp2
            go_roundg (12 - k)
            case measure => omega
            case rel => exact ⟨k + 1, hle, by omega, hD'.out⟩
          · have hv' : decide (V ≤ n) = false := by simpa using hv
            have hkM : Hid ((k : Int) + 1 = (M : Int)) := by unfold Hid; have : ¬ k + 1 + 1 ≤ M := fun h => hv (hi.out.2 h); omega
            go_wp2
            go_meet
            case rel => exact hkM.out ▸ hD
        · have hlt' : decide ((k : Int) + 1 < 12) = false := by simpa using hlt
          have hkM : Hid ((k : Int) + 1 = (M : Int)) := by unfold Hid; have := hm.out.2.1; omega
          go_wp2
          go_meet
          case rel => exact hkM.out ▸ hD
    case rest =>
      have hD := hcut
      clear hcut
      have c0 := hD.d.cell 0 _ rfl
      have c1 := hD.d.cell 1 _ rfl
      have c2 := hD.d.cell 2 _ rfl
      have hc := Lib.hid (fun W => HM.out M W (by have := hm.out; omega) hm.out.1)
      have hD1 := hD0.out
      generalize numO Y M 1 = V at hc hD1 hbM
      have v5 := i64_in (n - V) (by omega)
      have v6 := i64_in (n - V + 1) (by omega)
      have hd : n - V + 1 = D := hD1.symm
      rw [hd] at v6
      clear hD1
      go_wp2_with fail
      refine (hc.out _).mono ?_
      rintro e w1 ⟨rfl, hB1⟩
      have hD := hD.step hB1
      clear hB1 c0 c1 c2 hc
      have c2 := hD.d.cell 2 _ rfl
      have f2 := World.ownsRow.frozenAt hD.d 2
      have hD' := Lib.hid (hD.putD D)
      go_upto_region 10 with (fail)
      clear c2 f2 hD
      have hD := hD'.out
      clear hD'
      generalize w1.setCell ⟨w.heap.size + 1, 2, none⟩ (.int .i64 D) = W2 at hD ⊢
      have d0 := hD.d.cell 0 _ rfl
      have d1 := hD.d.cell 1 _ rfl
      have d2 := hD.d.cell 2 _ rfl
      have r0 := hD.r.cell 0 _ rfl
      have r1 := hD.r.cell 1 _ rfl
      have r2 := hD.r.cell 2 _ rfl
      have f0 := World.ownsRow.frozenAt hD.r 0
      have f1 := World.ownsRow.frozenAt hD.r 1
      have f2 := World.ownsRow.frozenAt hD.r 2
      have HP := Lib.hid (hD.r.put3 (.int .i64 Y) (.int .i64 (M : Nat)) (.int .i64 D))
      go_wp2
      have hp := HP.out
      have hBe := hD.below.grown hp.2 hD.below.size (fun g e => by cases e; exact Nat.le_refl _)
      generalize ((W2.setCell ⟨w.heap.size, 0, none⟩ (.int .i64 Y)).setCell ⟨w.heap.size, 1, none⟩ (.int .i64 (M : Nat))).setCell ⟨w.heap.size, 2, none⟩ (.int .i64 D) = Wf at hp hBe ⊢
      have z0 := hp.1.cell 0 _ rfl
      have z1 := hp.1.cell 1 _ rfl
      have z2 := hp.1.cell 2 _ rfl
      refine bodyPost_ret_by (v := .agg #[.int .i64 Y, .int .i64 (M : Nat), .int .i64 D]) ?_ rfl ⟨rfl, hBe⟩
      simp [results, go_sem, z0, z1, z2]
set_option maxHeartbeats 1000000 in
theorem l01Old_any (n : Int) (w : World) (hn0 : 0 ≤ n) (hn : n ≤ 730499) :
    Calls Tryz.prog 122 #[.int .i64 n] w fun e w' => e = .returned (.agg #[.int .i64 (yrO n), .int .i64 (mnO n : Nat), .int .i64 (dyO n)]) ∧ Below w.heap.size w w' := by
  have HC := Lib.hid (fun W => l01Date_any n W hn0 hn)
  generalize yrO n = Y at HC ⊢
  generalize mnO n = M at HC ⊢
  generalize dyO n = D at HC ⊢
  have hR := Box.new w 104 [.int .i64 0, .int .i64 0, .int .i64 0] w.heap.size (Nat.le_refl _) (by simp)
  have hB : Below w.heap.size w (w.alloc (.cells #[.int .i64 0, .int .i64 0, .int .i64 0] 104)) := by go_grown
  go_enter Tryz.func122, Tryz.ntmps122
  go_wp2_with fail
  refine (HC.out _).mono ?_
  rintro e w1 ⟨rfl, hB1⟩
  have hR := hR.below hB1
  have hB := stepB hB hB1 hB.size
  clear hB1
  have r0 := hR.cell 0 _ rfl
  have r1 := hR.cell 1 _ rfl
  have r2 := hR.cell 2 _ rfl
  have f0 := World.ownsRow.frozenAt hR 0
  have f1 := World.ownsRow.frozenAt hR 1
  have f2 := World.ownsRow.frozenAt hR 2
  have HP := Lib.hid (hR.put3 (.int .i64 Y) (.int .i64 (M : Nat)) (.int .i64 D))
  go_wp2
  have hp := HP.out
  have hBe := hB.grown hp.2 hB.size (fun g e => by cases e; exact Nat.le_refl _)
  generalize ((w1.setCell ⟨w.heap.size, 0, none⟩ (.int .i64 Y)).setCell ⟨w.heap.size, 1, none⟩ (.int .i64 (M : Nat))).setCell ⟨w.heap.size, 2, none⟩ (.int .i64 D) = Wf at hp hBe ⊢
  have z0 := hp.1.cell 0 _ rfl
  have z1 := hp.1.cell 1 _ rfl
  have z2 := hp.1.cell 2 _ rfl
  refine bodyPost_ret_by (v := .agg #[.int .i64 Y, .int .i64 (M : Nat), .int .i64 D]) ?_ rfl ⟨rfl, hBe⟩
  simp [results, go_sem, z0, z1, z2]
end

section
open Go.ChangeShapes Go.WideShapes Go.ChangeAt Go.RowKit Go.IntWalk

theorem isLeap_any (y : Int) (w : World) (h0 : 0 ≤ y) (h1 : y ≤ 5000) : Calls Tryz.prog 238 #[.int .i64 y, .bool false] w fun e w' => e = .returned (.bool (decide (y % 4 = 0))) ∧ w = w' := by
  by_cases hy : y % 4 = 0
  · go_enter Tryz.func238, Tryz.ntmps238
    go_wp2
    go_ret
    exact ⟨ret_bool (by simp [hy]), rfl⟩
  · go_enter Tryz.func238, Tryz.ntmps238
    go_wp2
    go_ret
    exact ⟨ret_bool (by simp [hy]), rfl⟩
theorem lengthOfMonth_any (y m : Int) (w : World) (h0 : 0 ≤ y) (h1 : y ≤ 5000) : Calls Tryz.prog 206 #[.int .i64 y, .int .i64 m, .bool false] w fun e w' => e = .returned (.int .i64 (mlO y m)) ∧ w = w' := by
  have HL := Lib.hid (fun W => isLeap_any y W h0 h1)
  have hl : Hid (mlO y m = if m = 2 then (if y % 4 = 0 then 29 else 28) else if m = 4 ∨ m = 6 ∨ m = 9 ∨ m = 11 then 30 else 31) := rfl
  generalize mlO y m = V at hl ⊢
  by_cases hy : y % 4 = 0
  all_goals
    have hy' := Lib.hid hy
    go_enter Tryz.func206, Tryz.ntmps206
    go_wp2_with (go_at_call 238; refine (HL.out _).mono ?_; rintro e w' ⟨rfl, rfl⟩)
    all_goals go_ret
    all_goals exact ⟨ret_int (by rw [hl.out]; have := hy'.out; clear hl hy'; simp_all), rfl⟩
theorem newYear_any (y : Int) (w : World) (h0 : 1 ≤ y) (h1 : y ≤ 5000) : Calls Tryz.prog 215 #[.int .i64 y, .bool false] w fun e w' => e = .returned (.int .i64 (nyO y)) ∧ w = w' := by
  have v1 := i64_in (y - 1) (by omega)
  have v2 := i64_in (365 * (y - 1)) (by omega)
  have v3 := i64_in ((y - 1) / 4) (by omega)
  have v4 := i64_in (365 * (y - 1) + (y - 1) / 4) (by omega)
  go_enter Tryz.func215, Tryz.ntmps215
  go_wp2
  go_ret
  exact ⟨rfl, rfl⟩
theorem weekdayOf_any (n : Int) (w : World) (h0 : -5 ≤ n) (h1 : n ≤ 2000000) : Calls Tryz.prog 184 #[.int .i64 n] w fun e w' => e = .returned (.int .i64 ((n + 5) % 7)) ∧ w = w' := by
  have v1 := i64_in (n + 5) (by omega)
  have v2 := i64_in ((n + 5) % 7) (by omega)
  go_enter Tryz.func184, Tryz.ntmps184
  go_wp2
  go_ret
  exact ⟨rfl, rfl⟩
set_option maxRecDepth 100000 in
set_option maxHeartbeats 1000000 in
theorem dayOf_any (y : Int) (m : Nat) (d : Int) (w : World) (h0 : 1 ≤ y) (h1 : y ≤ 5000) (hm : m ≤ 20) (hm1 : 1 ≤ m) (hd0 : -100 ≤ d) (hd : d ≤ 100) :
    Calls Tryz.prog 220 #[.agg #[.int .i64 y, .int .i64 m, .int .i64 d], .bool false] w fun e w' => e = .returned (.int .i64 (numO y m d)) ∧ Below w.heap.size w w' := by
  have HN := Lib.hid (fun W => newYear_any y W h0 h1)
  have HM := Lib.hid (fun m W => lengthOfMonth_any y m W (by omega) h1)
  have hA0 : At w [.int .i64 y, .int .i64 m, .int .i64 d] (w.alloc (.cells #[.int .i64 y, .int .i64 m, .int .i64 d] 104)) := At.start _ _ _
  have hR : Hid (numO y m d = nyO y + d - 1 + cumO y (m - 1)) := rfl
  have hny : -100 ≤ nyO y ∧ nyO y ≤ 2000000 := by unfold nyO; omega
  generalize numO y m d = R at hR ⊢
  have HC := Lib.hid (cumO_succ y)
  have HB := Lib.hid (cumO_bd y)
  generalize nyO y = N at HN hR hny ⊢
  generalize cumO y = C at HC HB hR
  generalize mlO y = L at HM HC
  have v1 := i64_in (N + d) (by omega)
  have v2 := i64_in (N + d - 1) (by omega)
  have E0 := Later.cell (hA0.cell 0 _ rfl) hA0.size
  have E2 := Later.cell (hA0.cell 2 _ rfl) hA0.size
  go_enter Tryz.func220, Tryz.ntmps220
  go_wp2_with fail
  refine wp_region_later _ (by kernel_rfl) (by kernel_rfl) ?_
  repeat (go_big_quiet_step ((go_at_call 215; exact Later.same (HN.out _))))
  refine wpQuiet_nil ?_
  intro z
  have hz := z.prop
  generalize z.val = w2 at hz
  clear E0 E2
  have hA := hA0.step hz
  clear hz hA0
  go_wp2
  go_loopw [5, 6] (fun s i wr => ∃ k : Nat, k + 1 ≤ m ∧ i = .int .i64 ((k : Int) + 1) ∧ s = .int .i64 (N + d - 1 + C k) ∧ At w [.int .i64 y, .int .i64 m, .int .i64 d] wr) (fun _ i _ => m - (intOf i).toNat)
  case atStart => exact ⟨0, hm1, rfl, by rw [show C 0 = 0 by have := HB.out 0; omega]; simp, hA⟩
  case round =>
    clear hA
    obtain ⟨k, hk, rfl, rfl, hA⟩ := hrel
    have b0 := hA.cell 0 _ rfl
    have b1 := hA.cell 1 _ rfl
    have hb := HB.out k
    by_cases hlt : k + 1 < m
    · have hlt' : (k : Int) + 1 < (m : Int) := by omega
      have hs := HC.out k
      have hb2 := HB.out (k + 1)
      have v3 := i64_in (N + d - 1 + C k + L ((k : Int) + 1)) (by omega)
      go_wp2_with (go_at_call 206; refine (HM.out _ _).mono ?_; rintro e w' ⟨rfl, rfl⟩)
      go_roundw
      case rel => exact ⟨k + 1, by omega, by go_num, by rw [hs]; congr 1; omega, hA⟩
      case measure => simp [intOf]; omega
    · have hlt' : decide ((k : Int) + 1 < (m : Int)) = false := by simp; omega
      go_wp2
      go_ret
      exact ⟨ret_int (by rw [hR.out]; congr 2; omega), hA.below⟩
end

section
open Go.ChangeShapes Go.WideShapes Go.ChangeAt Go.RowKit Go.IntWalk

set_option maxRecDepth 100000 in
set_option maxHeartbeats 1000000 in
theorem dateOf1_any (p3 p2 : Nat) (n i : Int) (w : World) (h0 : 0 ≤ i) (h1 : i ≤ 2000) (c3 : w.cell? ⟨p3, 0, none⟩ = some (.bool false)) (c2 : w.cell? ⟨p2, 0, none⟩ = some (.int .i64 n)) (s3 : p3 < w.heap.size) (s2 : p2 < w.heap.size) :
    Calls Tryz.prog 214 #[.int .i64 i, .pointer (some ⟨p3, 0, none⟩), .pointer (some ⟨p2, 0, none⟩)] w fun e w' => e = .returned (.bool (decide (yrO n - 1 ≤ i))) ∧ Below w.heap.size w w' := by
  have HN := Lib.hid (fun W => newYear_any (i + 2) W (by omega) (by omega))
  have hd : decide (n < nyO (i + 2)) = decide (yrO n - 1 ≤ i) := by
    have := yrO_iff (n := n) (y := i + 2)
    by_cases c : yrO n - 1 ≤ i
    · rw [decide_eq_true c, decide_eq_true]
      refine Int.not_le.1 fun h => ?_
      have := this.1 h
      omega
    · rw [decide_eq_false c, decide_eq_false]
      refine Int.not_lt.2 (this.2 (by omega))
  rw [← hd]
  clear hd
  generalize nyO (i + 2) = N at HN ⊢
  have v1 := i64_in (i + 2) (by omega)
  have E2 := Later.cell c2 s2
  have E3 := Later.cell c3 s3
  go_enter Tryz.func214, Tryz.ntmps214
  go_wp2_with fail
  refine wp_region_later _ (by kernel_rfl) (by kernel_rfl) ?_
  repeat (go_big_quiet_step ((go_at_call 215; exact Later.same (HN.out _))))
  refine wpQuiet_nil ?_
  intro z
  have hz := z.prop
  generalize z.val = w2 at hz
  clear E2 E3
  go_wp2
  go_ret
  exact ⟨rfl, hz⟩
set_option maxRecDepth 100000 in
set_option maxHeartbeats 1000000 in
theorem searchDate_any (p3 p2 : Nat) (n : Int) (w : World) (hn0 : 0 ≤ n) (hn : n ≤ 730499) (c3 : w.cell? ⟨p3, 0, none⟩ = some (.bool false)) (c2 : w.cell? ⟨p2, 0, none⟩ = some (.int .i64 n)) (s3 : p3 < w.heap.size) (s2 : p2 < w.heap.size) :
    Calls Tryz.prog 213 #[.int .i64 2000, .func (.func 214) #[] #[.pointer (some ⟨p3, 0, none⟩), .pointer (some ⟨p2, 0, none⟩)]] w fun e w' => e = .returned (.int .i64 (yrO n - 1)) ∧ Below w.heap.size w w' := by
  have HF := Lib.hid (fun (i : Nat) W (hi : i ≤ 2000) (h : Below w.heap.size w W) => dateOf1_any p3 p2 n i W (by omega) (by omega) ((h.cell (p := ⟨p3, 0, none⟩) s3).trans c3) ((h.cell (p := ⟨p2, 0, none⟩) s2).trans c2) (Nat.lt_of_lt_of_le s3 h.size) (Nat.lt_of_lt_of_le s2 h.size))
  clear c3 c2 s3 s2
  have hy := yrO_bd hn0 hn
  obtain ⟨Y, hY⟩ : ∃ Y : Nat, yrO n - 1 = (Y : Int) := ⟨(yrO n - 1).toNat, by omega⟩
  rw [hY] at HF ⊢
  have hY2 : Y ≤ 1999 := by omega
  clear hy hY
  go_enter Tryz.func213, Tryz.ntmps213
  go_wp2
  go_loopg [5, 6] 2000 (fun kx s5 s6 wr => ∃ (lo hi : Nat), s5 = .int .i64 lo ∧ s6 = .int .i64 hi ∧ lo ≤ Y ∧ Y ≤ hi ∧ hi ≤ 2000 ∧ hi - lo ≤ kx ∧ Below w.heap.size w wr)
  case atStart => exact ⟨0, 2000, rfl, rfl, by omega, by omega, by omega, by omega, Below.refl _ _⟩
  case round =>
    obtain ⟨lo, hi, rfl, rfl, hl, hh, hi2, hg, hB⟩ := hrel
    by_cases hlt : lo < hi
    · have hlt' : (lo : Int) < (hi : Int) := by omega
      have hc := Lib.hid (HF.out ((lo + hi) / 2) wr (by omega) hB)
      have he : (((lo + hi) / 2 : Nat) : Int) = ((lo : Int) + (hi : Int)) / 2 := by omega
      rw [he] at hc
      have v1 := i64_in ((lo : Int) + hi) (by omega)
      have v2 := u64_in ((lo : Int) + hi) (by omega)
      have v3 := i64_in (((lo : Int) + hi) / 2) (by omega)
      have v4 := i64_in (((lo : Int) + hi) / 2 + 1) (by omega)
      by_cases hp : (Y : Int) ≤ ((lo : Int) + hi) / 2
      · have hc := Lib.hid (decide_eq_true hp ▸ hc.out)
        go_wp2_with fail
        refine hc.out.mono ?_
        rintro e w1 ⟨rfl, hB1⟩
        go_wp2
        go_roundg ((lo + hi) / 2 - lo)
        case measure => omega
        case rel => exact ⟨lo, (lo + hi) / 2, rfl, by rw [he], hl, by omega, by omega, Nat.le_refl _, stepB hB hB1 hB.size⟩
      · have hc := Lib.hid (decide_eq_false hp ▸ hc.out)
        go_wp2_with fail
        refine hc.out.mono ?_
        rintro e w1 ⟨rfl, hB1⟩
        go_wp2
        go_roundg (hi - ((lo + hi) / 2 + 1))
        case measure => omega
        case rel => exact ⟨(lo + hi) / 2 + 1, hi, by rw [← he]; rfl, rfl, by omega, hh, hi2, Nat.le_refl _, stepB hB hB1 hB.size⟩
    · have hlt' : decide ((lo : Int) < (hi : Int)) = false := by simp; omega
      go_wp2
      go_ret
      exact ⟨ret_int (by omega), hB⟩

theorem dts_start (w : World) (v : Int) : Box w.heap.size (((w.alloc (.cells #[.int .i64 v] 2)).alloc (.cells #[.bool false] 4)).alloc (.cells #[.int .i64 0, .int .i64 0, .int .i64 0] 104)) 2 w.heap.size [.int .i64 v] ∧
    Box w.heap.size (((w.alloc (.cells #[.int .i64 v] 2)).alloc (.cells #[.bool false] 4)).alloc (.cells #[.int .i64 0, .int .i64 0, .int .i64 0] 104)) 4 (w.heap.size + 1) [.bool false] ∧
    Box w.heap.size (((w.alloc (.cells #[.int .i64 v] 2)).alloc (.cells #[.bool false] 4)).alloc (.cells #[.int .i64 0, .int .i64 0, .int .i64 0] 104)) 104 (w.heap.size + 1 + 1) [.int .i64 0, .int .i64 0, .int .i64 0] ∧
    Below w.heap.size w (((w.alloc (.cells #[.int .i64 v] 2)).alloc (.cells #[.bool false] 4)).alloc (.cells #[.int .i64 0, .int .i64 0, .int .i64 0] 104)) := by
  have s1 : (w.alloc (.cells #[.int .i64 v] 2)).heap.size = w.heap.size + 1 := by simp
  have s2 : ((w.alloc (.cells #[.int .i64 v] 2)).alloc (.cells #[.bool false] 4)).heap.size = w.heap.size + 1 + 1 := by simp
  have b1 := (Below.refl _ (w.alloc (.cells #[.int .i64 v] 2))).alloc (Nat.le_refl _) (.cells #[.bool false] 4)
  have b2 := (Below.refl _ ((w.alloc (.cells #[.int .i64 v] 2)).alloc (.cells #[.bool false] 4))).alloc (Nat.le_refl _) (.cells #[.int .i64 0, .int .i64 0, .int .i64 0] 104)
  have h1 := Box.new w 2 [.int .i64 v] w.heap.size (Nat.le_refl _) (by simp)
  have h2 := Box.new (w.alloc (.cells #[.int .i64 v] 2)) 4 [.bool false] w.heap.size (by simp) (by simp)
  have h3 := Box.new ((w.alloc (.cells #[.int .i64 v] 2)).alloc (.cells #[.bool false] 4)) 104 [.int .i64 0, .int .i64 0, .int .i64 0] w.heap.size (by simp; omega) (by simp)
  rw [s1] at h2
  rw [s2] at h3
  exact ⟨(h1.below b1).below b2, h2.below b2, h3, by go_grown⟩
/-- The boxes of dateOf. -/
structure DtS (w0 : World) (v y m d : Int) (q : Nat) (w : World) : Prop where
  below : Below w0.heap.size w0 w
  n : Box w0.heap.size w 2 w0.heap.size [.int .i64 v]
  f : Box w0.heap.size w 4 (w0.heap.size + 1) [.bool false]
  r : Box w0.heap.size w 104 (w0.heap.size + 1 + 1) [.int .i64 0, .int .i64 0, .int .i64 0]
  d : Box w0.heap.size w 104 q [.int .i64 y, .int .i64 m, .int .i64 d]
  hq : w0.heap.size + 2 < q
theorem DtS.step {w0 w w' : World} {v y m d : Int} {q : Nat} (h : DtS w0 v y m d q w) (hB : Below w.heap.size w w') : DtS w0 v y m d q w' :=
  ⟨stepB h.below hB h.below.size, h.n.below hB, h.f.below hB, h.r.below hB, h.d.below hB, h.hq⟩
theorem DtS.putN {w0 w : World} {v y m d : Int} {q : Nat} (h : DtS w0 v y m d q w) (x : Int) : DtS w0 x y m d q (w.setCell ⟨w0.heap.size, 0, none⟩ (.int .i64 x)) := by
  have hp := Box.put (pre := []) (post := []) h.n rfl (.int .i64 x)
  have := h.hq
  exact ⟨h.below.grown hp.2 h.below.size (fun g e => by cases e; exact Nat.le_refl _), hp.1, h.f.keep hp.2 (by omega), h.r.keep hp.2 (by omega), h.d.keep hp.2 (by omega), h.hq⟩
theorem DtS.putM {w0 w : World} {v y m d : Int} {q : Nat} (h : DtS w0 v y m d q w) (x : Int) : DtS w0 v y x d q (w.setCell ⟨q, 1, none⟩ (.int .i64 x)) := by
  have hp := Box.put (i := 1) (pre := [.int .i64 y]) (post := [.int .i64 d]) h.d rfl (.int .i64 x)
  have := h.hq
  exact ⟨h.below.grown hp.2 h.below.size (fun g e => by cases e; omega), h.n.keep hp.2 (by omega), h.f.keep hp.2 (by omega), h.r.keep hp.2 (by omega), hp.1, h.hq⟩
theorem DtS.putD {w0 w : World} {v y m d : Int} {q : Nat} (h : DtS w0 v y m d q w) (x : Int) : DtS w0 v y m x q (w.setCell ⟨q, 2, none⟩ (.int .i64 x)) := by
  have hp := Box.put (i := 2) (pre := [.int .i64 y, .int .i64 m]) (post := []) h.d rfl (.int .i64 x)
  have := h.hq
  exact ⟨h.below.grown hp.2 h.below.size (fun g e => by cases e; omega), h.n.keep hp.2 (by omega), h.f.keep hp.2 (by omega), h.r.keep hp.2 (by omega), hp.1, h.hq⟩

set_option maxRecDepth 100000 in
set_option maxHeartbeats 2000000 in
theorem dateOf_any (n : Int) (w : World) (hn0 : 0 ≤ n) (hn : n ≤ 730499) :
    Calls Tryz.prog 176 #[.int .i64 n, .bool false] w fun e w' => e = .returned (.agg #[.int .i64 (yrO n), .int .i64 (mnO n : Nat), .int .i64 (dyO n)]) ∧ Below w.heap.size w w' := by
  have hy := yrO_bd hn0 hn
  have HS := Lib.hid (fun p3 p2 W c3 c2 s3 s2 => searchDate_any p3 p2 n W hn0 hn c3 c2 s3 s2)
  have HN := Lib.hid (fun W => newYear_any (yrO n) W (by omega) (by omega))
  have HM := Lib.hid (fun m W => lengthOfMonth_any (yrO n) m W (by omega) (by omega))
  have hm := Lib.hid (mnO_at n)
  have hD0 : Hid (dyO n = n - nyO (yrO n) - cumO (yrO n) (mnO n - 1) + 1) := rfl
  have hle := yrO_le n
  have hgt := yrO_gt n
  rw [nyO_next] at hgt
  have HC := Lib.hid (cumO_succ (yrO n))
  have HB := Lib.hid (cumO_bd (yrO n))
  have HU := Lib.hid (fun (a b : Nat) (h : a ≤ b) => cumO_mono (yrO n) h)
  generalize hM : mnO n = M at hm hD0 ⊢
  clear hM
  generalize dyO n = D at hD0 ⊢
  generalize yrO n = Y at *
  generalize nyO Y = N at *
  generalize cumO Y = C at *
  generalize mlO Y = L at *
  have v0 := i64_in (Y - 1 + 1) (by omega)
  go_enter Tryz.func176, Tryz.ntmps176
  go_wp2_with fail
  obtain ⟨hN, hF, hR, hB⟩ := dts_start w n
  generalize ((w.alloc (.cells #[.int .i64 n] 2)).alloc (.cells #[.bool false] 4)).alloc (.cells #[.int .i64 0, .int .i64 0, .int .i64 0] 104) = W3 at hN hF hR hB ⊢
  refine (HS.out _ _ W3 (hF.cell 0 _ rfl) (hN.cell 0 _ rfl) hF.lt.2 hN.lt.2).mono ?_
  rintro e W4 ⟨rfl, hB1⟩
  have hN := hN.below hB1
  have hF := hF.below hB1
  have hR := hR.below hB1
  have hB := stepB hB hB1 hB.size
  clear hB1
  go_wp2_with fail
  have hDz : DtS w n Y 1 0 W4.heap.size (W4.alloc (.cells #[.int .i64 Y, .int .i64 1, .int .i64 0] 104)) := by
    have b1 := (Below.refl _ W4).alloc (Nat.le_refl _) (.cells #[.int .i64 Y, .int .i64 1, .int .i64 0] 104)
    have hl := hR.lt
    exact ⟨stepB hB b1 hB.size, hN.below b1, hF.below b1, hR.below b1, Box.new W4 _ [_, _, _] _ hB.size (by simp), by omega⟩
  clear hN hF hR hB HS
  generalize W4.alloc (.cells #[.int .i64 Y, .int .i64 1, .int .i64 0] 104) = W5 at hDz ⊢
  generalize W4.heap.size = q at hDz ⊢
  have c2 := hDz.n.cell 0 _ rfl
  have c3 := hDz.f.cell 0 _ rfl
  have hC0 : C 0 = 0 := by have := HB.out 0; omega
  have hN0 : 0 ≤ n - N ∧ n - N ≤ 372 := by have := HB.out 12; omega
  have v1 := i64_in (n - N) (by omega)
  go_still_tail 5, (by kernel_rfl)
  still_call ((HN.out _).mono fun _ _ h => ⟨h.1, h.2.symm⟩)
  repeat still_step
  refine wpStill_nil ?_
  clear c2 c3
  change wpList _ _ _ _ _ W5.drew
  have hD1 := hDz.step (Below.refl _ W5).drew
  clear hDz
  generalize W5.drew = V at hD1 ⊢
  have f2 := World.ownsRow.frozenAt hD1.n 0
  have hD2 := Lib.hid (hD1.putN (n - N))
  have c2 := hD1.n.cell 0 _ rfl
  go_wp2
  clear c2 f2 hD1
  have hm := hm.out
  have hCM := Lib.hid (fun k (h : k < M) => HU.out k (M - 1) (by omega))
  go_loopg [] 13 (fun kx wr => ∃ k : Nat, k + 1 ≤ M ∧ 13 - k ≤ kx ∧ DtS w (n - N - C k) Y ((k : Int) + 1) 0 q wr)
  case atStart => exact ⟨0, hm.1, by omega, by rw [hC0]; simpa using hD2.out⟩
  case round =>
    clear hD2
    obtain ⟨k, hk, hg, hD⟩ := hrel
    have c2 := hD.n.cell 0 _ rfl
    have c3 := hD.f.cell 0 _ rfl
    have c4 := hD.d.cell 1 _ rfl
    have E2 := Later.cell c2 hD.n.lt.2
    have E3 := Later.cell c3 hD.f.lt.2
    have E4 := Later.cell c4 hD.d.lt.2
    have hs := HC.out k
    have HMk := Lib.hid (HM.out ((k : Int) + 1))
    generalize L ((k : Int) + 1) = l at hs HMk
    by_cases hlt : k + 1 < M
    · have h1 := HU.out (k + 1) (M - 1) (by omega)
      have hge : decide (l ≤ n - N - C k) = true := by simp; omega
      have hb := HB.out (k + 1)
      go_wp2_with fail
      refine wp_region_later _ (by kernel_rfl) (by kernel_rfl) ?_
      repeat (go_big_quiet_step ((go_at_call 206; exact Later.same (HMk.out _))))
      refine wpQuiet_nil ?_
      intro z
      have hz := z.prop
      generalize z.val = w2 at hz
      clear E2 E3 E4 c2 c3 c4
      have hD := hD.step hz
      clear hz
      have c2 := hD.n.cell 0 _ rfl
      have c3 := hD.f.cell 0 _ rfl
      have c4 := hD.d.cell 1 _ rfl
      have v2 := i64_in (n - N - C k - l) (by omega)
      go_wp2_with fail
      go_still_tail 7, (by kernel_rfl)
      still_call ((HMk.out _).mono fun _ _ h => ⟨h.1, h.2.symm⟩)
      repeat still_step
      refine wpStill_nil ?_
      clear c2 c3 c4
      change wpList _ _ _ _ _ w2.drew
      have hD := hD.step (Below.refl _ w2).drew
      generalize w2.drew = V at hD ⊢
      have f2 := World.ownsRow.frozenAt hD.n 0
      have c2 := hD.n.cell 0 _ rfl
      have hD' := Lib.hid (hD.putN (n - N - C k - l))
      go_upto_region 6 with (fail)
      clear f2 c2 hD
      have hD := hD'.out
      clear hD'
      generalize V.setCell ⟨w.heap.size, 0, none⟩ (.int .i64 (n - N - C k - l)) = V2 at hD ⊢
      have f4 := World.ownsRow.frozenAt hD.d 1
      have c4 := hD.d.cell 1 _ rfl
      have v3 := i64_in ((k : Int) + 1 + 1) (by omega)
      have hD' := Lib.hid (hD.putM ((k : Int) + 1 + 1))
      go_wp2
      go_roundg (12 - k)
      case measure => omega
      case rel => exact ⟨k + 1, by omega, by omega, by rw [hs, ← Int.sub_sub]; exact hD'.out⟩
    · have he : Hid (k = M - 1) := by unfold Hid; omega
      have hge : decide (l ≤ n - N - C k) = false := by
        have e : k + 1 = M := by omega
        rw [e] at hs
        simp; omega
      go_wp2_with fail
      refine wp_region_later _ (by kernel_rfl) (by kernel_rfl) ?_
      repeat (go_big_quiet_step ((go_at_call 206; exact Later.same (HMk.out _))))
      refine wpQuiet_nil ?_
      intro z
      have hz := z.prop
      generalize z.val = w2 at hz
      clear E2 E3 E4 c2 c3 c4
      have hD := hD.step hz
      clear hz
      have c2 := hD.n.cell 0 _ rfl
      have f4 := World.ownsRow.frozenAt hD.d 2
      have hd : n - N - C k + 1 = D := by rw [hD0.out, he.out]
      have hck : C k ≤ n - N := by rw [he.out]; exact hm.2.2.1
      have hcb := (HB.out k).1
      have v2 := i64_in (n - N - C k + 1) (by omega)
      have c5 := hD.d.cell 2 _ rfl
      rw [hd] at v2
      have hk1 : (k : Int) + 1 = (M : Int) := by have := he.out; omega
      rw [hk1] at hD
      clear he hk1
      have hD' := Lib.hid (hD.putD D)
      go_upto_region 8 with (fail)
      clear c2 f4 c5 hD
      have hD := hD'.out
      clear hD'
      generalize w2.setCell ⟨q, 2, none⟩ (.int .i64 D) = V at hD ⊢
      have d0 := hD.d.cell 0 _ rfl
      have d1 := hD.d.cell 1 _ rfl
      have d2 := hD.d.cell 2 _ rfl
      have r0 := hD.r.cell 0 _ rfl
      have r1 := hD.r.cell 1 _ rfl
      have r2 := hD.r.cell 2 _ rfl
      have f0 := World.ownsRow.frozenAt hD.r 0
      have f1 := World.ownsRow.frozenAt hD.r 1
      have f2 := World.ownsRow.frozenAt hD.r 2
      have hp := hD.r.put3 (.int .i64 Y) (.int .i64 (M : Nat)) (.int .i64 D)
      have HP := Lib.hid hp
      clear hp
      go_wp2
      have hp := HP.out
      have hBe := hD.below.grown hp.2 hD.below.size (fun g e => by cases e; omega)
      generalize ((V.setCell ⟨w.heap.size + 1 + 1, 0, none⟩ (.int .i64 Y)).setCell ⟨w.heap.size + 1 + 1, 1, none⟩ (.int .i64 (M : Nat))).setCell ⟨w.heap.size + 1 + 1, 2, none⟩ (.int .i64 D) = Wf at hp hBe ⊢
      have z0 := hp.1.cell 0 _ rfl
      have z1 := hp.1.cell 1 _ rfl
      have z2 := hp.1.cell 2 _ rfl
      refine bodyPost_ret_by (v := .agg #[.int .i64 Y, .int .i64 (M : Nat), .int .i64 D]) ?_ rfl ⟨rfl, hBe⟩
      simp [results, go_sem, z0, z1, z2]
end

section
open Go.ChangeShapes Go.WideShapes Go.ChangeAt Go.RowKit Go.IntWalk

theorem moonDays_any (y : Int) (w : World) (h0 : 0 ≤ y) (h1 : y ≤ 5000) : Calls Tryz.prog 264 #[.int .i64 y] w fun e w' => e = .returned (.int .i64 (epO y)) ∧ w = w' := by
  have v1 := i64_in (y % 19) (by omega)
  have v2 := i64_in (19 * (y % 19)) (by omega)
  have v3 := i64_in (19 * (y % 19) + 15) (by omega)
  have v4 := i64_in ((19 * (y % 19) + 15) % 30) (by omega)
  go_enter Tryz.func264, Tryz.ntmps264
  go_wp2
  go_ret
  exact ⟨rfl, rfl⟩
set_option maxHeartbeats 1000000 in
theorem oldEaster_any (y : Int) (w : World) (h0 : 1 ≤ y) (h1 : y ≤ 2005) : Calls Tryz.prog 242 #[.int .i64 y] w fun e w' => e = .returned (.int .i64 (eaO y)) ∧ Below w.heap.size w w' := by
  have HM := Lib.hid (fun W => moonDays_any y W (by omega) (by omega))
  have hp : 0 ≤ epO y ∧ epO y ≤ 29 := by unfold epO; omega
  have hs := esO_bd y
  have HD := Lib.hid (fun W => dayOf_any y (esO y / 31).toNat (esO y % 31 + 1) W h0 (by omega) (by omega) (by omega) (by omega) (by omega))
  have hR : Hid (eaO y = numO y (esO y / 31).toNat (esO y % 31 + 1)) := rfl
  generalize numO y (esO y / 31).toNat (esO y % 31 + 1) = R at HD hR
  have e1 : ((esO y / 31).toNat : Int) = esO y / 31 := by omega
  rw [e1] at HD
  clear e1
  have he : esO y = epO y + (2 * (y % 4) + 4 * (y % 7) - epO y + 34) % 7 + 114 := rfl
  rw [he] at HD hs
  clear he
  generalize epO y = p at hp HM HD hs
  have v1 := i64_in (2 * (y % 4)) (by omega)
  have v2 := i64_in (4 * (y % 7)) (by omega)
  have v3 := i64_in (2 * (y % 4) + 4 * (y % 7)) (by omega)
  have v4 := i64_in (2 * (y % 4) + 4 * (y % 7) - p) (by omega)
  have v5 := i64_in (2 * (y % 4) + 4 * (y % 7) - p + 34) (by omega)
  have v6 := i64_in (p + (2 * (y % 4) + 4 * (y % 7) - p + 34) % 7) (by omega)
  have v7 := i64_in (p + (2 * (y % 4) + 4 * (y % 7) - p + 34) % 7 + 114) (by omega)
  have v8 := i64_in ((p + (2 * (y % 4) + 4 * (y % 7) - p + 34) % 7 + 114) / 31) (by omega)
  have v9 := i64_in ((p + (2 * (y % 4) + 4 * (y % 7) - p + 34) % 7 + 114) % 31 + 1) (by omega)
  go_enter Tryz.func242, Tryz.ntmps242
  go_wp2_with fail
  refine (HM.out _).mono ?_
  rintro e w1 ⟨rfl, rfl⟩
  go_wp2_with fail
  refine (HD.out _).mono ?_
  rintro e w1 ⟨rfl, hB⟩
  go_wp2
  go_ret
  exact ⟨ret_int hR.out.symm, hB⟩

def fxA : Array Value := #[.int .i64 0, .int .i64 1, .int .i64 1, .int .i64 0, .int .i64 1, .int .i64 6, .int .i64 0, .int .i64 2, .int .i64 2, .int .i64 0, .int .i64 3, .int .i64 25, .int .i64 0, .int .i64 6, .int .i64 24, .int .i64 0, .int .i64 6, .int .i64 29, .int .i64 0, .int .i64 8, .int .i64 10, .int .i64 0, .int .i64 8, .int .i64 15, .int .i64 0, .int .i64 9, .int .i64 29, .int .i64 0, .int .i64 11, .int .i64 1, .int .i64 0, .int .i64 11, .int .i64 11, .int .i64 0, .int .i64 11, .int .i64 30, .int .i64 0, .int .i64 12, .int .i64 6, .int .i64 0, .int .i64 12, .int .i64 25]
def fxVA : Array Value := #[.int .i64 (-46), .int .i64 (-7), .int .i64 0, .int .i64 39, .int .i64 49, .int .i64 56]
theorem fx_at (f : Nat) (hf : f < 14) : ∃ (m : Nat) (d : Int), 1 ≤ m ∧ m ≤ 12 ∧ 1 ≤ d ∧ d ≤ 31 ∧ fxA[f * 3]? = some (.int .i64 0) ∧ fxA[f * 3 + 1]? = some (.int .i64 m) ∧ fxA[f * 3 + 2]? = some (.int .i64 d) ∧ ∀ y, feO f y = numO y m d := by
  have hc : f = 0 ∨ f = 1 ∨ f = 2 ∨ f = 3 ∨ f = 4 ∨ f = 5 ∨ f = 6 ∨ f = 7 ∨ f = 8 ∨ f = 9 ∨ f = 10 ∨ f = 11 ∨ f = 12 ∨ f = 13 := by omega
  rcases hc with rfl | rfl | rfl | rfl | rfl | rfl | rfl | rfl | rfl | rfl | rfl | rfl | rfl | rfl
  · exact ⟨1, 1, by decide, by decide, by decide, by decide, rfl, rfl, rfl, fun _ => rfl⟩
  · exact ⟨1, 6, by decide, by decide, by decide, by decide, rfl, rfl, rfl, fun _ => rfl⟩
  · exact ⟨2, 2, by decide, by decide, by decide, by decide, rfl, rfl, rfl, fun _ => rfl⟩
  · exact ⟨3, 25, by decide, by decide, by decide, by decide, rfl, rfl, rfl, fun _ => rfl⟩
  · exact ⟨6, 24, by decide, by decide, by decide, by decide, rfl, rfl, rfl, fun _ => rfl⟩
  · exact ⟨6, 29, by decide, by decide, by decide, by decide, rfl, rfl, rfl, fun _ => rfl⟩
  · exact ⟨8, 10, by decide, by decide, by decide, by decide, rfl, rfl, rfl, fun _ => rfl⟩
  · exact ⟨8, 15, by decide, by decide, by decide, by decide, rfl, rfl, rfl, fun _ => rfl⟩
  · exact ⟨9, 29, by decide, by decide, by decide, by decide, rfl, rfl, rfl, fun _ => rfl⟩
  · exact ⟨11, 1, by decide, by decide, by decide, by decide, rfl, rfl, rfl, fun _ => rfl⟩
  · exact ⟨11, 11, by decide, by decide, by decide, by decide, rfl, rfl, rfl, fun _ => rfl⟩
  · exact ⟨11, 30, by decide, by decide, by decide, by decide, rfl, rfl, rfl, fun _ => rfl⟩
  · exact ⟨12, 6, by decide, by decide, by decide, by decide, rfl, rfl, rfl, fun _ => rfl⟩
  · exact ⟨12, 25, by decide, by decide, by decide, by decide, rfl, rfl, rfl, fun _ => rfl⟩
theorem fxV_at (f : Nat) (hf : f < 6) : ∃ v : Int, -46 ≤ v ∧ v ≤ 56 ∧ fxVA[f]? = some (.int .i64 v) ∧ ∀ y, feO ((f + 14 : Nat) : Int) y = eaO y + v := by
  have hc : f = 0 ∨ f = 1 ∨ f = 2 ∨ f = 3 ∨ f = 4 ∨ f = 5 := by omega
  rcases hc with rfl | rfl | rfl | rfl | rfl | rfl
  · exact ⟨-46, by decide, by decide, rfl, fun _ => rfl⟩
  · exact ⟨-7, by decide, by decide, rfl, fun _ => rfl⟩
  · exact ⟨0, by decide, by decide, rfl, fun _ => rfl⟩
  · exact ⟨39, by decide, by decide, rfl, fun _ => rfl⟩
  · exact ⟨49, by decide, by decide, rfl, fun _ => rfl⟩
  · exact ⟨56, by decide, by decide, rfl, fun _ => rfl⟩
theorem fixedFeasts_any (w : World) : Calls Tryz.prog 241 #[] w fun e w' => e = .returned (.slice (some ⟨w.heap.size, 0, none⟩) 14 14) ∧ w' = w.alloc (.cells fxA 104) := by
  go_enter Tryz.func241, Tryz.ntmps241
  go_wp2
  go_ret
  exact ⟨rfl, rfl⟩
theorem movableFeasts_any (w : World) : Calls Tryz.prog 243 #[] w fun e w' => e = .returned (.slice (some ⟨w.heap.size, 0, none⟩) 6 6) ∧ w' = w.alloc (.cells fxVA 2) := by
  go_enter Tryz.func243, Tryz.ntmps243
  go_wp2
  go_ret
  exact ⟨rfl, rfl⟩
set_option maxRecDepth 100000 in
set_option maxHeartbeats 1000000 in
theorem feastDay_any (f : Nat) (y : Int) (w : World) (hf : f < 20) (h0 : 1 ≤ y) (h1 : y ≤ 2005) : Calls Tryz.prog 216 #[.int .i64 f, .int .i64 y] w fun e w' => e = .returned (.int .i64 (feO f y)) ∧ Below w.heap.size w w' := by
  have hB0 : Below w.heap.size w (w.alloc (.cells fxA 104)) := (Below.refl _ w).alloc (Nat.le_refl _) _
  by_cases hf14 : f < 14
  · obtain ⟨m, d, hm1, hm2, hd1, hd2, e0, e1, e2, hfe⟩ := fx_at f hf14
    have hR := Lib.hid (hfe y)
    have HD := Lib.hid (fun W => dayOf_any y m d W h0 (by omega) (by omega) (by omega) (by omega) (by omega))
    generalize numO y m d = R at HD hR
    have hlt : (f : Int) < 14 := by omega
    have hlt' : decide ((14 : Int) ≤ (f : Int)) = false := by simp; omega
    clear hfe
    go_enter Tryz.func216, Tryz.ntmps216
    go_wp2_with fail
    refine (fixedFeasts_any _).mono ?_
    rintro e w1 ⟨rfl, hw⟩
    have c0 : w1.cell? ⟨w.heap.size, f * 3, none⟩ = some (.int .i64 0) := by rw [hw, World.cell?_alloc_at _ _ _ _ rfl]; exact e0
    have c1 : w1.cell? ⟨w.heap.size, f * 3 + 1, none⟩ = some (.int .i64 m) := by rw [hw, World.cell?_alloc_at _ _ _ _ rfl]; exact e1
    have c2 : w1.cell? ⟨w.heap.size, f * 3 + 2, none⟩ = some (.int .i64 d) := by rw [hw, World.cell?_alloc_at _ _ _ _ rfl]; exact e2
    rw [← hw] at hB0
    clear hw e0 e1 e2
    go_wp2_with fail
    refine (HD.out _).mono ?_
    rintro e w2 ⟨rfl, hB1⟩
    have hB2 := stepB (stepB hB0 ((Below.refl _ w1).alloc (Nat.le_refl _) (.cells #[.int .i64 y, .int .i64 m, .int .i64 d] 104)) hB0.size) hB1 (by simp; have := hB0.size; omega)
    go_wp2
    go_ret
    exact ⟨ret_int hR.out.symm, hB2⟩
  · obtain ⟨g, rfl⟩ : ∃ g, f = g + 14 := ⟨f - 14, by omega⟩
    obtain ⟨v, hv1, hv2, e0, hfe⟩ := fxV_at g (by omega)
    have hR := Lib.hid (hfe y)
    have HE := Lib.hid (fun W => oldEaster_any y W h0 h1)
    have hbd := eaO_bd y
    have hny : nyO y ≤ 740000 ∧ 0 ≤ nyO y := by unfold nyO; omega
    generalize nyO y = N at hbd hny
    generalize eaO y = E at HE hR hbd
    have hfi : ((g + 14 : Nat) : Int) = (g : Int) + 14 := by omega
    rw [hfi] at hR ⊢
    have hlt' : decide ((14 : Int) ≤ (g : Int) + 14) = true := by simp; omega
    have hg6 : (g : Int) < 6 := by omega
    have v1 := i64_in (g : Int) (by omega)
    have v2 := i64_in (E + v) (by omega)
    clear hfe hf14 hfi
    go_enter Tryz.func216, Tryz.ntmps216
    go_wp2_with fail
    refine (fixedFeasts_any _).mono ?_
    rintro e w1 ⟨rfl, hw⟩
    rw [← hw] at hB0
    clear hw
    go_wp2_with fail
    refine (HE.out _).mono ?_
    rintro e w2 ⟨rfl, hB1⟩
    have hB := stepB hB0 hB1 hB0.size
    clear hB0 hB1
    go_wp2_with fail
    refine (movableFeasts_any _).mono ?_
    rintro e w3 ⟨rfl, hw⟩
    have c0 : w3.cell? ⟨w2.heap.size, g, none⟩ = some (.int .i64 v) := by rw [hw, World.cell?_alloc_at _ _ _ _ rfl]; exact e0
    have hB2 : Below w2.heap.size w2 w3 := by rw [hw]; exact (Below.refl _ w2).alloc (Nat.le_refl _) _
    have hB := stepB hB hB2 hB.size
    clear hw e0 hB2
    go_wp2
    go_ret
    exact ⟨ret_int hR.out.symm, hB⟩
theorem feO_in {f : Nat} {y : Int} (hf : f < 20) (h0 : 1 ≤ y) (h1 : y ≤ 2005) : 0 ≤ feO f y ∧ feO f y ≤ 750000 := by
  have h := feO_bd (f := f) (y := y) (by omega) (by omega)
  have hny : nyO y ≤ 740000 ∧ 0 ≤ nyO y := by unfold nyO; omega
  omega
set_option maxHeartbeats 1000000 in
theorem relatedDay_any (f : Nat) (r wd y : Int) (w : World) (hf : f < 20) (hw0 : 0 ≤ wd) (hw1 : wd ≤ 6) (h0 : 1 ≤ y) (h1 : y ≤ 2005) :
    Calls Tryz.prog 177 #[.int .i64 f, .int .i64 r, .int .i64 wd, .int .i64 y] w fun e w' => e = .returned (.int .i64 (reO f r wd y)) ∧ Below w.heap.size w w' := by
  have HF := Lib.hid (fun W => feastDay_any f y W hf h0 h1)
  have hb := feO_in hf h0 h1
  have hR : Hid (reO f r wd y = if r = 1 then feO f y - 1 else if r = 2 then feO f y + 7 else if r = 3 then feO f y + 1 + (wd - (feO f y + 5) % 7 + 13) % 7
    else if r = 4 then feO f y - 1 - ((feO f y + 5) % 7 - wd + 13) % 7 else feO f y) := rfl
  generalize reO f r wd y = R at hR ⊢
  generalize feO f y = n at HF hb hR
  have HW := Lib.hid (fun W => weekdayOf_any n W (by omega) (by omega))
  generalize hq : (n + 5) % 7 = q at HW hR
  have hqb : 0 ≤ q ∧ q ≤ 6 := by omega
  clear hq
  have v1 := i64_in (n - 1) (by omega)
  have v2 := i64_in (n + 7) (by omega)
  have v3 := i64_in (n + 1) (by omega)
  have v4 := i64_in (wd - q) (by omega)
  have v5 := i64_in (wd - q + 13) (by omega)
  have v6 := i64_in (n + 1 + (wd - q + 13) % 7) (by omega)
  have v7 := i64_in (q - wd) (by omega)
  have v8 := i64_in (q - wd + 13) (by omega)
  have v9 := i64_in (n - 1 - (q - wd + 13) % 7) (by omega)
  go_enter Tryz.func177, Tryz.ntmps177
  go_wp2_with fail
  refine (HF.out _).mono ?_
  rintro e w1 ⟨rfl, hB⟩
  go_wp2_with (go_at_call 184; refine (HW.out _).mono ?_; rintro e w' ⟨rfl, rfl⟩)
  all_goals go_ret
  all_goals exact ⟨ret_int (by rw [hR.out]; clear hR; simp_all), hB⟩
set_option maxHeartbeats 1000000 in
theorem beginOf_any (s y : Int) (w : World) (h0 : 2 ≤ y) (h1 : y ≤ 2005) : Calls Tryz.prog 245 #[.int .i64 s, .int .i64 y] w fun e w' => e = .returned (.int .i64 (beO s y)) ∧ Below w.heap.size w w' := by
  have hR : Hid (beO s y = if s = 1 then numO y 3 1 else if s = 2 then numO y 3 25 else if s = 3 then numO (y - 1) 3 25 else if s = 4 then eaO y
    else if s = 5 then numO (y - 1) 12 25 else if s = 6 then numO (y - 1) 9 1 else nyO y) := rfl
  generalize beO s y = R at hR ⊢
  have H1 := Lib.hid (fun W => dayOf_any y 3 1 W (by omega) (by omega) (by decide) (by decide) (by decide) (by decide))
  have H2 := Lib.hid (fun W => dayOf_any y 3 25 W (by omega) (by omega) (by decide) (by decide) (by decide) (by decide))
  have H3 := Lib.hid (fun W => dayOf_any (y - 1) 3 25 W (by omega) (by omega) (by decide) (by decide) (by decide) (by decide))
  have H4 := Lib.hid (fun W => oldEaster_any y W (by omega) h1)
  have H5 := Lib.hid (fun W => dayOf_any (y - 1) 12 25 W (by omega) (by omega) (by decide) (by decide) (by decide) (by decide))
  have H6 := Lib.hid (fun W => dayOf_any (y - 1) 9 1 W (by omega) (by omega) (by decide) (by decide) (by decide) (by decide))
  have H0 := Lib.hid (fun W => newYear_any y W (by omega) (by omega))
  generalize numO y 3 1 = r1 at H1 hR
  generalize numO y 3 25 = r2 at H2 hR
  generalize numO (y - 1) 3 25 = r3 at H3 hR
  generalize eaO y = r4 at H4 hR
  generalize numO (y - 1) 12 25 = r5 at H5 hR
  generalize numO (y - 1) 9 1 = r6 at H6 hR
  generalize nyO y = r0 at H0 hR
  have v1 := i64_in (y - 1) (by omega)
  by_cases c1 : s = 1
  · subst c1
    go_enter Tryz.func245, Tryz.ntmps245
    go_wp2_with (refine (H1.out _).mono ?_; rintro e w1 ⟨rfl, hB⟩)
    go_ret
    exact ⟨ret_int hR.out.symm, hB⟩
  by_cases c2 : s = 2
  · subst c2
    go_enter Tryz.func245, Tryz.ntmps245
    go_wp2_with (refine (H2.out _).mono ?_; rintro e w1 ⟨rfl, hB⟩)
    go_ret
    exact ⟨ret_int hR.out.symm, hB⟩
  by_cases c3 : s = 3
  · subst c3
    go_enter Tryz.func245, Tryz.ntmps245
    go_wp2_with (refine (H3.out _).mono ?_; rintro e w1 ⟨rfl, hB⟩)
    go_ret
    exact ⟨ret_int hR.out.symm, hB⟩
  by_cases c4 : s = 4
  · subst c4
    go_enter Tryz.func245, Tryz.ntmps245
    go_wp2_with (refine (H4.out _).mono ?_; rintro e w1 ⟨rfl, hB⟩)
    go_ret
    exact ⟨ret_int hR.out.symm, hB⟩
  by_cases c5 : s = 5
  · subst c5
    go_enter Tryz.func245, Tryz.ntmps245
    go_wp2_with (refine (H5.out _).mono ?_; rintro e w1 ⟨rfl, hB⟩)
    go_ret
    exact ⟨ret_int hR.out.symm, hB⟩
  by_cases c6 : s = 6
  · subst c6
    go_enter Tryz.func245, Tryz.ntmps245
    go_wp2_with (refine (H6.out _).mono ?_; rintro e w1 ⟨rfl, hB⟩)
    go_ret
    exact ⟨ret_int hR.out.symm, hB⟩
  have hR' : R = r0 := by rw [hR.out, if_neg c1, if_neg c2, if_neg c3, if_neg c4, if_neg c5, if_neg c6]
  have d1 : (s == 1) = false := by simpa using c1
  have d2 : (s == 2) = false := by simpa using c2
  have d3 : (s == 3) = false := by simpa using c3
  have d4 : (s == 4) = false := by simpa using c4
  have d5 : (s == 5) = false := by simpa using c5
  have d6 : (s == 6) = false := by simpa using c6
  subst hR'
  clear hR
  go_enter Tryz.func245, Tryz.ntmps245
  go_wp2_with (refine (H0.out _).mono ?_; rintro e w1 ⟨rfl, rfl⟩)
  go_ret
  exact ⟨rfl, Below.refl _ _⟩
theorem beO_bd {s y : Int} (h0 : 2 ≤ y) (h1 : y ≤ 2005) : -400 ≤ beO s y ∧ beO s y ≤ 750000 := by
  have hny : nyO y ≤ 740000 ∧ 300 ≤ nyO y ∧ nyO (y - 1) ≤ 740000 ∧ 0 ≤ nyO (y - 1) := by unfold nyO; omega
  have hk : ∀ z (m : Nat), m ≤ 12 → ∀ d, 1 ≤ d → d ≤ 31 → nyO z ≤ numO z m d ∧ numO z m d ≤ nyO z + 400 := fun z m hm d h1 h2 => by
    have := cumO_bd z (m - 1)
    unfold numO
    omega
  have he := eaO_bd y
  have k1 := hk y 3 (by decide) 1 (by decide) (by decide)
  have k2 := hk y 3 (by decide) 25 (by decide) (by decide)
  have k3 := hk (y - 1) 3 (by decide) 25 (by decide) (by decide)
  have k5 := hk (y - 1) 12 (by decide) 25 (by decide) (by decide)
  have k6 := hk (y - 1) 9 (by decide) 1 (by decide) (by decide)
  unfold beO
  repeat' split
  all_goals omega
set_option maxHeartbeats 1000000 in
theorem yearSpan_any (s y : Int) (w : World) (h0 : 2 ≤ y) (h1 : y ≤ 2004) :
    Calls Tryz.prog 219 #[.int .i64 s, .int .i64 y] w fun e w' => e = .returned (.agg #[.int .i64 (beO s y), .int .i64 (beO s (y + 1) - 1)]) ∧ Below w.heap.size w w' := by
  have H1 := Lib.hid (fun W => beginOf_any s y W h0 (by omega))
  have H2 := Lib.hid (fun W => beginOf_any s (y + 1) W (by omega) (by omega))
  have hb := beO_bd (s := s) (y := y + 1) (by omega) (by omega)
  generalize beO s y = a at H1 ⊢
  generalize beO s (y + 1) = b at H2 hb ⊢
  have v1 := i64_in (y + 1) (by omega)
  have v2 := i64_in (b - 1) (by omega)
  have hR := Box.new w 126 [.int .i64 0, .int .i64 0] w.heap.size (Nat.le_refl _) (by simp)
  have hB : Below w.heap.size w (w.alloc (.cells #[.int .i64 0, .int .i64 0] 126)) := by go_grown
  go_enter Tryz.func219, Tryz.ntmps219
  go_wp2_with fail
  refine (H1.out _).mono ?_
  rintro e w1 ⟨rfl, hB1⟩
  have hR := hR.below hB1
  have hB := stepB hB hB1 hB.size
  clear hB1
  go_wp2_with fail
  refine (H2.out _).mono ?_
  rintro e w2 ⟨rfl, hB1⟩
  have hR := hR.below hB1
  have hB := stepB hB hB1 hB.size
  clear hB1
  have r0 := hR.cell 0 _ rfl
  have r1 := hR.cell 1 _ rfl
  have f0 := World.ownsRow.frozenAt hR 0
  have f1 := World.ownsRow.frozenAt hR 1
  have HP := Lib.hid (hR.put2 (.int .i64 a) (.int .i64 (b - 1)))
  go_wp2
  have hp := HP.out
  have hBe := hB.grown hp.2 hB.size (fun g e => by cases e; exact Nat.le_refl _)
  generalize (w2.setCell ⟨w.heap.size, 0, none⟩ (.int .i64 a)).setCell ⟨w.heap.size, 1, none⟩ (.int .i64 (b - 1)) = Wf at hp hBe ⊢
  have z0 := hp.1.cell 0 _ rfl
  have z1 := hp.1.cell 1 _ rfl
  refine bodyPost_ret_by (v := .agg #[.int .i64 a, .int .i64 (b - 1)]) ?_ rfl ⟨rfl, hBe⟩
  simp [results, go_sem, z0, z1]
theorem fldY (Y M D : Int) (w : World) : (Instr.field 104 (.agg #[.int .i64 Y, .int .i64 M, .int .i64 D]) 0).run Tryz.prog w = .ok (.int .i64 Y) w := by kernel_rfl
def yoR (s n : Int) : Int × Bool := match yoO s n with
  | some y => (y, true)
  | none => (0, false)
set_option maxRecDepth 100000 in
set_option maxHeartbeats 2000000 in
theorem yearOn_any (s n : Int) (w : World) (hn0 : 0 ≤ n) (hn : n ≤ 730499) :
    Calls Tryz.prog 182 #[.int .i64 s, .int .i64 n] w fun e w' => e = .returned (.tuple #[.int .i64 (yoR s n).1, .bool (yoR s n).2]) ∧ Below w.heap.size w w' := by
  have HD := Lib.hid (fun W => dateOf_any n W hn0 hn)
  have hy := yrO_bd hn0 hn
  have hR : Hid (yoR s n = match fstR (inY s n) (yrO n - 1) 3 with | some y => (y, true) | none => (0, false)) := rfl
  generalize yoR s n = R at hR ⊢
  have HS := Lib.hid (fun y W h0 h1 => yearSpan_any s y W h0 h1)
  have HI := Lib.hid (fun y => (show inY s n y = (inB y 2 1999 && inB n (beO s y) (beO s (y + 1) - 1)) from rfl))
  have HB := Lib.hid (fun y h0 h1 => beO_bd (s := s) (y := y) h0 h1)
  generalize inY s n = q at hR HI
  generalize beO s = b at HS HI HB
  generalize (mnO n : Int) = M at HD
  generalize dyO n = D at HD
  generalize yrO n = Y at HD hy hR
  have v0 := i64_in (Y - 1) (by omega)
  have v1 := i64_in (Y + 1) (by omega)
  have hfd := fldY Y M D
  go_enter Tryz.func182, Tryz.ntmps182
  go_wp2_with fail
  refine (HD.out _).mono ?_
  rintro e w1 ⟨rfl, hB1⟩
  go_wp2
  go_loopw [7] (fun i wr => ∃ k : Nat, k ≤ 3 ∧ i = .int .i64 (Y - 1 + k) ∧ Hid (fstR q (Y - 1) 3 = fstR q (Y - 1 + k) (3 - k)) ∧ Below w.heap.size w wr) (fun i _ => (Y + 2 - intOf i).toNat)
  case atStart => exact ⟨0, by decide, by simp, by unfold Hid; simp, hB1⟩
  case round =>
    clear hB1
    obtain ⟨k, hk, rfl, hH, hB⟩ := hrel
    by_cases hlt : k < 3
    · have hlt' : decide (Y - 1 + (k : Int) ≤ Y + 1) = true := by simp; omega
      have hek : 3 - k = (3 - (k + 1)) + 1 := by omega
      have HK := Lib.hid (HI.out (Y - 1 + k))
      have hH2 : Hid (fstR q (Y - 1) 3 = if q (Y - 1 + k) = true then some (Y - 1 + k) else fstR q (Y - 1 + k + 1) (3 - (k + 1))) := by unfold Hid; rw [hH.out, hek]; rfl
      have e3 : Hid (Y - 1 + (k : Int) + 1 = Y - 1 + ((k + 1 : Nat) : Int)) := by unfold Hid; omega
      have hyb : Y - 1 + (k : Int) ≤ 2001 ∧ 0 ≤ Y - 1 + (k : Int) := by omega
      have v2 := i64_in (Y - 1 + (k : Int) + 1) (by omega)
      have hyl : Y - 1 + (k : Int) ≤ Y + 1 := by omega
      have hk3 : k + 1 ≤ 3 := by omega
      clear hek hlt
      generalize Y - 1 + (k : Int) = y at *
      cases hs : inB y 2 1999
      · have HSt := Lib.hid (fun W => hs ▸ isStyleYear_any y W)
        have hq : Hid (q y = false) := by unfold Hid; rw [HK.out, hs]; rfl
        go_wp2_with (go_at_call 62; refine (HSt.out _).mono ?_; rintro e w' ⟨rfl, rfl⟩)
        go_roundw
        case rel => exact ⟨k + 1, hk3, by rw [e3.out], by unfold Hid; rw [hH2.out, hq.out, ← e3.out]; rfl, hB⟩
        case measure => simp [intOf]; omega
      · have HSt := Lib.hid (fun W => hs ▸ isStyleYear_any y W)
        have hyy : 2 ≤ y ∧ y ≤ 1999 := by simpa [inB] using hs
        have HSy := Lib.hid (fun W => HS.out y W hyy.1 (by omega))
        cases hw : inB n (b y) (b (y + 1) - 1)
        · have HW := Lib.hid (fun W => hw ▸ within_any n (b y) (b (y + 1) - 1) W)
          have hq : Hid (q y = false) := by unfold Hid; rw [HK.out, hs, hw]; rfl
          generalize b y = u at HSy HW
          generalize b (y + 1) - 1 = v at HSy HW
          clear hs hw
          go_wp2_with (go_at_call 62; refine (HSt.out _).mono ?_; rintro e w' ⟨rfl, rfl⟩)
          refine (HSy.out _).mono ?_
          rintro e w2 ⟨rfl, hB2⟩
          have hB := stepB hB hB2 hB.size
          clear hB2
          go_wp2_with (go_at_call 53; refine (HW.out _).mono ?_; rintro e w' ⟨rfl, rfl⟩)
          go_roundw
          case rel => exact ⟨k + 1, hk3, by rw [e3.out], by unfold Hid; rw [hH2.out, hq.out, ← e3.out]; rfl, stepB hB ((Below.refl _ _).alloc (Nat.le_refl _) _) hB.size⟩
          case measure => simp [intOf]; omega
        · have HW := Lib.hid (fun W => hw ▸ within_any n (b y) (b (y + 1) - 1) W)
          have hq : Hid (q y = true) := by unfold Hid; rw [HK.out, hs, hw]; rfl
          generalize b y = u at HSy HW
          generalize b (y + 1) - 1 = v at HSy HW
          clear hs hw
          go_wp2_with (go_at_call 62; refine (HSt.out _).mono ?_; rintro e w' ⟨rfl, rfl⟩)
          refine (HSy.out _).mono ?_
          rintro e w2 ⟨rfl, hB2⟩
          have hB := stepB hB hB2 hB.size
          clear hB2
          go_wp2_with (go_at_call 53; refine (HW.out _).mono ?_; rintro e w' ⟨rfl, rfl⟩)
          go_ret2
          have hRR : R = (y, true) := by rw [hR.out, hH2.out, hq.out]; rfl
          rw [hRR]
          exact ⟨rfl, stepB hB ((Below.refl _ _).alloc (Nat.le_refl _) _) hB.size⟩
    · have he : Hid (k = 3) := by unfold Hid; omega
      have hlt' : decide (Y - 1 + (k : Int) ≤ Y + 1) = false := by simp; omega
      go_wp2
      go_ret2
      have hRR : R = (0, false) := by rw [hR.out, hH.out, he.out]; rfl
      rw [hRR]
      exact ⟨rfl, hB⟩
end

section
open Go.ChangeShapes Go.WideShapes Go.ChangeAt Go.RowKit Go.IntWalk

set_option maxHeartbeats 1000000 in
theorem l04Old_any (y : Int) (w : World) (h0 : 1 ≤ y) (h1 : y ≤ 2005) : Calls Tryz.prog 210 #[.int .i64 y] w fun e w' => e = .returned (.agg #[.int .i64 y, .int .i64 (esO y / 31), .int .i64 (esO y % 31 + 1)]) ∧ Below w.heap.size w w' := by
  have hs := esO_bd y
  have hp : 0 ≤ epO y ∧ epO y ≤ 29 := by unfold epO; omega
  have he : esO y = epO y + (2 * (y % 4) + 4 * (y % 7) - epO y + 34) % 7 + 114 := rfl
  rw [he] at hs ⊢
  clear he
  have hpe : (19 * (y % 19) + 15) % 30 = epO y := rfl
  generalize epO y = p at hp hs hpe ⊢
  have v1 := i64_in (2 * (y % 4)) (by omega)
  have v2 := i64_in (4 * (y % 7)) (by omega)
  have v3 := i64_in (2 * (y % 4) + 4 * (y % 7)) (by omega)
  have v4 := i64_in (2 * (y % 4) + 4 * (y % 7) - p) (by omega)
  have v5 := i64_in (2 * (y % 4) + 4 * (y % 7) - p + 34) (by omega)
  have v6 := i64_in (p + (2 * (y % 4) + 4 * (y % 7) - p + 34) % 7) (by omega)
  have v7 := i64_in (p + (2 * (y % 4) + 4 * (y % 7) - p + 34) % 7 + 114) (by omega)
  have v8 := i64_in ((p + (2 * (y % 4) + 4 * (y % 7) - p + 34) % 7 + 114) / 31) (by omega)
  have v9 := i64_in ((p + (2 * (y % 4) + 4 * (y % 7) - p + 34) % 7 + 114) % 31 + 1) (by omega)
  have u1 := i64_in (19 * (y % 19)) (by omega)
  have u2 := i64_in (19 * (y % 19) + 15) (by omega)
  go_enter Tryz.func210, Tryz.ntmps210
  go_wp2
  go_returns
  exact ⟨rfl, by go_grown⟩
def mnA : Array Value := #[.int .i64 1, .int .i64 1, .int .i64 2, .int .i64 3, .int .i64 6, .int .i64 6, .int .i64 8, .int .i64 8, .int .i64 9, .int .i64 11, .int .i64 11, .int .i64 11, .int .i64 12, .int .i64 12]
def dyA : Array Value := #[.int .i64 1, .int .i64 6, .int .i64 2, .int .i64 25, .int .i64 24, .int .i64 29, .int .i64 10, .int .i64 15, .int .i64 29, .int .i64 1, .int .i64 11, .int .i64 30, .int .i64 6, .int .i64 25]
theorem fxS_at (f : Nat) (hf : f < 14) : ∃ (m : Nat) (d : Int), 1 ≤ m ∧ m ≤ 12 ∧ 1 ≤ d ∧ d ≤ 31 ∧ mnA[f]? = some (.int .i64 m) ∧ dyA[f]? = some (.int .i64 d) ∧ ∀ y, feO f y = numO y m d := by
  have hc : f = 0 ∨ f = 1 ∨ f = 2 ∨ f = 3 ∨ f = 4 ∨ f = 5 ∨ f = 6 ∨ f = 7 ∨ f = 8 ∨ f = 9 ∨ f = 10 ∨ f = 11 ∨ f = 12 ∨ f = 13 := by omega
  rcases hc with rfl | rfl | rfl | rfl | rfl | rfl | rfl | rfl | rfl | rfl | rfl | rfl | rfl | rfl
  · exact ⟨1, 1, by decide, by decide, by decide, by decide, rfl, rfl, fun _ => rfl⟩
  · exact ⟨1, 6, by decide, by decide, by decide, by decide, rfl, rfl, fun _ => rfl⟩
  · exact ⟨2, 2, by decide, by decide, by decide, by decide, rfl, rfl, fun _ => rfl⟩
  · exact ⟨3, 25, by decide, by decide, by decide, by decide, rfl, rfl, fun _ => rfl⟩
  · exact ⟨6, 24, by decide, by decide, by decide, by decide, rfl, rfl, fun _ => rfl⟩
  · exact ⟨6, 29, by decide, by decide, by decide, by decide, rfl, rfl, fun _ => rfl⟩
  · exact ⟨8, 10, by decide, by decide, by decide, by decide, rfl, rfl, fun _ => rfl⟩
  · exact ⟨8, 15, by decide, by decide, by decide, by decide, rfl, rfl, fun _ => rfl⟩
  · exact ⟨9, 29, by decide, by decide, by decide, by decide, rfl, rfl, fun _ => rfl⟩
  · exact ⟨11, 1, by decide, by decide, by decide, by decide, rfl, rfl, fun _ => rfl⟩
  · exact ⟨11, 11, by decide, by decide, by decide, by decide, rfl, rfl, fun _ => rfl⟩
  · exact ⟨11, 30, by decide, by decide, by decide, by decide, rfl, rfl, fun _ => rfl⟩
  · exact ⟨12, 6, by decide, by decide, by decide, by decide, rfl, rfl, fun _ => rfl⟩
  · exact ⟨12, 25, by decide, by decide, by decide, by decide, rfl, rfl, fun _ => rfl⟩
theorem two_rows (w : World) : Below w.heap.size w ((w.alloc (.cells mnA 2)).alloc (.cells dyA 2)) ∧ (∀ i v, mnA[i]? = some v → ((w.alloc (.cells mnA 2)).alloc (.cells dyA 2)).cell? ⟨w.heap.size, i, none⟩ = some v) ∧ (∀ i v, dyA[i]? = some v → ((w.alloc (.cells mnA 2)).alloc (.cells dyA 2)).cell? ⟨w.heap.size + 1, i, none⟩ = some v) ∧
    w.heap.size + 1 < ((w.alloc (.cells mnA 2)).alloc (.cells dyA 2)).heap.size := by
  have b := (Below.refl _ (w.alloc (.cells mnA 2))).alloc (Nat.le_refl _) (.cells dyA 2)
  refine ⟨by go_grown, fun i v h => (b.cell (p := ⟨w.heap.size, i, none⟩) (by simp)).trans ((World.cell?_alloc_at _ _ _ _ rfl).trans h), fun i v h => (World.cell?_alloc_at _ _ _ _ (by simp)).trans h, by simp⟩
set_option maxRecDepth 100000 in
set_option maxHeartbeats 2000000 in
theorem l05Day_any (f : Nat) (y : Int) (w : World) (hf : f < 20) (h0 : 1 ≤ y) (h1 : y ≤ 2005) : Calls Tryz.prog 169 #[.int .i64 f, .int .i64 y] w fun e w' => e = .returned (.int .i64 (feO f y)) ∧ Below w.heap.size w w' := by
  obtain ⟨hB0, hm, hd, hsz⟩ := two_rows w
  by_cases hf14 : f < 14
  · obtain ⟨m, d, hm1, hm2, hd1, hd2, e1, e2, hfe⟩ := fxS_at f hf14
    have hR := Lib.hid (hfe y)
    have HD := Lib.hid (fun W => l01Number_any y m d W h0 (by omega) (by omega) (by omega) (by omega) (by omega))
    generalize numO y m d = R at HD hR
    have hlt : (f : Int) < 14 := by omega
    have c1 := hm _ _ e1
    have c2 := hd _ _ e2
    clear hfe hm hd
    go_enter Tryz.func169, Tryz.ntmps169
    go_upto_region 4 with (fail)
    change (Code.region _ _ _).wp _ _ _ ((w.alloc (.cells mnA 2)).alloc (.cells dyA 2))
    generalize (w.alloc (.cells mnA 2)).alloc (.cells dyA 2) = W at hB0 c1 c2 hsz ⊢
    have E1 := Later.cell c1 (Nat.lt_of_succ_lt hsz)
    have E2 := Later.cell c2 hsz
    refine wp_region_later _ (by kernel_rfl) (by kernel_rfl) ?_
    repeat (go_big_quiet_step (fail))
    go_big_quiet_step ((go_at_call 172; exact Later.call (Nat.le_refl _) (HD.out _)))
    repeat (go_big_quiet_step (fail))
    refine wpQuiet_nil ?_
    intro z
    have hz := z.prop
    generalize z.val = w2 at hz
    clear E1 E2 c1 c2
    go_wp2
    go_ret
    exact ⟨ret_int hR.out.symm, stepB hB0 hz hB0.size⟩
  · obtain ⟨g, rfl⟩ : ∃ g, f = g + 14 := ⟨f - 14, by omega⟩
    obtain ⟨v, hv1, hv2, e0, hfe⟩ := fxV_at g (by omega)
    have hR := Lib.hid (hfe y)
    have HO := Lib.hid (fun W => l04Old_any y W h0 h1)
    have hs := esO_bd y
    have HD := Lib.hid (fun W => l01Number_any y (esO y / 31).toNat (esO y % 31 + 1) W h0 (by omega) (by omega) (by omega) (by omega) (by omega))
    have e1 : ((esO y / 31).toNat : Int) = esO y / 31 := by omega
    have HD := Lib.hid (fun W => e1 ▸ HD.out W)
    have hbd := eaO_bd y
    have hny : nyO y ≤ 740000 ∧ 0 ≤ nyO y := by unfold nyO; omega
    have hea : eaO y = numO y (esO y / 31).toNat (esO y % 31 + 1) := rfl
    rw [← hea] at HD
    clear e1 hea hs
    generalize nyO y = N at hbd hny
    generalize eaO y = E at HD hR hbd
    generalize esO y / 31 = q1 at HO HD
    generalize esO y % 31 + 1 = q2 at HO HD
    have hfi : ((g + 14 : Nat) : Int) = (g : Int) + 14 := by omega
    rw [hfi] at hR ⊢
    have hlt' : decide ((g : Int) + 14 < 14) = false := by simp; omega
    have hg6 : (g : Int) < 6 := by omega
    have v1 := i64_in (g : Int) (by omega)
    have v2 := i64_in (E + v) (by omega)
    clear hfe hf14 hfi hm hd
    go_enter Tryz.func169, Tryz.ntmps169
    go_upto_region 5 with (fail)
    change (Code.region _ _ _).wp _ _ _ ((w.alloc (.cells mnA 2)).alloc (.cells dyA 2))
    generalize (w.alloc (.cells mnA 2)).alloc (.cells dyA 2) = W at hB0 hsz ⊢
    clear hsz
    have hna : ∀ u : World, (u.alloc (.cells #[.int .i64 (-46), .int .i64 (-7), .int .i64 0, .int .i64 39, .int .i64 49, .int .i64 56] 2)).cell? ⟨u.heap.size, g, none⟩ = some (.int .i64 v) := fun u => (World.cell?_alloc_at _ _ _ _ rfl).trans e0
    go_region_with (first | (go_at_call 210; refine (HO.out _).mono ?_; rintro e wO ⟨rfl, hBO⟩; (try have c1 := (hBO.cell (p := ⟨W.heap.size, g, none⟩) (by simp)).trans (hna W))) | (go_at_call 172; refine (HD.out _).mono ?_; rintro e wN ⟨rfl, hBN⟩; (try have c1 := (hBN.cell (p := ⟨W.heap.size, g, none⟩) (Nat.lt_of_lt_of_le (by simp) hBO.size)).trans c1); (try have c2 := (hBN.cell (p := ⟨wO.heap.size, g, none⟩) (by simp)).trans (hna wO))) | fail)
    all_goals go_wp2
    all_goals go_ret
    all_goals refine ⟨ret_int hR.out.symm, ?_⟩
    all_goals have s1 := hBO.size
    all_goals have s0 := hB0.size
    all_goals first
      | exact (stepB (stepB hB0.drew hBO s0) hBN (Nat.le_trans s0 s1)).alloc (Nat.le_trans (Nat.le_trans s0 s1) hBN.size) _
      | exact stepB ((stepB hB0.drew hBO s0).alloc (Nat.le_trans s0 s1) _) hBN (Nat.le_trans (Nat.le_trans s0 s1) (by simp))
      | exact stepB (stepB (hB0.alloc s0 _).drew hBO (Nat.le_trans s0 (by simp))) hBN (Nat.le_trans (Nat.le_trans s0 (by simp)) s1)
set_option maxHeartbeats 1000000 in
theorem l05Related_any (f : Nat) (r wd y : Int) (w : World) (hf : f < 20) (hw0 : 0 ≤ wd) (hw1 : wd ≤ 6) (h0 : 1 ≤ y) (h1 : y ≤ 2005) :
    Calls Tryz.prog 188 #[.int .i64 f, .int .i64 r, .int .i64 wd, .int .i64 y] w fun e w' => e = .returned (.int .i64 (reO f r wd y)) ∧ Below w.heap.size w w' := by
  have HF := Lib.hid (fun W => l05Day_any f y W hf h0 h1)
  have hb := feO_in hf h0 h1
  have hR : Hid (reO f r wd y = if r = 1 then feO f y - 1 else if r = 2 then feO f y + 7 else if r = 3 then feO f y + 1 + (wd + 14 - (feO f y + 1 + 5) % 7) % 7
    else if r = 4 then feO f y - 1 - ((feO f y + 6 + 5) % 7 + 7 - wd) % 7 else feO f y) := by
    unfold Hid reO
    have e1 : feO f y + 1 + (wd - (feO f y + 5) % 7 + 13) % 7 = feO f y + 1 + (wd + 14 - (feO f y + 1 + 5) % 7) % 7 := by omega
    have e2 : feO f y - 1 - ((feO f y + 5) % 7 - wd + 13) % 7 = feO f y - 1 - ((feO f y + 6 + 5) % 7 + 7 - wd) % 7 := by omega
    rw [e1, e2]
  generalize reO f r wd y = R at hR ⊢
  generalize feO f y = n at HF hb hR
  have HW1 := Lib.hid (fun W => l01Weekday_any (n + 1) W (by omega) (by omega))
  have HW6 := Lib.hid (fun W => l01Weekday_any (n + 6) W (by omega) (by omega))
  generalize hq : (n + 1 + 5) % 7 = q at HW1 hR
  have hqb : 0 ≤ q ∧ q ≤ 6 := by omega
  clear hq
  generalize hq : (n + 6 + 5) % 7 = p at HW6 hR
  have hpb : 0 ≤ p ∧ p ≤ 6 := by omega
  clear hq
  have v1 := i64_in (n - 1) (by omega)
  have v2 := i64_in (n + 7) (by omega)
  have v3 := i64_in (n + 1) (by omega)
  have v3b := i64_in (n + 6) (by omega)
  have v4 := i64_in (wd + 14) (by omega)
  have v5 := i64_in (wd + 14 - q) (by omega)
  have v6 := i64_in (n + 1 + (wd + 14 - q) % 7) (by omega)
  have v7 := i64_in (p + 7) (by omega)
  have v8 := i64_in (p + 7 - wd) (by omega)
  have v9 := i64_in (n - 1 - (p + 7 - wd) % 7) (by omega)
  by_cases c3 : r = 3
  · subst c3
    go_enter Tryz.func188, Tryz.ntmps188
    go_wp2_with fail
    refine (HF.out _).mono ?_
    rintro e w1 ⟨rfl, hB⟩
    go_wp2_with (go_at_call 124; refine (HW1.out _).mono ?_; rintro e w' ⟨rfl, rfl⟩)
    go_ret
    exact ⟨ret_int hR.out.symm, hB⟩
  · go_enter Tryz.func188, Tryz.ntmps188
    go_wp2_with fail
    refine (HF.out _).mono ?_
    rintro e w1 ⟨rfl, hB⟩
    have c3' : (r == 3) = false := by simpa using c3
    go_wp2_with (go_at_call 124; refine (HW6.out _).mono ?_; rintro e w' ⟨rfl, rfl⟩)
    all_goals go_ret
    all_goals exact ⟨ret_int (by rw [hR.out]; clear hR; simp_all), hB⟩
end
end Go.Proofs.YteajkofgcmfaoaaGreatDoor
