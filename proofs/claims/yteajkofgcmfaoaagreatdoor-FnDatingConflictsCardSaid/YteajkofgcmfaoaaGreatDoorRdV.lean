/- Plain: a number is read from its digits, or else as a numeral. -/
import Derived.Lib.ParseIntBCases
import Derived.Test.YteajkofgcmfaoaaGreatDoorDk
import Derived.Test.YteajkofgcmfaoaaGreatDoorRd6
namespace Go.Proofs.YteajkofgcmfaoaaGreatDoor
set_option linter.constructorNameAsVariable false

/-- What digits count, behind acc. -/
def dgv (acc : Nat) : List UInt8 → Nat
  | [] => acc
  | c :: r => dgv (acc * 10 + (c.toNat - 48)) r
theorem dgv_snoc (c : UInt8) (acc : Nat) (l : List UInt8) : dgv acc (l ++ [c]) = dgv acc l * 10 + (c.toNat - 48) := by
  induction l generalizing acc with
  | nil => rfl
  | cons b l ih => exact ih (acc * 10 + (b.toNat - 48))
theorem dgv_le (acc : Nat) (l : List UInt8) : acc ≤ dgv acc l := by
  induction l generalizing acc with
  | nil => exact Nat.le_refl acc
  | cons b l ih =>
    have := ih (acc * 10 + (b.toNat - 48))
    show acc ≤ dgv (acc * 10 + (b.toNat - 48)) l
    omega
def isDg (c : UInt8) : Prop := 48 ≤ c.toNat ∧ c.toNat ≤ 57
theorem dgv_lt (acc : Nat) (l : List UInt8) (h : ∀ c ∈ l, isDg c) : dgv acc l < (acc + 1) * 10 ^ l.length := by
  induction l generalizing acc with
  | nil => show acc < (acc + 1) * 10 ^ 0; omega
  | cons b l ih =>
    have hb := h b (by simp)
    unfold isDg at hb
    have hi := ih (acc * 10 + (b.toNat - 48)) (fun c hc => h c (by simp [hc]))
    have hm : (acc * 10 + (b.toNat - 48) + 1) * 10 ^ l.length ≤ ((acc + 1) * 10) * 10 ^ l.length := Nat.mul_le_mul_right _ (by omega)
    have hr : ((acc + 1) * 10) * 10 ^ l.length = (acc + 1) * 10 ^ (l.length + 1) := by rw [Nat.pow_succ, Nat.mul_assoc, Nat.mul_comm 10]
    rw [List.length_cons, ← hr]
    exact Nat.lt_of_lt_of_le hi hm
theorem digit_nat {k : Nat} (h : k < 10) : (UInt8.ofNat (48 + k)).toNat = 48 + k := by
  rw [UInt8.toNat_ofNat']; omega
theorem dgv_digits (n : Nat) : dgv 0 (Lib.decDigits n) = n := by
  induction n using Nat.strongRecOn with
  | _ n ih =>
    by_cases h : n < 10
    · rw [Lib.decDigits_one h]
      show 0 * 10 + ((UInt8.ofNat (48 + n)).toNat - 48) = n
      rw [digit_nat h]; omega
    · rw [Lib.decDigits, dif_neg h, dgv_snoc, ih (n / 10) (by omega), digit_nat (by omega)]
      omega
theorem digits_isDg (n : Nat) : ∀ c ∈ Lib.decDigits n, isDg c := by
  induction n using Nat.strongRecOn with
  | _ n ih =>
    intro c hc
    by_cases h : n < 10
    · rw [Lib.decDigits_one h] at hc
      rw [List.mem_singleton.1 hc]
      unfold isDg; rw [digit_nat h]; omega
    · rw [Lib.decDigits, dif_neg h] at hc
      rcases List.mem_append.1 hc with hc | hc
      · exact ih (n / 10) (by omega) c hc
      · rw [List.mem_singleton.1 hc]
        unfold isDg; rw [digit_nat (by omega)]; omega
theorem digits_ne (n : Nat) : Lib.decDigits n ≠ [] := by
  rw [Lib.decDigits]; split <;> simp
theorem digits_lt9 {n : Nat} (h : n ≤ 3999) : (Lib.decDigits n).length ≤ 4 := by
  have one : ∀ k, k < 10 → (Lib.decDigits k).length ≤ 1 := fun k hk => by rw [Lib.decDigits_one hk]; simp
  have up : ∀ k m, (Lib.decDigits (k / 10)).length ≤ m → (k < 10 → 1 ≤ m + 1) → (Lib.decDigits k).length ≤ m + 1 := fun k m hm _ => by
    rw [Lib.decDigits]
    split
    · simp
    · simp; omega
  exact up n 3 (up _ 2 (up _ 1 (one _ (by omega)) (by omega)) (by omega)) (by omega)
theorem uintM_ok (acc : Nat) (l : List UInt8) (h : ∀ c ∈ l, isDg c) (hb : dgv acc l ≤ 1000000000000000000) : Lib.parseUintM (2 ^ 64 - 1) acc l = .ok (dgv acc l) := by
  induction l generalizing acc with
  | nil => rfl
  | cons b l ih =>
    have hd := h b (by simp)
    unfold isDg at hd
    have h1 : acc * 10 + (b.toNat - 48) ≤ 1000000000000000000 := Nat.le_trans (dgv_le _ l) hb
    unfold Lib.parseUintM
    rw [if_pos hd, if_neg (by omega), if_neg (by omega)]
    exact ih _ (fun c hc => h c (by simp [hc])) hb
theorem parse_digits {n : Nat} (h : n ≤ 3999) : Lib.parseIntB 64 (Lib.decDigits n) = .ok (n : Int) := by
  have hu : Lib.parseUintB 64 (Lib.decDigits n) = .ok n := by
    have hd := dgv_digits n
    unfold Lib.parseUintB
    rw [if_neg (digits_ne n), uintM_ok 0 _ (digits_isDg n) (by rw [hd]; omega), hd]
  have hg := digits_isDg n
  cases e : Lib.decDigits n with
  | nil => exact absurd e (digits_ne n)
  | cons c r =>
    rw [e] at hu hg
    have hc := hg c (by simp)
    unfold isDg at hc
    unfold Lib.parseIntB
    have h1 : ¬ c.toNat = 43 := by omega
    have h2 : ¬ c.toNat = 45 := by omega
    simp only [h1, h2, or_self, not_false_eq_true, true_and, false_and, if_false]
    rw [hu]
    exact if_neg (by omega)

/-- The number that a word writes, 0 if it is none. -/
noncomputable def rnB (s : ByteArray) : Int :=
  open Classical in
  if (1 ≤ dgv 0 s.data.toList ∧ dgv 0 s.data.toList ≤ 3999) ∧ decB ((dgv 0 s.data.toList : Nat) : Int) = s then (dgv 0 s.data.toList : Nat) else numL s.data.toList
theorem decB_list {s : ByteArray} {n : Nat} (h : decB (n : Int) = s) : s.data.toList = Lib.decDigits n := by
  subst h
  unfold decB
  rw [Lib.itoa_nonneg]
theorem dgv_dec {s : ByteArray} {n : Nat} (h : decB (n : Int) = s) : dgv 0 s.data.toList = n := by
  rw [decB_list h, dgv_digits]
/-- The program's way: parsed, not negative, written as it stands, in 1 to 3999. -/
theorem rnB_parsed {s : ByteArray} {v : Int} (h0 : 1 ≤ v) (h1 : v ≤ 3999) (h : decB v = s) : rnB s = v := by
  obtain ⟨n, rfl⟩ := Int.eq_ofNat_of_zero_le (Int.le_trans (by decide) h0)
  have e := dgv_dec h
  unfold rnB
  rw [if_pos ⟨by rw [e]; omega, by rw [e]; exact h⟩, e]
theorem rnB_unparsed {s : ByteArray} (h : ∀ v : Int, Lib.parseIntB 64 s.data.toList = .ok v → 1 ≤ v → v ≤ 3999 → decB v ≠ s) : rnB s = numL s.data.toList := by
  unfold rnB
  rw [if_neg]
  rintro ⟨⟨a, b⟩, e⟩
  refine h ((dgv 0 s.data.toList : Nat) : Int) ?_ (by omega) (by omega) e
  rw [decB_list e, dgv_digits]
  exact parse_digits b
/-- The reference's way: 1 to 9 digits that are written as they stand, in 1 to 3999. -/
theorem rnB_digits {s : ByteArray} (h : ¬ ((1 ≤ dgv 0 s.data.toList ∧ dgv 0 s.data.toList ≤ 3999) ∧ decB ((dgv 0 s.data.toList : Nat) : Int) = s)) : rnB s = numL s.data.toList := by
  unfold rnB; rw [if_neg h]
theorem dec_shape {s : ByteArray} {n : Nat} (h1 : n ≤ 3999) (h : decB (n : Int) = s) : (1 ≤ s.size ∧ s.size ≤ 4) ∧ ∀ c ∈ s.data.toList, isDg c := by
  have e := decB_list h
  have hl : s.size = (Lib.decDigits n).length := by rw [← e]; simp
  refine ⟨⟨?_, ?_⟩, ?_⟩
  · rw [hl]
    have := digits_ne n
    cases hh : Lib.decDigits n with
    | nil => exact absurd hh this
    | cons a b => simp
  · rw [hl]; exact digits_lt9 h1
  · rw [e]; exact digits_isDg n
end Go.Proofs.YteajkofgcmfaoaaGreatDoor
