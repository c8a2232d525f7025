/- Sets of clauses as numbers, as lists of truths and as lists of indices; plain. -/
import Derived.Lib.ItoaNum
import Derived.Laws.BitsLemmas
import Derived.Test.YtdbgnbohdplndaaGreatDoorProg
namespace Go.Proofs.YtdbgnbohdplndaaGreatDoor

def maskB : List Bool → Nat
  | [] => 0
  | b :: bs => b.toNat + 2 * maskB bs
theorem maskB_lt : ∀ bs : List Bool, maskB bs < 2 ^ bs.length
  | [] => by decide
  | b :: bs => by
    have := maskB_lt bs
    have : b.toNat ≤ 1 := Bool.toNat_le b
    simp only [maskB, List.length_cons, Nat.pow_succ]
    omega
theorem maskB_snoc : ∀ (bs : List Bool) (b : Bool), maskB (bs ++ [b]) = maskB bs + b.toNat * 2 ^ bs.length
  | [], b => by simp [maskB]
  | a :: bs, b => by
    have := maskB_snoc bs b
    simp only [maskB, List.cons_append, List.length_cons, Nat.pow_succ, this]
    rw [Nat.mul_add, Nat.mul_left_comm 2, Nat.mul_comm 2 (2 ^ bs.length)]
    omega
theorem maskB_app : ∀ (pre bs : List Bool), maskB (pre ++ bs) = maskB pre + maskB bs * 2 ^ pre.length
  | [], bs => by simp [maskB]
  | a :: pre, bs => by
    have := maskB_app pre bs
    simp only [maskB, List.cons_append, List.length_cons, Nat.pow_succ, this]
    rw [Nat.mul_add, Nat.mul_left_comm 2, Nat.mul_comm 2 (2 ^ pre.length)]
    omega
theorem maskB_div (pre bs : List Bool) : maskB (pre ++ bs) / 2 ^ pre.length = maskB bs := by
  rw [maskB_app, Nat.add_mul_div_right _ _ (Nat.two_pow_pos _), Nat.div_eq_of_lt (maskB_lt pre), Nat.zero_add]
/-- The indices of the truths of a list, the first of which has the number k. -/
def idxGo : Nat → List Bool → List Int
  | _, [] => []
  | k, b :: bs => (if b = true then [(k : Int)] else []) ++ idxGo (k + 1) bs
theorem idxGo_snoc : ∀ (bs : List Bool) (k : Nat) (b : Bool), idxGo k (bs ++ [b]) = idxGo k bs ++ (if b = true then [((k + bs.length : Nat) : Int)] else [])
  | [], k, b => by simp [idxGo]
  | a :: bs, k, b => by
    have := idxGo_snoc bs (k + 1) b
    simp only [List.cons_append, idxGo, this, List.append_assoc, List.length_cons]
    rw [show k + 1 + bs.length = k + (bs.length + 1) by omega]
theorem idxGo_len : ∀ (bs : List Bool) (k : Nat), (idxGo k bs).length ≤ bs.length
  | [], _ => Nat.le_refl _
  | a :: bs, k => by
    have := idxGo_len bs (k + 1)
    simp only [idxGo, List.length_append, List.length_cons]
    split <;> simp <;> omega
/-- The ones of a number from place i on. -/
def onesGo (m : Nat) : Nat → Nat → List Int
  | _, 0 => []
  | i, f + 1 => (if m / 2 ^ i % 2 = 1 then [(i : Int)] else []) ++ onesGo m (i + 1) f
theorem onesGo_snoc (m : Nat) : ∀ (f i : Nat), onesGo m i (f + 1) = onesGo m i f ++ (if m / 2 ^ (i + f) % 2 = 1 then [((i + f : Nat) : Int)] else [])
  | 0, i => by simp [onesGo]
  | f + 1, i => by
    have h := onesGo_snoc m f (i + 1)
    rw [onesGo, h]
    simp only [onesGo, List.append_assoc]
    rw [show i + 1 + f = i + (f + 1) by omega]
theorem onesGo_len (m : Nat) : ∀ (f i : Nat), (onesGo m i f).length ≤ f
  | 0, _ => Nat.le_refl _
  | f + 1, i => by
    have := onesGo_len m f (i + 1)
    simp only [onesGo, List.length_append]
    split <;> simp <;> omega
theorem onesGo_zero (m : Nat) : ∀ (f i : Nat), m < 2 ^ i → onesGo m i f = []
  | 0, _, _ => rfl
  | f + 1, i, h => by
    have h1 : m < 2 ^ (i + 1) := Nat.lt_of_lt_of_le h (Nat.pow_le_pow_right (by decide) (by omega))
    simp [onesGo, onesGo_zero m f (i + 1) h1, Nat.div_eq_of_lt h]
theorem onesGo_add (m : Nat) : ∀ (f g i : Nat), onesGo m i (f + g) = onesGo m i f ++ onesGo m (i + f) g
  | 0, g, i => by simp [onesGo]
  | f + 1, g, i => by
    rw [show f + 1 + g = (f + g) + 1 by omega]
    simp only [onesGo, onesGo_add m f g (i + 1), List.append_assoc]
    rw [show i + 1 + f = i + (f + 1) by omega]
theorem onesGo_mask : ∀ (bs pre : List Bool), onesGo (maskB (pre ++ bs)) pre.length bs.length = idxGo pre.length bs
  | [], _ => rfl
  | b :: bs, pre => by
    have h := onesGo_mask bs (pre ++ [b])
    rw [List.append_assoc] at h
    simp only [List.cons_append, List.nil_append, List.length_append, List.length_cons, List.length_nil, Nat.zero_add] at h
    simp only [List.length_cons, onesGo, idxGo, h, maskB_div]
    congr 1
    have : (b.toNat + 2 * maskB bs) % 2 = 1 ↔ b = true := by cases b <;> simp
    simp only [maskB, this]
theorem lt_bitLen (x : Nat) (h : x < 2 ^ 64) : x < 2 ^ Lib.bitLen x := by
  by_cases h0 : x = 0
  · subst h0; decide
  · exact (Lib.bitLenAux_bounds 64 x h h0).2.2
theorem ones_mask (bs : List Bool) (h : bs.length ≤ 64) : onesGo (maskB bs) 0 (Lib.bitLen (maskB bs)) = idxGo 0 bs := by
  have h1 := maskB_lt bs
  have h2 := Lib.bitLen_le (maskB bs) bs.length h h1
  have h3 := onesGo_mask bs []
  simp only [List.nil_append, List.length_nil] at h3
  rw [← h3]
  obtain ⟨g, hg⟩ : ∃ g, bs.length = Lib.bitLen (maskB bs) + g := ⟨bs.length - Lib.bitLen (maskB bs), by omega⟩
  rw [hg, onesGo_add, onesGo_zero _ g _ ?_, List.append_nil]
  rw [Nat.zero_add]
  exact lt_bitLen _ (Nat.lt_of_lt_of_le h1 (Nat.pow_le_pow_right (by decide) h))
/-- A bit set beyond a number's bits. -/
theorem or_new (m k : Nat) (h : m < 2 ^ k) (hk : k < 63) : bits .or .u64 (m : Int) ((2 ^ k : Nat) : Int) = ((m + 2 ^ k : Nat) : Int) := by
  have hp : 2 ^ k < 2 ^ 63 := Nat.pow_lt_pow_right (by decide) hk
  have e := (bits_nat .u64 63 (by decide) (fun n h0 h1 => by simp [IntKind.wrap, IntKind.bits, IntKind.signed]; omega) m (2 ^ k) (Nat.lt_trans h hp) hp).2
  rw [e]
  have := Nat.two_pow_add_eq_or_of_lt h 1
  rw [Nat.mul_one] at this
  rw [Nat.or_comm, ← this, Nat.add_comm]
theorem or_wrap (m k : Nat) (h : m < 2 ^ k) (hk : k < 63) : bits .or .u64 (m : Int) (IntKind.u64.wrap (2 ^ k)) = ((m + 2 ^ k : Nat) : Int) := by
  have hp : 2 ^ k < 2 ^ 63 := Nat.pow_lt_pow_right (by decide) hk
  have e : (2 : Int) ^ k = ((2 ^ k : Nat) : Int) := by simp
  have e2 : IntKind.u64.wrap ((2 ^ k : Nat) : Int) = ((2 ^ k : Nat) : Int) := by
    generalize 2 ^ k = p at hp
    simp [IntKind.wrap, IntKind.bits, IntKind.signed]; omega
  rw [e, e2]
  exact or_new m k h hk
end Go.Proofs.YtdbgnbohdplndaaGreatDoor
