/- The days that fit a dating, as spans; plain. -/
import Derived.Test.YtkfgbnmeiknlnaaGreatDoorHoldP
import Derived.Test.YtkfgbnmeiknlnaaGreatDoorTSp
namespace Go.Proofs.YtkfgbnmeiknlnaaGreatDoor

def fitB (rs : List Rg) (cs : List Cl) (n : Int) : Bool := cs.all (fun c => holdB rs c n)
/-- One more day at the end of a list of spans. -/
def spStep (out : List Sp) (n : Int) : List Sp := match out.getLast? with
  | some s => if s.to = n - 1 then out.dropLast ++ [⟨s.fr, n⟩] else out ++ [⟨n, n⟩]
  | none => [⟨n, n⟩]
def spRun (q : Int → Bool) (a : Int) : Nat → List Sp → List Sp
  | 0, out => out
  | k + 1, out => spRun q (a + 1) k (if q a = true then spStep out a else out)
theorem spRun_hit {q : Int → Bool} {a : Int} {out : List Sp} (k : Nat) (h : q a = true) : spRun q a (k + 1) out = spRun q (a + 1) k (spStep out a) := by
  show spRun q (a + 1) k (if q a = true then spStep out a else out) = _
  rw [if_pos h]
theorem spRun_no {q : Int → Bool} {a : Int} {out : List Sp} (k : Nat) (h : q a = false) : spRun q a (k + 1) out = spRun q (a + 1) k out := by
  show spRun q (a + 1) k (if q a = true then spStep out a else out) = _
  rw [if_neg (by simp [h])]
theorem spStep_nil (n : Int) : spStep [] n = [⟨n, n⟩] := rfl
theorem spStep_snoc (out : List Sp) (s : Sp) (n : Int) : spStep (out ++ [s]) n = if s.to = n - 1 then out ++ [⟨s.fr, n⟩] else out ++ [s] ++ [⟨n, n⟩] := by
  unfold spStep
  rw [List.getLast?_concat]
  simp
theorem spStep_head {out : List Sp} {x : Int} (n : Int) (h : out.head?.map Sp.fr = some x) : (spStep out n).head?.map Sp.fr = some x := by
  rcases List.eq_nil_or_concat out with rfl | ⟨ys, s, rfl⟩
  · cases h
  · rw [List.concat_eq_append] at h ⊢
    rw [spStep_snoc]
    cases ys with
    | nil =>
      simp at h
      split <;> simp [h]
    | cons y ys =>
      simp at h
      split <;> simp [h]
theorem spRun_head {q : Int → Bool} : ∀ (k : Nat) {a x : Int} {out : List Sp}, out.head?.map Sp.fr = some x → (spRun q a k out).head?.map Sp.fr = some x
  | 0, _, _, _, h => h
  | k + 1, a, x, out, h => by
    cases hq : q a
    · rw [spRun_no k hq]; exact spRun_head k h
    · rw [spRun_hit k hq]; exact spRun_head k (spStep_head a h)
theorem spRun_first {q : Int → Bool} : ∀ (k : Nat) (a : Int), (spRun q a k []).head?.map Sp.fr = fstR q a k
  | 0, _ => rfl
  | k + 1, a => by
    cases hq : q a
    · rw [spRun_no k hq, fstR_no k hq]; exact spRun_first k (a + 1)
    · rw [spRun_hit k hq, fstR_hit k hq]; exact spRun_head k rfl
theorem spStep_len (out : List Sp) (n : Int) : (spStep out n).length ≤ out.length + 1 := by
  rcases List.eq_nil_or_concat out with rfl | ⟨ys, s, rfl⟩
  · simp [spStep_nil]
  · rw [List.concat_eq_append, spStep_snoc]
    split <;> simp
theorem spRun_len {q : Int → Bool} : ∀ (k : Nat) {a : Int} {out : List Sp}, (spRun q a k out).length ≤ out.length + k
  | 0, _, _ => Nat.le_refl _
  | k + 1, a, out => by
    cases hq : q a
    · rw [spRun_no k hq]
      have := spRun_len (q := q) k (a := a + 1) (out := out)
      omega
    · rw [spRun_hit k hq]
      have := spRun_len (q := q) k (a := a + 1) (out := spStep out a)
      have := spStep_len out a
      omega
/-- All spans lie in a range. -/
def inSp (lo hi : Int) (xs : List Sp) : Prop := ∀ s ∈ xs, lo ≤ s.fr ∧ s.fr ≤ hi ∧ lo ≤ s.to ∧ s.to ≤ hi
theorem inSp_step {lo hi n : Int} {out : List Sp} (h : inSp lo hi out) (h1 : lo ≤ n) (h2 : n ≤ hi) : inSp lo hi (spStep out n) := by
  rcases List.eq_nil_or_concat out with rfl | ⟨ys, s, rfl⟩
  · intro t ht
    simp [spStep_nil] at ht
    subst ht
    exact ⟨h1, h2, h1, h2⟩
  · rw [List.concat_eq_append] at h ⊢
    rw [spStep_snoc]
    have hs := h s (by simp)
    split
    · intro t ht
      rcases List.mem_append.1 ht with ht | ht
      · exact h t (by simp [ht])
      · simp at ht
        subst ht
        exact ⟨hs.1, hs.2.1, h1, h2⟩
    · intro t ht
      rcases List.mem_append.1 ht with ht | ht
      · exact h t ht
      · simp at ht
        subst ht
        exact ⟨h1, h2, h1, h2⟩
theorem inSp_run {q : Int → Bool} {lo hi : Int} : ∀ (k : Nat) {a : Int} {out : List Sp}, inSp lo hi out → lo ≤ a → a + k ≤ hi + 1 → inSp lo hi (spRun q a k out)
  | 0, _, _, h, _, _ => h
  | k + 1, a, out, h, h1, h2 => by
    cases hq : q a
    · rw [spRun_no k hq]; exact inSp_run k h (by omega) (by omega)
    · rw [spRun_hit k hq]; exact inSp_run k (inSp_step h h1 (by omega)) (by omega) (by omega)
end Go.Proofs.YtkfgbnmeiknlnaaGreatDoor
