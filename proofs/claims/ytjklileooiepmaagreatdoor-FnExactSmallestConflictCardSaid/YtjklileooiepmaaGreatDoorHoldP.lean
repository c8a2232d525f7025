/- The number of days of spans; plain. -/
import Derived.Test.YtjklileooiepmaaGreatDoorCal
import Derived.Test.YtjklileooiepmaaGreatDoorTCl
import Derived.Test.YtjklileooiepmaaGreatDoorRgs
import Derived.Test.YtjklileooiepmaaGreatDoorClauseS
import Derived.Test.YtjklileooiepmaaGreatDoorTSp
namespace Go.Proofs.YtjklileooiepmaaGreatDoor
section
def rgHit (c : Cl) (n : Int) (r : Rg) : Bool := (r.king.toList == c.king.toList) && (inB n r.fr r.to && decide (rgY r.fr n = c.number))
def holdB (rs : List Rg) (c : Cl) (n : Int) : Bool :=
  if c.kind = 0 then decide ((mnO n : Int) = c.month) && decide (dyO n = c.number)
  else if c.kind = 1 then fhO c.feast c.relation c.weekday n
  else if c.kind = 2 then rs.any (rgHit c n)
  else if c.kind = 3 then decide (yoO c.style n = some c.number)
  else if c.kind = 4 then decide (ioO c.style n = c.number)
  else decide ((n + 5) % 7 = c.weekday)
theorem holdB_0 {rs : List Rg} {c : Cl} {n : Int} (h : c.kind = 0) : holdB rs c n = (decide ((mnO n : Int) = c.month) && decide (dyO n = c.number)) := by unfold holdB; rw [if_pos h]
theorem holdB_1 {rs : List Rg} {c : Cl} {n : Int} (h : c.kind = 1) : holdB rs c n = fhO c.feast c.relation c.weekday n := by unfold holdB; rw [h]; rfl
theorem holdB_2 {rs : List Rg} {c : Cl} {n : Int} (h : c.kind = 2) : holdB rs c n = rs.any (rgHit c n) := by unfold holdB; rw [h]; rfl
theorem holdB_3 {rs : List Rg} {c : Cl} {n : Int} (h : c.kind = 3) : holdB rs c n = decide (yoO c.style n = some c.number) := by unfold holdB; rw [h]; rfl
theorem holdB_4 {rs : List Rg} {c : Cl} {n : Int} (h : c.kind = 4) : holdB rs c n = decide (ioO c.style n = c.number) := by unfold holdB; rw [h]; rfl
theorem holdB_5 {rs : List Rg} {c : Cl} {n : Int} (h : c.kind = 5) : holdB rs c n = decide ((n + 5) % 7 = c.weekday) := by unfold holdB; rw [h]; rfl
def nextN (n : Int) : Nat := (min (n + 20000) 730499 - n + 1).toNat
def nextR (rs : List Rg) (c : Cl) (n : Int) : Int × Int :=
  if okCl c = true ∧ areReignsB rs = true then
    if dayB n = true then match fstR (holdB rs c) n (nextN n) with
      | some m => (m, 0)
      | none => (0, 4)
    else (0, 2)
  else (0, 1)
end

section
def fitB (rs : List Rg) (cs : List Cl) (n : Int) : Bool := cs.all (fun c => holdB rs c n)
/-- One more day at the end of a list of spans. -/
def spStep (out : List Sp) (n : Int) : List Sp := match out.getLast? with
  | some s => if s.to = n - 1 then out.dropLast ++ [⟨s.fr, n⟩] else out ++ [⟨n, n⟩]
  | none => [⟨n, n⟩]
def spRun (q : Int → Bool) (a : Int) : Nat → List Sp → List Sp
  | 0, out => out
  | k + 1, out => spRun q (a + 1) k (if q a = true then spStep out a else out)
theorem spRun_hit {q : Int → Bool} {a : Int} {out : List Sp} (k : Nat) (h : q a = true) : spRun q a (k + 1) out = spRun q (a + 1) k (spStep out a) := by
  show spRun q (a + 1) k (if q a = true then spStep out a else out) = _
  rw [if_pos h]
theorem spRun_no {q : Int → Bool} {a : Int} {out : List Sp} (k : Nat) (h : q a = false) : spRun q a (k + 1) out = spRun q (a + 1) k out := by
  show spRun q (a + 1) k (if q a = true then spStep out a else out) = _
  rw [if_neg (by simp [h])]
theorem spStep_nil (n : Int) : spStep [] n = [⟨n, n⟩] := rfl
theorem spStep_snoc (out : List Sp) (s : Sp) (n : Int) : spStep (out ++ [s]) n = if s.to = n - 1 then out ++ [⟨s.fr, n⟩] else out ++ [s] ++ [⟨n, n⟩] := by
  unfold spStep
  rw [List.getLast?_concat]
  simp
theorem spStep_head {out : List Sp} {x : Int} (n : Int) (h : out.head?.map Sp.fr = some x) : (spStep out n).head?.map Sp.fr = some x := by
  rcases List.eq_nil_or_concat out with rfl | ⟨ys, s, rfl⟩
  · cases h
  · rw [List.concat_eq_append] at h ⊢
    rw [spStep_snoc]
    cases ys with
    | nil =>
      simp at h
      split <;> simp [h]
    | cons y ys =>
      simp at h
      split <;> simp [h]
theorem spRun_head {q : Int → Bool} : ∀ (k : Nat) {a x : Int} {out : List Sp}, out.head?.map Sp.fr = some x → (spRun q a k out).head?.map Sp.fr = some x
  | 0, _, _, _, h => h
  | k + 1, a, x, out, h => by
    cases hq : q a
    · rw [spRun_no k hq]; exact spRun_head k h
    · rw [spRun_hit k hq]; exact spRun_head k (spStep_head a h)
theorem spRun_first {q : Int → Bool} : ∀ (k : Nat) (a : Int), (spRun q a k []).head?.map Sp.fr = fstR q a k
  | 0, _ => rfl
  | k + 1, a => by
    cases hq : q a
    · rw [spRun_no k hq, fstR_no k hq]; exact spRun_first k (a + 1)
    · rw [spRun_hit k hq, fstR_hit k hq]; exact spRun_head k rfl
theorem spStep_len (out : List Sp) (n : Int) : (spStep out n).length ≤ out.length + 1 := by
  rcases List.eq_nil_or_concat out with rfl | ⟨ys, s, rfl⟩
  · simp [spStep_nil]
  · rw [List.concat_eq_append, spStep_snoc]
    split <;> simp
theorem spRun_len {q : Int → Bool} : ∀ (k : Nat) {a : Int} {out : List Sp}, (spRun q a k out).length ≤ out.length + k
  | 0, _, _ => Nat.le_refl _
  | k + 1, a, out => by
    cases hq : q a
    · rw [spRun_no k hq]
      have := spRun_len (q := q) k (a := a + 1) (out := out)
      omega
    · rw [spRun_hit k hq]
      have := spRun_len (q := q) k (a := a + 1) (out := spStep out a)
      have := spStep_len out a
      omega
/-- All spans lie in a range. -/
def inSp (lo hi : Int) (xs : List Sp) : Prop := ∀ s ∈ xs, lo ≤ s.fr ∧ s.fr ≤ hi ∧ lo ≤ s.to ∧ s.to ≤ hi
theorem inSp_step {lo hi n : Int} {out : List Sp} (h : inSp lo hi out) (h1 : lo ≤ n) (h2 : n ≤ hi) : inSp lo hi (spStep out n) := by
  rcases List.eq_nil_or_concat out with rfl | ⟨ys, s, rfl⟩
  · intro t ht
    simp [spStep_nil] at ht
    subst ht
    exact ⟨h1, h2, h1, h2⟩
  · rw [List.concat_eq_append] at h ⊢
    rw [spStep_snoc]
    have hs := h s (by simp)
    split
    · intro t ht
      rcases List.mem_append.1 ht with ht | ht
      · exact h t (by simp [ht])
      · simp at ht
        subst ht
        exact ⟨hs.1, hs.2.1, h1, h2⟩
    · intro t ht
      rcases List.mem_append.1 ht with ht | ht
      · exact h t ht
      · simp at ht
        subst ht
        exact ⟨h1, h2, h1, h2⟩
theorem inSp_run {q : Int → Bool} {lo hi : Int} : ∀ (k : Nat) {a : Int} {out : List Sp}, inSp lo hi out → lo ≤ a → a + k ≤ hi + 1 → inSp lo hi (spRun q a k out)
  | 0, _, _, h, _, _ => h
  | k + 1, a, out, h, h1, h2 => by
    cases hq : q a
    · rw [spRun_no k hq]; exact inSp_run k h (by omega) (by omega)
    · rw [spRun_hit k hq]; exact inSp_run k (inSp_step h h1 (by omega)) (by omega) (by omega)
end

section
def cntSp : List Sp → Int
  | [] => 0
  | s :: ss => (s.to - s.fr + 1) + cntSp ss
theorem cntSp_app : ∀ (xs ys : List Sp), cntSp (xs ++ ys) = cntSp xs + cntSp ys
  | [], ys => by simp [cntSp]
  | x :: xs, ys => by
    simp only [List.cons_append, cntSp, cntSp_app xs ys]
    omega
theorem cnt_step {xs : List Sp} {k : Nat} {m : Sp} (h : xs[k]? = some m) : cntSp (xs.take (k + 1)) = cntSp (xs.take k) + (m.to - m.fr + 1) := by
  obtain ⟨hk, rfl⟩ := List.getElem?_eq_some_iff.1 h
  rw [List.take_succ_eq_append_getElem hk, cntSp_app]
  simp [cntSp]
theorem cnt_bd : ∀ {xs : List Sp}, inSp 0 730499 xs → -(730500 * (xs.length : Int)) ≤ cntSp xs ∧ cntSp xs ≤ 730500 * (xs.length : Int)
  | [], _ => by simp [cntSp]
  | x :: xs, h => by
    have h1 := cnt_bd (xs := xs) (fun s hs => h s (by simp [hs]))
    have h2 := h x (by simp)
    simp only [cntSp, List.length_cons]
    omega
theorem inSp_take {lo hi : Int} {xs : List Sp} (h : inSp lo hi xs) (k : Nat) : inSp lo hi (xs.take k) := fun s hs => h s (List.mem_of_mem_take hs)
end
end Go.Proofs.YtjklileooiepmaaGreatDoor
