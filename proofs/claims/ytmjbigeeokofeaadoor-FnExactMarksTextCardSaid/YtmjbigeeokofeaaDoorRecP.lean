/- Plain: the use of a mark is recorded: what RecordUse answers. No program in sight. -/
import Derived.Test.YtmjbigeeokofeaaDoorMarkCmp
namespace Go.Proofs.YtmjbigeeokofeaaDoor
open Go.ChangeShapes Go.WideShapes Go.ChangeAt Go.RowKit

def hitM (nm : ByteArray) (n aw : Int) (m : Mk) : Bool := (m.name.toList == nm.toList) && inB n (m.fr - aw) (m.to + aw)
def wideM (n : Int) (m : Mk) : Mk := ⟨m.name, min m.fr n, max m.to n⟩
/-- The first mark that is hit made wider. -/
def widM (nm : ByteArray) (n aw : Int) : List Mk → Option (List Mk)
  | [] => none
  | m :: xs => if hitM nm n aw m then some (wideM n m :: xs) else (widM nm n aw xs).map (m :: ·)
theorem widM_none {nm : ByteArray} {n aw : Int} : ∀ {xs : List Mk}, (∀ m ∈ xs, hitM nm n aw m = false) → widM nm n aw xs = none
  | [], _ => rfl
  | m :: xs, h => by
    unfold widM
    rw [h m (by simp), widM_none (fun x hx => h x (by simp [hx]))]
    rfl
theorem widM_at {nm : ByteArray} {n aw : Int} : ∀ {xs : List Mk} {k : Nat} {m : Mk}, xs[k]? = some m → (∀ x ∈ xs.take k, hitM nm n aw x = false) → hitM nm n aw m = true → widM nm n aw xs = some (xs.set k (wideM n m))
  | [], _, _, h, _, _ => by cases h
  | y :: ys, 0, m, h, _, hm => by
    obtain rfl : y = m := by simpa using h
    unfold widM
    rw [hm]
    rfl
  | y :: ys, k + 1, m, h, hb, hm => by
    unfold widM
    rw [hb y (by simp), widM_at (k := k) (by simpa using h) (fun x hx => hb x (by simp [hx])) hm]
    rfl
/-- A mark is put behind those that are less. -/
def insM (m : Mk) : List Mk → List Mk
  | [] => [m]
  | x :: xs => if ltMk x m then x :: insM m xs else m :: x :: xs
def srtM (xs : List Mk) : List Mk := xs.foldl (fun out m => insM m out) []
theorem insM_at {m : Mk} : ∀ {out : List Mk} {k : Nat}, (∀ x ∈ out.take k, ltMk x m = true) → (∀ x, out[k]? = some x → ltMk x m = false) → insM m out = out.take k ++ m :: out.drop k
  | [], k, _, _ => by simp [insM]
  | y :: ys, 0, _, h2 => by
    unfold insM
    rw [h2 y (by simp)]
    rfl
  | y :: ys, k + 1, h1, h2 => by
    unfold insM
    rw [h1 y (by simp), if_pos rfl, insM_at (k := k) (fun x hx => h1 x (by simp [hx])) (fun x hx => h2 x (by simpa using hx))]
    rfl
theorem insM_perm (m : Mk) : ∀ out : List Mk, (insM m out).Perm (m :: out)
  | [] => List.Perm.refl _
  | x :: xs => by
    unfold insM
    split
    · exact ((insM_perm m xs).cons x).trans (List.Perm.swap m x xs)
    · exact List.Perm.refl _
theorem insM_len (m : Mk) (out : List Mk) : (insM m out).length = out.length + 1 := by simpa using (insM_perm m out).length_eq
theorem srtM_take {xs : List Mk} {k : Nat} {m : Mk} (h : xs[k]? = some m) : srtM (xs.take (k + 1)) = insM m (srtM (xs.take k)) := by
  obtain ⟨hk, rfl⟩ := List.getElem?_eq_some_iff.1 h
  unfold srtM
  rw [List.take_succ_eq_append_getElem hk, List.foldl_append]
  rfl
theorem srt_foldl : ∀ (xs out : List Mk), (xs.foldl (fun out m => insM m out) out).Perm (xs ++ out)
  | [], out => List.Perm.refl _
  | x :: xs, out => by
    simp only [List.foldl_cons, List.cons_append]
    exact ((srt_foldl xs (insM x out)).trans ((insM_perm x out).append_left xs)).trans List.perm_middle
theorem srtM_perm (xs : List Mk) : (srtM xs).Perm xs := by simpa [srtM] using srt_foldl xs []
theorem srtM_len (xs : List Mk) : (srtM xs).length = xs.length := (srtM_perm xs).length_eq
theorem srtM_snoc (xs : List Mk) (m : Mk) : srtM (xs ++ [m]) = insM m (srtM xs) := by simp [srtM]

/-! ### The order -/
theorem bl_trans : ∀ {x y z : List UInt8}, Op.bytesLess x y = true → Op.bytesLess y z = true → Op.bytesLess x z = true
  | [], _, [], _, h => by cases ‹List UInt8› <;> simp [Op.bytesLess] at h
  | [], _, _ :: _, _, _ => by simp [Op.bytesLess]
  | _ :: _, [], _, h, _ => by simp [Op.bytesLess] at h
  | _ :: _, _ :: _, [], _, h => by simp [Op.bytesLess] at h
  | a :: x, b :: y, c :: z, h1, h2 => by
    simp only [Op.bytesLess] at h1 h2 ⊢
    have ih := bl_trans (x := x) (y := y) (z := z)
    by_cases e1 : a = b
    · subst e1
      by_cases e2 : a = c
      · subst e2; simp at h1 h2 ⊢; exact ih h1 h2
      · simp [e2] at h1 h2 ⊢; exact h2
    · by_cases e2 : b = c
      · subst e2; simp [e1] at h1 h2 ⊢; exact h1
      · have h1' : a < b := by simpa [e1] using h1
        have h2' : b < c := by simpa [e2] using h2
        have h3 : a < c := UInt8.lt_trans h1' h2'
        have h4 : ¬ a = c := fun e => by subst e; exact absurd h1' (UInt8.lt_asymm h2')
        simp [h3]
theorem ltMk_trans {a b c : Mk} (h1 : ltMk a b = true) (h2 : ltMk b c = true) : ltMk a c = true := by
  unfold ltMk at *
  simp only [Bool.or_eq_true, Bool.and_eq_true, beq_iff_eq, decide_eq_true_eq] at *
  rcases h1 with h1 | ⟨e1, h1⟩
  · rcases h2 with h2 | ⟨e2, h2⟩
    · exact .inl (bl_trans h1 h2)
    · exact .inl (e2 ▸ h1)
  · rcases h2 with h2 | ⟨e2, h2⟩
    · exact .inl (e1 ▸ h2)
    · exact .inr ⟨e1.trans e2, by omega⟩
def sameK (a b : Mk) : Bool := (a.name.toList == b.name.toList) && decide (a.fr = b.fr)
theorem sameK_comm (a b : Mk) : sameK a b = sameK b a := by
  unfold sameK
  rw [Bool.beq_comm (a := a.name.toList)]
  congr 1
  exact decide_eq_decide.2 ⟨Eq.symm, Eq.symm⟩
theorem sameK_lt {a b : Mk} (h : ltMk a b = true) : sameK a b = false := by
  unfold ltMk at h
  unfold sameK
  rcases bl_tri a.name.toList b.name.toList with ⟨k1, k2, k3, _⟩ | ⟨k1, k2, k3, _⟩ | ⟨k1, k2, k3, _⟩
  · simp [k3]
  · simp [k3]
  · simp [k1, k3] at h; simp; omega
theorem lt_of_not {a b : Mk} (h : ltMk b a = false) (hs : sameK a b = false) : ltMk a b = true := by
  unfold ltMk at *
  unfold sameK at hs
  rcases bl_tri a.name.toList b.name.toList with ⟨k1, k2, k3, k4⟩ | ⟨k1, k2, k3, k4⟩ | ⟨k1, k2, k3, k4⟩
  · simp [k1]
  · simp [k2] at h
  · simp [k3] at hs; simp [k2, k4] at h; simp [k3]; omega
theorem lt_asymm {a b : Mk} (h : ltMk a b = true) : ltMk b a = false := by
  unfold ltMk at *
  rcases bl_tri a.name.toList b.name.toList with ⟨k1, k2, k3, k4⟩ | ⟨k1, k2, k3, k4⟩ | ⟨k1, k2, k3, k4⟩
  · simp [k2, k4]
  · simp [k1, k3] at h
  · simp [k1, k3] at h; simp [k2]; omega
abbrev Up (xs : List Mk) : Prop := xs.Pairwise fun a b => ltMk a b = true
abbrev NoK (xs : List Mk) : Prop := xs.Pairwise fun a b => sameK a b = false
theorem up_go : ∀ {xs : List Mk} {p : Mk}, upGo okMk ltMk (some p) xs = true → (∀ x ∈ xs, ltMk p x = true) ∧ Up xs
  | [], _, _ => ⟨by simp, List.Pairwise.nil⟩
  | x :: xs, p, h => by
    simp only [upGo, Bool.and_eq_true] at h
    obtain ⟨h1, h2⟩ := up_go h.2
    refine ⟨fun y hy => ?_, List.Pairwise.cons h1 h2⟩
    rcases List.mem_cons.1 hy with rfl | hy
    · exact h.1.2
    · exact ltMk_trans h.1.2 (h1 y hy)
theorem up_of {xs : List Mk} (h : areMarksB xs = true) : Up xs ∧ (∀ x ∈ xs, okMk x = true) ∧ xs.length ≤ 40 := by
  unfold areMarksB at h
  simp only [Bool.and_eq_true, decide_eq_true_eq] at h
  refine ⟨?_, upGo_all h.1, h.2⟩
  cases xs with
  | nil => exact List.Pairwise.nil
  | cons x xs =>
    have h1 := h.1
    simp only [upGo, Bool.and_eq_true] at h1
    have := up_go h1.2
    exact List.Pairwise.cons this.1 this.2
theorem Up.nok {xs : List Mk} (h : Up xs) : NoK xs := h.imp sameK_lt
theorem foldl_up : ∀ (xs out : List Mk), Up (out ++ xs) → xs.foldl (fun out m => insM m out) out = out ++ xs
  | [], out, _ => by simp
  | x :: xs, out, h => by
    have h1 : ∀ y ∈ out, ltMk y x = true := fun y hy => (List.pairwise_append.1 h).2.2 y hy x (by simp)
    have e : insM x out = out ++ [x] := by
      have := insM_at (m := x) (out := out) (k := out.length) (fun y hy => h1 y (by simpa using hy)) (fun y hy => by simp at hy)
      simpa using this
    simp only [List.foldl_cons]
    rw [e, foldl_up xs (out ++ [x]) (by simpa using h)]
    simp
theorem srtM_up {xs : List Mk} (h : Up xs) : srtM xs = xs := by simpa [srtM] using foldl_up xs [] (by simpa using h)
theorem insM_up {m : Mk} : ∀ {xs : List Mk}, Up xs → (∀ x ∈ xs, sameK x m = false) → Up (insM m xs)
  | [], _, _ => by simp [insM]
  | x :: xs, h, hs => by
    obtain ⟨h1, h2⟩ := List.pairwise_cons.1 h
    unfold insM
    by_cases hl : ltMk x m = true
    · rw [if_pos hl]
      refine List.Pairwise.cons (fun y hy => ?_) (insM_up h2 (fun y hy => hs y (by simp [hy])))
      rcases List.mem_cons.1 ((insM_perm m xs).mem_iff.1 hy) with rfl | hy
      · exact hl
      · exact h1 y hy
    · rw [if_neg hl]
      have hs' := hs x (by simp)
      have hlt : ltMk m x = true := lt_of_not (by simpa using hl) (by rw [sameK_comm]; exact hs')
      refine List.Pairwise.cons (fun y hy => ?_) h
      rcases List.mem_cons.1 hy with rfl | hy
      · exact hlt
      · exact ltMk_trans hlt (h1 y hy)
theorem NoK.perm {xs ys : List Mk} (h : NoK xs) (hp : ys.Perm xs) : NoK ys :=
  (hp.pairwise_iff (fun {a b} e => by rw [sameK_comm]; exact e)).2 h
/-- There is one sorted list of marks of different keys. -/
theorem sort_one {xs ys zs : List Mk} (hn : NoK xs) (hy : ys.Perm xs) (hys : ys.Pairwise fun a b => ltMk b a = false) (hz : zs.Perm xs) (hzs : Up zs) : ys = zs := by
  have hu : Up ys := (hys.and (hn.perm hy)).imp (fun {a b} e => lt_of_not e.1 e.2)
  exact (hy.trans hz.symm).eq_of_pairwise (fun a b _ _ h1 h2 => by rw [lt_asymm h1] at h2; cases h2) hu hzs
def okRec (nm : ByteArray) (n aw : Int) : Bool := dayB n && nameB nm.data.toList 12 && inB aw 0 10000
def recR (xs : List Mk) (nm : ByteArray) (n aw : Int) : List Mk × Int :=
  if areMarksB xs then
    if okRec nm n aw then
      match widM nm n aw xs with
      | some ys => (ys, 0)
      | none => if 40 ≤ xs.length then ([], 3) else (insM ⟨nm, n, n⟩ xs, 0)
    else ([], 2)
  else ([], 1)
theorem hit_none {xs : List Mk} {nm : ByteArray} {n aw : Int} (h : areMarksB xs = true) (ho : okRec nm n aw = true) (hb : ∀ m ∈ xs, hitM nm n aw m = false) : ∀ x ∈ xs, sameK x ⟨nm, n, n⟩ = false := by
  intro x hx
  have hk := (up_of h).2.1 x hx
  have h1 := hb x hx
  unfold okRec at ho
  unfold okMk at hk
  simp only [Bool.and_eq_true] at ho hk
  have h2 := spanB_bd hk.2
  have h3 : 0 ≤ aw := by have := ho.2; simp [inB] at this; omega
  unfold hitM at h1
  unfold sameK
  cases e : (x.name.toList == nm.toList)
  · simp
  · rw [e] at h1
    simp [inB] at h1
    simp
    omega
theorem wide_up {xs : List Mk} {nm : ByteArray} {n aw : Int} {k : Nat} {m : Mk} (h : areMarksB xs = true) (ho : okRec nm n aw = true) (hm : xs[k]? = some m) (hb : ∀ x ∈ xs.take k, hitM nm n aw x = false) (hh : hitM nm n aw m = true) : Up (xs.set k (wideM n m)) := by
  obtain ⟨hu, hok, _⟩ := up_of h
  obtain ⟨hk, rfl⟩ := List.getElem?_eq_some_iff.1 hm
  have e : xs = xs.take k ++ xs[k] :: xs.drop (k + 1) := by rw [← List.drop_eq_getElem_cons hk, List.take_append_drop]
  have e2 : xs.set k (wideM n xs[k]) = xs.take k ++ wideM n xs[k] :: xs.drop (k + 1) := by rw [List.set_eq_take_append_cons_drop, if_pos hk]
  rw [e2]
  rw [e] at hu
  generalize hg : xs[k] = m at *
  have hpre : ∀ x ∈ xs.take k, okMk x = true := fun x hx => hok x (List.mem_of_mem_take hx)
  generalize xs.take k = a at *
  generalize xs.drop (k + 1) = b at *
  unfold okRec at ho
  simp only [Bool.and_eq_true] at ho
  have h3 : 0 ≤ aw := by have := ho.2; simp [inB] at this; omega
  unfold hitM at hh
  simp only [Bool.and_eq_true, beq_iff_eq] at hh
  obtain ⟨hn1, hn2⟩ := hh
  simp [inB] at hn2
  obtain ⟨ha, hmb, hab⟩ := List.pairwise_append.1 hu
  obtain ⟨hm1, hm2⟩ := List.pairwise_cons.1 hmb
  refine List.pairwise_append.2 ⟨ha, List.pairwise_cons.2 ⟨fun y hy => ?_, hm2⟩, fun x hx y hy => ?_⟩
  · have := hm1 y hy
    unfold ltMk wideM at *
    simp only [Bool.or_eq_true, Bool.and_eq_true, beq_iff_eq, decide_eq_true_eq] at *
    rcases this with h | ⟨h, h'⟩
    · exact .inl h
    · exact .inr ⟨h, by omega⟩
  · rcases List.mem_cons.1 hy with rfl | hy
    · have h1 := hab x hx m (by simp)
      have h2 := hb x hx
      have h4 := hpre x hx
      unfold okMk at h4
      simp only [Bool.and_eq_true] at h4
      have h5 := spanB_bd h4.2
      unfold ltMk wideM at *
      unfold hitM at h2
      simp only [Bool.or_eq_true, Bool.and_eq_true, beq_iff_eq, decide_eq_true_eq] at *
      rcases h1 with h | ⟨h, h'⟩
      · exact .inl h
      · refine .inr ⟨h, ?_⟩
        rw [h, hn1] at h2
        simp [inB] at h2
        omega
    · exact hab x hx y (by simp [hy])
theorem recR_len (xs : List Mk) (nm : ByteArray) (n aw : Int) : (recR xs nm n aw).1.length ≤ 41 := by
  have hw : ∀ (xs ys : List Mk), widM nm n aw xs = some ys → ys.length = xs.length := by
    intro xs
    induction xs with
    | nil => intro ys h; cases h
    | cons x xs ih =>
      intro ys h
      unfold widM at h
      split at h
      · injection h with h; subst h; simp
      · cases hq : widM nm n aw xs with
        | none => rw [hq] at h; cases h
        | some zs => rw [hq] at h; simp at h; subst h; simp [ih zs hq]
  unfold recR
  by_cases hA : areMarksB xs = true
  · have h40 := (up_of hA).2.2
    rw [if_pos hA]
    split
    · split
      · rename_i ys h
        have := hw xs ys h
        show ys.length ≤ 41
        omega
      · split
        · simp
        · show (insM ⟨nm, n, n⟩ xs).length ≤ 41
          rw [insM_len]; omega
    · simp
  · rw [if_neg hA]; simp
end Go.Proofs.YtmjbigeeokofeaaDoor
