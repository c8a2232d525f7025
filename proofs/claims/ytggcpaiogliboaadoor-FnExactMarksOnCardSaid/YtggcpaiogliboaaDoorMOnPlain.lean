/- Plain: the names of the marks in use on a day, compacted, are the names without doubles. -/
import Derived.Test.YtggcpaiogliboaaDoorMOnSpec
import Derived.Test.YtggcpaiogliboaaDoorCompPlain
namespace Go.Proofs.YtggcpaiogliboaaDoor

def onStepI (n : Int) (out : List ByteArray) (m : Mk) : List ByteArray := if inB n m.fr m.to then out ++ [m.name] else out
def onImpl (n : Int) (xs : List Mk) : List ByteArray := xs.foldl (onStepI n) []
theorem foldl_onI_len (n : Int) : ∀ (xs : List Mk) (out : List ByteArray), (xs.foldl (onStepI n) out).length ≤ out.length + xs.length
  | [], out => Nat.le_refl _
  | m :: xs, out => by
    have h := foldl_onI_len n xs (onStepI n out m)
    have h2 : (onStepI n out m).length ≤ out.length + 1 := by unfold onStepI; split <;> simp
    simp only [List.foldl_cons, List.length_cons]
    omega
theorem onImpl_len (n : Int) (xs : List Mk) : (onImpl n xs).length ≤ xs.length := by have := foldl_onI_len n xs []; simpa [onImpl] using this
theorem onImpl_take {n : Int} {xs : List Mk} {k : Nat} {m : Mk} (h : xs[k]? = some m) : onImpl n (xs.take (k + 1)) = onStepI n (onImpl n (xs.take k)) m := by
  obtain ⟨hk, rfl⟩ := List.getElem?_eq_some_iff.1 h
  unfold onImpl
  rw [List.take_succ_eq_append_getElem hk, List.foldl_append]
  rfl

theorem bl_le_trans : ∀ x y z : List UInt8, Op.bytesLess y x = false → Op.bytesLess z y = false → Op.bytesLess z x = false
  | [], _, z, _, _ => by cases z <;> rfl
  | _ :: _, [], _, h, _ => by simp [Op.bytesLess] at h
  | _ :: _, _ :: _, [], _, h => by simp [Op.bytesLess] at h
  | a :: x, b :: y, c :: z, h1, h2 => by
    have ih := bl_le_trans x y z
    simp only [Op.bytesLess, Bool.or_eq_false_iff, Bool.and_eq_false_iff, decide_eq_false_iff_not, UInt8.lt_iff_toNat_lt, beq_eq_false_iff_ne, ne_eq, ← UInt8.toNat_inj] at h1 h2 ⊢
    refine ⟨by omega, ?_⟩
    by_cases e : c.toNat = a.toNat
    · right
      exact ih (h1.2.resolve_left (by omega)) (h2.2.resolve_left (by omega))
    · exact .inl e
theorem baOf_data (s : ByteArray) : baOf s.data.toList = s := by cases s; simp [baOf]
theorem data_inj {s t : ByteArray} (h : s.data.toList = t.data.toList) : s = t := by rw [← baOf_data s, h, baOf_data]
theorem toL_inj {s t : ByteArray} (h : s.toList = t.toList) : s = t := data_inj (by rw [← Lib.toList_data, ← Lib.toList_data]; exact h)
theorem cmpct_snoc (ys : List ByteArray) (x : ByteArray) : cmpct (ys ++ [x]) = cmpct ys ++ (if ys.getLast? = some x then [] else [x]) := by
  unfold cmpct
  rw [List.map_append, List.map_singleton, compact_snoc, List.map_append]
  congr 1
  have : (List.map (fun s : ByteArray => s.data.toList) ys).getLast? = some x.data.toList ↔ ys.getLast? = some x := by
    rw [List.getLast?_map]
    cases ys.getLast? with
    | none => simp
    | some y =>
      simp only [Option.map_some, Option.some.injEq]
      exact ⟨data_inj, fun e => by rw [e]⟩
  by_cases h : ys.getLast? = some x
  · rw [if_pos h, if_pos (this.2 h)]; rfl
  · rw [if_neg h, if_neg (fun e => h (this.1 e))]; simp [baOf_data]
theorem mem_cmpct (x : ByteArray) (ys : List ByteArray) : x ∈ cmpct ys ↔ x ∈ ys := by
  unfold cmpct
  rw [List.mem_map]
  constructor
  · rintro ⟨l, h, rfl⟩
    rw [mem_compact _ _ _ rfl, List.mem_map] at h
    obtain ⟨s, hs, rfl⟩ := h
    rw [baOf_data]; exact hs
  · exact fun h => ⟨_, (mem_compact _ _ _ rfl).2 (List.mem_map.2 ⟨x, h, rfl⟩), baOf_data x⟩

def leB (a b : ByteArray) : Prop := Op.bytesLess b.toList a.toList = false
theorem leB_trans {a b c : ByteArray} (h : leB a b) (k : leB b c) : leB a c := bl_le_trans _ _ _ h k
theorem leB_refl (a : ByteArray) : leB a a := by
  unfold leB
  rcases bl_tri a.toList a.toList with ⟨h1, h2, _⟩ | ⟨h1, h2, _⟩ | ⟨h1, h2, _⟩
  · rw [h1] at h2; cases h2
  · exact h1
  · exact h1
theorem leB_anti {a b : ByteArray} (h1 : leB a b) (h2 : leB b a) : a = b := by
  unfold leB at h1 h2
  rcases bl_tri a.toList b.toList with ⟨k1, k2, _⟩ | ⟨k1, k2, _⟩ | ⟨k1, k2, k3, _⟩
  · rw [k1] at h2; cases h2
  · rw [k2] at h1; cases h1
  · exact toL_inj (by simpa using k3)
theorem leB_of_lt {p m : Mk} (h : ltMk p m = true) : leB p.name m.name := by
  unfold ltMk at h
  unfold leB
  rcases bl_tri p.name.toList m.name.toList with ⟨k1, k2, k3, _⟩ | ⟨k1, k2, k3, _⟩ | ⟨k1, k2, k3, _⟩
  · exact k2
  · simp [k1, k3] at h
  · exact k2
def Top (out : List ByteArray) (p : Option Mk) : Prop := ∀ l, out.getLast? = some l → (∀ y ∈ out, leB y l) ∧ ∃ q, p = some q ∧ leB l q.name
theorem fold_on (n : Int) : ∀ (xs : List Mk) (p : Option Mk) (out : List ByteArray), upGo okMk ltMk p xs = true → Top out p → xs.foldl (onStep n) (cmpct out) = cmpct (xs.foldl (onStepI n) out)
  | [], _, _, _, _ => rfl
  | m :: xs, p, out, h, ht => by
    have h' : upGo okMk ltMk (some m) xs = true ∧ ∀ q, p = some q → leB q.name m.name := by
      cases p with
      | none => simp [upGo] at h; exact ⟨h.2, fun q e => by cases e⟩
      | some q => simp [upGo] at h; exact ⟨h.2, fun q' e => by cases e; exact leB_of_lt h.1.2⟩
    have hle : ∀ l, out.getLast? = some l → leB l m.name := fun l hl => by
      obtain ⟨_, q, e, h3⟩ := ht l hl
      exact leB_trans h3 (h'.2 q e)
    simp only [List.foldl_cons]
    by_cases hi : inB n m.fr m.to = true
    · have e1 : onStepI n out m = out ++ [m.name] := by unfold onStepI; rw [if_pos hi]
      have hmem : m.name ∈ out ↔ out.getLast? = some m.name := by
        constructor
        · intro hy
          cases hl : out.getLast? with
          | none => rw [List.getLast?_eq_none_iff.1 hl] at hy; cases hy
          | some l => rw [leB_anti ((ht l hl).1 _ hy) (hle l hl)]
        · exact List.mem_of_getLast?
      have e2 : onStep n (cmpct out) m = cmpct (out ++ [m.name]) := by
        rw [cmpct_snoc]
        unfold onStep
        have hf := fidx_any (isS m.name) (cmpct out)
        have ha : (cmpct out).any (isS m.name) = true ↔ m.name ∈ out := by
          rw [List.any_eq_true]
          constructor
          · rintro ⟨y, hy, e⟩
            have : y = m.name := toL_inj (by simpa [isS] using e)
            rw [← this]
            exact (mem_cmpct _ _).1 hy
          · intro h; exact ⟨m.name, (mem_cmpct _ _).2 h, by simp [isS]⟩
        by_cases hm : m.name ∈ out
        · have h0 : 0 ≤ fidx (isS m.name) (cmpct out) 0 := by have := ha.2 hm; rw [← hf] at this; simpa using this
          rw [if_pos (hmem.1 hm), if_neg (by simp [hi]; omega), List.append_nil]
        · have h0 : ¬ 0 ≤ fidx (isS m.name) (cmpct out) 0 := by
            intro h0
            apply hm
            apply ha.1
            rw [← hf]
            simpa using h0
          rw [if_neg (fun e => hm (hmem.2 e)), if_pos (by simp [hi]; omega)]
      rw [e1, e2]
      refine fold_on n xs (some m) _ h'.1 (fun l hl => ?_)
      rw [List.getLast?_append] at hl
      simp at hl
      subst hl
      refine ⟨fun y hy => ?_, m, rfl, leB_refl _⟩
      rcases List.mem_append.1 hy with hy | hy
      · cases hl : out.getLast? with
        | none => rw [List.getLast?_eq_none_iff.1 hl] at hy; cases hy
        | some l => exact leB_trans ((ht l hl).1 y hy) (hle l hl)
      · rw [List.mem_singleton.1 hy]; exact leB_refl _
    · have e1 : onStepI n out m = out := by unfold onStepI; rw [if_neg hi]
      have e2 : onStep n (cmpct out) m = cmpct out := by unfold onStep; rw [if_neg (by simp [hi])]
      rw [e1, e2]
      exact fold_on n xs (some m) out h'.1 (fun l hl => ⟨(ht l hl).1, m, rfl, hle l hl⟩)
theorem compact_on {n : Int} {xs : List Mk} (h : areMarksB xs = true) : cmpct (onImpl n xs) = onSpec n xs := by
  unfold areMarksB at h
  simp at h
  have := fold_on n xs none [] h.1 (fun l hl => by simp at hl)
  have e : cmpct [] = [] := rfl
  rw [e] at this
  exact this.symm
end Go.Proofs.YtggcpaiogliboaaDoor
