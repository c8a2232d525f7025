/- Walks: own rows of structs through a sort of the library; slices.SortFunc at spans, by the first day. -/
import Derived.Test.YtihmacmieofbgaaGreatDoorRowI
import Derived.Shelf.GgSortFunc.InsertionK
import Derived.Sort.LotA
import Derived.Test.YtihmacmieofbgaaGreatDoorSpPlain
import Derived.Test.YtihmacmieofbgaaGreatDoorCmp
import Derived.Test.YtihmacmieofbgaaGreatDoorShelf2
namespace Go.Proofs.YtihmacmieofbgaaGreatDoor
open Go.ChangeShapes Go.WideShapes Go.ChangeAt Go.RowKit Go.Sort

theorem flatK_list {α : Type} [Inhabited α] {enc : α → List Value} {k : Nat} (hk : ∀ x, (enc x).length = k) (hk0 : 0 < k) (xs : List α) : (flatK enc k xs.toArray).toList = xs.flatMap enc := by
  apply List.ext_getElem?
  intro j
  have hl := length_flatMap_enc enc k hk xs
  have hs : (flatK enc k xs.toArray).toList.length = xs.length * k := by simp
  by_cases hj : j < xs.length * k
  · have h1 : j / k < xs.length := (Nat.div_lt_iff_lt_mul hk0).2 hj
    have h2 : j % k < k := Nat.mod_lt _ hk0
    have hx := List.getElem?_eq_getElem h1
    have hv := List.getElem?_eq_getElem (show j % k < (enc xs[j / k]).length by rw [hk]; exact h2)
    have h3 := flatMap_at enc k hk xs (j / k) _ (j % k) _ hx hv
    rw [show j / k * k + j % k = j by rw [Nat.mul_comm]; exact Nat.div_add_mod j k] at h3
    rw [h3, Array.getElem?_toList]
    have h4 := get_flatK enc k xs.toArray j (by simpa using hj)
    rw [getElem!_pos _ _ (by simpa using hj)] at h4
    rw [Array.getElem?_eq_getElem (by simpa using hj), h4]
    congr 1
    have e1 : (xs.toArray)[j / k]! = xs[j / k] := by rw [getElem!_pos _ _ (by simpa using h1)]; simp
    rw [e1, getElem!_pos _ _ (by rw [hk]; exact h2)]
  · rw [List.getElem?_eq_none (by omega), List.getElem?_eq_none (by omega)]
theorem holds_of_own {α : Type} [Inhabited α] {enc : α → List Value} {k : Nat} (hk : ∀ x, (enc x).length = k) (hk0 : 0 < k) {w : World} {base : Nat} {E : TypeId} {g n cap : Nat} {xs : List α}
    (h : w.ownsRow base E k (.slice (some ⟨g, 0, none⟩) n cap) n (xs.flatMap enc)) : HoldsK enc k w g 0 xs.toArray := by
  intro j hj
  have hl := h.1
  rw [length_flatMap_enc enc k hk] at hl
  have hj' : j < xs.length * k := by simpa using hj
  have h1 := h.cellAt j (by rw [← hl]; exact hj')
  rw [Nat.zero_add, h1]
  refine ⟨?_, h.frozenAt j⟩
  have h2 : (xs.flatMap enc)[j]? = (flatK enc k xs.toArray)[j]? := by rw [← flatK_list hk hk0, Array.getElem?_toList]
  have h3 : (flatK enc k xs.toArray)[j]! = (flatK enc k xs.toArray)[j] := getElem!_pos (flatK enc k xs.toArray) j hj
  rw [h2, Array.getElem?_eq_getElem hj, h3]
  rfl
theorem own_sorted {α : Type} [Inhabited α] {enc : α → List Value} {k : Nat} (hk : ∀ x, (enc x).length = k) (hk0 : 0 < k) {w : World} {base : Nat} {E : TypeId} {g n cap q : Nat} {xs ys : List α} {os : Array Obj}
    (h : w.ownsRow base E k (.slice (some ⟨g, 0, none⟩) n cap) n (xs.flatMap enc)) (hy : ys.length = n) :
    (sortWorldK enc k w g 0 q ys.toArray os).ownsRow base E k (.slice (some ⟨g, 0, none⟩) n cap) n (ys.flatMap enc) ∧ w.grownBy (sortWorldK enc k w g 0 q ys.toArray os) (some g) := by
  rcases h.2 with ⟨e0, _⟩ | ⟨g', cap', cur, e0, hb, hg, hn, hm, hs, ht⟩
  · cases e0
  · injection e0 with e1 _ e3
    injection e1 with e1
    injection e1 with e1
    subst e1; subst e3
    have hlt : g < w.heap.size := by
      rcases Nat.lt_or_ge g w.heap.size with h' | h'
      · exact h'
      · rw [Array.getElem?_eq_none h'] at hg; cases hg
    have hfl := flatK_list hk hk0 ys
    have hsz : (flatK enc k ys.toArray).size = n * k := by simp [hy]
    have hnc : n * k ≤ cap * k := Nat.mul_le_mul_right k hn
    refine ⟨⟨by rw [length_flatMap_enc enc k hk, hy], .inr ⟨g, cap, Sort.putCells id 0 (flatK enc k ys.toArray) cur, rfl, hb, ?_, hn, hm, by simpa [Sort.putCells] using hs, ?_⟩⟩, ?_⟩
    · simp only [sortWorldK, Sort.grow, putRowK, Sort.putRow, Sort.mapBlock, Sort.ahead]
      rw [Array.getElem?_append_left (by simpa using hlt)]
      simp [Array.getElem?_modify, hg, Sort.onCells]
    · rw [← hfl]
      apply List.ext_getElem?
      intro j
      rw [List.getElem?_take, Array.getElem?_toList, Array.getElem?_toList]
      by_cases hj : j < n * k
      · have hjc : j < cur.size := by omega
        simp only [if_pos hj, Sort.putCells, Array.getElem?_mapIdx, Array.getElem?_eq_getElem hjc, Option.map_some]
        rw [if_pos (by simp [hy]; omega), Array.getElem?_eq_getElem (by omega)]
        simp [getElem!_pos, hsz, hj]
      · rw [if_neg hj, Array.getElem?_eq_none (by omega)]
    · refine ⟨rfl, rfl, rfl, ?_, fun j hj hne => ?_⟩
      · simp [sortWorldK, Sort.grow, putRowK, Sort.putRow, Sort.mapBlock, Sort.ahead]
      · simp only [sortWorldK, Sort.grow, putRowK, Sort.putRow, Sort.mapBlock, Sort.ahead]
        rw [Array.getElem?_append_left (by simpa using hj)]
        rw [Array.getElem?_modify, if_neg (fun e => hne (by rw [e]))]
theorem perm_of_permIn {α : Type} [Inhabited α] {d d' : Array α} (h : Sort.PermIn 0 d.size d d') : d'.toList.Perm d.toList := by
  obtain ⟨h1, _, h3⟩ := h
  have e1 : d.extract 0 d.size = d := by simp
  have e2 : d'.extract 0 d.size = d' := by rw [← h1]; simp
  rw [e1, e2] at h3
  exact h3
theorem pairwise_of_sortedIn {α : Type} [Inhabited α] {lt : α → α → Bool} {d : Array α} (h : Sort.SortedIn lt 0 d.size d) : d.toList.Pairwise fun a b => lt b a = false := by
  rw [List.pairwise_iff_getElem]
  intro i j hi hj hij
  have := h i j (Nat.zero_le _) hij (by simpa using hj)
  rw [getElem!_pos _ _ (by simpa using hj), getElem!_pos _ _ (by simpa using hi)] at this
  simpa using this

def cfSp (x y : Sp) : Int := cmpI x.fr y.fr
instance : Inhabited Sp := ⟨⟨0, 0⟩⟩
theorem cfSp_lt (x y : Sp) : ltOf cfSp x y = decide (x.fr < y.fr) := by
  unfold ltOf cfSp cmpI
  by_cases h1 : x.fr < y.fr
  · simp [h1]
  · by_cases h2 : y.fr < x.fr <;> simp [h1, h2]
theorem cfSp_swo : SWO (ltOf cfSp) where
  irrefl x := by rw [cfSp_lt]; simp
  trans x y z h1 h2 := by rw [cfSp_lt] at *; simp at *; omega
  ntrans x y z h1 h2 := by rw [cfSp_lt] at *; simp at *; omega
set_option maxHeartbeats 1000000 in
theorem united1_any (x y : Sp) (W : World) : Calls Tryz.prog 84 #[.agg #[.int .i64 x.fr, .int .i64 x.to], .agg #[.int .i64 y.fr, .int .i64 y.to]] W fun e w' => e = .returned (.int .i64 (cfSp x y)) ∧ ∃ q os', w' = grow (W.drewN q) os' := by
  have HC := Lib.hid (fun W' => cmpI_any x.fr y.fr W')
  go_enter Tryz.func84, Tryz.ntmps84
  go_wp2_with fail
  refine (HC.out _).mono ?_
  rintro e w1 ⟨rfl, rfl⟩
  go_wp2
  go_ret
  exact ⟨rfl, 0, _, by rw [alloc_eq_grow, alloc_eq_grow, grow_grow]; rfl⟩
theorem united1_lays (blk off size : Nat) (w : World) : CmpLays Tryz.prog 84 #[] encSp 2 cfSp blk off size w :=
  fun _ _ _ _ x y => united1_any x y _
theorem sortSp_any (base g n cap : Nat) (xs : List Sp) (w : World) (hn : xs.length = n) (hl : n ≤ 1048576) (h : w.ownsRow base 77 2 (.slice (some ⟨g, 0, none⟩) n cap) n (xs.flatMap encSp)) :
    Calls Tryz.prog 83 #[.slice (some ⟨g, 0, none⟩) n cap, .func (.func 84) #[] #[]] w fun e w' => e = .returned (.tuple #[]) ∧
      ∃ ys : List Sp, ys.Perm xs ∧ ys.Pairwise (fun a c => a.fr ≤ c.fr) ∧ w'.ownsRow base 77 2 (.slice (some ⟨g, 0, none⟩) n cap) n (ys.flatMap encSp) ∧ w.grownBy w' (some g) := by
  subst hn
  have eg : ∀ args w, (callFunc 84 args).run Tryz.prog w = .ok (.enter 84 args) w := enters_of Tryz.func84 (by kernel_rfl) rfl
  have hcon := AnyQ.slices_SortFunc Tryz.sortSp 2 Tryz.isAgg77 Tryz.sizeOf77 encSp encSp_len (fun x v hv => by simp [encSp] at hv; rcases hv with rfl | rfl <;> rfl) cfSp cfSp_swo 84 #[] g 0 cap xs.toArray w eg (united1_lays g 0 _ w) (holds_of_own encSp_len (by decide) h) (own_lt h).2 (by simp; omega)
  rw [List.size_toArray] at hcon
  change Calls Tryz.prog 83 _ _ _ at hcon
  refine hcon.mono ?_
  rintro e w' ⟨rfl, d', q, os, hp, hs, rfl⟩
  have hpp := perm_of_permIn (d := xs.toArray) (by rw [List.size_toArray]; exact hp)
  have hsz : d'.size = xs.length := by simpa using hp.1
  have hps := pairwise_of_sortedIn (d := d') (by rw [hsz]; exact hs)
  have hown := own_sorted encSp_len (by decide) (q := q) (ys := d'.toList) (os := os) h (by simpa using hsz)
  refine ⟨rfl, d'.toList, hpp, ?_, ?_, ?_⟩
  · refine hps.imp (fun {a b} hab => ?_)
    rw [cfSp_lt] at hab
    simpa using hab
  · simpa using hown.1
  · simpa using hown.2
end Go.Proofs.YtihmacmieofbgaaGreatDoor
