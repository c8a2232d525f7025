/- Walks: slices.Clone and slices.SortFunc at marks. -/
import Derived.Test.YtmjbigeeokofeaaDoorRecA
import Derived.Shelf.GgSortFunc.InsertionK
import Derived.Sort.LotA
import Derived.Test.YtmjbigeeokofeaaDoorShelf4
namespace Go.Proofs.YtmjbigeeokofeaaDoor
open Go.ChangeShapes Go.WideShapes Go.ChangeAt Go.RowKit Go.Sort

set_option maxHeartbeats 1000000 in
theorem cloneMk_any (g0 cap n : Nat) (xs : List Mk) (w : World) (hn : xs.length = n) (hl : n ≤ 1048576) (hx : Rd encMk w (some ⟨g0, 0, none⟩) xs) :
    Calls Tryd.prog 56 #[.slice (some ⟨g0, 0, none⟩) n cap] w fun e w' => ∃ g c, e = .returned (.slice (some ⟨g, 0, none⟩) n c) ∧ w'.ownsRow w.heap.size 80 3 (.slice (some ⟨g, 0, none⟩) n c) n (xs.flatMap encMk) ∧ Below w.heap.size w w' := by
  subst hn
  obtain ⟨i0, hi, hz0, hz1, hz2⟩ := info_parts infoMk
  have q22 : ∀ (w : World) (a : Option Addr) (n c n' c' : Nat), (binOp .eql 48 (.slice a n c) (.slice none n' c')).run Tryd.prog w = .ok (.bool a.isNone) w := fun w a n c n' c' => Lib.run_eql_slice_nil w _ _ a n c n' c' Tryd.underlying48
  have hz : Below w.heap.size w (w.alloc (.cells #[] 80)) := (Below.refl _ _).alloc (Nat.le_refl _) _
  have ow := World.ownsRow_made w #[] 0 (Nat.le_refl w.heap.size) (by decide) rfl (e := 80) (size := 3)
  go_enter Tryd.func56, Tryd.ntmps56
  go_wp2_with (at_builtin; refine wpList_append_any _ rfl _ _ 48 rfl w.heap.size 80 i0 (.agg #[.string ⟨#[]⟩, .int .i64 0, .int .i64 0]) 3 32 Tryd.underlying48 hi hz0 hz1 hz2 rfl (by decide) _ _ 0 [] rfl ow ⟨g0, 0, none⟩ xs.length cap (xs.flatMap encMk) rfl (length_flatMap_enc encMk 3 encMk_len xs) (rd_news encMk_len (by decide) (hx.below hz)) (mk_one xs) (by unfold maxLen; omega) (by omega) (by simp) ?_)
  intro og oc W3 ow2 hgr hor
  go_wp2
  go_ret
  exact ⟨og, oc, rfl, by simpa using ow2, hz.grown hgr hz.size (fun g e => by cases e; exact (own_lt ow).1)⟩

theorem flatK_list {α : Type} [Inhabited α] {enc : α → List Value} {k : Nat} (hk : ∀ x, (enc x).length = k) (hk0 : 0 < k) (xs : List α) : (flatK enc k xs.toArray).toList = xs.flatMap enc := by
  apply List.ext_getElem?
  intro j
  have hl := length_flatMap_enc enc k hk xs
  have hs : (flatK enc k xs.toArray).toList.length = xs.length * k := by simp
  by_cases hj : j < xs.length * k
  · have h1 : j / k < xs.length := (Nat.div_lt_iff_lt_mul hk0).2 hj
    have h2 : j % k < k := Nat.mod_lt _ hk0
    have hx := List.getElem?_eq_getElem h1
    have hv := List.getElem?_eq_getElem (show j % k < (enc xs[j / k]).length by rw [hk]; exact h2)
    have h3 := flatMap_at enc k hk xs (j / k) _ (j % k) _ hx hv
    rw [show j / k * k + j % k = j by rw [Nat.mul_comm]; exact Nat.div_add_mod j k] at h3
    rw [h3, Array.getElem?_toList]
    have h4 := get_flatK enc k xs.toArray j (by simpa using hj)
    rw [getElem!_pos _ _ (by simpa using hj)] at h4
    rw [Array.getElem?_eq_getElem (by simpa using hj), h4]
    congr 1
    have e1 : (xs.toArray)[j / k]! = xs[j / k] := by rw [getElem!_pos _ _ (by simpa using h1)]; simp
    rw [e1, getElem!_pos _ _ (by rw [hk]; exact h2)]
  · rw [List.getElem?_eq_none (by omega), List.getElem?_eq_none (by omega)]
theorem holds_of_own {α : Type} [Inhabited α] {enc : α → List Value} {k : Nat} (hk : ∀ x, (enc x).length = k) (hk0 : 0 < k) {w : World} {base : Nat} {E : TypeId} {g n cap : Nat} {xs : List α}
    (h : w.ownsRow base E k (.slice (some ⟨g, 0, none⟩) n cap) n (xs.flatMap enc)) : HoldsK enc k w g 0 xs.toArray := by
  intro j hj
  have hl := h.1
  rw [length_flatMap_enc enc k hk] at hl
  have hj' : j < xs.length * k := by simpa using hj
  have h1 := h.cellAt j (by rw [← hl]; exact hj')
  rw [Nat.zero_add, h1]
  refine ⟨?_, h.frozenAt j⟩
  have h2 : (xs.flatMap enc)[j]? = (flatK enc k xs.toArray)[j]? := by rw [← flatK_list hk hk0, Array.getElem?_toList]
  have h3 : (flatK enc k xs.toArray)[j]! = (flatK enc k xs.toArray)[j] := getElem!_pos (flatK enc k xs.toArray) j hj
  rw [h2, Array.getElem?_eq_getElem hj, h3]
  rfl
theorem own_sorted {α : Type} [Inhabited α] {enc : α → List Value} {k : Nat} (hk : ∀ x, (enc x).length = k) (hk0 : 0 < k) {w : World} {base : Nat} {E : TypeId} {g n cap q : Nat} {xs ys : List α} {os : Array Obj}
    (h : w.ownsRow base E k (.slice (some ⟨g, 0, none⟩) n cap) n (xs.flatMap enc)) (hy : ys.length = n) :
    (sortWorldK enc k w g 0 q ys.toArray os).ownsRow base E k (.slice (some ⟨g, 0, none⟩) n cap) n (ys.flatMap enc) ∧ w.grownBy (sortWorldK enc k w g 0 q ys.toArray os) (some g) := by
  rcases h.2 with ⟨e0, _⟩ | ⟨g', cap', cur, e0, hb, hg, hn, hm, hs, ht⟩
  · cases e0
  · injection e0 with e1 _ e3
    injection e1 with e1
    injection e1 with e1
    subst e1; subst e3
    have hlt : g < w.heap.size := by
      rcases Nat.lt_or_ge g w.heap.size with h' | h'
      · exact h'
      · rw [Array.getElem?_eq_none h'] at hg; cases hg
    have hfl := flatK_list hk hk0 ys
    have hsz : (flatK enc k ys.toArray).size = n * k := by simp [hy]
    have hnc : n * k ≤ cap * k := Nat.mul_le_mul_right k hn
    refine ⟨⟨by rw [length_flatMap_enc enc k hk, hy], .inr ⟨g, cap, Sort.putCells id 0 (flatK enc k ys.toArray) cur, rfl, hb, ?_, hn, hm, by simpa [Sort.putCells] using hs, ?_⟩⟩, ?_⟩
    · simp only [sortWorldK, Sort.grow, putRowK, Sort.putRow, Sort.mapBlock, Sort.ahead]
      rw [Array.getElem?_append_left (by simpa using hlt)]
      simp [Array.getElem?_modify, hg, Sort.onCells]
    · rw [← hfl]
      apply List.ext_getElem?
      intro j
      rw [List.getElem?_take, Array.getElem?_toList, Array.getElem?_toList]
      by_cases hj : j < n * k
      · have hjc : j < cur.size := by omega
        simp only [if_pos hj, Sort.putCells, Array.getElem?_mapIdx, Array.getElem?_eq_getElem hjc, Option.map_some]
        rw [if_pos (by simp [hy]; omega), Array.getElem?_eq_getElem (by omega)]
        simp [getElem!_pos, hsz, hj]
      · rw [if_neg hj, Array.getElem?_eq_none (by omega)]
    · refine ⟨rfl, rfl, rfl, ?_, fun j hj hne => ?_⟩
      · simp [sortWorldK, Sort.grow, putRowK, Sort.putRow, Sort.mapBlock, Sort.ahead]
      · simp only [sortWorldK, Sort.grow, putRowK, Sort.putRow, Sort.mapBlock, Sort.ahead]
        rw [Array.getElem?_append_left (by simpa using hj)]
        rw [Array.getElem?_modify, if_neg (fun e => hne (by rw [e]))]
theorem perm_of_permIn {α : Type} [Inhabited α] {d d' : Array α} (h : Sort.PermIn 0 d.size d d') : d'.toList.Perm d.toList := by
  obtain ⟨h1, _, h3⟩ := h
  have e1 : d.extract 0 d.size = d := by simp
  have e2 : d'.extract 0 d.size = d' := by rw [← h1]; simp
  rw [e1, e2] at h3
  exact h3
theorem pairwise_of_sortedIn {α : Type} [Inhabited α] {lt : α → α → Bool} {d : Array α} (h : Sort.SortedIn lt 0 d.size d) : d.toList.Pairwise fun a b => lt b a = false := by
  rw [List.pairwise_iff_getElem]
  intro i j hi hj hij
  have := h i j (Nat.zero_le _) hij (by simpa using hj)
  rw [getElem!_pos _ _ (by simpa using hj), getElem!_pos _ _ (by simpa using hi)] at this
  simpa using this

/-- New memory and draws, and nothing else. -/
def Gr (w W : World) : Prop := ∃ q os, W = grow (w.drewN q) os
theorem Gr.refl (w : World) : Gr w w := ⟨0, #[], by simp [grow, World.drewN]⟩
theorem Gr.alloc {w W : World} (h : Gr w W) (o : Obj) : Gr w (W.alloc o) := by
  obtain ⟨q, os, rfl⟩ := h
  exact ⟨q, os ++ #[o], by rw [alloc_eq_grow, grow_grow]⟩
theorem Gr.drew {w W : World} (h : Gr w W) : Gr w W.drew := by
  obtain ⟨q, os, rfl⟩ := h
  exact ⟨q + 1, os, rfl⟩
theorem Gr.drewN {w W : World} (h : Gr w W) (n : Nat) : Gr w (W.drewN n) := by
  obtain ⟨q, os, rfl⟩ := h
  exact ⟨q + n, os, by simp only [World.drewN, grow, Nat.add_assoc]⟩
set_option maxHeartbeats 400000 in
theorem compareMarks_gr (p m : Mk) (w : World) :
    Calls Tryd.prog 58 #[.agg #[.string p.name, .int .i64 p.fr, .int .i64 p.to], .agg #[.string m.name, .int .i64 m.fr, .int .i64 m.to]] w fun e w' =>
      e = .returned (.int .i64 (cmpMk p m)) ∧ Gr w w' := by
  have HO := Lib.hid (or2_any (w.heap.size + 1 + 1) (cmpS p.name.toList m.name.toList) (cmpI p.fr m.fr)
    (((w.alloc (.cells #[.string p.name, .int .i64 p.fr, .int .i64 p.to] 80)).alloc (.cells #[.string m.name, .int .i64 m.fr, .int .i64 m.to] 80)).alloc (.cells #[.int .i64 (cmpS p.name.toList m.name.toList), .int .i64 (cmpI p.fr m.fr)] 3)).drew
    (by simp [go_sem]) (by simp [go_sem]))
  go_enter Tryd.func58, Tryd.ntmps58
  go_wp2_with fail
  go_region_held3 (fun w' => w'.cell? ⟨w.heap.size, 0, none⟩ = some (.string p.name) ∧ w'.cell? ⟨w.heap.size, 1, none⟩ = some (.int .i64 p.fr) ∧ w'.cell? ⟨w.heap.size + 1, 0, none⟩ = some (.string m.name) ∧ w'.cell? ⟨w.heap.size + 1, 1, none⟩ = some (.int .i64 m.fr))
    (go_keep)
    (first
      | (go_at_call 79; refine (cmpS_any _ _ _).mono ?_; rintro e w' ⟨rfl, rfl⟩)
      | (go_at_call 39; refine (cmpI_any _ _ _).mono ?_; rintro e w' ⟨rfl, rfl⟩)
      | (go_at_call 78; refine HO.out.mono ?_; rintro e w' ⟨rfl, rfl⟩))
  all_goals go_wp2
  all_goals go_ret
  all_goals refine ⟨ret_int rfl, ?_⟩
  all_goals (repeat (first | exact Gr.refl _ | apply Gr.alloc | apply Gr.drew | apply Gr.drewN))
def cfMk (x y : Mk) : Int := cmpMk x y
instance : Inhabited Mk := ⟨⟨⟨#[]⟩, 0, 0⟩⟩
theorem cfMk_lt (x y : Mk) : ltOf cfMk x y = ltMk x y := by
  unfold ltOf cfMk
  have h := cmpMk_ge x y
  cases e : ltMk x y
  · rw [e] at h; simp at h; simp; omega
  · rw [e] at h; simp at h; simp; omega
theorem cfMk_swo : SWO (ltOf cfMk) where
  irrefl x := by
    rw [cfMk_lt]
    cases e : ltMk x x
    · rfl
    · have := lt_asymm e; rw [e] at this; cases this
  trans x y z h1 h2 := by rw [cfMk_lt] at *; exact ltMk_trans h1 h2
  ntrans x y z h1 h2 := by
    rw [cfMk_lt] at *
    cases e : ltMk x z
    · rfl
    · exfalso
      by_cases hk : sameK x y = true
      · -- x and y have one key
        unfold sameK at hk
        simp only [Bool.and_eq_true, beq_iff_eq, decide_eq_true_eq] at hk
        unfold ltMk at e h2
        rw [hk.1, hk.2] at e
        rw [e] at h2; cases h2
      · have hxy : ltMk y x = true := lt_of_not h1 (by rw [sameK_comm]; simpa using hk)
        have := ltMk_trans hxy e
        rw [this] at h2; cases h2
theorem compareMarks_lays (blk off size : Nat) (w : World) : CmpLays Tryd.prog 58 #[] encMk 3 cfMk blk off size w :=
  fun _ _ _ _ x y => compareMarks_gr x y _
theorem sortMk_any (base g n cap : Nat) (xs : List Mk) (w : World) (hn : xs.length = n) (hl : n ≤ 1048576) (h : w.ownsRow base 80 3 (.slice (some ⟨g, 0, none⟩) n cap) n (xs.flatMap encMk)) :
    Calls Tryd.prog 57 #[.slice (some ⟨g, 0, none⟩) n cap, .func (.func 58) #[] #[]] w fun e w' => e = .returned (.tuple #[]) ∧
      ∃ ys : List Mk, ys.Perm xs ∧ ys.Pairwise (fun a c => ltMk c a = false) ∧ w'.ownsRow base 80 3 (.slice (some ⟨g, 0, none⟩) n cap) n (ys.flatMap encMk) ∧ w.grownBy w' (some g) := by
  subst hn
  have eg : ∀ args w, (callFunc 58 args).run Tryd.prog w = .ok (.enter 58 args) w := enters_of Tryd.func58 (by kernel_rfl) rfl
  have hcon := AnyQ.slices_SortFunc Tryd.sortMk 3 Tryd.isAgg80 Tryd.sizeOf80 encMk encMk_len (fun x v hv => mk_one1 x v hv) cfMk cfMk_swo 58 #[] g 0 cap xs.toArray w eg (compareMarks_lays g 0 _ w) (holds_of_own encMk_len (by decide) h) (own_lt h).2 (by simp; omega)
  rw [List.size_toArray] at hcon
  change Calls Tryd.prog 57 _ _ _ at hcon
  refine hcon.mono ?_
  rintro e w' ⟨rfl, d', q, os, hp, hs, rfl⟩
  have hpp := perm_of_permIn (d := xs.toArray) (by rw [List.size_toArray]; exact hp)
  have hsz : d'.size = xs.length := by simpa using hp.1
  have hps := pairwise_of_sortedIn (d := d') (by rw [hsz]; exact hs)
  have hown := own_sorted encMk_len (by decide) (q := q) (ys := d'.toList) (os := os) h (by simpa using hsz)
  refine ⟨rfl, d'.toList, hpp, ?_, ?_, ?_⟩
  · refine hps.imp (fun {a b} hab => ?_)
    rw [cfMk_lt] at hab
    exact hab
  · simpa using hown.1
  · simpa using hown.2
end Go.Proofs.YtmjbigeeokofeaaDoor
