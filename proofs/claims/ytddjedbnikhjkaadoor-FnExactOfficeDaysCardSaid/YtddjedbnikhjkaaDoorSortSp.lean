/- Walks: slices.SortFunc at spans, by the first day. -/
import Derived.Test.YtddjedbnikhjkaaDoorSortW
import Derived.Test.YtddjedbnikhjkaaDoorSpPlain
import Derived.Test.YtddjedbnikhjkaaDoorCmp
import Derived.Test.YtddjedbnikhjkaaDoorShelf2
namespace Go.Proofs.YtddjedbnikhjkaaDoor
open Go.ChangeShapes Go.WideShapes Go.ChangeAt Go.RowKit Go.Sort

def cfSp (x y : Sp) : Int := cmpI x.fr y.fr
instance : Inhabited Sp := ⟨⟨0, 0⟩⟩
theorem cfSp_lt (x y : Sp) : ltOf cfSp x y = decide (x.fr < y.fr) := by
  unfold ltOf cfSp cmpI
  by_cases h1 : x.fr < y.fr
  · simp [h1]
  · by_cases h2 : y.fr < x.fr <;> simp [h1, h2]
theorem cfSp_swo : SWO (ltOf cfSp) where
  irrefl x := by rw [cfSp_lt]; simp
  trans x y z h1 h2 := by rw [cfSp_lt] at *; simp at *; omega
  ntrans x y z h1 h2 := by rw [cfSp_lt] at *; simp at *; omega
set_option maxHeartbeats 1000000 in
theorem united1_any (x y : Sp) (W : World) : Calls Tryd.prog 104 #[.agg #[.int .i64 x.fr, .int .i64 x.to], .agg #[.int .i64 y.fr, .int .i64 y.to]] W fun e w' => e = .returned (.int .i64 (cfSp x y)) ∧ ∃ q os', w' = grow (W.drewN q) os' := by
  have HC := Lib.hid (fun W' => cmpI_any x.fr y.fr W')
  go_enter Tryd.func104, Tryd.ntmps104
  go_wp2_with fail
  refine (HC.out _).mono ?_
  rintro e w1 ⟨rfl, rfl⟩
  go_wp2
  go_ret
  exact ⟨rfl, 0, _, by rw [alloc_eq_grow, alloc_eq_grow, grow_grow]; rfl⟩
theorem united1_lays (blk off size : Nat) (w : World) : CmpLays Tryd.prog 104 #[] encSp 2 cfSp blk off size w :=
  fun _ _ _ _ x y => united1_any x y _
theorem sortSp_any (base g n cap : Nat) (xs : List Sp) (w : World) (hn : xs.length = n) (hl : n ≤ 1048576) (h : w.ownsRow base 99 2 (.slice (some ⟨g, 0, none⟩) n cap) n (xs.flatMap encSp)) :
    Calls Tryd.prog 103 #[.slice (some ⟨g, 0, none⟩) n cap, .func (.func 104) #[] #[]] w fun e w' => e = .returned (.tuple #[]) ∧
      ∃ ys : List Sp, ys.Perm xs ∧ ys.Pairwise (fun a c => a.fr ≤ c.fr) ∧ w'.ownsRow base 99 2 (.slice (some ⟨g, 0, none⟩) n cap) n (ys.flatMap encSp) ∧ w.grownBy w' (some g) := by
  subst hn
  have eg : ∀ args w, (callFunc 104 args).run Tryd.prog w = .ok (.enter 104 args) w := enters_of Tryd.func104 (by kernel_rfl) rfl
  have hcon := AnyQ.slices_SortFunc Tryd.sortSp 2 Tryd.isAgg99 Tryd.sizeOf99 encSp encSp_len (fun x v hv => by simp [encSp] at hv; rcases hv with rfl | rfl <;> rfl) cfSp cfSp_swo 104 #[] g 0 cap xs.toArray w eg (united1_lays g 0 _ w) (holds_of_own encSp_len (by decide) h) (own_lt h).2 (by simp; omega)
  rw [List.size_toArray] at hcon
  change Calls Tryd.prog 103 _ _ _ at hcon
  refine hcon.mono ?_
  rintro e w' ⟨rfl, d', q, os, hp, hs, rfl⟩
  have hpp := perm_of_permIn (d := xs.toArray) (by rw [List.size_toArray]; exact hp)
  have hsz : d'.size = xs.length := by simpa using hp.1
  have hps := pairwise_of_sortedIn (d := d') (by rw [hsz]; exact hs)
  have hown := own_sorted encSp_len (by decide) (q := q) (ys := d'.toList) (os := os) h (by simpa using hsz)
  refine ⟨rfl, d'.toList, hpp, ?_, ?_, ?_⟩
  · refine hps.imp (fun {a b} hab => ?_)
    rw [cfSp_lt] at hab
    simpa using hab
  · simpa using hown.1
  · simpa using hown.2
end Go.Proofs.YtddjedbnikhjkaaDoor
