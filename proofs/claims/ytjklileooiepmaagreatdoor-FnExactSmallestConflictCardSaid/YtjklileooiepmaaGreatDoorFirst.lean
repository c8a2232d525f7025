/- Walks: FirstFitting of the program. Printed by gen_first.py. -/
import Derived.Test.YtjklileooiepmaaGreatDoorHoldP
import Derived.Test.YtjklileooiepmaaGreatDoorHoldI
import Derived.Test.YtjklileooiepmaaGreatDoorFfit11
import Derived.Test.YtjklileooiepmaaGreatDoorSpRow
import Derived.Test.YtjklileooiepmaaGreatDoorSpMet
import Derived.Test.YtjklileooiepmaaGreatDoorFix
import Derived.Deep.AppendLies
import Derived.Deep.LoopGhost
import Derived.Test.YtjklileooiepmaaGreatDoorNextH
import Derived.Test.YtjklileooiepmaaGreatDoorChan
import Derived.Test.YtjklileooiepmaaGreatDoorDating
namespace Go.Proofs.YtjklileooiepmaaGreatDoor
section
open Go.ChangeShapes Go.WideShapes Go.ChangeAt Go.RowKit Go.IntWalk












































































































































theorem any_not_all {α : Type} (p : α → Bool) (xs : List α) : (xs.any fun m => !p m) = !xs.all p := by
  induction xs with
  | nil => rfl
  | cons x xs ih => simp only [List.any_cons, List.all_cons, Bool.not_and, ih]










































end

section
open Go.ChangeShapes Go.WideShapes Go.ChangeAt Go.RowKit Go.IntWalk










































































def datedB (rs : List Rg) (f t : Int) (cs : List Cl) : Bool := isChanceryB rs f t && isDatingB cs
theorem l12Valid_any (a0 a1 : Option Addr) (cap0 cap1 : Nat) (rs : List Rg) (f t : Int) (cs : List Cl) (w : World) (hl0 : rs.length ≤ 1048576) (hx0 : Rd encRg w a0 rs) (hs0 : ∀ m ∈ rs, m.king.size ≤ 1048576) (hl1 : cs.length ≤ 1048576) (hx1 : Rd encCl w a1 cs) (hs1 : ∀ m ∈ cs, szCl m ≤ 1048576) :
    Calls Tryz.prog 19 #[.agg #[.slice a0 rs.length cap0, .int .i64 f, .int .i64 t], .slice a1 cs.length cap1] w fun e w' => e = .returned (.bool (datedB rs f t cs)) ∧ Below w.heap.size w w' := by
  have hA := At.start w [.slice a0 rs.length cap0, .int .i64 f, .int .i64 t] 33
  have HC := Lib.hid (fun W (h : At w [.slice a0 rs.length cap0, .int .i64 f, .int .i64 t] W) => specIsChancery_any a0 cap0 rs f t W hl0 (hx0.below h.below) hs0)
  have HD := Lib.hid (fun W (h : At w [.slice a0 rs.length cap0, .int .i64 f, .int .i64 t] W) => specIsDating_any a1 cap1 cs W hl1 (hx1.below h.below) hs1)
  have hV : Hid (datedB rs f t cs = (isChanceryB rs f t && isDatingB cs)) := rfl
  generalize datedB rs f t cs = V at hV ⊢
  generalize isDatingB cs = d at HD hV
  have c0 := hA.cell 0 _ rfl
  have c1 := hA.cell 1 _ rfl
  have c2 := hA.cell 2 _ rfl
  cases hc : isChanceryB rs f t
  · have hR : Hid (V = false) := by unfold Hid; rw [hV.out, hc]; rfl
    have HC := Lib.hid (fun W h => hc ▸ HC.out W h)
    go_enter Tryz.func19, Tryz.ntmps19
    go_wp2_with fail
    refine (HC.out _ hA).mono ?_
    rintro e w1 ⟨rfl, hB1⟩
    go_wp2
    go_ret
    exact ⟨ret_bool hR.out.symm, (hA.step hB1).below⟩
  · have hR : Hid (V = d) := by unfold Hid; rw [hV.out, hc]; rfl
    have HC := Lib.hid (fun W h => hc ▸ HC.out W h)
    go_enter Tryz.func19, Tryz.ntmps19
    go_wp2_with fail
    refine (HC.out _ hA).mono ?_
    rintro e w1 ⟨rfl, hB1⟩
    have hA := hA.step hB1
    go_wp2_with fail
    refine (HD.out _ hA).mono ?_
    rintro e w2 ⟨rfl, hB2⟩
    go_wp2
    go_ret
    exact ⟨ret_bool hR.out.symm, (hA.step hB2).below⟩
theorem dated_facts {rs : List Rg} {f t : Int} {cs : List Cl} (h : datedB rs f t cs = true) : (∀ r ∈ rs, 0 ≤ r.fr) ∧ (∀ c ∈ cs, okCl c = true) ∧ cs.length ≤ 8 ∧ 0 ≤ f ∧ f ≤ t ∧ t ≤ 730499 ∧ t ≤ f + 20000 := by
  unfold datedB isChanceryB isDatingB at h
  simp only [Bool.and_eq_true, dayB, inB, decide_eq_true_eq, List.all_eq_true] at h
  refine ⟨reigns_fr (by simp only [h]), ?_, ?_, ?_, ?_, ?_, ?_⟩
  · exact h.2.1
  all_goals omega
def firstF (rs : List Rg) (f t : Int) (cs : List Cl) : Int × Int :=
  if datedB rs f t cs = true then match fstR (fitB rs cs) f (t - f + 1).toNat with
    | some y => (y, 0)
    | none => (0, 4)
  else (0, 1)













































































end

section
open Go.ChangeShapes Go.WideShapes Go.ChangeAt Go.RowKit Go.IntWalk

theorem isDated_any (a0 a1 : Option Addr) (cap0 cap1 : Nat) (rs : List Rg) (f t : Int) (cs : List Cl) (w : World) (hl0 : rs.length ≤ 1048576) (hx0 : Rd encRg w a0 rs) (hs0 : ∀ m ∈ rs, m.king.size ≤ 1048576) (hl1 : cs.length ≤ 1048576) (hx1 : Rd encCl w a1 cs) (hs1 : ∀ m ∈ cs, szCl m ≤ 1048576) :
    Calls Tryz.prog 24 #[.agg #[.slice a0 rs.length cap0, .int .i64 f, .int .i64 t], .slice a1 cs.length cap1] w fun e w' => e = .returned (.bool (datedB rs f t cs)) ∧ Below w.heap.size w w' := by
  have hA := At.start w [.slice a0 rs.length cap0, .int .i64 f, .int .i64 t] 33
  have HC := Lib.hid (fun W (h : At w [.slice a0 rs.length cap0, .int .i64 f, .int .i64 t] W) => implIsChancery_any a0 cap0 rs f t W hl0 (hx0.below h.below) hs0)
  have HD := Lib.hid (fun W (h : At w [.slice a0 rs.length cap0, .int .i64 f, .int .i64 t] W) => implIsDating_any a1 cap1 cs W hl1 (hx1.below h.below) hs1)
  have hV : Hid (datedB rs f t cs = (isChanceryB rs f t && isDatingB cs)) := rfl
  generalize datedB rs f t cs = V at hV ⊢
  generalize isDatingB cs = d at HD hV
  have c0 := hA.cell 0 _ rfl
  have c1 := hA.cell 1 _ rfl
  have c2 := hA.cell 2 _ rfl
  cases hc : isChanceryB rs f t
  · have hR : Hid (V = false) := by unfold Hid; rw [hV.out, hc]; rfl
    have HC := Lib.hid (fun W h => hc ▸ HC.out W h)
    go_enter Tryz.func24, Tryz.ntmps24
    go_wp2_with fail
    refine (HC.out _ hA).mono ?_
    rintro e w1 ⟨rfl, hB1⟩
    go_wp2
    go_ret
    exact ⟨ret_bool hR.out.symm, (hA.step hB1).below⟩
  · have hR : Hid (V = d) := by unfold Hid; rw [hV.out, hc]; rfl
    have HC := Lib.hid (fun W h => hc ▸ HC.out W h)
    go_enter Tryz.func24, Tryz.ntmps24
    go_wp2_with fail
    refine (HC.out _ hA).mono ?_
    rintro e w1 ⟨rfl, hB1⟩
    have hA := hA.step hB1
    go_wp2_with fail
    refine (HD.out _ hA).mono ?_
    rintro e w2 ⟨rfl, hB2⟩
    go_wp2
    go_ret
    exact ⟨ret_bool hR.out.symm, (hA.step hB2).below⟩
















































































end
end Go.Proofs.YtjklileooiepmaaGreatDoor
