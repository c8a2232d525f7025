/- Walks: LivingOn. -/
import Derived.Test.YtddjedbnikhjkaaDoorIxl
import Derived.Test.YtddjedbnikhjkaaDoorQPeople
import Derived.Test.YtddjedbnikhjkaaDoorPeopSpec
import Derived.Test.YtddjedbnikhjkaaDoorPeopImpl
import Derived.Test.YtddjedbnikhjkaaDoorFcheckPeople1
namespace Go.Proofs.YtddjedbnikhjkaaDoor
open Go.ChangeShapes Go.WideShapes Go.ChangeAt Go.RowKit

def pL (ps : List Ps) (n : Int) (i : Nat) : Bool := match ps[i]? with
  | some m => inB n m.fr m.to
  | none => false
theorem pL_at {ps : List Ps} {n : Int} {i : Nat} {m : Ps} (h : ps[i]? = some m) : pL ps n i = inB n m.fr m.to := by unfold pL; rw [h]
def codeP (ps : List Ps) (ts : List Tm) (zs : List Int) : Int := if isPeopleB ps ts then (if zs.all dayB then 0 else 2) else 1
def livingR (ps : List Ps) (ts : List Tm) (n : Int) : List Int × Int :=
  if isPeopleB ps ts then (if dayB n then (jxl (pL ps n) ps.length, 0) else ([], 2)) else ([], 1)
theorem livingR_len (ps : List Ps) (ts : List Tm) (n : Int) (h : ps.length ≤ 1048576) : (livingR ps ts n).1.length ≤ 1048576 := by
  unfold livingR
  split
  · split
    · exact Nat.le_trans (jxl_len (pL ps n) ps.length) h
    · simp
  · simp




























































































































theorem checkPeople1_any (m : Int) (w : World) :
    Calls Tryd.prog 92 #[.int .i64 m] w fun e w' => e = .returned (.bool (!dayB m)) ∧ Below w.heap.size w w' := by
  go_enter Tryd.func92, Tryd.ntmps92
  go_wp2_with fail
  refine (isDay_any _ _).mono ?_
  rintro e w1 ⟨rfl, rfl⟩
  go_wp2
  go_ret
  exact ⟨rfl, Below.refl _ _⟩
theorem any_not_day (zs : List Int) : (zs.any fun m => !dayB m) = !zs.all dayB := by
  induction zs with
  | nil => rfl
  | cons x xs ih => simp only [List.any_cons, List.all_cons, Bool.not_and, ih]
set_option maxHeartbeats 2000000 in
theorem checkPeople_any (a0 a1 a2 : Option Addr) (cap0 cap1 cap2 : Nat) (xs0 : List Ps) (xs1 : List Tm) (zs : List Int) (w : World) (hl0 : xs0.length ≤ 1048576) (hx0 : Rd encPs w a0 xs0) (hs0 : ∀ m ∈ xs0, szPs m ≤ 1048576) (hl1 : xs1.length ≤ 1048576) (hx1 : Rd encTm w a1 xs1) (hs1 : ∀ m ∈ xs1, szTm m ≤ 1048576) (hl2 : zs.length ≤ 1048576) (hx2 : Rd encI w a2 zs) :
    Calls Tryd.prog 56 #[.agg #[.slice a0 xs0.length cap0, .slice a1 xs1.length cap1], .int .i64 0, .slice a2 zs.length cap2] w fun e w' => e = .returned (.int .i64 (codeP xs0 xs1 zs)) ∧ Below w.heap.size w w' := by
  have hA0 : At w [.slice a0 xs0.length cap0, .slice a1 xs1.length cap1] (w.alloc (.cells #[.slice a0 xs0.length cap0, .slice a1 xs1.length cap1] 48)) := At.start _ _ _
  have HM := Lib.hid (fun W (hAt : At w [.slice a0 xs0.length cap0, .slice a1 xs1.length cap1] W) => implIsPeople_any a0 a1 cap0 cap1 xs0 xs1 W hl0 (hx0.below hAt.below) hs0 hl1 (hx1.below hAt.below) hs1)
  have hct := fun W (hAt : At w [.slice a0 xs0.length cap0, .slice a1 xs1.length cap1] W) => containsFunc_checkPeople_1 a2 cap2 zs (fun m => !dayB m) W hl2 (hx2.below hAt.below) (fun W' _ m _ => checkPeople1_any m W')
  rw [any_not_day] at hct
  have HCT := Lib.hid hct
  clear hct
  cases hA : isPeopleB xs0 xs1
  · have HM := Lib.hid (fun W h => hA ▸ HM.out W h)
    have hR : Hid (codeP xs0 xs1 zs = 1) := by unfold Hid codeP; rw [hA]; rfl
    clear hA
    go_enter Tryd.func56, Tryd.ntmps56
    go_wp2_with fail
    refine (HM.out _ hA0).mono ?_
    rintro e w1 ⟨rfl, hB1⟩
    go_wp2
    go_ret
    exact ⟨ret_int hR.out.symm, (hA0.step hB1).below⟩
  · have HM := Lib.hid (fun W h => hA ▸ HM.out W h)
    cases hz : zs.all dayB
    · have hR : Hid (codeP xs0 xs1 zs = 2) := by unfold Hid codeP; rw [hA, hz]; rfl
      have HCT := Lib.hid (fun W h => hz ▸ HCT.out W h)
      clear hA hz
      go_enter Tryd.func56, Tryd.ntmps56
      go_wp2_with fail
      refine (HM.out _ hA0).mono ?_
      rintro e w1 ⟨rfl, hB1⟩
      have hA1 := hA0.step hB1
      go_wp2_with fail
      refine (HCT.out _ hA1).mono ?_
      rintro e w2 ⟨rfl, hB2⟩
      go_wp2
      go_ret
      exact ⟨ret_int hR.out.symm, (hA1.step hB2).below⟩
    · have hR : Hid (codeP xs0 xs1 zs = 0) := by unfold Hid codeP; rw [hA, hz]; rfl
      have HCT := Lib.hid (fun W h => hz ▸ HCT.out W h)
      clear hA hz
      go_enter Tryd.func56, Tryd.ntmps56
      go_wp2_with fail
      refine (HM.out _ hA0).mono ?_
      rintro e w1 ⟨rfl, hB1⟩
      have hA1 := hA0.step hB1
      go_wp2_with fail
      refine (HCT.out _ hA1).mono ?_
      rintro e w2 ⟨rfl, hB2⟩
      go_wp2
      go_ret
      exact ⟨ret_int hR.out.symm, (hA1.step hB2).below⟩





































































































































































end Go.Proofs.YtddjedbnikhjkaaDoor
