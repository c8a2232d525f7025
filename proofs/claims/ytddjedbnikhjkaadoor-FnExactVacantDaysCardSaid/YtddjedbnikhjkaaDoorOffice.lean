/- Walks: OfficeDays. Printed by gen_pp2.py. -/
import Derived.Test.YtddjedbnikhjkaaDoorTerms
import Derived.Test.YtddjedbnikhjkaaDoorQPeople
import Derived.Test.YtddjedbnikhjkaaDoorPeopSpec
import Derived.Test.YtddjedbnikhjkaaDoorPeopImpl
namespace Go.Proofs.YtddjedbnikhjkaaDoor
open Go.ChangeShapes Go.WideShapes Go.ChangeAt Go.RowKit

theorem person_named {ps : List Ps} {ts : List Tm} {p : ByteArray} (h : isPeopleB ps ts = true) (hz : 0 ≤ personIx ps p) : p.toList ≠ [] := by
  have h1 := fidx_any (isNm p) ps
  have hz' : decide (0 ≤ fidx (isNm p) ps 0) = true := decide_eq_true hz
  rw [hz'] at h1
  obtain ⟨m, hm, he⟩ := List.any_eq_true.1 h1.symm
  have hn := people_name h hm
  unfold nameB at hn
  simp only [Bool.and_eq_true, decide_eq_true_eq] at hn
  intro e
  unfold isNm at he
  rw [e] at he
  have h2 : m.name.toList = [] := by simpa using he
  rw [ByteArray.toList_eq] at h2
  rw [h2] at hn
  simp at hn
def officeR (ps : List Ps) (ts : List Tm) (o p : ByteArray) : List Sp × Int :=
  if isPeopleB ps ts then (if personIx ps p < 0 then ([], 4) else (uni (tsp (isOP o p) ts), 0)) else ([], 1)
theorem officeR_len (ps : List Ps) (ts : List Tm) (o p : ByteArray) (h : ts.length ≤ 1048576) : (officeR ps ts o p).1.length ≤ 1048576 := by
  have h1 := uni_len (tsp (isOP o p) ts)
  have h2 := tsp_len (isOP o p) ts
  unfold officeR
  split
  · split
    · simp
    · show (uni (tsp (isOP o p) ts)).length ≤ 1048576
      omega
  · simp

set_option maxRecDepth 100000 in
set_option maxHeartbeats 4000000 in
theorem specOffice_any (a0 a1 : Option Addr) (cap0 cap1 : Nat) (xs0 : List Ps) (xs1 : List Tm) (o p : ByteArray) (w : World) (hl0 : xs0.length ≤ 1048576) (hx0 : Rd encPs w a0 xs0) (hs0 : ∀ m ∈ xs0, szPs m ≤ 1048576) (hl1 : xs1.length ≤ 1048576) (hx1 : Rd encTm w a1 xs1) (hs1 : ∀ m ∈ xs1, szTm m ≤ 1048576) :
    Calls Tryd.prog 24 #[.agg #[.slice a0 xs0.length cap0, .slice a1 xs1.length cap1], .string o, .string p] w fun e w' => ∃ b c, e = .returned (.tuple #[.slice b (officeR xs0 xs1 o p).1.length c, .int .i64 (officeR xs0 xs1 o p).2]) ∧
      w'.ownsRow w.heap.size 99 2 (.slice b (officeR xs0 xs1 o p).1.length c) (officeR xs0 xs1 o p).1.length ((officeR xs0 xs1 o p).1.flatMap encSp) ∧ Below w.heap.size w w' := by
  have hA0 : At w [.slice a0 xs0.length cap0, .slice a1 xs1.length cap1] (w.alloc (.cells #[.slice a0 xs0.length cap0, .slice a1 xs1.length cap1] 48)) := At.start _ _ _
  have HM := Lib.hid (fun W (hAt : At w [.slice a0 xs0.length cap0, .slice a1 xs1.length cap1] W) => specIsPeople_any a0 a1 cap0 cap1 xs0 xs1 W hl0 (hx0.below hAt.below) hs0 hl1 (hx1.below hAt.below) hs1)
  cases hA : isPeopleB xs0 xs1
  · have HM := Lib.hid (fun W h => hA ▸ HM.out W h)
    have hR : Hid (officeR xs0 xs1 o p = ([], 1)) := by unfold Hid officeR; rw [hA]; rfl
    clear hA
    go_enter Tryd.func24, Tryd.ntmps24
    go_wp2_with fail
    refine (HM.out _ hA0).mono ?_
    rintro e w1 ⟨rfl, hB1⟩
    go_wp2
    go_ret2
    rw [hR.out]
    exact ⟨none, 0, rfl, World.ownsRow_nil _ _ _ _, (hA0.step hB1).below⟩
  · have HM := Lib.hid (fun W h => hA ▸ HM.out W h)
    have HPX := Lib.hid (fun W (hAt : At w [.slice a0 xs0.length cap0, .slice a1 xs1.length cap1] W) => l13Person_any a0 a1 cap0 cap1 xs0 xs1 p W hl0 (hx0.below hAt.below))
    have hbd := people_bd hA
    have HT := Lib.hid (fun W (hAt : At w [.slice a0 xs0.length cap0, .slice a1 xs1.length cap1] W) => l13Office_any a0 a1 cap0 cap1 xs0 xs1 o p W hA (by omega) (hx1.below hAt.below))
    have hre : officeR xs0 xs1 o p = if personIx xs0 p < 0 then ([], 4) else (uni (tsp (isOP o p) xs1), 0) := by unfold officeR; rw [hA]; rfl
    clear hA hbd
    generalize personIx xs0 p = z at HPX hre 
    by_cases hz : z < 0
    · have hR : Hid (officeR xs0 xs1 o p = ([], 4)) := by unfold Hid; rw [hre, if_pos hz]
      clear hre
      go_enter Tryd.func24, Tryd.ntmps24
      go_wp2_with fail
      refine (HM.out _ hA0).mono ?_
      rintro e w1 ⟨rfl, hB1⟩
      have hA1 := hA0.step hB1
      have b0 := hA1.cell 0 _ rfl
      have b1 := hA1.cell 1 _ rfl
      clear hA0 hB1 HM
      go_wp2_with fail
      refine (HPX.out _ hA1).mono ?_
      rintro e w2 ⟨rfl, hB2⟩
      go_wp2
      go_ret2
      rw [hR.out]
      exact ⟨none, 0, rfl, World.ownsRow_nil _ _ _ _, (hA1.step hB2).below⟩
    · have hR : Hid (officeR xs0 xs1 o p = (uni (tsp (isOP o p) xs1), 0)) := by unfold Hid; rw [hre, if_neg hz]
      clear hre
      go_enter Tryd.func24, Tryd.ntmps24
      go_wp2_with fail
      refine (HM.out _ hA0).mono ?_
      rintro e w1 ⟨rfl, hB1⟩
      have hA1 := hA0.step hB1
      have b0 := hA1.cell 0 _ rfl
      have b1 := hA1.cell 1 _ rfl
      clear hA0 hB1 HM
      go_wp2_with fail
      refine (HPX.out _ hA1).mono ?_
      rintro e w2 ⟨rfl, hB2⟩
      have hA2 := hA1.step hB2
      have b0 := hA2.cell 0 _ rfl
      have b1 := hA2.cell 1 _ rfl
      clear hA1 hB2 HPX
      go_wp2_with fail
      refine (HT.out _ hA2).mono ?_
      rintro e w3 ⟨g3, c3, rfl, ho3, hB3⟩
      have hA3 := hA2.step hB3
      go_wp2
      go_ret2
      rw [hR.out]
      exact ⟨_, _, rfl, own_base ho3 hA2.below.size, hA3.below⟩

set_option maxRecDepth 100000 in
set_option maxHeartbeats 4000000 in
theorem implOffice_any (a0 a1 : Option Addr) (cap0 cap1 : Nat) (xs0 : List Ps) (xs1 : List Tm) (o p : ByteArray) (w : World) (hl0 : xs0.length ≤ 1048576) (hx0 : Rd encPs w a0 xs0) (hs0 : ∀ m ∈ xs0, szPs m ≤ 1048576) (hl1 : xs1.length ≤ 1048576) (hx1 : Rd encTm w a1 xs1) (hs1 : ∀ m ∈ xs1, szTm m ≤ 1048576) :
    Calls Tryd.prog 25 #[.agg #[.slice a0 xs0.length cap0, .slice a1 xs1.length cap1], .string o, .string p] w fun e w' => ∃ b c, e = .returned (.tuple #[.slice b (officeR xs0 xs1 o p).1.length c, .int .i64 (officeR xs0 xs1 o p).2]) ∧
      w'.ownsRow w.heap.size 99 2 (.slice b (officeR xs0 xs1 o p).1.length c) (officeR xs0 xs1 o p).1.length ((officeR xs0 xs1 o p).1.flatMap encSp) ∧ Below w.heap.size w w' := by
  have hA0 : At w [.slice a0 xs0.length cap0, .slice a1 xs1.length cap1] (w.alloc (.cells #[.slice a0 xs0.length cap0, .slice a1 xs1.length cap1] 48)) := At.start _ _ _
  have HM := Lib.hid (fun W (hAt : At w [.slice a0 xs0.length cap0, .slice a1 xs1.length cap1] W) => implIsPeople_any a0 a1 cap0 cap1 xs0 xs1 W hl0 (hx0.below hAt.below) hs0 hl1 (hx1.below hAt.below) hs1)
  cases hA : isPeopleB xs0 xs1
  · have HM := Lib.hid (fun W h => hA ▸ HM.out W h)
    have hR : Hid (officeR xs0 xs1 o p = ([], 1)) := by unfold Hid officeR; rw [hA]; rfl
    clear hA
    go_enter Tryd.func25, Tryd.ntmps25
    go_wp2_with fail
    refine (HM.out _ hA0).mono ?_
    rintro e w1 ⟨rfl, hB1⟩
    go_wp2
    go_ret2
    rw [hR.out]
    exact ⟨none, 0, rfl, World.ownsRow_nil _ _ _ _, (hA0.step hB1).below⟩
  · have HM := Lib.hid (fun W h => hA ▸ HM.out W h)
    have HPX := Lib.hid (fun W (hAt : At w [.slice a0 xs0.length cap0, .slice a1 xs1.length cap1] W) => personIndex_any a0 a1 cap0 cap1 xs0 xs1 p W hl0 (hx0.below hAt.below))
    have hbd := people_bd hA
    have hnm := Lib.hid (person_named (p := p) hA)
    have hok := Lib.hid (tsp_ok hA (isT o p))
    have HT := Lib.hid (fun W (hAt : At w [.slice a0 xs0.length cap0, .slice a1 xs1.length cap1] W) => termsOf_any a0 a1 cap0 cap1 xs0 xs1 o p W (by omega) (hx1.below hAt.below))
    have hlt := Lib.hid (tsp_len (isT o p) xs1)
    have HU := Lib.hid (fun g cap W (h : Rd encSp W (some ⟨g, 0, none⟩) (tsp (isT o p) xs1)) => united_any g 0 cap _ (tsp (isT o p) xs1) W rfl (by have := hlt.out; omega) h hok.out)
    have hre : officeR xs0 xs1 o p = if personIx xs0 p < 0 then ([], 4) else (uni (tsp (isOP o p) xs1), 0) := by unfold officeR; rw [hA]; rfl
    clear hA hbd
    generalize personIx xs0 p = z at HPX hre hnm
    by_cases hz : z < 0
    · have hR : Hid (officeR xs0 xs1 o p = ([], 4)) := by unfold Hid; rw [hre, if_pos hz]
      clear hre
      go_enter Tryd.func25, Tryd.ntmps25
      go_wp2_with fail
      refine (HM.out _ hA0).mono ?_
      rintro e w1 ⟨rfl, hB1⟩
      have hA1 := hA0.step hB1
      have b0 := hA1.cell 0 _ rfl
      have b1 := hA1.cell 1 _ rfl
      clear hA0 hB1 HM
      go_wp2_with fail
      refine (HPX.out _ hA1).mono ?_
      rintro e w2 ⟨rfl, hB2⟩
      go_wp2
      go_ret2
      rw [hR.out]
      exact ⟨none, 0, rfl, World.ownsRow_nil _ _ _ _, (hA1.step hB2).below⟩
    · have hR : Hid (officeR xs0 xs1 o p = (uni (tsp (isT o p) xs1), 0)) := by unfold Hid; rw [hre, if_neg hz, isT_some (hnm.out (by omega))]
      clear hre
      go_enter Tryd.func25, Tryd.ntmps25
      go_wp2_with fail
      refine (HM.out _ hA0).mono ?_
      rintro e w1 ⟨rfl, hB1⟩
      have hA1 := hA0.step hB1
      have b0 := hA1.cell 0 _ rfl
      have b1 := hA1.cell 1 _ rfl
      clear hA0 hB1 HM
      go_wp2_with fail
      refine (HPX.out _ hA1).mono ?_
      rintro e w2 ⟨rfl, hB2⟩
      have hA2 := hA1.step hB2
      have b0 := hA2.cell 0 _ rfl
      have b1 := hA2.cell 1 _ rfl
      clear hA1 hB2 HPX
      go_wp2_with fail
      refine (HT.out _ hA2).mono ?_
      rintro e w3 ⟨g3, c3, rfl, ho3, hB3⟩
      have hA3 := hA2.step hB3
      have hrd := Rd.of_own encSp_len (by decide) ho3
      go_wp2_with fail
      refine (HU.out _ _ _ hrd).mono ?_
      rintro e w4 ⟨g4, c4, rfl, ho4, hB4⟩
      go_wp2
      go_ret2
      rw [hR.out]
      exact ⟨_, _, rfl, own_base ho4 hA3.below.size, (hA3.step hB4).below⟩
end Go.Proofs.YtddjedbnikhjkaaDoor
