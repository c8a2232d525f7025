/- Walks: OfficeDays. Printed by gen_pp2.py. -/
import Derived.Test.YtddjedbnikhjkaaGreatDoorTerms
import Derived.Test.YtddjedbnikhjkaaGreatDoorQPeople
import Derived.Test.YtddjedbnikhjkaaGreatDoorPeopSpec
import Derived.Test.YtddjedbnikhjkaaGreatDoorPeopImpl
namespace Go.Proofs.YtddjedbnikhjkaaGreatDoor
open Go.ChangeShapes Go.WideShapes Go.ChangeAt Go.RowKit

theorem person_named {ps : List Ps} {ts : List Tm} {p : ByteArray} (h : isPeopleB ps ts = true) (hz : 0 ≤ personIx ps p) : p.toList ≠ [] := by
  have h1 := fidx_any (isNm p) ps
  have hz' : decide (0 ≤ fidx (isNm p) ps 0) = true := decide_eq_true hz
  rw [hz'] at h1
  obtain ⟨m, hm, he⟩ := List.any_eq_true.1 h1.symm
  have hn := people_name h hm
  unfold nameB at hn
  simp only [Bool.and_eq_true, decide_eq_true_eq] at hn
  intro e
  unfold isNm at he
  rw [e] at he
  have h2 : m.name.toList = [] := by simpa using he
  rw [ByteArray.toList_eq] at h2
  rw [h2] at hn
  simp at hn
def officeR (ps : List Ps) (ts : List Tm) (o p : ByteArray) : List Sp × Int :=
  if isPeopleB ps ts then (if personIx ps p < 0 then ([], 4) else (uni (tsp (isOP o p) ts), 0)) else ([], 1)
theorem officeR_len (ps : List Ps) (ts : List Tm) (o p : ByteArray) (h : ts.length ≤ 1048576) : (officeR ps ts o p).1.length ≤ 1048576 := by
  have h1 := uni_len (tsp (isOP o p) ts)
  have h2 := tsp_len (isOP o p) ts
  unfold officeR
  split
  · split
    · simp
    · show (uni (tsp (isOP o p) ts)).length ≤ 1048576
      omega
  · simp




















































































































































end Go.Proofs.YtddjedbnikhjkaaGreatDoor
