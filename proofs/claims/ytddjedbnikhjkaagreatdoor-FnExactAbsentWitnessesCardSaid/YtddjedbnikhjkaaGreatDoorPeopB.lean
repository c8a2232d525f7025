/- What makes people valid, in plain words. Printed by gen_people.py. -/
import Derived.Test.YtddjedbnikhjkaaGreatDoorPeopIx
namespace Go.Proofs.YtddjedbnikhjkaaGreatDoor
open Go.ChangeShapes Go.WideShapes Go.ChangeAt Go.RowKit
def okPs (m : Ps) : Bool := nameB m.name.data.toList 12 && spanB m.fr m.to
def ltPs (p m : Ps) : Bool := Op.bytesLess p.name.toList m.name.toList
def okTm (ps : List Ps) (t : Tm) : Bool := nameB t.office.data.toList 12 && (match ps[(personIx ps t.person).toNat]? with | some x => decide (0 ≤ personIx ps t.person) && spanB t.fr t.to && decide (x.fr ≤ t.fr) && decide (t.to ≤ x.to) | none => false)
def isPeopleB (ps : List Ps) (ts : List Tm) : Bool := upGo okPs ltPs none ps && ts.all (okTm ps) && decide (ps.length ≤ 40) && decide (ts.length ≤ 60)
theorem badPs (p m : Ps) : (Op.bytesLess m.name.toList p.name.toList || m.name.toList == p.name.toList) = !ltPs p m := by
  unfold ltPs
  rcases bl_tri p.name.toList m.name.toList with ⟨h1, h2, h3, h4⟩ | ⟨h1, h2, h3, h4⟩ | ⟨h1, h2, h3, h4⟩ <;> simp [h1, h2, h4]
theorem okTm_neg {ps : List Ps} {t : Tm} (h : personIx ps t.person < 0) : okTm ps t = false := by
  unfold okTm
  have : decide (0 ≤ personIx ps t.person) = false := by simp; omega
  rw [this]
  split <;> simp
theorem okTm_at {ps : List Ps} {t : Tm} {j : Nat} {x : Ps} (h : personIx ps t.person = (j : Nat)) (hx : ps[j]? = some x) : okTm ps t = (nameB t.office.data.toList 12 && (spanB t.fr t.to && decide (x.fr ≤ t.fr) && decide (t.to ≤ x.to))) := by
  unfold okTm
  rw [h, Int.toNat_natCast, hx]
  simp
theorem ixOf {ps : List Ps} {s : ByteArray} (h : ¬ personIx ps s < 0) : ∃ k x, personIx ps s = (k : Nat) ∧ k < ps.length ∧ ps[k]? = some x := by
  rcases fidx_bd (isNm s) ps 0 with e | ⟨k, x, e, hk, hx, _⟩
  · unfold personIx at h; omega
  · exact ⟨k, x, by unfold personIx; rw [e]; simp, hk, hx⟩
end Go.Proofs.YtddjedbnikhjkaaGreatDoor
