/- Walks: TravelDays. -/
import Derived.Test.YtihmacmieofbgaaGreatDoorTrCode
namespace Go.Proofs.YtihmacmieofbgaaGreatDoor
open Go.ChangeShapes Go.WideShapes Go.ChangeAt Go.RowKit

def distF (n : Nat) (ws : List Wy) (a v : Nat) : Int := if travM n ws a v < 1000000 then travM n ws a v else -1
theorem fromDist_any (a0 a1 : Option Addr) (cap0 cap1 a : Nat) (xs0 : List ByteArray) (xs1 : List Wy) (w : World) (hA : isLandB xs0 xs1 = true) (ha : a < xs0.length) (hx1 : Rd encWy w a1 xs1) :
    Calls Tryz.prog 59 #[.agg #[.slice a0 xs0.length cap0, .slice a1 xs1.length cap1], .int .i64 a] w fun e w' =>
      ∃ g, e = .returned (.slice (some ⟨g, 0, none⟩) xs0.length xs0.length) ∧ w'.ownsRow w.heap.size 2 1 (.slice (some ⟨g, 0, none⟩) xs0.length xs0.length) xs0.length (rowI xs0.length (distF xs0.length xs1 a)) ∧ Below w.heap.size w w' := by
  obtain ⟨h1, h2, h3, h4⟩ := landOk hA
  refine (l14From_any a0 a1 cap0 cap1 xs0.length a xs1 w h2 h3 ha h4 h1 hx1).mono ?_
  rintro e w' ⟨g, rfl, ho, hB⟩
  rw [rowI_congr (fun v hv => bf_eq h1.ok h3 h4 ha hv)] at ho
  exact ⟨g, rfl, ho, hB⟩
theorem trav_any (a0 a1 : Option Addr) (cap0 cap1 : Nat) (xs0 : List ByteArray) (xs1 : List Wy) (w : World) (hA : isLandB xs0 xs1 = true) (hx1 : Rd encWy w a1 xs1) :
    Calls Tryz.prog 42 #[.agg #[.slice a0 xs0.length cap0, .slice a1 xs1.length cap1]] w fun e w' =>
      ∃ H c g, e = .returned (.slice (some ⟨H, 0, none⟩) xs0.length c) ∧ Mat w.heap.size w' H c xs0.length xs0.length g (travM xs0.length xs1) ∧ Below w.heap.size w w' := by
  obtain ⟨h1, h2, h3, h4⟩ := landOk hA
  exact travels_any a0 a1 cap0 cap1 xs0.length xs1 w h2 h3 h4 h1 hx1
theorem trav_bd {xs0 : List ByteArray} {xs1 : List Wy} (hA : isLandB xs0 xs1 = true) {a b : Nat} (ha : a < xs0.length) (hb : b < xs0.length) : 0 ≤ travM xs0.length xs1 a b ∧ travM xs0.length xs1 a b ≤ 1000000 := by
  obtain ⟨h1, h2, h3, h4⟩ := landOk hA
  have := travM_snd h1.ok a b ha hb
  exact ⟨this.1, this.2.1⟩
def travR (ps : List ByteArray) (ws : List Wy) (a b : Int) : Int × Int :=
  if codeL ps ws [a, b] = 0 then (if travM ps.length ws a.toNat b.toNat < 1000000 then (travM ps.length ws a.toNat b.toNat, 0) else (0, 4)) else (0, codeL ps ws [a, b])
theorem all2 {n : Nat} {a b : Int} (h : [a, b].all (placeB n) = true) : (∃ k : Nat, a = k ∧ k < n) ∧ (∃ k : Nat, b = k ∧ k < n) := by
  simp only [List.all_cons, List.all_nil, Bool.and_true, Bool.and_eq_true] at h
  exact ⟨place_nat h.1, place_nat h.2⟩





























































































































end Go.Proofs.YtihmacmieofbgaaGreatDoor
