/- Walks: TravelDays. -/
import Derived.Test.YtipdcgfdejmjfaaGreatDoorLandImpl
import Derived.Test.YtipdcgfdejmjfaaGreatDoorBf
import Derived.Test.YtipdcgfdejmjfaaGreatDoorFw
namespace Go.Proofs.YtipdcgfdejmjfaaGreatDoor
section
open Go.ChangeShapes Go.WideShapes Go.ChangeAt Go.RowKit

def codeL (ps : List ByteArray) (ws : List Wy) (zs : List Int) : Int := if isLandB ps ws then (if zs.all (placeB ps.length) then 0 else 2) else 1
theorem landOk {ps : List ByteArray} {ws : List Wy} (h : isLandB ps ws = true) : OkWs ps.length ws ∧ 1 ≤ ps.length ∧ ps.length ≤ 12 ∧ ws.length ≤ 40 := by
  unfold isLandB at h
  simp only [Bool.and_eq_true, decide_eq_true_eq, List.all_eq_true] at h
  refine ⟨fun m hm => ?_, h.1.1.2, h.1.2, h.2⟩
  have h1 := h.1.1.1.2 m hm
  unfold okWy placeB inB at h1
  simp at h1
  refine ⟨m.a.toNat, m.b.toNat, by omega, by omega, by omega, by omega, by omega, by omega, by omega⟩
theorem place_nat {n : Nat} {z : Int} (h : placeB n z = true) : ∃ a : Nat, z = a ∧ a < n := by
  unfold placeB inB at h
  simp at h
  exact ⟨z.toNat, by omega, by omega⟩
theorem codeL_zero {ps : List ByteArray} {ws : List Wy} {zs : List Int} (h : codeL ps ws zs = 0) : isLandB ps ws = true ∧ zs.all (placeB ps.length) = true := by
  unfold codeL at h
  cases hA : isLandB ps ws
  · rw [hA] at h; simp at h
  · cases hB : zs.all (placeB ps.length)
    · rw [hA, hB] at h; simp at h
    · exact ⟨rfl, rfl⟩









































































theorem any_not_place (n : Nat) (zs : List Int) : (zs.any fun m => !placeB n m) = !zs.all (placeB n) := by
  induction zs with
  | nil => rfl
  | cons x xs ih => simp only [List.any_cons, List.all_cons, Bool.not_and, ih]























































end

section
open Go.ChangeShapes Go.WideShapes Go.ChangeAt Go.RowKit

def distF (n : Nat) (ws : List Wy) (a v : Nat) : Int := if travM n ws a v < 1000000 then travM n ws a v else -1
theorem fromDist_any (a0 a1 : Option Addr) (cap0 cap1 a : Nat) (xs0 : List ByteArray) (xs1 : List Wy) (w : World) (hA : isLandB xs0 xs1 = true) (ha : a < xs0.length) (hx1 : Rd encWy w a1 xs1) :
    Calls Tryz.prog 93 #[.agg #[.slice a0 xs0.length cap0, .slice a1 xs1.length cap1], .int .i64 a] w fun e w' =>
      ∃ g, e = .returned (.slice (some ⟨g, 0, none⟩) xs0.length xs0.length) ∧ w'.ownsRow w.heap.size 2 1 (.slice (some ⟨g, 0, none⟩) xs0.length xs0.length) xs0.length (rowI xs0.length (distF xs0.length xs1 a)) ∧ Below w.heap.size w w' := by
  obtain ⟨h1, h2, h3, h4⟩ := landOk hA
  refine (l14From_any a0 a1 cap0 cap1 xs0.length a xs1 w h2 h3 ha h4 h1 hx1).mono ?_
  rintro e w' ⟨g, rfl, ho, hB⟩
  rw [rowI_congr (fun v hv => bf_eq h1.ok h3 h4 ha hv)] at ho
  exact ⟨g, rfl, ho, hB⟩
theorem trav_any (a0 a1 : Option Addr) (cap0 cap1 : Nat) (xs0 : List ByteArray) (xs1 : List Wy) (w : World) (hA : isLandB xs0 xs1 = true) (hx1 : Rd encWy w a1 xs1) :
    Calls Tryz.prog 42 #[.agg #[.slice a0 xs0.length cap0, .slice a1 xs1.length cap1]] w fun e w' =>
      ∃ H c g, e = .returned (.slice (some ⟨H, 0, none⟩) xs0.length c) ∧ Mat w.heap.size w' H c xs0.length xs0.length g (travM xs0.length xs1) ∧ Below w.heap.size w w' := by
  obtain ⟨h1, h2, h3, h4⟩ := landOk hA
  exact travels_any a0 a1 cap0 cap1 xs0.length xs1 w h2 h3 h4 h1 hx1
theorem trav_bd {xs0 : List ByteArray} {xs1 : List Wy} (hA : isLandB xs0 xs1 = true) {a b : Nat} (ha : a < xs0.length) (hb : b < xs0.length) : 0 ≤ travM xs0.length xs1 a b ∧ travM xs0.length xs1 a b ≤ 1000000 := by
  obtain ⟨h1, h2, h3, h4⟩ := landOk hA
  have := travM_snd h1.ok a b ha hb
  exact ⟨this.1, this.2.1⟩
def travR (ps : List ByteArray) (ws : List Wy) (a b : Int) : Int × Int :=
  if codeL ps ws [a, b] = 0 then (if travM ps.length ws a.toNat b.toNat < 1000000 then (travM ps.length ws a.toNat b.toNat, 0) else (0, 4)) else (0, codeL ps ws [a, b])
theorem all2 {n : Nat} {a b : Int} (h : [a, b].all (placeB n) = true) : (∃ k : Nat, a = k ∧ k < n) ∧ (∃ k : Nat, b = k ∧ k < n) := by
  simp only [List.all_cons, List.all_nil, Bool.and_true, Bool.and_eq_true] at h
  exact ⟨place_nat h.1, place_nat h.2⟩





























































































































end
end Go.Proofs.YtipdcgfdejmjfaaGreatDoor
