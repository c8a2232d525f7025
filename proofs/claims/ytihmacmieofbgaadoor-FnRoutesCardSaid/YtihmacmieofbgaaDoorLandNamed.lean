/- Walks: PlaceNamed. Printed by gen_land.py. -/
import Derived.Test.YtihmacmieofbgaaDoorLandSpec
import Derived.Test.YtihmacmieofbgaaDoorLandImpl
namespace Go.Proofs.YtihmacmieofbgaaDoor
open Go.ChangeShapes Go.WideShapes Go.ChangeAt Go.RowKit

def placeNamedR (ps : List ByteArray) (ws : List Wy) (s : ByteArray) : Int × Int := if isLandB ps ws = true then if fidx (isS s) ps 0 < 0 then (0, 4) else (fidx (isS s) ps 0, 0) else (0, 1)

set_option maxHeartbeats 1000000 in
theorem specPlaceNamed_any (a0 a1 : Option Addr) (cap0 cap1 : Nat) (xs0 : List ByteArray) (xs1 : List Wy) (s : ByteArray) (w : World) (hc0 : xs0.length ≤ cap0) (hc1 : cap0 ≤ 9223372036854775807) (hl0 : xs0.length ≤ 1048576) (hx0 : Rd encS w a0 xs0) (hs0 : ∀ m ∈ xs0, m.size ≤ 1048576) (hl1 : xs1.length ≤ 1048576) (hx1 : Rd encWy w a1 xs1) :
    Calls Tryd.prog 15 #[.agg #[.slice a0 xs0.length cap0, .slice a1 xs1.length cap1], .string s] w fun e w' => e = .returned (.tuple #[.int .i64 (placeNamedR xs0 xs1 s).1, .int .i64 (placeNamedR xs0 xs1 s).2]) ∧ Below w.heap.size w w' := by
  have HL : Hid (placeNamedR xs0 xs1 s = if isLandB xs0 xs1 = true then if fidx (isS s) xs0 0 < 0 then (0, 4) else (fidx (isS s) xs0 0, 0) else (0, 1)) := rfl
  generalize placeNamedR xs0 xs1 s = R at HL ⊢
  have hil := fun W h0 h1 => specIsLand_any a0 a1 cap0 cap1 xs0 xs1 W hc0 hc1 hl0 h0 hs0 hl1 h1
  have hix := fun W h => l01Text_any a0 cap0 xs0.length xs0 s W rfl hl0 h
  generalize hF : fidx (isS s) xs0 0 = F at *
  clear hF
  cases hA : isLandB xs0 xs1
  · have HIL := Lib.hid hil
    have HIX := Lib.hid hix
    clear hil hix
    go_enter Tryd.func15, Tryd.ntmps15
    go_wp2_with fail
    generalize hW : w.alloc (.cells #[.slice a0 xs0.length cap0, .slice a1 xs1.length cap1] 27) = W
    have hB : Below w.heap.size w W := by rw [← hW]; go_grown
    refine (HIL.out _ (hx0.below hB) (hx1.below hB)).mono ?_
    rintro e w1 ⟨rfl, hB1⟩
    rw [hA]
    go_wp2
    go_ret2
    exact ⟨ret_two (by rw [HL.out, hA]; rfl) (by rw [HL.out, hA]; rfl), stepB hB hB1 hB.size⟩
  · have HIL := Lib.hid hil
    have HIX := Lib.hid hix
    clear hil hix
    by_cases hneg : F < 0
    all_goals
      go_enter Tryd.func15, Tryd.ntmps15
      go_wp2_with fail
      generalize hW : w.alloc (.cells #[.slice a0 xs0.length cap0, .slice a1 xs1.length cap1] 27) = W
      have hB : Below w.heap.size w W := by rw [← hW]; go_grown
      have hn : w.heap.size < W.heap.size := by rw [← hW]; simp
      have b0 : W.cell? ⟨w.heap.size, 0, none⟩ = some (.slice a0 xs0.length cap0) := by rw [← hW]; exact World.cell?_alloc_at _ _ _ _ rfl
      refine (HIL.out _ (hx0.below hB) (hx1.below hB)).mono ?_
      rintro e w1 ⟨rfl, hB1⟩
      have b0 := (hB1.cell (p := ⟨w.heap.size, 0, none⟩) hn).trans b0
      have hB := stepB hB hB1 hB.size
      clear hW hB1
      rw [hA]
      go_wp2_with fail
      refine (HIX.out _ (hx0.below hB)).mono ?_
      rintro e w2 ⟨rfl, rfl⟩
      go_wp2
      go_ret2
    · exact ⟨ret_two (by rw [HL.out, hA, if_pos rfl, if_pos (by omega)]) (by rw [HL.out, hA, if_pos rfl, if_pos (by omega)]), hB⟩
    · exact ⟨ret_two (by rw [HL.out, hA, if_pos rfl, if_neg (by omega)]) (by rw [HL.out, hA, if_pos rfl, if_neg (by omega)]), hB⟩

set_option maxHeartbeats 1000000 in
theorem implPlaceNamed_any (a0 a1 : Option Addr) (cap0 cap1 : Nat) (xs0 : List ByteArray) (xs1 : List Wy) (s : ByteArray) (w : World) (hc0 : xs0.length ≤ cap0) (hc1 : cap0 ≤ 9223372036854775807) (hl0 : xs0.length ≤ 1048576) (hx0 : Rd encS w a0 xs0) (hs0 : ∀ m ∈ xs0, m.size ≤ 1048576) (hl1 : xs1.length ≤ 1048576) (hx1 : Rd encWy w a1 xs1) :
    Calls Tryd.prog 14 #[.agg #[.slice a0 xs0.length cap0, .slice a1 xs1.length cap1], .string s] w fun e w' => e = .returned (.tuple #[.int .i64 (placeNamedR xs0 xs1 s).1, .int .i64 (placeNamedR xs0 xs1 s).2]) ∧ Below w.heap.size w w' := by
  have HL : Hid (placeNamedR xs0 xs1 s = if isLandB xs0 xs1 = true then if fidx (isS s) xs0 0 < 0 then (0, 4) else (fidx (isS s) xs0 0, 0) else (0, 1)) := rfl
  generalize placeNamedR xs0 xs1 s = R at HL ⊢
  have hil := fun W h0 h1 => implIsLand_any a0 a1 cap0 cap1 xs0 xs1 W hc0 hc1 hl0 h0 hs0 hl1 h1
  have hix := fun W h => slIndex_any a0 cap0 xs0.length xs0 s W rfl hl0 h
  generalize hF : fidx (isS s) xs0 0 = F at *
  clear hF
  cases hA : isLandB xs0 xs1
  · have HIL := Lib.hid hil
    have HIX := Lib.hid hix
    clear hil hix
    go_enter Tryd.func14, Tryd.ntmps14
    go_wp2_with fail
    generalize hW : w.alloc (.cells #[.slice a0 xs0.length cap0, .slice a1 xs1.length cap1] 27) = W
    have hB : Below w.heap.size w W := by rw [← hW]; go_grown
    refine (HIL.out _ (hx0.below hB) (hx1.below hB)).mono ?_
    rintro e w1 ⟨rfl, hB1⟩
    rw [hA]
    go_wp2
    go_ret2
    exact ⟨ret_two (by rw [HL.out, hA]; rfl) (by rw [HL.out, hA]; rfl), stepB hB hB1 hB.size⟩
  · have HIL := Lib.hid hil
    have HIX := Lib.hid hix
    clear hil hix
    by_cases hneg : F < 0
    all_goals
      go_enter Tryd.func14, Tryd.ntmps14
      go_wp2_with fail
      generalize hW : w.alloc (.cells #[.slice a0 xs0.length cap0, .slice a1 xs1.length cap1] 27) = W
      have hB : Below w.heap.size w W := by rw [← hW]; go_grown
      have hn : w.heap.size < W.heap.size := by rw [← hW]; simp
      have b0 : W.cell? ⟨w.heap.size, 0, none⟩ = some (.slice a0 xs0.length cap0) := by rw [← hW]; exact World.cell?_alloc_at _ _ _ _ rfl
      refine (HIL.out _ (hx0.below hB) (hx1.below hB)).mono ?_
      rintro e w1 ⟨rfl, hB1⟩
      have b0 := (hB1.cell (p := ⟨w.heap.size, 0, none⟩) hn).trans b0
      have hB := stepB hB hB1 hB.size
      clear hW hB1
      rw [hA]
      go_wp2_with fail
      refine (HIX.out _ (hx0.below hB)).mono ?_
      rintro e w2 ⟨rfl, rfl⟩
      go_wp2
      go_ret2
    · exact ⟨ret_two (by rw [HL.out, hA, if_pos rfl, if_pos (by omega)]) (by rw [HL.out, hA, if_pos rfl, if_pos (by omega)]), hB⟩
    · exact ⟨ret_two (by rw [HL.out, hA, if_pos rfl, if_neg (by omega)]) (by rw [HL.out, hA, if_pos rfl, if_neg (by omega)]), hB⟩
end Go.Proofs.YtihmacmieofbgaaDoor
