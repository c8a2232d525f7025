/- Walk: the reference's AreMarks. -/
import Derived.Test.YtmjbigeeokofeaaDoorMarkCmp
namespace Go.Proofs.YtmjbigeeokofeaaDoor
open Go.ChangeShapes Go.WideShapes Go.ChangeAt Go.RowKit

set_option maxHeartbeats 1000000 in
theorem specAreMarks_any (a : Option Addr) (cap : Nat) (xs : List Mk) (w : World) (hl : xs.length ≤ 1048576) (hx : Rd encMk w a xs) (hs : ∀ m ∈ xs, m.name.size ≤ 1048576) :
    Calls Tryd.prog 46 #[.slice a xs.length cap] w fun e w' => e = .returned (.bool (areMarksB xs)) ∧ Below w.heap.size w w' := by
  go_enter Tryd.func46, Tryd.ntmps46
  go_wp2
  go_loopw [3] (fun i wr => ∃ (k : Nat), k ≤ xs.length ∧ i = .int .i64 k ∧ Hid (upGo okMk ltMk none xs = upGo okMk ltMk (prevOf xs k) (xs.drop k)) ∧ Below w.heap.size w wr) (fun i _ => xs.length - (intOf i).toNat)
  case atStart => exact ⟨0, Nat.zero_le _, rfl, rfl, Below.refl _ _⟩
  case round =>
    obtain ⟨k, hk, rfl, hH, hB⟩ := hrel
    by_cases hlt : k < xs.length
    · have hm := List.getElem?_eq_getElem hlt
      generalize xs[k] = m at hm
      obtain ⟨b, off, rfl, hb, c0, c1, c2⟩ := (hx.below hB).mk hm
      have hsm : m.name.size ≤ 9223372036854775807 := by have := hs m (List.mem_of_getElem? hm); omega
      have bad : Hid (okMk m = false → areMarksB xs = false) := fun h => by unfold areMarksB; rw [hH.out, upGo_bad hm h]; rfl
      cases hn : nameB m.name.data.toList 12
      · go_wp2_with (go_at_call 47; refine (l01Name_any _ _ _ hsm).mono ?_; rintro e w1 ⟨rfl, hB1⟩)
        go_ret
        exact ⟨ret_bool (bad.out (by simp [okMk, hn])).symm, stepB (hB.alloc hB.size _) hB1 (by have := hB.size; simp; omega)⟩
      cases hsp : spanB m.fr m.to
      · go_wp2_with fail
        refine (l01Name_any _ _ _ hsm).mono ?_
        rintro e w1 ⟨rfl, hB1⟩
        have e1 := (hB1.cell (p := ⟨wr.heap.size, 1, none⟩) (by simp)).trans (World.cell?_alloc_at _ _ _ _ rfl)
        have e2 := (hB1.cell (p := ⟨wr.heap.size, 2, none⟩) (by simp)).trans (World.cell?_alloc_at _ _ _ _ rfl)
        go_wp2_with (go_at_call 64; refine (l13Span_any _ _ _).mono ?_; rintro e w2 ⟨rfl, hB2⟩)
        go_ret
        exact ⟨ret_bool (bad.out (by simp [okMk, hsp])).symm, stepB (stepB (hB.alloc hB.size _) hB1 (by have := hB.size; simp; omega)) hB2 (by have := hB.size; have := hB1.size; simp at this; omega)⟩
      have hok : okMk m = true := by simp [okMk, hn, hsp]
      have HOK := Lib.hid hok
      clear hok bad
      by_cases hk0 : 0 < k
      · have hpl : k - 1 < xs.length := by omega
        have hp := List.getElem?_eq_getElem hpl
        generalize xs[k - 1] = p at hp
        obtain ⟨_, _, e', _, p0, p1, p2⟩ := (hx.below hB).mk hp
        simp only [Option.some.injEq, Addr.mk.injEq, and_true] at e'
        obtain ⟨rfl, rfl⟩ := e'
        have hN := Lib.hid (upGo_at (ok := okMk) (lt := ltMk) hk0 hp hm)
        have hbad := badMk p m
        have HBAD := Lib.hid hbad
        clear hm hp hbad
        go_wp2_with fail
        refine (l01Name_any _ _ _ hsm).mono ?_
        rintro e w1 ⟨rfl, hB1⟩
        have e1 := (hB1.cell (p := ⟨wr.heap.size, 1, none⟩) (by simp)).trans (World.cell?_alloc_at _ _ _ _ rfl)
        have e2 := (hB1.cell (p := ⟨wr.heap.size, 2, none⟩) (by simp)).trans (World.cell?_alloc_at _ _ _ _ rfl)
        go_wp2_with fail
        refine (l13Span_any _ _ _).mono ?_
        rintro e w2 ⟨rfl, hB2⟩
        have hB12 := stepB hB1 hB2 hB1.size
        have e0 := (hB12.cell (p := ⟨wr.heap.size, 0, none⟩) (by simp)).trans (World.cell?_alloc_at _ _ _ _ rfl)
        have e3 := (hB12.cell (p := ⟨wr.heap.size, 1, none⟩) (by simp)).trans (World.cell?_alloc_at _ _ _ _ rfl)
        have q0 := (hB12.cell (p := ⟨b, off + (k - 1) * 3, none⟩) (by simp; omega)).trans ((World.cell?_alloc_past _ _ _ hb).trans p0)
        have q1 := (hB12.cell (p := ⟨b, off + (k - 1) * 3 + 1, none⟩) (by simp; omega)).trans ((World.cell?_alloc_past _ _ _ hb).trans p1)
        have hB' := stepB (hB.alloc hB.size _) hB12 (by have := hB.size; simp; omega)
        clear e1 e2 hB1 hB2 hB12 p0 p1 p2 c0 c1 c2 hB
        have hk1 : (0 : Int) < (k : Int) := by omega
        cases hq1 : Op.bytesLess m.name.toList p.name.toList
        · cases hq2 : (m.name.toList == p.name.toList)
          · have hlm : Hid (ltMk p m = true) := by unfold Hid; have := HBAD.out; rw [hq1, hq2] at this; simpa using this
            go_wp2_with fail
            go_quiet (fail)
            go_wp2
            go_roundw
            case rel => exact ⟨k + 1, by omega, by go_num, by unfold Hid; rw [hH.out, hN.out, HOK.out, hlm.out]; rfl, drewB hB' _⟩
            case measure => simp [intOf]; omega
          · by_cases hq3 : m.fr ≤ p.fr
            · have hlm : Hid (ltMk p m = false) := by unfold Hid; have := HBAD.out; rw [hq1, hq2] at this; simpa [hq3] using this
              go_wp2_with fail
              go_quiet (fail)
              go_wp2
              go_ret
              exact ⟨ret_bool (by unfold areMarksB; rw [hH.out, hN.out, HOK.out, hlm.out]; rfl), drewB hB' _⟩
            · have hlm : Hid (ltMk p m = true) := by unfold Hid; have := HBAD.out; rw [hq1, hq2] at this; simpa [hq3] using this
              have hq4 : decide (m.fr ≤ p.fr) = false := by simpa using hq3
              go_wp2_with fail
              go_quiet (fail)
              go_wp2
              go_roundw
              case rel => exact ⟨k + 1, by omega, by go_num, by unfold Hid; rw [hH.out, hN.out, HOK.out, hlm.out]; rfl, drewB hB' _⟩
              case measure => simp [intOf]; omega
        · have hlm : Hid (ltMk p m = false) := by unfold Hid; have := HBAD.out; rw [hq1] at this; simpa using this
          go_wp2_with fail
          go_quiet (fail)
          go_wp2
          go_ret
          exact ⟨ret_bool (by unfold areMarksB; rw [hH.out, hN.out, HOK.out, hlm.out]; rfl), drewB hB' _⟩
      · have hk1 : k = 0 := by omega
        have hN := Lib.hid (upGo_at0 (ok := okMk) (lt := ltMk) hk1 hm)
        have hk2 : decide ((0 : Int) < (k : Int)) = false := by simp; omega
        clear hm hk1
        go_wp2_with fail
        refine (l01Name_any _ _ _ hsm).mono ?_
        rintro e w1 ⟨rfl, hB1⟩
        have e1 := (hB1.cell (p := ⟨wr.heap.size, 1, none⟩) (by simp)).trans (World.cell?_alloc_at _ _ _ _ rfl)
        have e2 := (hB1.cell (p := ⟨wr.heap.size, 2, none⟩) (by simp)).trans (World.cell?_alloc_at _ _ _ _ rfl)
        go_wp2_with fail
        refine (l13Span_any _ _ _).mono ?_
        rintro e w2 ⟨rfl, hB2⟩
        have hB' := stepB (hB.alloc hB.size _) (stepB hB1 hB2 hB1.size) (by have := hB.size; simp; omega)
        go_wp2_with fail
        go_quiet (fail)
        go_wp2
        go_roundw
        case rel => exact ⟨k + 1, by omega, by go_num, by unfold Hid; rw [hH.out, hN.out, HOK.out]; rfl, drewB hB' _⟩
        case measure => simp [intOf]; omega
    · go_wp2
      go_ret
      exact ⟨ret_bool (by unfold areMarksB; rw [hH.out, upGo_end (by omega)]; simp; omega), hB⟩

end Go.Proofs.YtmjbigeeokofeaaDoor
