/- Walks: ranges, days, spans, names. -/
import Derived.Test.YtipdcgfdejmjfaaGreatDoorBase
import Derived.Test.YtipdcgfdejmjfaaGreatDoorPlain
import Derived.Test.YtipdcgfdejmjfaaGreatDoorShelf
namespace Go.Proofs.YtipdcgfdejmjfaaGreatDoor
open Go.ChangeShapes Go.WideShapes Go.ChangeAt Go.RowKit

theorem l01In_any (n lo hi : Int) (w : World) : Calls Tryz.prog 92 #[.int .i64 n, .int .i64 lo, .int .i64 hi] w fun e w' => e = .returned (.bool (inB n lo hi)) ∧ w = w' := by
  go_enter Tryz.func92, Tryz.ntmps92
  go_wp2
  all_goals go_ret
  all_goals (simp [inB, *]; try omega)
theorem within_any (n lo hi : Int) (w : World) : Calls Tryz.prog 50 #[.int .i64 n, .int .i64 lo, .int .i64 hi] w fun e w' => e = .returned (.bool (inB n lo hi)) ∧ w = w' := by
  go_enter Tryz.func50, Tryz.ntmps50
  go_wp2
  all_goals go_ret
  all_goals (simp [inB, *]; try omega)
theorem l01Day_any (n : Int) (w : World) : Calls Tryz.prog 45 #[.int .i64 n] w fun e w' => e = .returned (.bool (dayB n)) ∧ w = w' := by
  go_enter Tryz.func45, Tryz.ntmps45
  go_wp2_with (go_at_call 92; refine (l01In_any _ _ _ _).mono ?_; rintro e w' ⟨rfl, rfl⟩)
  go_ret
  exact ⟨rfl, rfl⟩
theorem isDay_any (n : Int) (w : World) : Calls Tryz.prog 66 #[.int .i64 n] w fun e w' => e = .returned (.bool (dayB n)) ∧ w = w' := by
  go_enter Tryz.func66, Tryz.ntmps66
  go_wp2_with (go_at_call 50; refine (within_any _ _ _ _).mono ?_; rintro e w' ⟨rfl, rfl⟩)
  go_ret
  exact ⟨rfl, rfl⟩
theorem l02Span_any (f t : Int) (w : World) : Calls Tryz.prog 140 #[.agg #[.int .i64 f, .int .i64 t]] w fun e w' => e = .returned (.bool (spanB f t)) ∧ Below w.heap.size w w' := by
  cases h1 : dayB f <;> cases h2 : dayB t
  all_goals
    go_enter Tryz.func140, Tryz.ntmps140
    go_wp2_with (go_at_call 45; refine (l01Day_any _ _).mono ?_; rintro e w' ⟨rfl, rfl⟩)
    all_goals go_ret
    all_goals exact ⟨by simp [spanB, *], by go_grown⟩
theorem l13Span_any (f t : Int) (w : World) : Calls Tryz.prog 98 #[.int .i64 f, .int .i64 t] w fun e w' => e = .returned (.bool (spanB f t)) ∧ Below w.heap.size w w' := by
  go_enter Tryz.func98, Tryz.ntmps98
  go_wp2_with (go_at_call 140; refine (l02Span_any _ _ _).mono ?_; rintro e w' ⟨rfl, hB⟩)
  go_ret
  exact ⟨rfl, by assumption⟩

theorem isSmall_any (s : ByteArray) (most : Int) (w : World) (hs : s.size ≤ 9223372036854775807) :
    Calls Tryz.prog 100 #[.string s, .int .i64 most] w fun e w' => e = .returned (.bool (nameB s.data.toList most)) ∧ Below w.heap.size w w' := by
  have hcon := Any.strings_Trim_laid Tryz.lays160 (by kernel_rfl) s ⟨letters.toArray⟩ w hs (by decide) (Proofs.ascii_of_all (by decide))
  have ht := trimS_low s.data.toList
  change Calls Tryz.prog 142 _ _ (fun e w' => e = .returned (.string ⟨(Lib.trimS s.data.toList letters).toArray⟩) ∧ Below w.heap.size w w') at hcon
  have he : (⟨(Lib.trimS s.data.toList letters).toArray⟩ : ByteArray).toList = Lib.trimS s.data.toList letters := by rw [Lib.toList_data]
  have h2 : (Lib.trimS s.data.toList letters).isEmpty = allLow s.data.toList := trimS_low _
  generalize (⟨(Lib.trimS s.data.toList letters).toArray⟩ : ByteArray) = r at hcon he
  rw [← he] at h2
  clear he ht
  by_cases h3 : 1 ≤ (s.size : Int) <;> by_cases h4 : (s.size : Int) ≤ most
  all_goals
    go_enter Tryz.func100, Tryz.ntmps100
    go_wp2_with (go_at_call 142; refine hcon.mono ?_; rintro e w' ⟨rfl, hB⟩)
    all_goals go_ret
    all_goals refine ⟨?_, by first | exact Below.refl _ _ | assumption⟩
    all_goals
      have e0 : (s.data.toList.length : Int) = s.size := by rw [Lib.size_eq]
      simp only [nameB, e0]
      simp [*]
      try omega

set_option maxHeartbeats 400000 in
theorem l01Name_any (s : ByteArray) (most : Int) (w : World) (hs : s.size ≤ 9223372036854775807) :
    Calls Tryz.prog 107 #[.string s, .int .i64 most] w fun e w' => e = .returned (.bool (nameB s.data.toList most)) ∧ Below w.heap.size w w' := by
  go_enter Tryz.func107, Tryz.ntmps107
  go_wp2
  go_loop [5] (fun i => ∃ k : Nat, k ≤ s.size ∧ i = .int .i64 k ∧ allLow (s.data.toList.take k) = true) (fun i => s.size - (intOf i).toNat)
  case atStart => exact ⟨0, Nat.zero_le _, rfl, rfl⟩
  case round =>
    obtain ⟨k, hk, rfl, hA⟩ := hrel
    have HA := Lib.hid hA; clear hA
    by_cases hlt : k < s.size
    · have H1 := Lib.hid (take_snoc s k hlt)
      have H2 := Lib.hid (allLow_snoc (s.data.toList.take k) s[k])
      have H3 : Hid (allLow s.data.toList = true → lowB s[k] = true) := fun h => by
        have := List.all_eq_true.1 h s[k] (Array.getElem_mem_toList _)
        exact this
      by_cases h1 : (s[k].toNat : Int) < 97
      · go_wp2
        go_ret
        refine ⟨?_, Below.refl _ _⟩
        have : allLow s.data.toList = false := by
          cases h : allLow s.data.toList with
          | false => rfl
          | true => have := H3.out h; simp [lowB] at this; omega
        simp [nameB, this]
      · by_cases h2 : 122 < (s[k].toNat : Int)
        · go_wp2
          go_ret
          refine ⟨?_, Below.refl _ _⟩
          have : allLow s.data.toList = false := by
            cases h : allLow s.data.toList with
            | false => rfl
            | true => have := H3.out h; simp [lowB] at this; omega
          simp [nameB, this]
        · go_wp2
          go_round
          case rel =>
            refine ⟨k + 1, by omega, by go_num, ?_⟩
            rw [H1.out, H2.out, HA.out]
            simp [lowB]; omega
          case measure => simp [intOf]; omega
    · have e1 : s.data.toList.take k = s.data.toList := List.take_of_length_le (by rw [← Lib.size_eq]; omega)
      have HA' := Lib.hid (e1 ▸ HA.out)
      clear e1 HA
      by_cases h3 : 1 ≤ (s.size : Int) <;> by_cases h4 : (s.size : Int) ≤ most
      all_goals
        go_wp2
        go_ret
        refine ⟨?_, Below.refl _ _⟩
        have e0 : (s.data.toList.length : Int) = s.size := by rw [Lib.size_eq]
        simp only [nameB, e0, HA'.out]
        simp [*]
        try omega
end Go.Proofs.YtipdcgfdejmjfaaGreatDoor
