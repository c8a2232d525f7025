/- Walks: ranges, days, spans, names. -/
import Derived.Test.YteajkofgcmfaoaaGreatDoorBase
import Derived.Test.YteajkofgcmfaoaaGreatDoorPlain
import Derived.Test.YteajkofgcmfaoaaGreatDoorShelf
namespace Go.Proofs.YteajkofgcmfaoaaGreatDoor
open Go.ChangeShapes Go.WideShapes Go.ChangeAt Go.RowKit

theorem l01In_any (n lo hi : Int) (w : World) : Calls Tryz.prog 55 #[.int .i64 n, .int .i64 lo, .int .i64 hi] w fun e w' => e = .returned (.bool (inB n lo hi)) ∧ w = w' := by
  go_enter Tryz.func55, Tryz.ntmps55
  go_wp2
  all_goals go_ret
  all_goals (simp [inB, *]; try omega)
theorem within_any (n lo hi : Int) (w : World) : Calls Tryz.prog 53 #[.int .i64 n, .int .i64 lo, .int .i64 hi] w fun e w' => e = .returned (.bool (inB n lo hi)) ∧ w = w' := by
  go_enter Tryz.func53, Tryz.ntmps53
  go_wp2
  all_goals go_ret
  all_goals (simp [inB, *]; try omega)
theorem l01Day_any (n : Int) (w : World) : Calls Tryz.prog 121 #[.int .i64 n] w fun e w' => e = .returned (.bool (dayB n)) ∧ w = w' := by
  go_enter Tryz.func121, Tryz.ntmps121
  go_wp2_with (go_at_call 55; refine (l01In_any _ _ _ _).mono ?_; rintro e w' ⟨rfl, rfl⟩)
  go_ret
  exact ⟨rfl, rfl⟩
theorem isDay_any (n : Int) (w : World) : Calls Tryz.prog 175 #[.int .i64 n] w fun e w' => e = .returned (.bool (dayB n)) ∧ w = w' := by
  go_enter Tryz.func175, Tryz.ntmps175
  go_wp2_with (go_at_call 53; refine (within_any _ _ _ _).mono ?_; rintro e w' ⟨rfl, rfl⟩)
  go_ret
  exact ⟨rfl, rfl⟩













theorem isSmall_any (s : ByteArray) (most : Int) (w : World) (hs : s.size ≤ 9223372036854775807) :
    Calls Tryz.prog 61 #[.string s, .int .i64 most] w fun e w' => e = .returned (.bool (nameB s.data.toList most)) ∧ Below w.heap.size w w' := by
  have hcon := Any.strings_Trim_laid Tryz.lays160 (by kernel_rfl) s ⟨letters.toArray⟩ w hs (by decide) (Proofs.ascii_of_all (by decide))
  have ht := trimS_low s.data.toList
  change Calls Tryz.prog 119 _ _ (fun e w' => e = .returned (.string ⟨(Lib.trimS s.data.toList letters).toArray⟩) ∧ Below w.heap.size w w') at hcon
  have he : (⟨(Lib.trimS s.data.toList letters).toArray⟩ : ByteArray).toList = Lib.trimS s.data.toList letters := by rw [Lib.toList_data]
  have h2 : (Lib.trimS s.data.toList letters).isEmpty = allLow s.data.toList := trimS_low _
  generalize (⟨(Lib.trimS s.data.toList letters).toArray⟩ : ByteArray) = r at hcon he
  rw [← he] at h2
  clear he ht
  by_cases h3 : 1 ≤ (s.size : Int) <;> by_cases h4 : (s.size : Int) ≤ most
  all_goals
    go_enter Tryz.func61, Tryz.ntmps61
    go_wp2_with (go_at_call 119; refine hcon.mono ?_; rintro e w' ⟨rfl, hB⟩)
    all_goals go_ret
    all_goals refine ⟨?_, by first | exact Below.refl _ _ | assumption⟩
    all_goals
      have e0 : (s.data.toList.length : Int) = s.size := by rw [Lib.size_eq]
      simp only [nameB, e0]
      simp [*]
      try omega

set_option maxHeartbeats 400000 in
theorem l01Name_any (s : ByteArray) (most : Int) (w : World) (hs : s.size ≤ 9223372036854775807) :
    Calls Tryz.prog 102 #[.string s, .int .i64 most] w fun e w' => e = .returned (.bool (nameB s.data.toList most)) ∧ Below w.heap.size w w' := by
  go_enter Tryz.func102, Tryz.ntmps102
  go_wp2
  go_loop [5] (fun i => ∃ k : Nat, k ≤ s.size ∧ i = .int .i64 k ∧ allLow (s.data.toList.take k) = true) (fun i => s.size - (intOf i).toNat)
  case atStart => exact ⟨0, Nat.zero_le _, rfl, rfl⟩
  case round =>
    obtain ⟨k, hk, rfl, hA⟩ := hrel
    have HA := Lib.hid hA; clear hA
    by_cases hlt : k < s.size
    · have H1 := Lib.hid (take_snoc s k hlt)
      have H2 := Lib.hid (allLow_snoc (s.data.toList.take k) s[k])
      have H3 : Hid (allLow s.data.toList = true → lowB s[k] = true) := fun h => by
        have := List.all_eq_true.1 h s[k] (Array.getElem_mem_toList _)
        exact this
      by_cases h1 : (s[k].toNat : Int) < 97
      · go_wp2
        go_ret
        refine ⟨?_, Below.refl _ _⟩
        have : allLow s.data.toList = false := by
          cases h : allLow s.data.toList with
          | false => rfl
          | true => have := H3.out h; simp [lowB] at this; omega
        simp [nameB, this]
      · by_cases h2 : 122 < (s[k].toNat : Int)
        · go_wp2
          go_ret
          refine ⟨?_, Below.refl _ _⟩
          have : allLow s.data.toList = false := by
            cases h : allLow s.data.toList with
            | false => rfl
            | true => have := H3.out h; simp [lowB] at this; omega
          simp [nameB, this]
        · go_wp2
          go_round
          case rel =>
            refine ⟨k + 1, by omega, by go_num, ?_⟩
            rw [H1.out, H2.out, HA.out]
            simp [lowB]; omega
          case measure => simp [intOf]; omega
    · have e1 : s.data.toList.take k = s.data.toList := List.take_of_length_le (by rw [← Lib.size_eq]; omega)
      have HA' := Lib.hid (e1 ▸ HA.out)
      clear e1 HA
      by_cases h3 : 1 ≤ (s.size : Int) <;> by_cases h4 : (s.size : Int) ≤ most
      all_goals
        go_wp2
        go_ret
        refine ⟨?_, Below.refl _ _⟩
        have e0 : (s.data.toList.length : Int) = s.size := by rw [Lib.size_eq]
        simp only [nameB, e0, HA'.out]
        simp [*]
        try omega
end Go.Proofs.YteajkofgcmfaoaaGreatDoor
