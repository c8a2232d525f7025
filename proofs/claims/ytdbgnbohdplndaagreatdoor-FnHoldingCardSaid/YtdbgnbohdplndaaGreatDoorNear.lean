/- Walk: NearestFeast of the reference: the feast is one of twenty. -/
import Derived.Test.YtdbgnbohdplndaaGreatDoorRegnS
namespace Go.Proofs.YtdbgnbohdplndaaGreatDoor
open Go.ChangeShapes Go.WideShapes Go.ChangeAt Go.RowKit Go.IntWalk

theorem max_eq {a b c d : Int} (h1 : max a b = c) (h2 : c = d) : max a b = d := h1.trans h2
set_option maxRecDepth 100000 in
set_option maxHeartbeats 4000000 in
theorem nearest_any (n : Int) (w : World) (hn0 : 0 ≤ n) (hn : n ≤ 730499) :
    Calls Tryz.prog 146 #[.int .i64 n] w fun e w' => ∃ f a : Int, e = .returned (.tuple #[.int .i64 f, .int .i64 a, .int .i64 0]) ∧ (0 ≤ f ∧ f ≤ 19) ∧ Below w.heap.size w w' := by
  have HD := Lib.hid (fun W => l01Old_any n W hn0 hn)
  have hyb := yrO_bd hn0 hn
  have hfd := fldY (yrO n) (mnO n) (dyO n)
  have hday : dayB n = true := by unfold dayB inB; simp; omega
  have HDay := Lib.hid (fun W => hday ▸ l01Day_any n W)
  generalize yrO n = Y at HD hyb hfd
  generalize mnO n = M at HD hfd
  generalize dyO n = D at HD hfd
  have v1 := i64_in (Y - 1) (by omega)
  have v2 := i64_in (Y + 1) (by omega)
  obtain ⟨lo, hlo⟩ : ∃ lo : Int, lo = max 1 (Y - 1) := ⟨_, rfl⟩
  obtain ⟨hi, hhi⟩ : ∃ hi : Int, hi = min 2000 (Y + 1) := ⟨_, rfl⟩
  have hlb : 1 ≤ lo ∧ lo ≤ 2000 := by omega
  have hhb : 1 ≤ hi ∧ hi ≤ 2000 := by omega
  have hlo' := hlo.symm
  have hhi' := hhi.symm
  clear hlo hhi
  clear hday
  go_enter Tryz.func146, Tryz.ntmps146
  go_wp2_with fail
  refine (HDay.out _).mono ?_
  rintro e w0 ⟨rfl, rfl⟩
  go_wp2_with fail
  refine (HD.out _).mono ?_
  rintro e w1 ⟨rfl, hB⟩
  go_wp2
  go_loopw [6, 7, 8, 9] (fun b a fd i wr => ∃ (bb aa y : Int) (fb : Bool), b = .int .i64 bb ∧ a = .int .i64 aa ∧ fd = .bool fb ∧ i = .int .i64 y ∧ (0 ≤ bb ∧ bb ≤ 19) ∧ (-3000000 ≤ aa ∧ aa ≤ 3000000) ∧ (1 ≤ y ∧ y ≤ 2001) ∧ Below w.heap.size w wr) (fun _ _ _ i _ => (2001 - intOf i).toNat)
  case atStart => exact ⟨0, 0, lo, false, rfl, rfl, rfl, rfl, by decide, by decide, by omega, hB⟩
  case round =>
    clear hB
    obtain ⟨bb, aa, y, fb, rfl, rfl, rfl, rfl, hbb, haa, hy, hB⟩ := hrel
    by_cases hyh : y ≤ hi
    · have hy2 : 1 ≤ y ∧ y ≤ 2000 := by omega
      go_wp2
      go_loopw [6, 7, 8, 10] (fun b a fd i wr => ∃ (bb aa : Int) (k : Nat) (fb : Bool), b = .int .i64 bb ∧ a = .int .i64 aa ∧ fd = .bool fb ∧ i = .int .i64 k ∧ (0 ≤ bb ∧ bb ≤ 19) ∧ (-3000000 ≤ aa ∧ aa ≤ 3000000) ∧ k ≤ 20 ∧ Below w.heap.size w wr) (fun _ _ _ i _ => (20 - intOf i).toNat)
      case atStart => exact ⟨bb, aa, 0, fb, rfl, rfl, rfl, rfl, hbb, haa, by omega, hB⟩
      case round =>
        clear hB hbb haa
        obtain ⟨bb, aa, k, fb, rfl, rfl, rfl, rfl, hbb, haa, hk, hB⟩ := hrel
        by_cases hkl : k < 20
        · have hkl' : (k : Int) < 20 := by omega
          have hb1 := feO_bd (f := (k : Int)) (y := y) (by omega) (by omega)
          have hb2 : -400 ≤ nyO y ∧ nyO y ≤ 800000 := by unfold nyO; omega
          have HF := Lib.hid (fun W => l05Day_any k y W hkl (by omega) (by omega))
          generalize feO (k : Int) y = G at hb1 HF
          generalize nyO y = NY at hb1 hb2
          have v3 := i64_in (n - G) (by omega)
          have hdb : -3000000 ≤ n - G ∧ n - G ≤ 3000000 := by omega
          go_wp2_with fail
          refine (HF.out _).mono ?_
          rintro e w2 ⟨rfl, hB2⟩
          have hB := stepB hB hB2 hB.size
          clear hB2 HF
          go_upto_region 12 with (fail)
          generalize n - G = d at hdb ⊢
          clear v3
          have v4 := i64_in (-d) (by omega)
          have v5 := i64_in (-aa) (by omega)
          obtain ⟨X, hX⟩ : ∃ X, max d (-d) = X := ⟨_, rfl⟩
          obtain ⟨A, hA⟩ : ∃ A, max aa (-aa) = A := ⟨_, rfl⟩
          by_cases h1 : X < A
          · cases fb
            · go_wp2
              go_roundw
              case rel => exact ⟨k, d, k + 1, true, rfl, rfl, rfl, by go_num, by omega, by omega, by omega, hB⟩
              case measure => simp [intOf]; omega
            · go_wp2
              go_roundw
              case rel => exact ⟨k, d, k + 1, true, rfl, rfl, rfl, by go_num, by omega, by omega, by omega, hB⟩
              case measure => simp [intOf]; omega
          · have h1n : decide (X < A) = false := by simpa using h1
            by_cases h2 : X = A
            · have h2y : (X == A) = true := by simpa using h2
              by_cases h3 : aa < d
              · cases fb
                · go_wp2
                  go_roundw
                  case rel => exact ⟨k, d, k + 1, true, rfl, rfl, rfl, by go_num, by omega, by omega, by omega, hB⟩
                  case measure => simp [intOf]; omega
                · go_wp2
                  go_roundw
                  case rel => exact ⟨k, d, k + 1, true, rfl, rfl, rfl, by go_num, by omega, by omega, by omega, hB⟩
                  case measure => simp [intOf]; omega
              · have h3n : decide (aa < d) = false := by simpa using h3
                by_cases h4 : d = aa
                · have h4y : (d == aa) = true := by simpa using h4
                  by_cases h5 : (k : Int) < bb
                  · cases fb
                    · go_wp2
                      go_roundw
                      case rel => exact ⟨k, d, k + 1, true, rfl, rfl, rfl, by go_num, by omega, by omega, by omega, hB⟩
                      case measure => simp [intOf]; omega
                    · go_wp2
                      go_roundw
                      case rel => exact ⟨k, d, k + 1, true, rfl, rfl, rfl, by go_num, by omega, by omega, by omega, hB⟩
                      case measure => simp [intOf]; omega
                  · have h5n : decide ((k : Int) < bb) = false := by simpa using h5
                    cases fb
                    · go_wp2
                      go_roundw
                      case rel => exact ⟨k, d, k + 1, true, rfl, rfl, rfl, by go_num, by omega, by omega, by omega, hB⟩
                      case measure => simp [intOf]; omega
                    · go_wp2
                      go_roundw
                      case rel => exact ⟨bb, aa, k + 1, true, rfl, rfl, rfl, by go_num, hbb, haa, by omega, hB⟩
                      case measure => simp [intOf]; omega
                · have h4n : (d == aa) = false := by simpa using h4
                  cases fb
                  · go_wp2
                    go_roundw
                    case rel => exact ⟨k, d, k + 1, true, rfl, rfl, rfl, by go_num, by omega, by omega, by omega, hB⟩
                    case measure => simp [intOf]; omega
                  · go_wp2
                    go_roundw
                    case rel => exact ⟨bb, aa, k + 1, true, rfl, rfl, rfl, by go_num, hbb, haa, by omega, hB⟩
                    case measure => simp [intOf]; omega
            · have h2n : (X == A) = false := by simpa using h2
              cases fb
              · go_wp2
                go_roundw
                case rel => exact ⟨k, d, k + 1, true, rfl, rfl, rfl, by go_num, by omega, by omega, by omega, hB⟩
                case measure => simp [intOf]; omega
              · go_wp2
                go_roundw
                case rel => exact ⟨bb, aa, k + 1, true, rfl, rfl, rfl, by go_num, hbb, haa, by omega, hB⟩
                case measure => simp [intOf]; omega
        · obtain rfl : k = 20 := by omega
          go_wp2
          go_roundw
          case rel => exact ⟨bb, aa, y + 1, fb, rfl, rfl, rfl, rfl, hbb, haa, by omega, hB⟩
          case measure => simp [intOf]; omega
    · have hyh' : decide (y ≤ hi) = false := by simpa using hyh
      go_wp2
      go_ret3
      exact ⟨bb, ⟨aa, rfl⟩, hbb, hB⟩
end Go.Proofs.YtdbgnbohdplndaaGreatDoor
