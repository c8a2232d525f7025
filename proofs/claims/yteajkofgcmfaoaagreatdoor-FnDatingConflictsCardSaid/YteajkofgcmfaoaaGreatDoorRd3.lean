/- Walk: numeralOf. Printed by gen_rdx.py. -/
import Derived.Test.YteajkofgcmfaoaaGreatDoorRd1
import Derived.Test.YteajkofgcmfaoaaGreatDoorShelf8
namespace Go.Proofs.YteajkofgcmfaoaaGreatDoor
section
open Go.ChangeShapes Go.WideShapes Go.ChangeAt Go.RowKit Go.IntWalk

theorem repeatL_one (a : UInt8) : ∀ c, Lib.repeatL [a] c = List.replicate c a
  | 0 => rfl
  | c + 1 => by
    show [a] ++ Lib.repeatL [a] c = _
    rw [repeatL_one a c, List.replicate_succ]
    rfl
theorem repeat_one (a : UInt8) (c : Nat) (hc : c ≤ 1000000) (w : World) :
    Calls Tryz.prog 233 #[.string ⟨#[a]⟩, .int .i64 (c : Int)] w fun e w' => e = .returned (.string ⟨(List.replicate c a).toArray⟩) ∧ Below w.heap.size w w' := by
  have h := Tryz.strings_Repeat ⟨#[a]⟩ c w (by omega) (by show 1 * c ≤ _; omega)
  have e : Lib.repeatL (⟨#[a]⟩ : ByteArray).data.toList c = List.replicate c a := repeatL_one a c
  rw [e] at h
  exact h
end

section
open Go.ChangeShapes Go.WideShapes Go.ChangeAt Go.RowKit Go.IntWalk

def dgB (d : Nat) (a b c : UInt8) (old : Bool) : ByteArray := ⟨(digL d a b c old).toArray⟩
def rpB (k : Nat) (a : UInt8) : ByteArray := ⟨(List.replicate k a).toArray⟩
theorem rpB_size (k : Nat) (a : UInt8) : (rpB k a).size = k := by
  show ((List.replicate k a).toArray).size = k
  simp
theorem dg_4 (a b c : UInt8) : dgB 4 a b c false = ⟨#[a]⟩ ++ ⟨#[b]⟩ := by
  rw [ByteArray.mk_append_mk]; rfl
theorem dg_9 (a b c : UInt8) : dgB 9 a b c false = ⟨#[a]⟩ ++ ⟨#[c]⟩ := by
  rw [ByteArray.mk_append_mk]; rfl
theorem dg_5 {d : Nat} (a b c : UInt8) {old : Bool} (h4 : ¬ (d = 4 ∧ old = false)) (h9 : ¬ (d = 9 ∧ old = false)) (h5 : 5 ≤ d) : dgB d a b c old = ⟨#[b]⟩ ++ rpB (d - 5) a := by
  unfold dgB digL rpB
  rw [if_neg h4, if_neg h9, if_pos h5, show (#[b] : Array UInt8) = [b].toArray from rfl, ByteArray.mk_append_mk]
  rfl
theorem dg_0 {d : Nat} (a b c : UInt8) {old : Bool} (h4 : ¬ (d = 4 ∧ old = false)) (h9 : ¬ (d = 9 ∧ old = false)) (h5 : ¬ 5 ≤ d) : dgB d a b c old = rpB d a := by
  unfold dgB digL rpB
  rw [if_neg h4, if_neg h9, if_neg h5]
theorem repeat_rp (a : UInt8) (c : Nat) (hc : c ≤ 100) (w : World) :
    Calls Tryz.prog 233 #[.string ⟨#[a]⟩, .int .i64 (c : Int)] w fun e w' => e = .returned (.string (rpB c a)) ∧ Below w.heap.size w w' := repeat_one a c (by omega) w
/-- The text when k digits are written. -/
def accN (n : Nat) (old : Bool) : Nat → ByteArray
  | 0 => rpB (n / 1000) 109
  | 1 => rpB (n / 1000) 109 ++ dgB (n / 100 % 10) 99 100 109 old
  | 2 => rpB (n / 1000) 109 ++ dgB (n / 100 % 10) 99 100 109 old ++ dgB (n / 10 % 10) 120 108 99 old
  | _ => rpB (n / 1000) 109 ++ dgB (n / 100 % 10) 99 100 109 old ++ dgB (n / 10 % 10) 120 108 99 old ++ dgB (n % 10) 105 118 120 old
theorem accN_3 (n : Nat) (old : Bool) : accN n old 3 = ⟨(formL n old).toArray⟩ := form_join n old
set_option maxRecDepth 100000 in
set_option maxHeartbeats 8000000 in
theorem numeralOf_any (n : Nat) (hn : n ≤ 3999) (old : Bool) (w : World) :
    Calls Tryz.prog 200 #[.int .i64 (n : Int), .bool old] w fun e w' => e = .returned (.string ⟨(formL n old).toArray⟩) ∧ Below w.heap.size w w' := by
  obtain ⟨q, hq⟩ : ∃ q : Nat, n / 1000 = q := ⟨_, rfl⟩
  have v1 : IntKind.i64.wrap ((n : Int) / 1000) = (q : Int) := by rw [IntKind.wrap_i64]; omega
  have HM := Lib.hid (fun W => repeat_rp 109 q (by omega) W)
  have hfin := Lib.hid (accN_3 n old)
  have h0 := Lib.hid (show rpB q 109 = accN n old 0 by rw [← hq]; rfl)
  have hs0 : (rpB q 109).size ≤ 3 := by rw [rpB_size]; omega
  clear hq
  generalize rpB q 109 = J0 at HM h0 hs0
  go_enter Tryz.func200, Tryz.ntmps200
  go_wp2_with fail
  refine (HM.out _).mono ?_
  rintro e w1 ⟨rfl, hB1⟩
  go_wp2
  clear HM v1
  have cA : (w1.alloc (.cells #[.string ⟨#[99, 100, 109]⟩, .string ⟨#[120, 108, 99]⟩, .string ⟨#[105, 118, 120]⟩] 9)).cell? ⟨w1.heap.size, 0, none⟩ = some (.string ⟨#[99, 100, 109]⟩) := World.cell?_alloc_at _ _ _ _ rfl
  have cB : (w1.alloc (.cells #[.string ⟨#[99, 100, 109]⟩, .string ⟨#[120, 108, 99]⟩, .string ⟨#[105, 118, 120]⟩] 9)).cell? ⟨w1.heap.size, 1, none⟩ = some (.string ⟨#[120, 108, 99]⟩) := World.cell?_alloc_at _ _ _ _ rfl
  have cC : (w1.alloc (.cells #[.string ⟨#[99, 100, 109]⟩, .string ⟨#[120, 108, 99]⟩, .string ⟨#[105, 118, 120]⟩] 9)).cell? ⟨w1.heap.size, 2, none⟩ = some (.string ⟨#[105, 118, 120]⟩) := World.cell?_alloc_at _ _ _ _ rfl
  have hN : w1.heap.size < (w1.alloc (.cells #[.string ⟨#[99, 100, 109]⟩, .string ⟨#[120, 108, 99]⟩, .string ⟨#[105, 118, 120]⟩] 9)).heap.size := by simp
  have hB : Below w.heap.size w (w1.alloc (.cells #[.string ⟨#[99, 100, 109]⟩, .string ⟨#[120, 108, 99]⟩, .string ⟨#[105, 118, 120]⟩] 9)) := hB1.alloc hB1.size _
  generalize (w1.alloc (.cells #[.string ⟨#[99, 100, 109]⟩, .string ⟨#[120, 108, 99]⟩, .string ⟨#[105, 118, 120]⟩] 9)) = W2 at cA cB cC hN hB ⊢
  clear hB1
  go_loopw [5, 17] (fun o i wr => ∃ (k : Nat) (J : ByteArray), k ≤ 3 ∧ i = .int .i64 k ∧ o = .string J ∧ Hid (J = accN n old k) ∧ J.size ≤ 3 + 9 * k ∧ wr.cell? ⟨w1.heap.size, 0, none⟩ = some (.string ⟨#[99, 100, 109]⟩) ∧ wr.cell? ⟨w1.heap.size, 1, none⟩ = some (.string ⟨#[120, 108, 99]⟩) ∧ wr.cell? ⟨w1.heap.size, 2, none⟩ = some (.string ⟨#[105, 118, 120]⟩) ∧ w1.heap.size < wr.heap.size ∧ Below w.heap.size w wr) (fun _ i _ => 3 - (intOf i).toNat)
  case atStart => exact ⟨0, J0, by omega, rfl, rfl, h0, by omega, cA, cB, cC, hN, hB⟩
  case round =>
    clear h0 hs0 cA cB cC hN hB
    obtain ⟨k, J, hk, rfl, rfl, hJ, hJs, cA, cB, cC, hN, hB⟩ := hrel
    obtain rfl | rfl | rfl | rfl : k = 0 ∨ k = 1 ∨ k = 2 ∨ k = 3 := by omega
    · have x0 : (⟨#[99, 100, 109]⟩ : ByteArray).extract 0 1 = ⟨#[99]⟩ := rfl
      have x1 : (⟨#[99, 100, 109]⟩ : ByteArray).extract 1 2 = ⟨#[100]⟩ := rfl
      have x2 : (⟨#[99, 100, 109]⟩ : ByteArray).extract 2 3 = ⟨#[109]⟩ := rfl
      obtain ⟨p, hp⟩ : ∃ p : Nat, n / 100 = p := ⟨_, rfl⟩
      obtain ⟨d, hdd⟩ : ∃ d : Nat, n / 100 % 10 = d := ⟨_, rfl⟩
      have u0 : IntKind.i64.wrap ((n : Int) / 100) = (p : Int) := by rw [IntKind.wrap_i64]; omega
      have u1 : (p : Int).tmod 10 = (d : Int) := by rw [Int.tmod_eq_emod_of_nonneg (by omega)]; omega
      have hd10 : d < 10 := by omega
      clear hp
      go_upto_region 5 with (fail)
      refine wp_region_later wr (by kernel_rfl) (by kernel_rfl) ?_
      repeat (go_big_quiet_step (fail))
      refine wpQuiet_nil ?_
      intro z
      have hz := z.prop
      generalize z.val = w2 at hz
      replace hB := stepB hB hz hB.size
      replace cA := (hz.cell (p := ⟨w1.heap.size, 0, none⟩) hN).trans cA
      replace cB := (hz.cell (p := ⟨w1.heap.size, 1, none⟩) hN).trans cB
      replace cC := (hz.cell (p := ⟨w1.heap.size, 2, none⟩) hN).trans cC
      replace hN := Nat.lt_of_lt_of_le hN hz.size
      clear hz x0 x1 x2 z
      obtain ⟨w3, hw3⟩ : ∃ w3, w2.alloc (.cells #[.int .i64 100, .int .i64 10, .int .i64 1] 2) = w3 := ⟨_, rfl⟩
      have hz : Below w2.heap.size w2 w3 := hw3 ▸ (Below.refl _ w2).alloc (Nat.le_refl _) _
      have cL : w3.cell? ⟨w2.heap.size, 0, none⟩ = some (.int .i64 100) := by rw [← hw3]; exact World.cell?_alloc_at _ _ _ _ rfl
      go_upto_region 8 with (fail)
      try rw [hw3]
      replace hB := stepB hB hz hB.size
      replace cA := (hz.cell (p := ⟨w1.heap.size, 0, none⟩) hN).trans cA
      replace cB := (hz.cell (p := ⟨w1.heap.size, 1, none⟩) hN).trans cB
      replace cC := (hz.cell (p := ⟨w1.heap.size, 2, none⟩) hN).trans cC
      replace hN := Nat.lt_of_lt_of_le hN hz.size
      clear hz hw3 cL u0 u1
      cases old
      · by_cases hd4 : d = 4
        · have hD := Lib.hid (show accN n false 1 = J ++ ((⟨#[99]⟩ : ByteArray) ++ ⟨#[100]⟩) by rw [hJ.out, ← dg_4 99 100 109, ← hd4, ← hdd]; rfl)
          have g4 : ((d : Int) == 4) = true := by simp; omega
          have g9 : ((d : Int) == 9) = false := by simp; omega
          have g5 : decide (5 ≤ (d : Int)) = false := by simp; omega
          clear hJ hdd hd4
          go_wp2_with fail
          go_roundw
          case rel => exact ⟨1, _, by omega, rfl, rfl, hD.out.symm, by (rw [ByteArray.size_append, ByteArray.size_append]; show J.size + (1 + 1) ≤ _; omega), cA, cB, cC, hN, hB⟩
          case measure => simp only [intOf]; omega
        · by_cases hd9 : d = 9
          · have hD := Lib.hid (show accN n false 1 = J ++ ((⟨#[99]⟩ : ByteArray) ++ ⟨#[109]⟩) by rw [hJ.out, ← dg_9 99 100 109, ← hd9, ← hdd]; rfl)
            have g4 : ((d : Int) == 4) = false := by simp; omega
            have g9 : ((d : Int) == 9) = true := by simp; omega
            have g5 : decide (5 ≤ (d : Int)) = true := by simp; omega
            clear hJ hdd hd9
            go_wp2_with fail
            go_roundw
            case rel => exact ⟨1, _, by omega, rfl, rfl, hD.out.symm, by (rw [ByteArray.size_append, ByteArray.size_append]; show J.size + (1 + 1) ≤ _; omega), cA, cB, cC, hN, hB⟩
            case measure => simp only [intOf]; omega
          · by_cases hd5 : 5 ≤ d
            · have hD := Lib.hid (show accN n false 1 = J ++ ((⟨#[100]⟩ : ByteArray) ++ rpB (d - 5) 99) by rw [hJ.out, ← dg_5 99 100 109 (old := false) (by simp; omega) (by simp; omega) hd5, ← hdd]; rfl)
              have HR := Lib.hid (fun W => repeat_rp 99 (d - 5) (by omega) W)
              have hsr := rpB_size (d - 5) 99
              generalize rpB (d - 5) 99 = R at hD HR hsr
              have v7 : IntKind.i64.wrap ((d : Int) - 5) = ((d - 5 : Nat) : Int) := by rw [IntKind.wrap_i64]; omega
              have z0 : (9223372036854775807 < 1 + R.size) = False := eq_false (by omega)
              have z1 : (9223372036854775807 < J.size + (1 + R.size)) = False := eq_false (by omega)
              have g4 : ((d : Int) == 4) = false := by simp; omega
              have g9 : ((d : Int) == 9) = false := by simp; omega
              have g5 : decide (5 ≤ (d : Int)) = true := by simp; omega
              clear hJ hdd hd5
              go_wp2_with fail
              refine (HR.out _).mono ?_
              rintro e w3 ⟨rfl, hB3⟩
              replace hB := stepB hB hB3 hB.size
              replace cA := (hB3.cell (p := ⟨w1.heap.size, 0, none⟩) hN).trans cA
              replace cB := (hB3.cell (p := ⟨w1.heap.size, 1, none⟩) hN).trans cB
              replace cC := (hB3.cell (p := ⟨w1.heap.size, 2, none⟩) hN).trans cC
              replace hN := Nat.lt_of_lt_of_le hN hB3.size
              clear hB3
              go_wp2
              go_roundw
              case rel => exact ⟨1, _, by omega, rfl, rfl, hD.out.symm, by (rw [ByteArray.size_append, ByteArray.size_append]; show J.size + (1 + R.size) ≤ _; omega), cA, cB, cC, hN, hB⟩
              case measure => simp only [intOf]; omega
            · have hD := Lib.hid (show accN n false 1 = J ++ rpB d 99 by rw [hJ.out, ← dg_0 99 100 109 (old := false) (by simp; omega) (by simp; omega) hd5, ← hdd]; rfl)
              have HR := Lib.hid (fun W => repeat_rp 99 d (by omega) W)
              have hsr := rpB_size d 99
              generalize rpB d 99 = R at hD HR hsr
              have z1 : (9223372036854775807 < J.size + R.size) = False := eq_false (by omega)
              have g4 : ((d : Int) == 4) = false := by simp; omega
              have g9 : ((d : Int) == 9) = false := by simp; omega
              have g5 : decide (5 ≤ (d : Int)) = false := by simp; omega
              clear hJ hdd hd5
              go_wp2_with fail
              refine (HR.out _).mono ?_
              rintro e w3 ⟨rfl, hB3⟩
              replace hB := stepB hB hB3 hB.size
              replace cA := (hB3.cell (p := ⟨w1.heap.size, 0, none⟩) hN).trans cA
              replace cB := (hB3.cell (p := ⟨w1.heap.size, 1, none⟩) hN).trans cB
              replace cC := (hB3.cell (p := ⟨w1.heap.size, 2, none⟩) hN).trans cC
              replace hN := Nat.lt_of_lt_of_le hN hB3.size
              clear hB3
              go_wp2
              go_roundw
              case rel => exact ⟨1, _, by omega, rfl, rfl, hD.out.symm, by (rw [ByteArray.size_append]; omega), cA, cB, cC, hN, hB⟩
              case measure => simp only [intOf]; omega
      · by_cases hd5 : 5 ≤ d
        · by_cases hd9 : d = 9
          · have hD := Lib.hid (show accN n true 1 = J ++ ((⟨#[100]⟩ : ByteArray) ++ rpB (d - 5) 99) by rw [hJ.out, ← dg_5 99 100 109 (old := true) (by simp) (by simp) hd5, ← hdd]; rfl)
            have HR := Lib.hid (fun W => repeat_rp 99 (d - 5) (by omega) W)
            have hsr := rpB_size (d - 5) 99
            generalize rpB (d - 5) 99 = R at hD HR hsr
            have v7 : IntKind.i64.wrap ((d : Int) - 5) = ((d - 5 : Nat) : Int) := by rw [IntKind.wrap_i64]; omega
            have z0 : (9223372036854775807 < 1 + R.size) = False := eq_false (by omega)
            have z1 : (9223372036854775807 < J.size + (1 + R.size)) = False := eq_false (by omega)
            have g4 : ((d : Int) == 4) = false := by simp; omega
            have g9 : ((d : Int) == 9) = true := by simp; omega
            have g5 : decide (5 ≤ (d : Int)) = true := by simp; omega
            clear hJ hdd hd5
            clear hd9
            go_wp2_with fail
            refine (HR.out _).mono ?_
            rintro e w3 ⟨rfl, hB3⟩
            replace hB := stepB hB hB3 hB.size
            replace cA := (hB3.cell (p := ⟨w1.heap.size, 0, none⟩) hN).trans cA
            replace cB := (hB3.cell (p := ⟨w1.heap.size, 1, none⟩) hN).trans cB
            replace cC := (hB3.cell (p := ⟨w1.heap.size, 2, none⟩) hN).trans cC
            replace hN := Nat.lt_of_lt_of_le hN hB3.size
            clear hB3
            go_wp2
            go_roundw
            case rel => exact ⟨1, _, by omega, rfl, rfl, hD.out.symm, by (rw [ByteArray.size_append, ByteArray.size_append]; show J.size + (1 + R.size) ≤ _; omega), cA, cB, cC, hN, hB⟩
            case measure => simp only [intOf]; omega
          · have hD := Lib.hid (show accN n true 1 = J ++ ((⟨#[100]⟩ : ByteArray) ++ rpB (d - 5) 99) by rw [hJ.out, ← dg_5 99 100 109 (old := true) (by simp) (by simp) hd5, ← hdd]; rfl)
            have HR := Lib.hid (fun W => repeat_rp 99 (d - 5) (by omega) W)
            have hsr := rpB_size (d - 5) 99
            generalize rpB (d - 5) 99 = R at hD HR hsr
            have v7 : IntKind.i64.wrap ((d : Int) - 5) = ((d - 5 : Nat) : Int) := by rw [IntKind.wrap_i64]; omega
            have z0 : (9223372036854775807 < 1 + R.size) = False := eq_false (by omega)
            have z1 : (9223372036854775807 < J.size + (1 + R.size)) = False := eq_false (by omega)
            have g4 : ((d : Int) == 4) = false := by simp; omega
            have g9 : ((d : Int) == 9) = false := by simp; omega
            have g5 : decide (5 ≤ (d : Int)) = true := by simp; omega
            clear hJ hdd hd5
            clear hd9
            go_wp2_with fail
            refine (HR.out _).mono ?_
            rintro e w3 ⟨rfl, hB3⟩
            replace hB := stepB hB hB3 hB.size
            replace cA := (hB3.cell (p := ⟨w1.heap.size, 0, none⟩) hN).trans cA
            replace cB := (hB3.cell (p := ⟨w1.heap.size, 1, none⟩) hN).trans cB
            replace cC := (hB3.cell (p := ⟨w1.heap.size, 2, none⟩) hN).trans cC
            replace hN := Nat.lt_of_lt_of_le hN hB3.size
            clear hB3
            go_wp2
            go_roundw
            case rel => exact ⟨1, _, by omega, rfl, rfl, hD.out.symm, by (rw [ByteArray.size_append, ByteArray.size_append]; show J.size + (1 + R.size) ≤ _; omega), cA, cB, cC, hN, hB⟩
            case measure => simp only [intOf]; omega
        · by_cases hd4 : d = 4
          · have hD := Lib.hid (show accN n true 1 = J ++ rpB d 99 by rw [hJ.out, ← dg_0 99 100 109 (old := true) (by simp) (by simp) hd5, ← hdd]; rfl)
            have HR := Lib.hid (fun W => repeat_rp 99 d (by omega) W)
            have hsr := rpB_size d 99
            generalize rpB d 99 = R at hD HR hsr
            have z1 : (9223372036854775807 < J.size + R.size) = False := eq_false (by omega)
            have g4 : ((d : Int) == 4) = true := by simp; omega
            have g9 : ((d : Int) == 9) = false := by simp; omega
            have g5 : decide (5 ≤ (d : Int)) = false := by simp; omega
            clear hJ hdd hd5
            clear hd4
            go_wp2_with fail
            refine (HR.out _).mono ?_
            rintro e w3 ⟨rfl, hB3⟩
            replace hB := stepB hB hB3 hB.size
            replace cA := (hB3.cell (p := ⟨w1.heap.size, 0, none⟩) hN).trans cA
            replace cB := (hB3.cell (p := ⟨w1.heap.size, 1, none⟩) hN).trans cB
            replace cC := (hB3.cell (p := ⟨w1.heap.size, 2, none⟩) hN).trans cC
            replace hN := Nat.lt_of_lt_of_le hN hB3.size
            clear hB3
            go_wp2
            go_roundw
            case rel => exact ⟨1, _, by omega, rfl, rfl, hD.out.symm, by (rw [ByteArray.size_append]; omega), cA, cB, cC, hN, hB⟩
            case measure => simp only [intOf]; omega
          · have hD := Lib.hid (show accN n true 1 = J ++ rpB d 99 by rw [hJ.out, ← dg_0 99 100 109 (old := true) (by simp) (by simp) hd5, ← hdd]; rfl)
            have HR := Lib.hid (fun W => repeat_rp 99 d (by omega) W)
            have hsr := rpB_size d 99
            generalize rpB d 99 = R at hD HR hsr
            have z1 : (9223372036854775807 < J.size + R.size) = False := eq_false (by omega)
            have g4 : ((d : Int) == 4) = false := by simp; omega
            have g9 : ((d : Int) == 9) = false := by simp; omega
            have g5 : decide (5 ≤ (d : Int)) = false := by simp; omega
            clear hJ hdd hd5
            clear hd4
            go_wp2_with fail
            refine (HR.out _).mono ?_
            rintro e w3 ⟨rfl, hB3⟩
            replace hB := stepB hB hB3 hB.size
            replace cA := (hB3.cell (p := ⟨w1.heap.size, 0, none⟩) hN).trans cA
            replace cB := (hB3.cell (p := ⟨w1.heap.size, 1, none⟩) hN).trans cB
            replace cC := (hB3.cell (p := ⟨w1.heap.size, 2, none⟩) hN).trans cC
            replace hN := Nat.lt_of_lt_of_le hN hB3.size
            clear hB3
            go_wp2
            go_roundw
            case rel => exact ⟨1, _, by omega, rfl, rfl, hD.out.symm, by (rw [ByteArray.size_append]; omega), cA, cB, cC, hN, hB⟩
            case measure => simp only [intOf]; omega
    · have x0 : (⟨#[120, 108, 99]⟩ : ByteArray).extract 0 1 = ⟨#[120]⟩ := rfl
      have x1 : (⟨#[120, 108, 99]⟩ : ByteArray).extract 1 2 = ⟨#[108]⟩ := rfl
      have x2 : (⟨#[120, 108, 99]⟩ : ByteArray).extract 2 3 = ⟨#[99]⟩ := rfl
      obtain ⟨p, hp⟩ : ∃ p : Nat, n / 10 = p := ⟨_, rfl⟩
      obtain ⟨d, hdd⟩ : ∃ d : Nat, n / 10 % 10 = d := ⟨_, rfl⟩
      have u0 : IntKind.i64.wrap ((n : Int) / 10) = (p : Int) := by rw [IntKind.wrap_i64]; omega
      have u1 : (p : Int).tmod 10 = (d : Int) := by rw [Int.tmod_eq_emod_of_nonneg (by omega)]; omega
      have hd10 : d < 10 := by omega
      clear hp
      go_upto_region 5 with (fail)
      refine wp_region_later wr (by kernel_rfl) (by kernel_rfl) ?_
      repeat (go_big_quiet_step (fail))
      refine wpQuiet_nil ?_
      intro z
      have hz := z.prop
      generalize z.val = w2 at hz
      replace hB := stepB hB hz hB.size
      replace cA := (hz.cell (p := ⟨w1.heap.size, 0, none⟩) hN).trans cA
      replace cB := (hz.cell (p := ⟨w1.heap.size, 1, none⟩) hN).trans cB
      replace cC := (hz.cell (p := ⟨w1.heap.size, 2, none⟩) hN).trans cC
      replace hN := Nat.lt_of_lt_of_le hN hz.size
      clear hz x0 x1 x2 z
      obtain ⟨w3, hw3⟩ : ∃ w3, w2.alloc (.cells #[.int .i64 100, .int .i64 10, .int .i64 1] 2) = w3 := ⟨_, rfl⟩
      have hz : Below w2.heap.size w2 w3 := hw3 ▸ (Below.refl _ w2).alloc (Nat.le_refl _) _
      have cL : w3.cell? ⟨w2.heap.size, 1, none⟩ = some (.int .i64 10) := by rw [← hw3]; exact World.cell?_alloc_at _ _ _ _ rfl
      go_upto_region 8 with (fail)
      try rw [hw3]
      replace hB := stepB hB hz hB.size
      replace cA := (hz.cell (p := ⟨w1.heap.size, 0, none⟩) hN).trans cA
      replace cB := (hz.cell (p := ⟨w1.heap.size, 1, none⟩) hN).trans cB
      replace cC := (hz.cell (p := ⟨w1.heap.size, 2, none⟩) hN).trans cC
      replace hN := Nat.lt_of_lt_of_le hN hz.size
      clear hz hw3 cL u0 u1
      cases old
      · by_cases hd4 : d = 4
        · have hD := Lib.hid (show accN n false 2 = J ++ ((⟨#[120]⟩ : ByteArray) ++ ⟨#[108]⟩) by rw [hJ.out, ← dg_4 120 108 99, ← hd4, ← hdd]; rfl)
          have g4 : ((d : Int) == 4) = true := by simp; omega
          have g9 : ((d : Int) == 9) = false := by simp; omega
          have g5 : decide (5 ≤ (d : Int)) = false := by simp; omega
          clear hJ hdd hd4
          go_wp2_with fail
          go_roundw
          case rel => exact ⟨2, _, by omega, rfl, rfl, hD.out.symm, by (rw [ByteArray.size_append, ByteArray.size_append]; show J.size + (1 + 1) ≤ _; omega), cA, cB, cC, hN, hB⟩
          case measure => simp only [intOf]; omega
        · by_cases hd9 : d = 9
          · have hD := Lib.hid (show accN n false 2 = J ++ ((⟨#[120]⟩ : ByteArray) ++ ⟨#[99]⟩) by rw [hJ.out, ← dg_9 120 108 99, ← hd9, ← hdd]; rfl)
            have g4 : ((d : Int) == 4) = false := by simp; omega
            have g9 : ((d : Int) == 9) = true := by simp; omega
            have g5 : decide (5 ≤ (d : Int)) = true := by simp; omega
            clear hJ hdd hd9
            go_wp2_with fail
            go_roundw
            case rel => exact ⟨2, _, by omega, rfl, rfl, hD.out.symm, by (rw [ByteArray.size_append, ByteArray.size_append]; show J.size + (1 + 1) ≤ _; omega), cA, cB, cC, hN, hB⟩
            case measure => simp only [intOf]; omega
          · by_cases hd5 : 5 ≤ d
            · have hD := Lib.hid (show accN n false 2 = J ++ ((⟨#[108]⟩ : ByteArray) ++ rpB (d - 5) 120) by rw [hJ.out, ← dg_5 120 108 99 (old := false) (by simp; omega) (by simp; omega) hd5, ← hdd]; rfl)
              have HR := Lib.hid (fun W => repeat_rp 120 (d - 5) (by omega) W)
              have hsr := rpB_size (d - 5) 120
              generalize rpB (d - 5) 120 = R at hD HR hsr
              have v7 : IntKind.i64.wrap ((d : Int) - 5) = ((d - 5 : Nat) : Int) := by rw [IntKind.wrap_i64]; omega
              have z0 : (9223372036854775807 < 1 + R.size) = False := eq_false (by omega)
              have z1 : (9223372036854775807 < J.size + (1 + R.size)) = False := eq_false (by omega)
              have g4 : ((d : Int) == 4) = false := by simp; omega
              have g9 : ((d : Int) == 9) = false := by simp; omega
              have g5 : decide (5 ≤ (d : Int)) = true := by simp; omega
              clear hJ hdd hd5
              go_wp2_with fail
              refine (HR.out _).mono ?_
              rintro e w3 ⟨rfl, hB3⟩
              replace hB := stepB hB hB3 hB.size
              replace cA := (hB3.cell (p := ⟨w1.heap.size, 0, none⟩) hN).trans cA
              replace cB := (hB3.cell (p := ⟨w1.heap.size, 1, none⟩) hN).trans cB
              replace cC := (hB3.cell (p := ⟨w1.heap.size, 2, none⟩) hN).trans cC
              replace hN := Nat.lt_of_lt_of_le hN hB3.size
              clear hB3
              go_wp2
              go_roundw
              case rel => exact ⟨2, _, by omega, rfl, rfl, hD.out.symm, by (rw [ByteArray.size_append, ByteArray.size_append]; show J.size + (1 + R.size) ≤ _; omega), cA, cB, cC, hN, hB⟩
              case measure => simp only [intOf]; omega
            · have hD := Lib.hid (show accN n false 2 = J ++ rpB d 120 by rw [hJ.out, ← dg_0 120 108 99 (old := false) (by simp; omega) (by simp; omega) hd5, ← hdd]; rfl)
              have HR := Lib.hid (fun W => repeat_rp 120 d (by omega) W)
              have hsr := rpB_size d 120
              generalize rpB d 120 = R at hD HR hsr
              have z1 : (9223372036854775807 < J.size + R.size) = False := eq_false (by omega)
              have g4 : ((d : Int) == 4) = false := by simp; omega
              have g9 : ((d : Int) == 9) = false := by simp; omega
              have g5 : decide (5 ≤ (d : Int)) = false := by simp; omega
              clear hJ hdd hd5
              go_wp2_with fail
              refine (HR.out _).mono ?_
              rintro e w3 ⟨rfl, hB3⟩
              replace hB := stepB hB hB3 hB.size
              replace cA := (hB3.cell (p := ⟨w1.heap.size, 0, none⟩) hN).trans cA
              replace cB := (hB3.cell (p := ⟨w1.heap.size, 1, none⟩) hN).trans cB
              replace cC := (hB3.cell (p := ⟨w1.heap.size, 2, none⟩) hN).trans cC
              replace hN := Nat.lt_of_lt_of_le hN hB3.size
              clear hB3
              go_wp2
              go_roundw
              case rel => exact ⟨2, _, by omega, rfl, rfl, hD.out.symm, by (rw [ByteArray.size_append]; omega), cA, cB, cC, hN, hB⟩
              case measure => simp only [intOf]; omega
      · by_cases hd5 : 5 ≤ d
        · by_cases hd9 : d = 9
          · have hD := Lib.hid (show accN n true 2 = J ++ ((⟨#[108]⟩ : ByteArray) ++ rpB (d - 5) 120) by rw [hJ.out, ← dg_5 120 108 99 (old := true) (by simp) (by simp) hd5, ← hdd]; rfl)
            have HR := Lib.hid (fun W => repeat_rp 120 (d - 5) (by omega) W)
            have hsr := rpB_size (d - 5) 120
            generalize rpB (d - 5) 120 = R at hD HR hsr
            have v7 : IntKind.i64.wrap ((d : Int) - 5) = ((d - 5 : Nat) : Int) := by rw [IntKind.wrap_i64]; omega
            have z0 : (9223372036854775807 < 1 + R.size) = False := eq_false (by omega)
            have z1 : (9223372036854775807 < J.size + (1 + R.size)) = False := eq_false (by omega)
            have g4 : ((d : Int) == 4) = false := by simp; omega
            have g9 : ((d : Int) == 9) = true := by simp; omega
            have g5 : decide (5 ≤ (d : Int)) = true := by simp; omega
            clear hJ hdd hd5
            clear hd9
            go_wp2_with fail
            refine (HR.out _).mono ?_
            rintro e w3 ⟨rfl, hB3⟩
            replace hB := stepB hB hB3 hB.size
            replace cA := (hB3.cell (p := ⟨w1.heap.size, 0, none⟩) hN).trans cA
            replace cB := (hB3.cell (p := ⟨w1.heap.size, 1, none⟩) hN).trans cB
            replace cC := (hB3.cell (p := ⟨w1.heap.size, 2, none⟩) hN).trans cC
            replace hN := Nat.lt_of_lt_of_le hN hB3.size
            clear hB3
            go_wp2
            go_roundw
            case rel => exact ⟨2, _, by omega, rfl, rfl, hD.out.symm, by (rw [ByteArray.size_append, ByteArray.size_append]; show J.size + (1 + R.size) ≤ _; omega), cA, cB, cC, hN, hB⟩
            case measure => simp only [intOf]; omega
          · have hD := Lib.hid (show accN n true 2 = J ++ ((⟨#[108]⟩ : ByteArray) ++ rpB (d - 5) 120) by rw [hJ.out, ← dg_5 120 108 99 (old := true) (by simp) (by simp) hd5, ← hdd]; rfl)
            have HR := Lib.hid (fun W => repeat_rp 120 (d - 5) (by omega) W)
            have hsr := rpB_size (d - 5) 120
            generalize rpB (d - 5) 120 = R at hD HR hsr
            have v7 : IntKind.i64.wrap ((d : Int) - 5) = ((d - 5 : Nat) : Int) := by rw [IntKind.wrap_i64]; omega
            have z0 : (9223372036854775807 < 1 + R.size) = False := eq_false (by omega)
            have z1 : (9223372036854775807 < J.size + (1 + R.size)) = False := eq_false (by omega)
            have g4 : ((d : Int) == 4) = false := by simp; omega
            have g9 : ((d : Int) == 9) = false := by simp; omega
            have g5 : decide (5 ≤ (d : Int)) = true := by simp; omega
            clear hJ hdd hd5
            clear hd9
            go_wp2_with fail
            refine (HR.out _).mono ?_
            rintro e w3 ⟨rfl, hB3⟩
            replace hB := stepB hB hB3 hB.size
            replace cA := (hB3.cell (p := ⟨w1.heap.size, 0, none⟩) hN).trans cA
            replace cB := (hB3.cell (p := ⟨w1.heap.size, 1, none⟩) hN).trans cB
            replace cC := (hB3.cell (p := ⟨w1.heap.size, 2, none⟩) hN).trans cC
            replace hN := Nat.lt_of_lt_of_le hN hB3.size
            clear hB3
            go_wp2
            go_roundw
            case rel => exact ⟨2, _, by omega, rfl, rfl, hD.out.symm, by (rw [ByteArray.size_append, ByteArray.size_append]; show J.size + (1 + R.size) ≤ _; omega), cA, cB, cC, hN, hB⟩
            case measure => simp only [intOf]; omega
        · by_cases hd4 : d = 4
          · have hD := Lib.hid (show accN n true 2 = J ++ rpB d 120 by rw [hJ.out, ← dg_0 120 108 99 (old := true) (by simp) (by simp) hd5, ← hdd]; rfl)
            have HR := Lib.hid (fun W => repeat_rp 120 d (by omega) W)
            have hsr := rpB_size d 120
            generalize rpB d 120 = R at hD HR hsr
            have z1 : (9223372036854775807 < J.size + R.size) = False := eq_false (by omega)
            have g4 : ((d : Int) == 4) = true := by simp; omega
            have g9 : ((d : Int) == 9) = false := by simp; omega
            have g5 : decide (5 ≤ (d : Int)) = false := by simp; omega
            clear hJ hdd hd5
            clear hd4
            go_wp2_with fail
            refine (HR.out _).mono ?_
            rintro e w3 ⟨rfl, hB3⟩
            replace hB := stepB hB hB3 hB.size
            replace cA := (hB3.cell (p := ⟨w1.heap.size, 0, none⟩) hN).trans cA
            replace cB := (hB3.cell (p := ⟨w1.heap.size, 1, none⟩) hN).trans cB
            replace cC := (hB3.cell (p := ⟨w1.heap.size, 2, none⟩) hN).trans cC
            replace hN := Nat.lt_of_lt_of_le hN hB3.size
            clear hB3
            go_wp2
            go_roundw
            case rel => exact ⟨2, _, by omega, rfl, rfl, hD.out.symm, by (rw [ByteArray.size_append]; omega), cA, cB, cC, hN, hB⟩
            case measure => simp only [intOf]; omega
          · have hD := Lib.hid (show accN n true 2 = J ++ rpB d 120 by rw [hJ.out, ← dg_0 120 108 99 (old := true) (by simp) (by simp) hd5, ← hdd]; rfl)
            have HR := Lib.hid (fun W => repeat_rp 120 d (by omega) W)
            have hsr := rpB_size d 120
            generalize rpB d 120 = R at hD HR hsr
            have z1 : (9223372036854775807 < J.size + R.size) = False := eq_false (by omega)
            have g4 : ((d : Int) == 4) = false := by simp; omega
            have g9 : ((d : Int) == 9) = false := by simp; omega
            have g5 : decide (5 ≤ (d : Int)) = false := by simp; omega
            clear hJ hdd hd5
            clear hd4
            go_wp2_with fail
            refine (HR.out _).mono ?_
            rintro e w3 ⟨rfl, hB3⟩
            replace hB := stepB hB hB3 hB.size
            replace cA := (hB3.cell (p := ⟨w1.heap.size, 0, none⟩) hN).trans cA
            replace cB := (hB3.cell (p := ⟨w1.heap.size, 1, none⟩) hN).trans cB
            replace cC := (hB3.cell (p := ⟨w1.heap.size, 2, none⟩) hN).trans cC
            replace hN := Nat.lt_of_lt_of_le hN hB3.size
            clear hB3
            go_wp2
            go_roundw
            case rel => exact ⟨2, _, by omega, rfl, rfl, hD.out.symm, by (rw [ByteArray.size_append]; omega), cA, cB, cC, hN, hB⟩
            case measure => simp only [intOf]; omega
    · have x0 : (⟨#[105, 118, 120]⟩ : ByteArray).extract 0 1 = ⟨#[105]⟩ := rfl
      have x1 : (⟨#[105, 118, 120]⟩ : ByteArray).extract 1 2 = ⟨#[118]⟩ := rfl
      have x2 : (⟨#[105, 118, 120]⟩ : ByteArray).extract 2 3 = ⟨#[120]⟩ := rfl
      obtain ⟨d, hdd⟩ : ∃ d : Nat, n % 10 = d := ⟨_, rfl⟩
      have u0 : IntKind.i64.wrap ((n : Int) / 1) = (n : Int) := by rw [IntKind.wrap_i64]; omega
      have u1 : (n : Int).tmod 10 = (d : Int) := by rw [Int.tmod_eq_emod_of_nonneg (by omega)]; omega
      have hd10 : d < 10 := by omega
      go_upto_region 5 with (fail)
      refine wp_region_later wr (by kernel_rfl) (by kernel_rfl) ?_
      repeat (go_big_quiet_step (fail))
      refine wpQuiet_nil ?_
      intro z
      have hz := z.prop
      generalize z.val = w2 at hz
      replace hB := stepB hB hz hB.size
      replace cA := (hz.cell (p := ⟨w1.heap.size, 0, none⟩) hN).trans cA
      replace cB := (hz.cell (p := ⟨w1.heap.size, 1, none⟩) hN).trans cB
      replace cC := (hz.cell (p := ⟨w1.heap.size, 2, none⟩) hN).trans cC
      replace hN := Nat.lt_of_lt_of_le hN hz.size
      clear hz x0 x1 x2 z
      obtain ⟨w3, hw3⟩ : ∃ w3, w2.alloc (.cells #[.int .i64 100, .int .i64 10, .int .i64 1] 2) = w3 := ⟨_, rfl⟩
      have hz : Below w2.heap.size w2 w3 := hw3 ▸ (Below.refl _ w2).alloc (Nat.le_refl _) _
      have cL : w3.cell? ⟨w2.heap.size, 2, none⟩ = some (.int .i64 1) := by rw [← hw3]; exact World.cell?_alloc_at _ _ _ _ rfl
      go_upto_region 8 with (fail)
      try rw [hw3]
      replace hB := stepB hB hz hB.size
      replace cA := (hz.cell (p := ⟨w1.heap.size, 0, none⟩) hN).trans cA
      replace cB := (hz.cell (p := ⟨w1.heap.size, 1, none⟩) hN).trans cB
      replace cC := (hz.cell (p := ⟨w1.heap.size, 2, none⟩) hN).trans cC
      replace hN := Nat.lt_of_lt_of_le hN hz.size
      clear hz hw3 cL u0 u1
      cases old
      · by_cases hd4 : d = 4
        · have hD := Lib.hid (show accN n false 3 = J ++ ((⟨#[105]⟩ : ByteArray) ++ ⟨#[118]⟩) by rw [hJ.out, ← dg_4 105 118 120, ← hd4, ← hdd]; rfl)
          have g4 : ((d : Int) == 4) = true := by simp; omega
          have g9 : ((d : Int) == 9) = false := by simp; omega
          have g5 : decide (5 ≤ (d : Int)) = false := by simp; omega
          clear hJ hdd hd4
          go_wp2_with fail
          go_roundw
          case rel => exact ⟨3, _, by omega, rfl, rfl, hD.out.symm, by (rw [ByteArray.size_append, ByteArray.size_append]; show J.size + (1 + 1) ≤ _; omega), cA, cB, cC, hN, hB⟩
          case measure => simp only [intOf]; omega
        · by_cases hd9 : d = 9
          · have hD := Lib.hid (show accN n false 3 = J ++ ((⟨#[105]⟩ : ByteArray) ++ ⟨#[120]⟩) by rw [hJ.out, ← dg_9 105 118 120, ← hd9, ← hdd]; rfl)
            have g4 : ((d : Int) == 4) = false := by simp; omega
            have g9 : ((d : Int) == 9) = true := by simp; omega
            have g5 : decide (5 ≤ (d : Int)) = true := by simp; omega
            clear hJ hdd hd9
            go_wp2_with fail
            go_roundw
            case rel => exact ⟨3, _, by omega, rfl, rfl, hD.out.symm, by (rw [ByteArray.size_append, ByteArray.size_append]; show J.size + (1 + 1) ≤ _; omega), cA, cB, cC, hN, hB⟩
            case measure => simp only [intOf]; omega
          · by_cases hd5 : 5 ≤ d
            · have hD := Lib.hid (show accN n false 3 = J ++ ((⟨#[118]⟩ : ByteArray) ++ rpB (d - 5) 105) by rw [hJ.out, ← dg_5 105 118 120 (old := false) (by simp; omega) (by simp; omega) hd5, ← hdd]; rfl)
              have HR := Lib.hid (fun W => repeat_rp 105 (d - 5) (by omega) W)
              have hsr := rpB_size (d - 5) 105
              generalize rpB (d - 5) 105 = R at hD HR hsr
              have v7 : IntKind.i64.wrap ((d : Int) - 5) = ((d - 5 : Nat) : Int) := by rw [IntKind.wrap_i64]; omega
              have z0 : (9223372036854775807 < 1 + R.size) = False := eq_false (by omega)
              have z1 : (9223372036854775807 < J.size + (1 + R.size)) = False := eq_false (by omega)
              have g4 : ((d : Int) == 4) = false := by simp; omega
              have g9 : ((d : Int) == 9) = false := by simp; omega
              have g5 : decide (5 ≤ (d : Int)) = true := by simp; omega
              clear hJ hdd hd5
              go_wp2_with fail
              refine (HR.out _).mono ?_
              rintro e w3 ⟨rfl, hB3⟩
              replace hB := stepB hB hB3 hB.size
              replace cA := (hB3.cell (p := ⟨w1.heap.size, 0, none⟩) hN).trans cA
              replace cB := (hB3.cell (p := ⟨w1.heap.size, 1, none⟩) hN).trans cB
              replace cC := (hB3.cell (p := ⟨w1.heap.size, 2, none⟩) hN).trans cC
              replace hN := Nat.lt_of_lt_of_le hN hB3.size
              clear hB3
              go_wp2
              go_roundw
              case rel => exact ⟨3, _, by omega, rfl, rfl, hD.out.symm, by (rw [ByteArray.size_append, ByteArray.size_append]; show J.size + (1 + R.size) ≤ _; omega), cA, cB, cC, hN, hB⟩
              case measure => simp only [intOf]; omega
            · have hD := Lib.hid (show accN n false 3 = J ++ rpB d 105 by rw [hJ.out, ← dg_0 105 118 120 (old := false) (by simp; omega) (by simp; omega) hd5, ← hdd]; rfl)
              have HR := Lib.hid (fun W => repeat_rp 105 d (by omega) W)
              have hsr := rpB_size d 105
              generalize rpB d 105 = R at hD HR hsr
              have z1 : (9223372036854775807 < J.size + R.size) = False := eq_false (by omega)
              have g4 : ((d : Int) == 4) = false := by simp; omega
              have g9 : ((d : Int) == 9) = false := by simp; omega
              have g5 : decide (5 ≤ (d : Int)) = false := by simp; omega
              clear hJ hdd hd5
              go_wp2_with fail
              refine (HR.out _).mono ?_
              rintro e w3 ⟨rfl, hB3⟩
              replace hB := stepB hB hB3 hB.size
              replace cA := (hB3.cell (p := ⟨w1.heap.size, 0, none⟩) hN).trans cA
              replace cB := (hB3.cell (p := ⟨w1.heap.size, 1, none⟩) hN).trans cB
              replace cC := (hB3.cell (p := ⟨w1.heap.size, 2, none⟩) hN).trans cC
              replace hN := Nat.lt_of_lt_of_le hN hB3.size
              clear hB3
              go_wp2
              go_roundw
              case rel => exact ⟨3, _, by omega, rfl, rfl, hD.out.symm, by (rw [ByteArray.size_append]; omega), cA, cB, cC, hN, hB⟩
              case measure => simp only [intOf]; omega
      · by_cases hd5 : 5 ≤ d
        · by_cases hd9 : d = 9
          · have hD := Lib.hid (show accN n true 3 = J ++ ((⟨#[118]⟩ : ByteArray) ++ rpB (d - 5) 105) by rw [hJ.out, ← dg_5 105 118 120 (old := true) (by simp) (by simp) hd5, ← hdd]; rfl)
            have HR := Lib.hid (fun W => repeat_rp 105 (d - 5) (by omega) W)
            have hsr := rpB_size (d - 5) 105
            generalize rpB (d - 5) 105 = R at hD HR hsr
            have v7 : IntKind.i64.wrap ((d : Int) - 5) = ((d - 5 : Nat) : Int) := by rw [IntKind.wrap_i64]; omega
            have z0 : (9223372036854775807 < 1 + R.size) = False := eq_false (by omega)
            have z1 : (9223372036854775807 < J.size + (1 + R.size)) = False := eq_false (by omega)
            have g4 : ((d : Int) == 4) = false := by simp; omega
            have g9 : ((d : Int) == 9) = true := by simp; omega
            have g5 : decide (5 ≤ (d : Int)) = true := by simp; omega
            clear hJ hdd hd5
            clear hd9
            go_wp2_with fail
            refine (HR.out _).mono ?_
            rintro e w3 ⟨rfl, hB3⟩
            replace hB := stepB hB hB3 hB.size
            replace cA := (hB3.cell (p := ⟨w1.heap.size, 0, none⟩) hN).trans cA
            replace cB := (hB3.cell (p := ⟨w1.heap.size, 1, none⟩) hN).trans cB
            replace cC := (hB3.cell (p := ⟨w1.heap.size, 2, none⟩) hN).trans cC
            replace hN := Nat.lt_of_lt_of_le hN hB3.size
            clear hB3
            go_wp2
            go_roundw
            case rel => exact ⟨3, _, by omega, rfl, rfl, hD.out.symm, by (rw [ByteArray.size_append, ByteArray.size_append]; show J.size + (1 + R.size) ≤ _; omega), cA, cB, cC, hN, hB⟩
            case measure => simp only [intOf]; omega
          · have hD := Lib.hid (show accN n true 3 = J ++ ((⟨#[118]⟩ : ByteArray) ++ rpB (d - 5) 105) by rw [hJ.out, ← dg_5 105 118 120 (old := true) (by simp) (by simp) hd5, ← hdd]; rfl)
            have HR := Lib.hid (fun W => repeat_rp 105 (d - 5) (by omega) W)
            have hsr := rpB_size (d - 5) 105
            generalize rpB (d - 5) 105 = R at hD HR hsr
            have v7 : IntKind.i64.wrap ((d : Int) - 5) = ((d - 5 : Nat) : Int) := by rw [IntKind.wrap_i64]; omega
            have z0 : (9223372036854775807 < 1 + R.size) = False := eq_false (by omega)
            have z1 : (9223372036854775807 < J.size + (1 + R.size)) = False := eq_false (by omega)
            have g4 : ((d : Int) == 4) = false := by simp; omega
            have g9 : ((d : Int) == 9) = false := by simp; omega
            have g5 : decide (5 ≤ (d : Int)) = true := by simp; omega
            clear hJ hdd hd5
            clear hd9
            go_wp2_with fail
            refine (HR.out _).mono ?_
            rintro e w3 ⟨rfl, hB3⟩
            replace hB := stepB hB hB3 hB.size
            replace cA := (hB3.cell (p := ⟨w1.heap.size, 0, none⟩) hN).trans cA
            replace cB := (hB3.cell (p := ⟨w1.heap.size, 1, none⟩) hN).trans cB
            replace cC := (hB3.cell (p := ⟨w1.heap.size, 2, none⟩) hN).trans cC
            replace hN := Nat.lt_of_lt_of_le hN hB3.size
            clear hB3
            go_wp2
            go_roundw
            case rel => exact ⟨3, _, by omega, rfl, rfl, hD.out.symm, by (rw [ByteArray.size_append, ByteArray.size_append]; show J.size + (1 + R.size) ≤ _; omega), cA, cB, cC, hN, hB⟩
            case measure => simp only [intOf]; omega
        · by_cases hd4 : d = 4
          · have hD := Lib.hid (show accN n true 3 = J ++ rpB d 105 by rw [hJ.out, ← dg_0 105 118 120 (old := true) (by simp) (by simp) hd5, ← hdd]; rfl)
            have HR := Lib.hid (fun W => repeat_rp 105 d (by omega) W)
            have hsr := rpB_size d 105
            generalize rpB d 105 = R at hD HR hsr
            have z1 : (9223372036854775807 < J.size + R.size) = False := eq_false (by omega)
            have g4 : ((d : Int) == 4) = true := by simp; omega
            have g9 : ((d : Int) == 9) = false := by simp; omega
            have g5 : decide (5 ≤ (d : Int)) = false := by simp; omega
            clear hJ hdd hd5
            clear hd4
            go_wp2_with fail
            refine (HR.out _).mono ?_
            rintro e w3 ⟨rfl, hB3⟩
            replace hB := stepB hB hB3 hB.size
            replace cA := (hB3.cell (p := ⟨w1.heap.size, 0, none⟩) hN).trans cA
            replace cB := (hB3.cell (p := ⟨w1.heap.size, 1, none⟩) hN).trans cB
            replace cC := (hB3.cell (p := ⟨w1.heap.size, 2, none⟩) hN).trans cC
            replace hN := Nat.lt_of_lt_of_le hN hB3.size
            clear hB3
            go_wp2
            go_roundw
            case rel => exact ⟨3, _, by omega, rfl, rfl, hD.out.symm, by (rw [ByteArray.size_append]; omega), cA, cB, cC, hN, hB⟩
            case measure => simp only [intOf]; omega
          · have hD := Lib.hid (show accN n true 3 = J ++ rpB d 105 by rw [hJ.out, ← dg_0 105 118 120 (old := true) (by simp) (by simp) hd5, ← hdd]; rfl)
            have HR := Lib.hid (fun W => repeat_rp 105 d (by omega) W)
            have hsr := rpB_size d 105
            generalize rpB d 105 = R at hD HR hsr
            have z1 : (9223372036854775807 < J.size + R.size) = False := eq_false (by omega)
            have g4 : ((d : Int) == 4) = false := by simp; omega
            have g9 : ((d : Int) == 9) = false := by simp; omega
            have g5 : decide (5 ≤ (d : Int)) = false := by simp; omega
            clear hJ hdd hd5
            clear hd4
            go_wp2_with fail
            refine (HR.out _).mono ?_
            rintro e w3 ⟨rfl, hB3⟩
            replace hB := stepB hB hB3 hB.size
            replace cA := (hB3.cell (p := ⟨w1.heap.size, 0, none⟩) hN).trans cA
            replace cB := (hB3.cell (p := ⟨w1.heap.size, 1, none⟩) hN).trans cB
            replace cC := (hB3.cell (p := ⟨w1.heap.size, 2, none⟩) hN).trans cC
            replace hN := Nat.lt_of_lt_of_le hN hB3.size
            clear hB3
            go_wp2
            go_roundw
            case rel => exact ⟨3, _, by omega, rfl, rfl, hD.out.symm, by (rw [ByteArray.size_append]; omega), cA, cB, cC, hN, hB⟩
            case measure => simp only [intOf]; omega
    · go_wp2
      go_ret
      exact ⟨by rw [← hfin.out, hJ.out]; rfl, hB⟩
end
end Go.Proofs.YteajkofgcmfaoaaGreatDoor
