/- Walks: the ones of a number of eight places: their count and their list. -/
import Derived.Test.YtdbgnbohdplndaaGreatDoorMaskP
import Derived.Test.YtdbgnbohdplndaaGreatDoorRowI
import Derived.Test.YtdbgnbohdplndaaGreatDoorIxl
import Derived.Deep.AppendLies
namespace Go.Proofs.YtdbgnbohdplndaaGreatDoor
open Go.ChangeShapes Go.WideShapes Go.ChangeAt Go.RowKit Go.IntWalk

set_option maxRecDepth 100000 in
set_option maxHeartbeats 1000000 in
theorem ones64_any (m : Nat) (w : World) (hm : m < 256) :
    Calls Tryz.prog 102 #[.int .u64 (m : Nat)] w fun e w' => e = .returned (.int .i64 ((onesGo m 0 8).length : Nat)) ∧ w = w' := by
  go_enter Tryz.func102, Tryz.ntmps102
  go_wp2
  go_ret
  refine ⟨congrArg Ending.returned (congrArg (Value.int IntKind.i64) ?_), rfl⟩
  clear w
  revert m
  decide +kernel
theorem ones_any (m : Nat) (w : World) (hm : m < 256) :
    Calls Tryz.prog 64 #[.int .u64 (m : Nat)] w fun e w' => e = .returned (.int .i64 ((onesGo m 0 8).length : Nat)) ∧ w = w' := by
  go_enter Tryz.func64, Tryz.ntmps64
  go_wp2_with fail
  refine (ones64_any m w hm).mono ?_
  rintro e w1 ⟨rfl, rfl⟩
  go_wp2
  go_ret
  exact ⟨rfl, rfl⟩
theorem bit_at (m k : Nat) (hm : m < 256) : bits .and .u64 ((m : Int) / 2 ^ k) 1 = ((m / 2 ^ k % 2 : Nat) : Int) := by
  have h1 : m / 2 ^ k ≤ m := Nat.div_le_self _ _
  have e := (bits_nat .u64 63 (by decide) (fun n h0 h1 => by simp [IntKind.wrap, IntKind.bits, IntKind.signed]; omega) (m / 2 ^ k) 1 (by omega) (by decide)).1
  have e2 : ((m : Int) / 2 ^ k) = ((m / 2 ^ k : Nat) : Int) := by simp
  rw [e2, show (1 : Int) = ((1 : Nat) : Int) from rfl, e, Nat.and_one_is_mod]

set_option maxRecDepth 100000 in
set_option maxHeartbeats 1000000 in
theorem bitsOf_any (m : Nat) (w : World) (hm : m < 256) :
    Calls Tryz.prog 68 #[.int .u64 (m : Nat)] w fun e w' => ∃ g c, e = .returned (.slice (some ⟨g, 0, none⟩) (onesGo m 0 (Lib.bitLen m)).length c) ∧ w'.ownsRow w.heap.size 2 1 (.slice (some ⟨g, 0, none⟩) (onesGo m 0 (Lib.bitLen m)).length c) (onesGo m 0 (Lib.bitLen m)).length ((onesGo m 0 (Lib.bitLen m)).flatMap encI) ∧ Below w.heap.size w w' := by
  obtain ⟨i0, hi, hz0, hz1, hz2⟩ := info_parts infoI
  have hBs : Below w.heap.size w (w.alloc (.cells #[] 2)) := (Below.refl _ w).alloc (Nat.le_refl _) _
  have howns := World.ownsRow_made w #[] 0 (Nat.le_refl _) (by decide) rfl (e := 2) (size := 1)
  have hL := Lib.bitLen_le m 8 (by decide) (by omega)
  have HLen := Lib.hid (fun W => Tryz.bits_Len (m : Int) W (by omega) (by omega))
  have hm8 : ((m : Nat) : Int).toNat = m := by simp
  rw [hm8] at HLen
  generalize hN : Lib.bitLen m = N at hL HLen ⊢
  clear hm8
  go_enter Tryz.func68, Tryz.ntmps68
  go_wp2_with fail
  refine (HLen.out _).mono ?_
  rintro e w1 ⟨rfl, rfl⟩
  go_wp2
  go_loopw [3, 8] (fun s i wr => ∃ (k g c : Nat) (out : List Int), k ≤ N ∧ i = .int .i64 k ∧ s = .slice (some ⟨g, 0, none⟩) out.length c ∧ wr.ownsRow w.heap.size 2 1 (.slice (some ⟨g, 0, none⟩) out.length c) out.length (out.flatMap encI) ∧ Below w.heap.size w wr ∧ Hid (out = onesGo m 0 k)) (fun _ i _ => N - (intOf i).toNat)
  case atStart => exact ⟨0, _, _, [], Nat.zero_le _, rfl, rfl, howns, hBs, rfl⟩
  case round =>
    clear howns hBs HLen
    obtain ⟨k, g, c, out, hk, rfl, rfl, hown, hB, hM⟩ := hrel
    have hlen := onesGo_len m k 0
    rw [← hM.out] at hlen
    by_cases hlt : k < N
    · have hlt' : (k : Int) < (N : Int) := by omega
      have hst := onesGo_snoc m k 0
      rw [← hM.out, Nat.zero_add] at hst
      have hbit := bit_at m k hm
      by_cases h1 : m / 2 ^ k % 2 = 1
      · rw [if_pos h1] at hst
        rw [h1] at hbit
        have hst := Lib.hid hst
        clear h1
        go_wp2_with (at_builtin; refine wpList_append_own _ rfl _ _ 41 rfl w.heap.size 2 i0 (.int .i64 0) 1 8 Tryz.underlying41 hi hz0 hz1 hz2 rfl (by decide) _ _ _ rfl (hown.alloc _) ⟨wr.heap.size, 0, none⟩ 1 1 [.int .i64 k] rfl rfl (cell_one_new _ _ _) ?c2 ?c3 ?c4 ?c5 ?_)
        case c2 => intro u hu; simp at hu; subst hu; rfl
        case c3 => unfold maxLen; omega
        case c4 => omega
        case c5 => have := hB.size; simp; omega
        intro v' w4 hown' hgr _
        have hB' := (hB.alloc hB.size (.cells #[.int .i64 k] 2)).grown hgr (Nat.le_trans hB.size (by simp)) (fun x hx => (hown.lt x hx).1)
        obtain ⟨g', c', rfl⟩ := formJ hown' (by omega)
        clear hgr hown hB hM
        go_wp2
        go_roundw
        case rel => exact ⟨k + 1, g', c', out ++ [(k : Int)], by omega, by go_num, by rw [List.length_append]; rfl, by rw [List.length_append, List.flatMap_append]; exact hown', hB', hst.out.symm⟩
        case measure => simp [intOf]; omega
      · rw [if_neg h1, List.append_nil] at hst
        have h0 : m / 2 ^ k % 2 = 0 := by omega
        rw [h0] at hbit
        have hst := Lib.hid hst
        clear h1 h0 hM
        go_wp2
        go_roundw
        case rel => exact ⟨k + 1, g, c, out, by omega, by go_num, rfl, hown, hB, hst.out.symm⟩
        case measure => simp [intOf]; omega
    · have hlt' : decide ((k : Int) < (N : Int)) = false := by simp; omega
      obtain rfl : k = N := by omega
      have hM := hM.out
      subst hM
      go_wp2
      go_ret
      exact ⟨g, c, rfl, hown, hB⟩
end Go.Proofs.YtdbgnbohdplndaaGreatDoor
