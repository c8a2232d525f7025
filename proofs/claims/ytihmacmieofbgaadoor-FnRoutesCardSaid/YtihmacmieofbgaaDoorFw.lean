/- Walk: travels: for each two places, the travel between them. -/
import Derived.Test.YtihmacmieofbgaaDoorWays
namespace Go.Proofs.YtihmacmieofbgaaDoor
open Go.ChangeShapes Go.WideShapes Go.ChangeAt Go.RowKit

theorem fwAll_take (n : Nat) (M : Nat → Nat → Int) (k : Nat) : (List.range (k + 1)).foldl (fwAll n) M = fwAll n ((List.range k).foldl (fwAll n) M) k := by rw [List.range_succ, List.foldl_append]; rfl
theorem fwRow_take (n k : Nat) (M : Nat → Nat → Int) (i : Nat) : (List.range (i + 1)).foldl (fwRow n k) M = fwRow n k ((List.range i).foldl (fwRow n k) M) i := by rw [List.range_succ, List.foldl_append]; rfl
theorem fwStep_take (k i : Nat) (M : Nat → Nat → Int) (j : Nat) : (List.range (j + 1)).foldl (fwStep k i) M = fwStep k i ((List.range j).foldl (fwStep k i) M) j := by rw [List.range_succ, List.foldl_append]; rfl

set_option maxRecDepth 100000 in
set_option maxHeartbeats 4000000 in
theorem travels_any (a0 a1 : Option Addr) (cap0 cap1 n : Nat) (ws : List Wy) (w : World) (hn1 : 1 ≤ n) (hn : n ≤ 12) (hl1 : ws.length ≤ 40) (ho : OkWs n ws) (hx1 : Rd encWy w a1 ws) :
    Calls Tryd.prog 37 #[.agg #[.slice a0 n cap0, .slice a1 ws.length cap1]] w fun e w' =>
      ∃ H c g, e = .returned (.slice (some ⟨H, 0, none⟩) n c) ∧ Mat w.heap.size w' H c n n g (travM n ws) ∧ Below w.heap.size w w' := by
  go_enter Tryd.func37, Tryd.ntmps37
  go_wp2_with fail
  have hB0 : Below w.heap.size w (w.alloc (.cells #[.slice a0 n cap0, .slice a1 ws.length cap1] 27)) := (Below.refl _ w).alloc (Nat.le_refl _) _
  have hs0 : (w.alloc (.cells #[.slice a0 n cap0, .slice a1 ws.length cap1] 27)).heap.size = w.heap.size + 1 := by simp
  refine (waysOf_any a0 a1 cap0 cap1 n ws _ hn1 hn hl1 ho (hx1.below hB0)).mono ?_
  rintro e w1 ⟨H, c, g, rfl, hM, hB1⟩
  have hB := stepB hB0 hB1 hB0.size
  have hM := hM.base (B' := w.heap.size) (by omega)
  have hgb : ∀ i, i < n → w.heap.size ≤ g i := fun i hi => (hM.lt hi).1
  have hS := waysM_snd (n := n) ho.ok
  clear hB0 hB1 hs0
  go_wp2
  go_loopw [11] (fun i wr => ∃ (k : Nat), k ≤ n ∧ i = .int .i64 k ∧ Mat w.heap.size wr H c n n g ((List.range k).foldl (fwAll n) (waysM ws)) ∧ Snd n ws ((List.range k).foldl (fwAll n) (waysM ws)) ∧ Below w.heap.size w wr) (fun i _ => n - (intOf i).toNat)
  case atStart => exact ⟨0, Nat.zero_le _, rfl, hM, hS, hB⟩
  case round =>
    clear hM hB hS
    obtain ⟨k, hk, rfl, hM, hS, hB⟩ := hrel
    by_cases hlt : k < n
    · have hk1 : (k : Int) < (n : Int) := by omega
      have hsk := Lib.hid (fwAll_take n (waysM ws) k)
      generalize (List.range k).foldl (fwAll n) (waysM ws) = Mk at hM hS hsk
      go_wp2
      go_loopw [16] (fun i wr => ∃ (i' : Nat), i' ≤ n ∧ i = .int .i64 i' ∧ Mat w.heap.size wr H c n n g ((List.range i').foldl (fwRow n k) Mk) ∧ Snd n ws ((List.range i').foldl (fwRow n k) Mk) ∧ Below w.heap.size w wr) (fun i _ => n - (intOf i).toNat)
      case atStart => exact ⟨0, Nat.zero_le _, rfl, hM, hS, hB⟩
      case round =>
        clear hM hB hS
        obtain ⟨i, hi, rfl, hM, hS, hB⟩ := hrel
        by_cases hlti : i < n
        · have hi1 : (i : Int) < (n : Int) := by omega
          have hsi := Lib.hid (fwRow_take n k Mk i)
          generalize (List.range i).foldl (fwRow n k) Mk = Mi at hM hS hsi
          go_wp2
          go_loopw [21] (fun i' wr => ∃ (j : Nat), j ≤ n ∧ i' = .int .i64 j ∧ Mat w.heap.size wr H c n n g ((List.range j).foldl (fwStep k i) Mi) ∧ Snd n ws ((List.range j).foldl (fwStep k i) Mi) ∧ Below w.heap.size w wr) (fun i _ => n - (intOf i).toNat)
          case atStart => exact ⟨0, Nat.zero_le _, rfl, hM, hS, hB⟩
          case round =>
            clear hM hB hS
            obtain ⟨j, hj, rfl, hM, hS, hB⟩ := hrel
            by_cases hltj : j < n
            · have hj1 : (j : Int) < (n : Int) := by omega
              have hsj := fwStep_take k i Mi j
              generalize (List.range j).foldl (fwStep k i) Mi = M at hM hS hsj
              have hS' := fwStep_snd hS k i j hlt hlti hltj
              rw [← hsj] at hS'
              have hsj : Hid ((List.range (j + 1)).foldl (fwStep k i) Mi = upd2 M i j (min (M i j) (M i k + M k j))) := hsj
              have s1 := hS i k hlti hlt
              have s2 := hS k j hlt hltj
              have s3 : 0 ≤ M i k + M k j ∧ M i k + M k j ≤ 2000000 := by omega
              have q0 := hM.hcell hlti
              have q1 := hM.hcell hlt
              have q2 := hM.cell hlti hltj
              have q3 := hM.cell hlti hlt
              have q4 := hM.cell hlt hltj
              go_wp2_with fail
              go_still_tail 29, (by kernel_rfl)
              clear q0 q1 q2 q3 q4
              change wpList _ _ _ _ _ wr.drew
              have hzz : Below wr.heap.size wr wr.drew := (Below.refl _ wr).drew
              generalize wr.drew = V at hzz ⊢
              have hM := hM.below hzz
              have hB := stepB hB hzz hB.size
              clear hzz
              have q2 := hM.cell hlti hltj
              have q3 := hM.frozen (j := j) hlti
              have hp := hM.put hlti j (min (M i j) (M i k + M k j))
              have HP := Lib.hid hp.1
              have HG := Lib.hid hp.2
              clear hp
              have hbi := hgb i hlti
              have HS := Lib.hid hS'
              clear hS'
              go_wp2
              go_roundw
              case rel => exact ⟨j + 1, by omega, by go_num, by rw [hsj.out]; exact HP.out, HS.out, hB.grown HG.out hB.size (fun g e => by cases e; omega)⟩
              case measure => simp [intOf]; omega
            · obtain rfl : j = n := by omega
              go_wp2
              go_roundw
              case rel => exact ⟨i + 1, by omega, by go_num, by rw [hsi.out]; exact hM, by rw [hsi.out]; exact hS, hB⟩
              case measure => simp [intOf]; omega
        · obtain rfl : i = n := by omega
          go_wp2
          go_roundw
          case rel => exact ⟨k + 1, by omega, by go_num, by rw [hsk.out]; exact hM, by rw [hsk.out]; exact hS, hB⟩
          case measure => simp [intOf]; omega
    · obtain rfl : k = n := by omega
      go_wp2
      go_ret
      exact ⟨_, _, _, rfl, hM, hB⟩
end Go.Proofs.YtihmacmieofbgaaDoor
