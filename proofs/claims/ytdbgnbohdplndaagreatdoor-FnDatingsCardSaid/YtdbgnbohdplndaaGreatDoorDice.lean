/- Walks: big, likeInts, roll and below of the laws. -/
import Derived.Test.YtdbgnbohdplndaaGreatDoorDraw
import Derived.Deep.CutRange
import Derived.Deep.CutBlock
import Derived.Lib.EndianBits
import Derived.Laws.BitsLemmas
namespace Go.Proofs.YtdbgnbohdplndaaGreatDoor
open Go.ChangeShapes Go.WideShapes Go.ChangeAt Go.RowKit Go.IntWalk

theorem big_any (cs : Option Addr) (cap n : Nat) (w : World) : Calls Tryz.prog 32 #[.slice cs n cap] w fun e w' => e = .returned (.bool (decide (4096 < n))) ∧ w = w' := by
  go_enter Tryz.func32, Tryz.ntmps32
  go_wp2
  go_ret
  exact ⟨ret_bool (by simp; omega), rfl⟩





































def DiceR (B : Nat) (cs : Option Addr) (n cap : Nat) (p : Nat) (w : World) : Prop := ∃ h : Int, 0 ≤ h ∧ h ≤ 18446744073709551615 ∧ w.ownsRow B 105 1 (.slice (some ⟨p, 0, none⟩) 3 3) 3 [.slice cs n cap, .int .i64 (0 : Nat), .int .u64 h]
theorem mask24 (x : Int) (h₀ : 0 ≤ x) (h₁ : x < 18446744073709551616) : bits .and .u64 x 16777215 = x % 16777216 := by
  have h := bits_mask .u64 64 (by decide) wraps_u64 24 (by decide) x h₀ (by omega)
  simpa using h
theorem u64_bd (n : Int) : 0 ≤ IntKind.u64.wrap n ∧ IntKind.u64.wrap n ≤ 18446744073709551615 := by
  rw [IntKind.wrap_u64]; omega
set_option maxRecDepth 100000 in
set_option maxHeartbeats 4000000 in
theorem roll_any (cs : Option Addr) (cap : Nat) (bs : List Int) (s : Int) (w : World) (hs : 0 ≤ s ∧ s ≤ 100000) (hx : Rd encB w cs bs) (hb : ∀ m ∈ bs, goodB m) (hl : bs.length ≤ 4096) :
    Calls Tryz.prog 39 #[.slice cs bs.length cap, .int .u64 s] w fun e w' => ∃ p, e = .returned (.pointer (some ⟨p, 0, none⟩)) ∧ DiceR w.heap.size cs bs.length cap p w' ∧ Below w.heap.size w w' := by
  go_enter Tryz.func39, Tryz.ntmps39
  go_upto_block 0 with (fail)
  have hown0 : (w.alloc (.cells #[.slice cs bs.length cap, .int .i64 0, .int .u64 (s * 9419 + bs.length)] 105)).ownsRow w.heap.size 105 1 (.slice (some ⟨w.heap.size, 0, none⟩) 3 3) 3 [.slice cs bs.length cap, .int .i64 (0 : Nat), .int .u64 (s * 9419 + bs.length)] :=
    ⟨rfl, .inr ⟨w.heap.size, 3, #[.slice cs bs.length cap, .int .i64 0, .int .u64 (s * 9419 + bs.length)], rfl, Nat.le_refl _, heap_alloc_new w _, by decide, by decide, rfl, rfl⟩⟩
  have hB0 : Below w.heap.size w (w.alloc (.cells #[.slice cs bs.length cap, .int .i64 0, .int .u64 (s * 9419 + bs.length)] 105)) := (Below.refl _ _).alloc (Nat.le_refl _) _
  generalize w.alloc (.cells #[.slice cs bs.length cap, .int .i64 0, .int .u64 (s * 9419 + bs.length)] 105) = W0 at hown0 hB0 ⊢
  go_wp2
  go_loopw [6] (fun i wr => ∃ (k : Nat) (h : Int), k ≤ bs.length ∧ i = .int .i64 k ∧ 0 ≤ h ∧ h ≤ 18446744073709551615 ∧ wr.ownsRow w.heap.size 105 1 (.slice (some ⟨w.heap.size, 0, none⟩) 3 3) 3 [.slice cs bs.length cap, .int .i64 (0 : Nat), .int .u64 h] ∧ Below w.heap.size w wr) (fun i _ => bs.length - (intOf i).toNat)
  case atStart => exact ⟨0, _, Nat.zero_le _, rfl, by omega, by omega, hown0, hB0⟩
  case round =>
    clear hown0 hB0
    obtain ⟨k, h, hk, rfl, hh0, hh1, hown, hB⟩ := hrel
    by_cases hlt : k < bs.length
    · have hk1 : (k : Int) < (bs.length : Int) := by omega
      have hm := List.getElem?_eq_getElem hlt
      generalize bs[k] = m at hm
      obtain ⟨hm0, hm1⟩ := hb m (List.mem_of_getElem? hm)
      obtain ⟨b, off, rfl, hbb, c0⟩ := (hx.below hB).bb hm
      have c2 : wr.cell? ⟨w.heap.size, 2, none⟩ = some (.int .u64 h) := hown.cellAt 2 (by decide)
      have v2 := u64_in m (by omega)
      clear hm
      go_wp2_with fail
      go_still_tail 15, (by kernel_rfl)
      have xb := u64_bd (IntKind.u64.wrap (IntKind.u64.wrap (h * 1099511628211) + m) + 5)
      generalize IntKind.u64.wrap (IntKind.u64.wrap (IntKind.u64.wrap (h * 1099511628211) + m) + 5) = X at xb ⊢
      clear c0 c2
      change wpList _ _ _ _ _ wr.drew
      have hzz : Below wr.heap.size wr wr.drew := (Below.refl _ wr).drew
      generalize wr.drew = V at hzz ⊢
      have hown := own_below hown hzz
      have hB := stepB hB hzz hB.size
      have c2 : V.cell? ⟨w.heap.size, 2, none⟩ = some (.int .u64 h) := hown.cellAt 2 (by decide)
      have f2 := hown.frozenAt 2
      have hp := own_put (i := 2) (pre := [.slice (some ⟨b, off, none⟩) bs.length cap, .int .i64 (0 : Nat)]) (post := []) hown rfl (.int .u64 X)
      have HP := Lib.hid hp.1
      have HG := Lib.hid hp.2
      clear hp hzz
      go_wp2
      go_roundw
      case rel => exact ⟨k + 1, X, by omega, by go_num, xb.1, xb.2, HP.out, hB.grown HG.out hB.size (fun g e => by cases e; exact Nat.le_refl _)⟩
      case measure => simp [intOf]; omega
    · have hk' : decide ((k : Int) < (bs.length : Int)) = false := by simp; omega
      go_wp2
      go_ret
      exact ⟨_, rfl, ⟨h, hh0, hh1, hown⟩, hB⟩

set_option maxRecDepth 100000 in
set_option maxHeartbeats 4000000 in
theorem below_any (cs : Option Addr) (cap : Nat) (bs : List Int) (p B : Nat) (n : Int) (w0 w : World) (hn : 1 ≤ n) (hx : Rd encB w0 cs bs) (hb : ∀ m ∈ bs, goodB m) (hl : bs.length ≤ 4096) (hB : Below w0.heap.size w0 w) (hB0 : w0.heap.size ≤ B) (hs : DiceR B cs bs.length cap p w) :
    Calls Tryz.prog 40 #[.pointer (some ⟨p, 0, none⟩), .int .i64 n] w fun e w' => ∃ r : Int, e = .returned (.int .i64 r) ∧ 0 ≤ r ∧ r < n ∧ Below w0.heap.size w0 w' ∧ w.grownBy w' (some p) := by
  obtain ⟨h, hh0, hh1, hown⟩ := hs
  have hgl := own_lt hown
  have c0 : w.cell? ⟨p, 0, none⟩ = some (.slice cs bs.length cap) := hown.cellAt 0 (by decide)
  have c1 : w.cell? ⟨p, 1, none⟩ = some (.int .i64 (0 : Nat)) := hown.cellAt 1 (by decide)
  have c2 : w.cell? ⟨p, 2, none⟩ = some (.int .u64 h) := hown.cellAt 2 (by decide)
  have f2 := hown.frozenAt 2
  have xb := u64_bd (IntKind.u64.wrap (h * 6364136223846793005) + 1442695040888963407)
  generalize hX : IntKind.u64.wrap (IntKind.u64.wrap (h * 6364136223846793005) + 1442695040888963407) = X at xb
  have hp := own_put (i := 2) (pre := [.slice cs bs.length cap, .int .i64 (0 : Nat)]) (post := []) hown rfl (.int .u64 X)
  have HP := Lib.hid hp.1
  have HG := Lib.hid hp.2
  clear hp
  go_enter Tryz.func40, Tryz.ntmps40
  go_upto_region 2 with (fail)
  have hown := HP.out
  have hG := HG.out
  have hB := hB.grown hG hB.size (fun g e => by cases e; omega)
  clear HP HG c0 c1 c2 f2
  generalize w.setCell ⟨p, 2, none⟩ (.int .u64 X) = w1 at hown hG hB ⊢
  have hgl := own_lt hown
  have c0 : w1.cell? ⟨p, 0, none⟩ = some (.slice cs bs.length cap) := hown.cellAt 0 (by decide)
  have c1 : w1.cell? ⟨p, 1, none⟩ = some (.int .i64 (0 : Nat)) := hown.cellAt 1 (by decide)
  have c2 : w1.cell? ⟨p, 2, none⟩ = some (.int .u64 X) := hown.cellAt 2 (by decide)
  have vm := mask24 (X / 8589934592) (by omega) (by omega)
  generalize hY : (X / 8589934592) % 16777216 = y at vm
  have hy0 : 0 ≤ y := by omega
  have hy1 : y ≤ 16777215 := by omega
  have vw : wrap64 y = y := wrap64_in _ (by omega)
  clear hY
  go_upto_region 3 with (fail)
  clear vm vw
  by_cases hlt : 0 < bs.length
  · have hlt' : (0 : Int) < (bs.length : Int) := by omega
    have hm := List.getElem?_eq_getElem hlt
    generalize bs[0] = m at hm
    obtain ⟨hm0, hm1⟩ := hb m (List.mem_of_getElem? hm)
    have C0 := Later.cell c0 hgl.2
    have C1 := Later.cell c1 hgl.2
    have C2 := Later.cell c2 hgl.2
    go_wp2_with fail
    refine wp_region_later _ (by kernel_rfl) (by kernel_rfl) ?_
    repeat (go_big_quiet_step (fail))
    refine wpQuiet_nil ?_
    intro z
    have hz := z.prop
    generalize z.val = U at hz
    clear C0 C1 C2 c0 c1 c2
    have hown := own_below hown hz
    have hG := gB hG hz
    have hB := stepB hB hz hB.size
    have hgl := own_lt hown
    have c0 : U.cell? ⟨p, 0, none⟩ = some (.slice cs bs.length cap) := hown.cellAt 0 (by decide)
    have c1 : U.cell? ⟨p, 1, none⟩ = some (.int .i64 (0 : Nat)) := hown.cellAt 1 (by decide)
    have c2 : U.cell? ⟨p, 2, none⟩ = some (.int .u64 X) := hown.cellAt 2 (by decide)
    obtain ⟨b, off, hcs, hbb, cb⟩ := (hx.below hB).bb hm
    rw [Nat.add_zero] at cb
    subst hcs
    have v2 := i64_in m (by omega)
    have v3 := i64_in (y + m) (by omega)
    have C0 := Later.cell c0 hgl.2
    have C1 := Later.cell c1 hgl.2
    have C2 := Later.cell c2 hgl.2
    have CB := Later.cell cb hbb
    go_wp2_with fail
    refine wp_region_later _ (by kernel_rfl) (by kernel_rfl) ?_
    repeat (go_big_quiet_step (fail))
    refine wpQuiet_nil ?_
    intro z
    have hz := z.prop
    generalize z.val = U2 at hz
    clear C0 C1 C2 c0 c1 c2 cb CB
    have hown := own_below hown hz
    have hG := gB hG hz
    have hB := stepB hB hz hB.size
    have hgl := own_lt hown
    have c0 : U2.cell? ⟨p, 0, none⟩ = some (.slice (some ⟨b, off, none⟩) bs.length cap) := hown.cellAt 0 (by decide)
    have c1 : U2.cell? ⟨p, 1, none⟩ = some (.int .i64 (0 : Nat)) := hown.cellAt 1 (by decide)
    have c2 : U2.cell? ⟨p, 2, none⟩ = some (.int .u64 X) := hown.cellAt 2 (by decide)
    have f1 := hown.frozenAt 1
    have hp := own_put (i := 1) (pre := [.slice (some ⟨b, off, none⟩) bs.length cap]) (post := [.int .u64 X]) hown rfl (.int .i64 1)
    have HP := Lib.hid hp.1
    have HG := Lib.hid hp.2
    clear hp v2 v3
    go_upto_region 6 with (fail)
    have hown := HP.out
    have hG := gT hG HG.out
    have hB := hB.grown HG.out hB.size (fun g e => by cases e; omega)
    clear HP HG c0 c1 c2 f1
    generalize U2.setCell ⟨p, 1, none⟩ (.int .i64 1) = w3 at hown hG hB ⊢
    have xb := emod_bd (x := y + m) (y := n) (by omega)
    go_wp2
    go_ret
    exact ⟨_, rfl, xb.1, by omega, hB, hG⟩
  · have hlt' : decide ((0 : Int) < (bs.length : Int)) = false := by have h0 : bs.length = 0 := by omega
                                                                     rw [h0]; rfl
    have C0 := Later.cell c0 hgl.2
    have C1 := Later.cell c1 hgl.2
    have C2 := Later.cell c2 hgl.2
    go_wp2_with fail
    refine wp_region_later _ (by kernel_rfl) (by kernel_rfl) ?_
    repeat (go_big_quiet_step (fail))
    refine wpQuiet_nil ?_
    intro z
    have hz := z.prop
    generalize z.val = U at hz
    clear C0 C1 C2 c0 c1 c2
    have hown := own_below hown hz
    have hG := gB hG hz
    have hB := stepB hB hz hB.size
    have hgl := own_lt hown
    have xb := emod_bd (x := y) (y := n) (by omega)
    go_wp2
    go_ret
    exact ⟨_, rfl, xb.1, by omega, hB, hG⟩
end Go.Proofs.YtdbgnbohdplndaaGreatDoor
