/- Walk: MeetSets of two sets. -/
import Derived.Test.YtdebmijlipkoeaaGreatDoorSetH
import Derived.Test.YtdebmijlipkoeaaGreatDoorSpMet
namespace Go.Proofs.YtdebmijlipkoeaaGreatDoor
open Go.ChangeShapes Go.WideShapes Go.ChangeAt Go.RowKit Go.IntWalk

theorem areSets1_any (a : Option Addr) (cap : Nat) (xs : List Sp) (w : World) (hl : xs.length ≤ 300) (hx : Rd encSp w a xs) (hs : isSetP xs) :
    Calls Tryz.prog 140 #[.slice a xs.length cap] w fun e w' => e = .returned (.bool false) ∧ Below w.heap.size w w' := by
  go_enter Tryz.func140, Tryz.ntmps140
  go_wp2_with fail
  refine (isSet_true a cap xs w hl hx hs).mono ?_
  rintro e w1 ⟨rfl, hB1⟩
  go_wp2
  go_ret
  exact ⟨rfl, hB1⟩
set_option maxHeartbeats 1000000 in
theorem indexSets_any (g : Nat) (a b : Option Addr) (ca cb : Nat) (xs ys : List Sp) (w : World) (hg : g < w.heap.size) (c0 : w.cell? ⟨g, 0, none⟩ = some (.slice a xs.length ca)) (c1 : w.cell? ⟨g, 1, none⟩ = some (.slice b ys.length cb))
    (hl : xs.length ≤ 300) (hl' : ys.length ≤ 300) (hx : Rd encSp w a xs) (hy : Rd encSp w b ys) (hs : isSetP xs) (hs' : isSetP ys) :
    Calls Tryz.prog 158 #[.slice (some ⟨g, 0, none⟩) 2 2, .func (.func 140) #[] #[]] w fun e w' => e = .returned (.int .i64 (-1)) ∧ Below w.heap.size w w' := by
  have HX := Lib.hid (fun W (hB : Below w.heap.size w W) => areSets1_any a ca xs W hl (hx.below hB) hs)
  have HY := Lib.hid (fun W (hB : Below w.heap.size w W) => areSets1_any b cb ys W hl' (hy.below hB) hs')
  have hB0 := Below.refl w.heap.size w
  clear hx hy hs hs'
  go_enter Tryz.func158, Tryz.ntmps158
  go_wp2
  go_loopw [8] (fun i wr => ∃ (k : Nat), k ≤ 2 ∧ i = .int .i64 k ∧ Below w.heap.size w wr) (fun i _ => 2 - (intOf i).toNat)
  case atStart => exact ⟨0, Nat.zero_le _, rfl, hB0⟩
  case round =>
    clear hB0
    obtain ⟨k, hk, rfl, hB⟩ := hrel
    have c0 := (hB.cell (p := ⟨g, 0, none⟩) hg).trans c0
    have c1 := (hB.cell (p := ⟨g, 1, none⟩) hg).trans c1
    obtain rfl | rfl | rfl : k = 0 ∨ k = 1 ∨ k = 2 := by omega
    · go_wp2_with fail
      refine (HX.out wr hB).mono ?_
      rintro e w1 ⟨rfl, hB1⟩
      go_wp2
      go_roundw
      case rel => exact ⟨1, by omega, rfl, stepB hB hB1 hB.size⟩
      case measure => simp [intOf]
    · go_wp2_with fail
      refine (HY.out wr hB).mono ?_
      rintro e w1 ⟨rfl, hB1⟩
      go_wp2
      go_roundw
      case rel => exact ⟨2, by omega, rfl, stepB hB hB1 hB.size⟩
      case measure => simp [intOf]
    · go_wp2
      go_ret
      exact ⟨rfl, hB⟩
theorem areSets_any (g : Nat) (a b : Option Addr) (ca cb : Nat) (xs ys : List Sp) (w : World) (hg : g < w.heap.size) (c0 : w.cell? ⟨g, 0, none⟩ = some (.slice a xs.length ca)) (c1 : w.cell? ⟨g, 1, none⟩ = some (.slice b ys.length cb))
    (hl : xs.length ≤ 300) (hl' : ys.length ≤ 300) (hx : Rd encSp w a xs) (hy : Rd encSp w b ys) (hs : isSetP xs) (hs' : isSetP ys) :
    Calls Tryz.prog 92 #[.slice (some ⟨g, 0, none⟩) 2 2] w fun e w' => e = .returned (.bool true) ∧ Below w.heap.size w w' := by
  have HI : Calls Tryz.prog 139 #[.slice (some ⟨g, 0, none⟩) 2 2, .func (.func 140) #[] #[]] w fun e w' => e = .returned (.bool false) ∧ Below w.heap.size w w' := by
    have HC := Lib.hid (indexSets_any g a b ca cb xs ys w hg c0 c1 hl hl' hx hy hs hs')
    clear c0 c1 hx hy hs hs'
    go_enter Tryz.func139, Tryz.ntmps139
    go_wp2_with fail
    refine HC.out.mono ?_
    rintro e w1 ⟨rfl, hB1⟩
    go_wp2
    go_ret
    exact ⟨rfl, hB1⟩
  have HI := Lib.hid HI
  clear c0 c1 hx hy hs hs'
  go_enter Tryz.func92, Tryz.ntmps92
  go_wp2_with fail
  refine HI.out.mono ?_
  rintro e w1 ⟨rfl, hB1⟩
  go_wp2
  go_ret
  exact ⟨rfl, hB1⟩
set_option maxHeartbeats 1000000 in
theorem meetSets_any (a b : Option Addr) (ca cb : Nat) (xs ys : List Sp) (w : World) (hl : xs.length ≤ 300) (hl' : ys.length ≤ 300) (hx : Rd encSp w a xs) (hy : Rd encSp w b ys) (hs : isSetP xs) (hs' : isSetP ys) (hm : (met xs ys).length ≤ 300) :
    Calls Tryz.prog 27 #[.slice a xs.length ca, .slice b ys.length cb] w fun e w' => ∃ g c, e = .returned (.tuple #[.slice (some ⟨g, 0, none⟩) (met xs ys).length c, .int .i64 0]) ∧ w'.ownsRow w.heap.size 73 2 (.slice (some ⟨g, 0, none⟩) (met xs ys).length c) (met xs ys).length ((met xs ys).flatMap encSp) ∧ Below w.heap.size w w' := by
  generalize hW : w.alloc (.cells #[.slice a xs.length ca, .slice b ys.length cb] 38) = W
  have hB1 : Below w.heap.size w W := by rw [← hW]; exact (Below.refl _ _).alloc (Nat.le_refl _) _
  have c0 : W.cell? ⟨w.heap.size, 0, none⟩ = some (.slice a xs.length ca) := by rw [← hW]; exact World.cell?_alloc_at _ _ _ _ rfl
  have c1 : W.cell? ⟨w.heap.size, 1, none⟩ = some (.slice b ys.length cb) := by rw [← hW]; exact World.cell?_alloc_at _ _ _ _ rfl
  have hg : w.heap.size < W.heap.size := by rw [← hW]; simp
  have HA := Lib.hid (areSets_any w.heap.size a b ca cb xs ys W hg c0 c1 hl hl' (hx.below hB1) (hy.below hB1) hs hs')
  have HM := Lib.hid (fun W' (hB : Below w.heap.size w W') => met_any a b ca cb xs.length ys.length xs ys W' rfl rfl (by omega) (by omega) (hx.below hB) (hy.below hB))
  have hm' : decide ((300 : Int) < (((met xs ys).length : Nat) : Int)) = false := by simp; omega
  have hm'' : decide (300 < (met xs ys).length) = false := by simp; omega
  clear c0 c1 hx hy hs hs' hg hm
  generalize met xs ys = zs at HM hm' hm'' ⊢
  go_enter Tryz.func27, Tryz.ntmps27
  go_wp2_with fail
  clear hW
  refine HA.out.mono ?_
  rintro e w1 ⟨rfl, hB2⟩
  have hB2 := stepB hB1 hB2 hB1.size
  go_wp2_with fail
  refine (HM.out _ hB2).mono ?_
  rintro e w2 ⟨g, c, rfl, hown, hB3⟩
  have hB3' := stepB hB2 hB3 hB2.size
  have HL : Calls Tryz.prog 93 #[.slice (some ⟨g, 0, none⟩) zs.length c] w2 fun e w' => e = .returned (.tuple #[.slice (some ⟨g, 0, none⟩) zs.length c, .int .i64 0]) ∧ w' = w2 := by
    clear HM HA
    go_enter Tryz.func93, Tryz.ntmps93
    go_wp2
    go_ret2
    exact ⟨rfl, rfl⟩
  have HL := Lib.hid HL
  go_wp2_with fail
  refine HL.out.mono ?_
  rintro e w3 ⟨rfl, rfl⟩
  go_wp2
  go_ret2
  exact ⟨g, c, rfl, own_base hown hB2.size, hB3'⟩
end Go.Proofs.YtdebmijlipkoeaaGreatDoor
