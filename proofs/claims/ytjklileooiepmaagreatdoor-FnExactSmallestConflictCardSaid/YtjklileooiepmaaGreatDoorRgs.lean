/- Walks: reigns: whether they are as told, the program's and the reference's. Printed by gen_rg.py. -/
import Derived.Test.YtjklileooiepmaaGreatDoorTRg
namespace Go.Proofs.YtjklileooiepmaaGreatDoor
open Go.ChangeShapes Go.WideShapes Go.ChangeAt Go.RowKit

def okRg (m : Rg) : Bool := nameB m.king.data.toList 12 && spanB m.fr m.to
def leRg (p m : Rg) : Bool := !decide (m.fr < p.fr)
def areReignsB (xs : List Rg) : Bool := upGo okRg leRg none xs && decide (xs.length ≤ 30)

set_option maxHeartbeats 400000 in
theorem l07Reign_any (m : Rg) (w : World) (hs : m.king.size ≤ 9223372036854775807) :
    Calls Tryz.prog 73 #[.agg #[.string m.king, .int .i64 m.fr, .int .i64 m.to]] w fun e w' => e = .returned (.bool (okRg m)) ∧ Below w.heap.size w w' := by
  cases h0 : nameB m.king.data.toList 12 <;> cases h1 : dayB m.fr <;> cases h2 : dayB m.to
  all_goals
    go_enter Tryz.func73, Tryz.ntmps73
    go_wp2_with fail
    refine (l01Name_any _ _ _ hs).mono ?_
    rintro e w1 ⟨rfl, hB1⟩
    have e1 := (hB1.cell (p := ⟨w.heap.size, 1, none⟩) (by simp)).trans (World.cell?_alloc_at _ _ _ _ rfl)
    have e2 := (hB1.cell (p := ⟨w.heap.size, 2, none⟩) (by simp)).trans (World.cell?_alloc_at _ _ _ _ rfl)
    go_wp2_with (go_at_call 47; refine (l01Day_any _ _).mono ?_; rintro e w' ⟨rfl, rfl⟩)
    all_goals go_ret
    all_goals exact ⟨ret_bool (by unfold okRg spanB; simp [*]), stepB ((Below.refl _ w).alloc (Nat.le_refl _) _) hB1 (by simp)⟩

set_option maxHeartbeats 400000 in
theorem isReign_any (m : Rg) (w : World) (hs : m.king.size ≤ 9223372036854775807) :
    Calls Tryz.prog 87 #[.agg #[.string m.king, .int .i64 m.fr, .int .i64 m.to]] w fun e w' => e = .returned (.bool (okRg m)) ∧ Below w.heap.size w w' := by
  cases h0 : nameB m.king.data.toList 12 <;> cases h1 : dayB m.fr <;> cases h2 : dayB m.to
  all_goals
    go_enter Tryz.func87, Tryz.ntmps87
    go_wp2_with fail
    refine (isSmall_any _ _ _ hs).mono ?_
    rintro e w1 ⟨rfl, hB1⟩
    have e1 := (hB1.cell (p := ⟨w.heap.size, 1, none⟩) (by simp)).trans (World.cell?_alloc_at _ _ _ _ rfl)
    have e2 := (hB1.cell (p := ⟨w.heap.size, 2, none⟩) (by simp)).trans (World.cell?_alloc_at _ _ _ _ rfl)
    go_wp2_with (go_at_call 57; refine (isDay_any _ _).mono ?_; rintro e w' ⟨rfl, rfl⟩)
    all_goals go_ret
    all_goals exact ⟨ret_bool (by unfold okRg spanB; simp [*]), stepB ((Below.refl _ w).alloc (Nat.le_refl _) _) hB1 (by simp)⟩

set_option maxHeartbeats 1000000 in
theorem specAreReigns_any (a : Option Addr) (cap : Nat) (xs : List Rg) (w : World) (hl : xs.length ≤ 1048576) (hx : Rd encRg w a xs) (hs : ∀ m ∈ xs, m.king.size ≤ 1048576) :
    Calls Tryz.prog 46 #[.slice a xs.length cap] w fun e w' => e = .returned (.bool (areReignsB xs)) ∧ Below w.heap.size w w' := by
  go_enter Tryz.func46, Tryz.ntmps46
  go_wp2
  go_loopw [3] (fun i wr => ∃ (k : Nat), k ≤ xs.length ∧ i = .int .i64 k ∧ Hid (upGo okRg leRg none xs = upGo okRg leRg (prevOf xs k) (xs.drop k)) ∧ Below w.heap.size w wr) (fun i _ => xs.length - (intOf i).toNat)
  case atStart => exact ⟨0, Nat.zero_le _, rfl, rfl, Below.refl _ _⟩
  case round =>
    obtain ⟨k, hk, rfl, hH, hB⟩ := hrel
    by_cases hlt : k < xs.length
    · have hm := List.getElem?_eq_getElem hlt
      generalize xs[k] = m at hm
      obtain ⟨b, off, rfl, hb, c0, c1, c2⟩ := (hx.below hB).rg hm
      have hsm : m.king.size ≤ 9223372036854775807 := by have := hs m (List.mem_of_getElem? hm); omega
      have bad : Hid (okRg m = false → areReignsB xs = false) := fun h => by unfold areReignsB; rw [hH.out, upGo_bad hm h]; rfl
      have hcn := fun W => l07Reign_any m W hsm
      go_wp2_with fail
      have C0 := Later.cell c0 hb
      have C1 := Later.cell c1 hb
      have C2 := Later.cell c2 hb
      have hBW := hB
      clear c0 c1 c2
      cases hok : okRg m
      · simp only [hok] at hcn
        have HCN := Lib.hid hcn
        have hbd := Lib.hid (bad.out hok)
        clear hcn hm hok
        refine wp_region_later wr (by kernel_rfl) (by kernel_rfl) ?_
        repeat (go_big_quiet_step ((first | (go_at_call 73; exact Later.call (Nat.le_refl _) (HCN.out _)))))
        refine wpQuiet_nil ?_
        intro z
        have hz := z.prop
        generalize z.val = w2 at hz
        clear C0 C1 C2
        go_wp2
        go_ret
        exact ⟨ret_bool hbd.out.symm, stepB hBW hz hBW.size⟩
      simp only [hok] at hcn
      have HCN := Lib.hid hcn
      have HOK := Lib.hid hok
      clear bad hcn hok
      by_cases hk0 : 0 < k
      · have hpl : k - 1 < xs.length := by omega
        have hp := List.getElem?_eq_getElem hpl
        generalize xs[k - 1] = p at hp
        obtain ⟨_, _, e', _, p0, p1, p2⟩ := (hx.below hB).rg hp
        simp only [Option.some.injEq, Addr.mk.injEq, and_true] at e'
        obtain ⟨rfl, rfl⟩ := e'
        have hN := Lib.hid (upGo_at (ok := okRg) (lt := leRg) hk0 hp hm)
        have P0 := Later.cell p0 hb
        have P1 := Later.cell p1 hb
        have P2 := Later.cell p2 hb
        clear hm hp p0 p1 p2
        have hk1 : (0 : Int) < (k : Int) := by omega
        by_cases hlm : m.fr < p.fr
        · have HLM : Hid (leRg p m = false) := by unfold Hid leRg; simp; omega
          refine wp_region_later wr (by kernel_rfl) (by kernel_rfl) ?_
          repeat (go_big_quiet_step ((first | (go_at_call 73; exact Later.call (Nat.le_refl _) (HCN.out _)))))
          refine wpQuiet_nil ?_
          intro z
          have hz := z.prop
          generalize z.val = w2 at hz
          clear C0 C1 C2 P0 P1 P2
          go_wp2
          go_ret
          exact ⟨ret_bool (by unfold areReignsB; rw [hH.out, hN.out, HOK.out, HLM.out]; rfl), stepB hBW hz hBW.size⟩
        · have HLM : Hid (leRg p m = true) := by unfold Hid leRg; simp; omega
          have hlm2 : decide (m.fr < p.fr) = false := by simpa using hlm
          refine wp_region_later wr (by kernel_rfl) (by kernel_rfl) ?_
          repeat (go_big_quiet_step ((first | (go_at_call 73; exact Later.call (Nat.le_refl _) (HCN.out _)))))
          refine wpQuiet_nil ?_
          intro z
          have hz := z.prop
          generalize z.val = w2 at hz
          clear C0 C1 C2 P0 P1 P2
          go_wp2
          go_roundw
          case rel => exact ⟨k + 1, by omega, by go_num, by unfold Hid; rw [hH.out, hN.out, HOK.out, HLM.out]; rfl, stepB hBW hz hBW.size⟩
          case measure => simp [intOf]; omega
      · have hk1 : k = 0 := by omega
        have hN := Lib.hid (upGo_at0 (ok := okRg) (lt := leRg) hk1 hm)
        have hk2 : decide ((0 : Int) < (k : Int)) = false := by simp; omega
        clear hm hk1
        refine wp_region_later wr (by kernel_rfl) (by kernel_rfl) ?_
        repeat (go_big_quiet_step ((first | (go_at_call 73; exact Later.call (Nat.le_refl _) (HCN.out _)))))
        refine wpQuiet_nil ?_
        intro z
        have hz := z.prop
        generalize z.val = w2 at hz
        clear C0 C1 C2
        go_wp2
        go_roundw
        case rel => exact ⟨k + 1, by omega, by go_num, by unfold Hid; rw [hH.out, hN.out, HOK.out]; rfl, stepB hBW hz hBW.size⟩
        case measure => simp [intOf]; omega
    · go_wp2
      go_ret
      exact ⟨ret_bool (by unfold areReignsB; rw [hH.out, upGo_end (by omega)]; simp; omega), hB⟩

set_option maxHeartbeats 1000000 in
theorem implAreReigns_any (a : Option Addr) (cap : Nat) (xs : List Rg) (w : World) (hl : xs.length ≤ 1048576) (hx : Rd encRg w a xs) (hs : ∀ m ∈ xs, m.king.size ≤ 1048576) :
    Calls Tryz.prog 56 #[.slice a xs.length cap] w fun e w' => e = .returned (.bool (areReignsB xs)) ∧ Below w.heap.size w w' := by
  go_enter Tryz.func56, Tryz.ntmps56
  go_wp2
  go_loopw [7] (fun i wr => ∃ (k : Nat), k ≤ xs.length ∧ i = .int .i64 k ∧ Hid (upGo okRg leRg none xs = upGo okRg leRg (prevOf xs k) (xs.drop k)) ∧ Below w.heap.size w wr) (fun i _ => xs.length - (intOf i).toNat)
  case atStart => exact ⟨0, Nat.zero_le _, rfl, rfl, Below.refl _ _⟩
  case round =>
    obtain ⟨k, hk, rfl, hH, hB⟩ := hrel
    by_cases hlt : k < xs.length
    · have hm := List.getElem?_eq_getElem hlt
      generalize xs[k] = m at hm
      obtain ⟨b, off, rfl, hb, c0, c1, c2⟩ := (hx.below hB).rg hm
      have hsm : m.king.size ≤ 9223372036854775807 := by have := hs m (List.mem_of_getElem? hm); omega
      have bad : Hid (okRg m = false → areReignsB xs = false) := fun h => by unfold areReignsB; rw [hH.out, upGo_bad hm h]; rfl
      have hcn := fun W => isReign_any m W hsm
      go_wp2_with fail
      generalize hW : wr.alloc (.cells #[.string m.king, .int .i64 m.fr, .int .i64 m.to] 72) = W
      have hBW : Below w.heap.size w W := hW ▸ hB.alloc hB.size _
      have hlW : wr.heap.size < W.heap.size := by rw [← hW]; simp
      have C0 := Later.cell (w := W) (by rw [← hW]; exact World.cell?_alloc_at _ _ _ _ rfl : W.cell? ⟨wr.heap.size, 0, none⟩ = some (.string m.king)) hlW
      have C1 := Later.cell (w := W) (by rw [← hW]; exact World.cell?_alloc_at _ _ _ _ rfl : W.cell? ⟨wr.heap.size, 1, none⟩ = some (.int .i64 m.fr)) hlW
      have C2 := Later.cell (w := W) (by rw [← hW]; exact World.cell?_alloc_at _ _ _ _ rfl : W.cell? ⟨wr.heap.size, 2, none⟩ = some (.int .i64 m.to)) hlW
      clear c0 c1 c2
      cases hok : okRg m
      · simp only [hok] at hcn
        have HCN := Lib.hid hcn
        have hbd := Lib.hid (bad.out hok)
        clear hcn hm hok
        refine wp_region_later W (by kernel_rfl) (by kernel_rfl) ?_
        repeat (go_big_quiet_step ((first | (go_at_call 87; exact Later.call (Nat.le_refl _) (HCN.out _)))))
        refine wpQuiet_nil ?_
        intro z
        have hz := z.prop
        generalize z.val = w2 at hz
        clear C0 C1 C2
        go_wp2
        go_ret
        exact ⟨ret_bool hbd.out.symm, stepB hBW hz hBW.size⟩
      simp only [hok] at hcn
      have HCN := Lib.hid hcn
      have HOK := Lib.hid hok
      clear bad hcn hok
      by_cases hk0 : 0 < k
      · have hpl : k - 1 < xs.length := by omega
        have hp := List.getElem?_eq_getElem hpl
        generalize xs[k - 1] = p at hp
        obtain ⟨_, _, e', _, p0, p1, p2⟩ := (hx.below hB).rg hp
        simp only [Option.some.injEq, Addr.mk.injEq, and_true] at e'
        obtain ⟨rfl, rfl⟩ := e'
        have hN := Lib.hid (upGo_at (ok := okRg) (lt := leRg) hk0 hp hm)
        have P0 := Later.cell (B := W.heap.size) (w := W) ((hW ▸ World.cell?_alloc_past _ _ _ hb : W.cell? _ = _).trans p0) (by omega)
        have P1 := Later.cell (B := W.heap.size) (w := W) ((hW ▸ World.cell?_alloc_past _ _ _ hb : W.cell? _ = _).trans p1) (by omega)
        have P2 := Later.cell (B := W.heap.size) (w := W) ((hW ▸ World.cell?_alloc_past _ _ _ hb : W.cell? _ = _).trans p2) (by omega)
        clear hm hp p0 p1 p2
        have hk1 : (0 : Int) < (k : Int) := by omega
        by_cases hlm : m.fr < p.fr
        · have HLM : Hid (leRg p m = false) := by unfold Hid leRg; simp; omega
          refine wp_region_later W (by kernel_rfl) (by kernel_rfl) ?_
          repeat (go_big_quiet_step ((first | (go_at_call 87; exact Later.call (Nat.le_refl _) (HCN.out _)))))
          refine wpQuiet_nil ?_
          intro z
          have hz := z.prop
          generalize z.val = w2 at hz
          clear C0 C1 C2 P0 P1 P2
          go_wp2
          go_ret
          exact ⟨ret_bool (by unfold areReignsB; rw [hH.out, hN.out, HOK.out, HLM.out]; rfl), stepB hBW hz hBW.size⟩
        · have HLM : Hid (leRg p m = true) := by unfold Hid leRg; simp; omega
          have hlm2 : decide (m.fr < p.fr) = false := by simpa using hlm
          refine wp_region_later W (by kernel_rfl) (by kernel_rfl) ?_
          repeat (go_big_quiet_step ((first | (go_at_call 87; exact Later.call (Nat.le_refl _) (HCN.out _)))))
          refine wpQuiet_nil ?_
          intro z
          have hz := z.prop
          generalize z.val = w2 at hz
          clear C0 C1 C2 P0 P1 P2
          go_wp2
          go_roundw
          case rel => exact ⟨k + 1, by omega, by go_num, by unfold Hid; rw [hH.out, hN.out, HOK.out, HLM.out]; rfl, stepB hBW hz hBW.size⟩
          case measure => simp [intOf]; omega
      · have hk1 : k = 0 := by omega
        have hN := Lib.hid (upGo_at0 (ok := okRg) (lt := leRg) hk1 hm)
        have hk2 : decide ((0 : Int) < (k : Int)) = false := by simp; omega
        clear hm hk1
        refine wp_region_later W (by kernel_rfl) (by kernel_rfl) ?_
        repeat (go_big_quiet_step ((first | (go_at_call 87; exact Later.call (Nat.le_refl _) (HCN.out _)))))
        refine wpQuiet_nil ?_
        intro z
        have hz := z.prop
        generalize z.val = w2 at hz
        clear C0 C1 C2
        go_wp2
        go_roundw
        case rel => exact ⟨k + 1, by omega, by go_num, by unfold Hid; rw [hH.out, hN.out, HOK.out]; rfl, stepB hBW hz hBW.size⟩
        case measure => simp [intOf]; omega
    · go_wp2
      go_ret
      exact ⟨ret_bool (by unfold areReignsB; rw [hH.out, upGo_end (by omega)]; simp; omega), hB⟩
end Go.Proofs.YtjklileooiepmaaGreatDoor
