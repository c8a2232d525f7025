/- Walk: the reference's travels from a place. -/
import Derived.Test.YtipdcgfdejmjfaaGreatDoorRowI
import Derived.Test.YtipdcgfdejmjfaaGreatDoorLandB
namespace Go.Proofs.YtipdcgfdejmjfaaGreatDoor
open Go.ChangeShapes Go.WideShapes Go.ChangeAt Go.RowKit

/-- The state of the reference's rounds: r whole ones and k ways of the next. -/
def bfAt (ws : List Wy) (a r k : Nat) : Nat → Int := (ws.take k).foldl bfStep (bfRounds ws a r)
theorem bfAt_zero (ws : List Wy) (a r : Nat) : bfAt ws a r 0 = bfRounds ws a r := rfl
theorem bfAt_full (ws : List Wy) (a r : Nat) : bfAt ws a r ws.length = bfRounds ws a (r + 1) := by unfold bfAt; rw [List.take_length]; rfl
theorem bfAt_succ {ws : List Wy} {a r k : Nat} {m : Wy} (h : ws[k]? = some m) : bfAt ws a r (k + 1) = bfStep (bfAt ws a r k) m := by
  obtain ⟨hk, rfl⟩ := List.getElem?_eq_some_iff.1 h
  unfold bfAt
  rw [List.take_succ_eq_append_getElem hk, List.foldl_append]
  rfl
theorem relax_low {f : Nat → Int} (h : ∀ v, -1 ≤ f v) {d : Int} (hd : 0 ≤ d) (i j v : Nat) : -1 ≤ relax f i j d v := by
  have h1 := h i
  have h2 := h v
  unfold relax
  split
  · unfold upd; split <;> omega
  · exact h2
theorem bfStep_low {f : Nat → Int} (h : ∀ v, -1 ≤ f v) {m : Wy} (hd : 0 ≤ m.days) (v : Nat) : -1 ≤ bfStep f m v := relax_low (relax_low h hd _ _) hd _ _ _
theorem bfFold_low {ws : List Wy} (hw : ∀ m ∈ ws, 0 ≤ m.days) {f : Nat → Int} (h : ∀ v, -1 ≤ f v) : ∀ v, -1 ≤ ws.foldl bfStep f v := foldl_keep bfStep (fun f => ∀ v, -1 ≤ f v) ws (fun _ m hm h v => bfStep_low h (hw m hm) v) f h
theorem bfRounds_low {ws : List Wy} (hw : ∀ m ∈ ws, 0 ≤ m.days) (a : Nat) : ∀ r v, -1 ≤ bfRounds ws a r v
  | 0, v => by simp only [bfRounds, bfStart, upd]; split <;> omega
  | r + 1, v => bfFold_low hw (bfRounds_low hw a r) v
theorem bfAt_bound {n : Nat} {ws : List Wy} (ho : OkW n ws) (hw : ws.length ≤ 40) {a r k : Nat} (hr : r ≤ 12) (v : Nat) : -1 ≤ bfAt ws a r k v ∧ bfAt ws a r k v ≤ 100000 := by
  have hd : ∀ m ∈ ws, 0 ≤ m.days ∧ m.days ≤ 60 := fun m hm => by have := ho m hm; omega
  have hd' : ∀ m ∈ ws.take k, 0 ≤ m.days ∧ m.days ≤ 60 := fun m hm => hd m (List.mem_of_mem_take hm)
  refine ⟨bfFold_low (fun m hm => (hd' m hm).1) (bfRounds_low (fun m hm => (hd m hm).1) a r) v, ?_⟩
  have h1 := bfRound_bound (ws.take k) (bfRounds ws a r) (4800 * r) (bfRounds_bound ho hw a r) hd' v
  have h2 : (ws.take k).length ≤ 40 := by rw [List.length_take]; omega
  unfold bfAt
  unfold bfRound at h1
  omega

set_option maxRecDepth 100000 in
set_option maxHeartbeats 4000000 in
theorem l14From_any (a0 a1 : Option Addr) (cap0 cap1 n a : Nat) (ws : List Wy) (w : World) (hn1 : 1 ≤ n) (hn : n ≤ 12) (ha : a < n) (hl1 : ws.length ≤ 40) (ho : OkWs n ws) (hx1 : Rd encWy w a1 ws) :
    Calls Tryz.prog 93 #[.agg #[.slice a0 n cap0, .slice a1 ws.length cap1], .int .i64 a] w fun e w' =>
      ∃ g, e = .returned (.slice (some ⟨g, 0, none⟩) n n) ∧ w'.ownsRow w.heap.size 2 1 (.slice (some ⟨g, 0, none⟩) n n) n (rowI n (bfRounds ws a n)) ∧ Below w.heap.size w w' := by
  obtain ⟨i0, hi, hz0, hz1, hz2⟩ := info_parts infoI
  have ha1 : (a : Int) < (n : Int) := by omega
  have ha2 : (0 : Int) ≤ (a : Int) := by omega
  go_enter Tryz.func93, Tryz.ntmps93
  go_wp2_with (at_make; refine wpList_make_full _ rfl _ _ 45 rfl (w.heap.size + 1) 2 i0 _ 1 Tryz.underlying45 hi hz0 hz1 _ _ _ _ n rfl rfl rfl rfl (by rw [hz2]; omega) (by unfold maxLen; omega) (by simp) ?_; intro w1 hown hgr)
  have hA : At w [.slice a0 n cap0, .slice a1 ws.length cap1] w1 := (At.start w _ _).grown hgr (fun g e => by cases e)
  rw [madeI] at hown
  have hgs : (w.alloc (.cells #[.slice a0 n cap0, .slice a1 ws.length cap1] 35)).heap.size = w.heap.size + 1 := by simp
  rw [hgs] at hown
  clear hgs
  go_loopw [6] (fun i wr => ∃ (k : Nat), k ≤ n ∧ i = .int .i64 k ∧ wr.ownsRow (w.heap.size + 1) 2 1 (.slice (some ⟨w.heap.size + 1, 0, none⟩) n n) n (rowI n (fun j => if j < k then -1 else 0)) ∧ At w [.slice a0 n cap0, .slice a1 ws.length cap1] wr) (fun i _ => n - (intOf i).toNat)
  case atStart => exact ⟨0, Nat.zero_le _, rfl, by simpa using hown, hA⟩
  case round =>
    clear hown hA hgr
    obtain ⟨k, hk, rfl, hown, hA⟩ := hrel
    by_cases hlt : k < n
    · have hk1 : (k : Int) < (n : Int) := by omega
      have c0 := own_rowI hown hlt
      have f0 := hown.frozenAt k
      have hp := own_putI hown k (-1)
      have e : rowI n (upd (fun j => if j < k then -1 else 0) k (-1)) = rowI n (fun j => if j < k + 1 then -1 else 0) := rowI_congr (fun j _ => by
        simp only [upd]
        by_cases h : j = k
        · rw [if_pos h, if_pos (by omega)]
        · rw [if_neg h]
          by_cases h2 : j < k
          · rw [if_pos h2, if_pos (by omega)]
          · rw [if_neg h2, if_neg (by omega)])
      rw [e] at hp
      have HP := Lib.hid hp.1
      have HG := Lib.hid hp.2
      clear hp hown e
      go_wp2
      go_roundw
      case rel => exact ⟨k + 1, by omega, by go_num, HP.out, hA.grown HG.out (fun g' e => by cases e; omega)⟩
      case measure => simp [intOf]; omega
    · obtain rfl : n = k := by omega
      have e : rowI n (fun j => if j < n then -1 else 0) = rowI n (fun _ => -1) := rowI_congr (fun j h => if_pos h)
      rw [e] at hown
      have c0 := own_rowI hown ha
      have f0 := hown.frozenAt a
      have hp := own_putI hown a 0
      have HP : Hid (World.ownsRow _ _ _ _ _ _ (rowI n (bfRounds ws a 0))) := hp.1
      have HG := Lib.hid hp.2
      clear hp hown e
      go_wp2
      -- ROUNDS
      have hown := HP.out
      have hA := hA.grown HG.out (fun g e => by cases e; omega)
      clear HP HG c0 f0 hlt hk
      generalize wr.setCell ⟨w.heap.size + 1, a, none⟩ (.int .i64 0) = W0 at hown hA ⊢
      go_loopw [7] (fun i wr => ∃ (r : Nat), r ≤ n ∧ i = .int .i64 r ∧ wr.ownsRow (w.heap.size + 1) 2 1 (.slice (some ⟨w.heap.size + 1, 0, none⟩) n n) n (rowI n (bfRounds ws a r)) ∧ At w [.slice a0 n cap0, .slice a1 ws.length cap1] wr) (fun i _ => n - (intOf i).toNat)
      case atStart => exact ⟨0, Nat.zero_le _, rfl, hown, hA⟩
      case round =>
        clear hown hA
        obtain ⟨r, hr, rfl, hown, hA⟩ := hrel
        have b0 := hA.cell 0 _ rfl
        by_cases hlt : r < n
        · have hk1 : (r : Int) < (n : Int) := by omega
          go_wp2
          go_loopw [8] (fun i wr => ∃ (q : Nat), q ≤ ws.length ∧ i = .int .i64 q ∧ wr.ownsRow (w.heap.size + 1) 2 1 (.slice (some ⟨w.heap.size + 1, 0, none⟩) n n) n (rowI n (bfAt ws a r q)) ∧ At w [.slice a0 n cap0, .slice a1 ws.length cap1] wr) (fun i _ => ws.length - (intOf i).toNat)
          case atStart => exact ⟨0, Nat.zero_le _, rfl, hown, hA⟩
          case round =>
            clear hown hA b0
            obtain ⟨q, hq, rfl, hown, hA⟩ := hrel
            have b1 := hA.cell 1 _ rfl
            by_cases hlt2 : q < ws.length
            · have hm := List.getElem?_eq_getElem hlt2
              generalize ws[q] = m at hm
              obtain ⟨b, off, rfl, hb, c0, c1, c2⟩ := (hx1.below hA.below).wy hm
              have hst := Lib.hid (bfAt_succ (a := a) (r := r) hm)
              have hbd := bfAt_bound (a := a) (k := q) ho.ok hl1 (show r ≤ 12 by omega)
              obtain ⟨A, B, hmA, hmB, hA1, hB1, hAB, hd1, hd2⟩ := ho m (List.mem_of_getElem? hm)
              obtain ⟨_, _, d⟩ := m
              simp only at hmA hmB hd1 hd2 c0 c1 c2
              subst hmA hmB
              have hk2 : (q : Int) < (ws.length : Int) := by omega
              have hA2 : (A : Int) < (n : Int) := by omega
              have hB2 : (B : Int) < (n : Int) := by omega
              clear hm
              go_upto_region 14 with (fail)
              generalize hW : wr.alloc (.cells #[.int .i64 A, .int .i64 B, .int .i64 d] 125) = W
              have hBW : Below wr.heap.size wr W := by rw [← hW]; go_grown
              have hD : wr.heap.size < W.heap.size := by rw [← hW]; simp
              have D0 : W.cell? ⟨wr.heap.size, 0, none⟩ = some (.int .i64 A) := by rw [← hW]; exact World.cell?_alloc_at _ _ _ _ rfl
              have D1 : W.cell? ⟨wr.heap.size, 1, none⟩ = some (.int .i64 B) := by rw [← hW]; exact World.cell?_alloc_at _ _ _ _ rfl
              have D2 : W.cell? ⟨wr.heap.size, 2, none⟩ = some (.int .i64 d) := by rw [← hW]; exact World.cell?_alloc_at _ _ _ _ rfl
              have hrowlt := (hown.lt _ rfl).2
              have hown := own_below hown hBW
              have hAt := hA.step hBW
              have hbw : w.heap.size + 1 < wr.heap.size := hrowlt
              clear hW b1 c0 c1 c2 hA hBW
              generalize wr.heap.size = bw at hD D0 D1 D2 hbw ⊢
              generalize bfAt ws a r q = F at hown hst hbd
              have hst : Hid (bfAt ws a r (q + 1) = relax (relax F A B d) B A d) := hst
              have hbd1 : ∀ v, -1 ≤ relax F A B d v ∧ relax F A B d v ≤ 100060 := fun v => ⟨relax_low (fun v => (hbd v).1) (by omega) A B v, relax_bound (fun v => (hbd v).2) (by omega) hd2 A B v⟩
              have hFA := hbd A
              have hFB := hbd B
              by_cases p1 : 0 ≤ F A
              · by_cases p2 : F B < 0
                · have e1 : relax F A B d = upd F B (F A + d) := if_pos ⟨p1, .inl p2⟩
                  have E0 := Later.cell D0 hD
                  have E1 := Later.cell D1 hD
                  have E2 := Later.cell D2 hD
                  have EA := Later.cell (own_rowI hown hA1) (hown.lt _ rfl).2
                  have EB := Later.cell (own_rowI hown hB1) (hown.lt _ rfl).2
                  refine wp_region_later _ (by kernel_rfl) (by kernel_rfl) ?_
                  repeat (go_big_quiet_step (fail))
                  refine wpQuiet_nil ?_
                  intro z
                  have hz := z.prop
                  generalize z.val = U at hz
                  clear E0 E1 E2 EA EB
                  have D0 := (hz.cell (p := ⟨bw, 0, none⟩) hD).trans D0
                  have D1 := (hz.cell (p := ⟨bw, 1, none⟩) hD).trans D1
                  have D2 := (hz.cell (p := ⟨bw, 2, none⟩) hD).trans D2
                  have hD := Nat.lt_of_lt_of_le hD hz.size
                  have hown := own_below hown hz
                  have hAt := hAt.step hz
                  have cA := own_rowI hown hA1
                  have cB := own_rowI hown hB1
                  go_wp2_with fail
                  go_still_tail 12, (by kernel_rfl)
                  clear cA cB
                  change wpList _ _ _ _ _ U.drew
                  have hzz : Below U.heap.size U U.drew := (Below.refl _ U).drew
                  generalize U.drew = V at hzz ⊢
                  have D0 := (hzz.cell (p := ⟨bw, 0, none⟩) hD).trans D0
                  have D1 := (hzz.cell (p := ⟨bw, 1, none⟩) hD).trans D1
                  have D2 := (hzz.cell (p := ⟨bw, 2, none⟩) hD).trans D2
                  have hD := Nat.lt_of_lt_of_le hD hzz.size
                  have hown := own_below hown hzz
                  have hAt := hAt.step hzz
                  have cB := own_rowI hown hB1
                  have fB := hown.frozenAt B
                  have hp := own_putI hown B (F A + d)
                  rw [← e1] at hp
                  have HP := Lib.hid hp.1
                  have HG := Lib.hid hp.2
                  clear hp
                  go_upto_region 16 with (fail)
                  have D0 := (gcell HG.out (p := ⟨bw, 0, none⟩) hD (fun g e => by cases e; simp; omega)).trans D0
                  have D1 := (gcell HG.out (p := ⟨bw, 1, none⟩) hD (fun g e => by cases e; simp; omega)).trans D1
                  have D2 := (gcell HG.out (p := ⟨bw, 2, none⟩) hD (fun g e => by cases e; simp; omega)).trans D2
                  have hD := Nat.lt_of_lt_of_le hD HG.out.size
                  have hAt := hAt.grown HG.out (fun g e => by cases e; omega)
                  have hown := HP.out
                  clear HP HG cB fB
                  generalize V.setCell ⟨w.heap.size + 1, B, none⟩ (.int .i64 (F A + d)) = W1 at hown hAt D0 D1 D2 hD ⊢
                  clear e1
                  try clear p1
                  try clear p2
                  try clear p3
                  try clear q1
                  try clear q2
                  try clear q3
                  generalize relax F A B d = F1 at hown hst hbd1
                  have hFA := hbd1 A
                  have hFB := hbd1 B
                  by_cases p1 : 0 ≤ F1 B
                  · by_cases p2 : F1 A < 0
                    · have e1 : relax F1 B A d = upd F1 A (F1 B + d) := if_pos ⟨p1, .inl p2⟩
                      have E0 := Later.cell D0 hD
                      have E1 := Later.cell D1 hD
                      have E2 := Later.cell D2 hD
                      have EA := Later.cell (own_rowI hown hA1) (hown.lt _ rfl).2
                      have EB := Later.cell (own_rowI hown hB1) (hown.lt _ rfl).2
                      refine wp_region_later _ (by kernel_rfl) (by kernel_rfl) ?_
                      repeat (go_big_quiet_step (fail))
                      refine wpQuiet_nil ?_
                      intro z
                      have hz := z.prop
                      generalize z.val = U at hz
                      clear E0 E1 E2 EA EB
                      have D0 := (hz.cell (p := ⟨bw, 0, none⟩) hD).trans D0
                      have D1 := (hz.cell (p := ⟨bw, 1, none⟩) hD).trans D1
                      have D2 := (hz.cell (p := ⟨bw, 2, none⟩) hD).trans D2
                      have hD := Nat.lt_of_lt_of_le hD hz.size
                      have hown := own_below hown hz
                      have hAt := hAt.step hz
                      have cA := own_rowI hown hA1
                      have cB := own_rowI hown hB1
                      go_wp2_with fail
                      go_still_tail 12, (by kernel_rfl)
                      clear cA cB
                      change wpList _ _ _ _ _ U.drew
                      have hzz : Below U.heap.size U U.drew := (Below.refl _ U).drew
                      generalize U.drew = V at hzz ⊢
                      have D0 := (hzz.cell (p := ⟨bw, 0, none⟩) hD).trans D0
                      have D1 := (hzz.cell (p := ⟨bw, 1, none⟩) hD).trans D1
                      have D2 := (hzz.cell (p := ⟨bw, 2, none⟩) hD).trans D2
                      have hD := Nat.lt_of_lt_of_le hD hzz.size
                      have hown := own_below hown hzz
                      have hAt := hAt.step hzz
                      have cB := own_rowI hown hA1
                      have fB := hown.frozenAt A
                      have hp := own_putI hown A (F1 B + d)
                      rw [← e1] at hp
                      have HP := Lib.hid hp.1
                      have HG := Lib.hid hp.2
                      clear hp
                      go_wp2
                      go_roundw
                      case rel => exact ⟨q + 1, by omega, by go_num, by rw [hst.out]; exact HP.out, hAt.grown HG.out (fun g e => by cases e; omega)⟩
                      case measure => simp [intOf]; omega
                    · have q2 : decide (F1 A < 0) = false := by simpa using p2
                      by_cases p3 : F1 B + d < F1 A
                      · have e1 : relax F1 B A d = upd F1 A (F1 B + d) := if_pos ⟨p1, .inr p3⟩
                        have E0 := Later.cell D0 hD
                        have E1 := Later.cell D1 hD
                        have E2 := Later.cell D2 hD
                        have EA := Later.cell (own_rowI hown hA1) (hown.lt _ rfl).2
                        have EB := Later.cell (own_rowI hown hB1) (hown.lt _ rfl).2
                        refine wp_region_later _ (by kernel_rfl) (by kernel_rfl) ?_
                        repeat (go_big_quiet_step (fail))
                        refine wpQuiet_nil ?_
                        intro z
                        have hz := z.prop
                        generalize z.val = U at hz
                        clear E0 E1 E2 EA EB
                        have D0 := (hz.cell (p := ⟨bw, 0, none⟩) hD).trans D0
                        have D1 := (hz.cell (p := ⟨bw, 1, none⟩) hD).trans D1
                        have D2 := (hz.cell (p := ⟨bw, 2, none⟩) hD).trans D2
                        have hD := Nat.lt_of_lt_of_le hD hz.size
                        have hown := own_below hown hz
                        have hAt := hAt.step hz
                        have cA := own_rowI hown hA1
                        have cB := own_rowI hown hB1
                        go_wp2_with fail
                        go_still_tail 12, (by kernel_rfl)
                        clear cA cB
                        change wpList _ _ _ _ _ U.drew
                        have hzz : Below U.heap.size U U.drew := (Below.refl _ U).drew
                        generalize U.drew = V at hzz ⊢
                        have D0 := (hzz.cell (p := ⟨bw, 0, none⟩) hD).trans D0
                        have D1 := (hzz.cell (p := ⟨bw, 1, none⟩) hD).trans D1
                        have D2 := (hzz.cell (p := ⟨bw, 2, none⟩) hD).trans D2
                        have hD := Nat.lt_of_lt_of_le hD hzz.size
                        have hown := own_below hown hzz
                        have hAt := hAt.step hzz
                        have cB := own_rowI hown hA1
                        have fB := hown.frozenAt A
                        have hp := own_putI hown A (F1 B + d)
                        rw [← e1] at hp
                        have HP := Lib.hid hp.1
                        have HG := Lib.hid hp.2
                        clear hp
                        go_wp2
                        go_roundw
                        case rel => exact ⟨q + 1, by omega, by go_num, by rw [hst.out]; exact HP.out, hAt.grown HG.out (fun g e => by cases e; omega)⟩
                        case measure => simp [intOf]; omega
                      · have q3 : decide (F1 B + d < F1 A) = false := by simpa using p3
                        have e1 : relax F1 B A d = F1 := if_neg (by omega)
                        have E0 := Later.cell D0 hD
                        have E1 := Later.cell D1 hD
                        have E2 := Later.cell D2 hD
                        have EA := Later.cell (own_rowI hown hA1) (hown.lt _ rfl).2
                        have EB := Later.cell (own_rowI hown hB1) (hown.lt _ rfl).2
                        refine wp_region_later _ (by kernel_rfl) (by kernel_rfl) ?_
                        repeat (go_big_quiet_step (fail))
                        refine wpQuiet_nil ?_
                        intro z
                        have hz := z.prop
                        generalize z.val = U at hz
                        clear E0 E1 E2 EA EB
                        have D0 := (hz.cell (p := ⟨bw, 0, none⟩) hD).trans D0
                        have D1 := (hz.cell (p := ⟨bw, 1, none⟩) hD).trans D1
                        have D2 := (hz.cell (p := ⟨bw, 2, none⟩) hD).trans D2
                        have hD := Nat.lt_of_lt_of_le hD hz.size
                        have hown := own_below hown hz
                        have hAt := hAt.step hz
                        rw [← congrArg (rowI n) e1] at hown
                        go_wp2
                        go_roundw
                        case rel => exact ⟨q + 1, by omega, by go_num, by rw [hst.out]; exact hown, hAt⟩
                        case measure => simp [intOf]; omega
                  · have q1 : decide (0 ≤ F1 B) = false := by simpa using p1
                    have e1 : relax F1 B A d = F1 := if_neg (by omega)
                    have E0 := Later.cell D0 hD
                    have E1 := Later.cell D1 hD
                    have E2 := Later.cell D2 hD
                    have EA := Later.cell (own_rowI hown hA1) (hown.lt _ rfl).2
                    have EB := Later.cell (own_rowI hown hB1) (hown.lt _ rfl).2
                    refine wp_region_later _ (by kernel_rfl) (by kernel_rfl) ?_
                    repeat (go_big_quiet_step (fail))
                    refine wpQuiet_nil ?_
                    intro z
                    have hz := z.prop
                    generalize z.val = U at hz
                    clear E0 E1 E2 EA EB
                    have D0 := (hz.cell (p := ⟨bw, 0, none⟩) hD).trans D0
                    have D1 := (hz.cell (p := ⟨bw, 1, none⟩) hD).trans D1
                    have D2 := (hz.cell (p := ⟨bw, 2, none⟩) hD).trans D2
                    have hD := Nat.lt_of_lt_of_le hD hz.size
                    have hown := own_below hown hz
                    have hAt := hAt.step hz
                    rw [← congrArg (rowI n) e1] at hown
                    go_wp2
                    go_roundw
                    case rel => exact ⟨q + 1, by omega, by go_num, by rw [hst.out]; exact hown, hAt⟩
                    case measure => simp [intOf]; omega
                · have q2 : decide (F B < 0) = false := by simpa using p2
                  by_cases p3 : F A + d < F B
                  · have e1 : relax F A B d = upd F B (F A + d) := if_pos ⟨p1, .inr p3⟩
                    have E0 := Later.cell D0 hD
                    have E1 := Later.cell D1 hD
                    have E2 := Later.cell D2 hD
                    have EA := Later.cell (own_rowI hown hA1) (hown.lt _ rfl).2
                    have EB := Later.cell (own_rowI hown hB1) (hown.lt _ rfl).2
                    refine wp_region_later _ (by kernel_rfl) (by kernel_rfl) ?_
                    repeat (go_big_quiet_step (fail))
                    refine wpQuiet_nil ?_
                    intro z
                    have hz := z.prop
                    generalize z.val = U at hz
                    clear E0 E1 E2 EA EB
                    have D0 := (hz.cell (p := ⟨bw, 0, none⟩) hD).trans D0
                    have D1 := (hz.cell (p := ⟨bw, 1, none⟩) hD).trans D1
                    have D2 := (hz.cell (p := ⟨bw, 2, none⟩) hD).trans D2
                    have hD := Nat.lt_of_lt_of_le hD hz.size
                    have hown := own_below hown hz
                    have hAt := hAt.step hz
                    have cA := own_rowI hown hA1
                    have cB := own_rowI hown hB1
                    go_wp2_with fail
                    go_still_tail 12, (by kernel_rfl)
                    clear cA cB
                    change wpList _ _ _ _ _ U.drew
                    have hzz : Below U.heap.size U U.drew := (Below.refl _ U).drew
                    generalize U.drew = V at hzz ⊢
                    have D0 := (hzz.cell (p := ⟨bw, 0, none⟩) hD).trans D0
                    have D1 := (hzz.cell (p := ⟨bw, 1, none⟩) hD).trans D1
                    have D2 := (hzz.cell (p := ⟨bw, 2, none⟩) hD).trans D2
                    have hD := Nat.lt_of_lt_of_le hD hzz.size
                    have hown := own_below hown hzz
                    have hAt := hAt.step hzz
                    have cB := own_rowI hown hB1
                    have fB := hown.frozenAt B
                    have hp := own_putI hown B (F A + d)
                    rw [← e1] at hp
                    have HP := Lib.hid hp.1
                    have HG := Lib.hid hp.2
                    clear hp
                    go_upto_region 16 with (fail)
                    have D0 := (gcell HG.out (p := ⟨bw, 0, none⟩) hD (fun g e => by cases e; simp; omega)).trans D0
                    have D1 := (gcell HG.out (p := ⟨bw, 1, none⟩) hD (fun g e => by cases e; simp; omega)).trans D1
                    have D2 := (gcell HG.out (p := ⟨bw, 2, none⟩) hD (fun g e => by cases e; simp; omega)).trans D2
                    have hD := Nat.lt_of_lt_of_le hD HG.out.size
                    have hAt := hAt.grown HG.out (fun g e => by cases e; omega)
                    have hown := HP.out
                    clear HP HG cB fB
                    generalize V.setCell ⟨w.heap.size + 1, B, none⟩ (.int .i64 (F A + d)) = W1 at hown hAt D0 D1 D2 hD ⊢
                    clear e1
                    try clear p1
                    try clear p2
                    try clear p3
                    try clear q1
                    try clear q2
                    try clear q3
                    generalize relax F A B d = F1 at hown hst hbd1
                    have hFA := hbd1 A
                    have hFB := hbd1 B
                    by_cases p1 : 0 ≤ F1 B
                    · by_cases p2 : F1 A < 0
                      · have e1 : relax F1 B A d = upd F1 A (F1 B + d) := if_pos ⟨p1, .inl p2⟩
                        have E0 := Later.cell D0 hD
                        have E1 := Later.cell D1 hD
                        have E2 := Later.cell D2 hD
                        have EA := Later.cell (own_rowI hown hA1) (hown.lt _ rfl).2
                        have EB := Later.cell (own_rowI hown hB1) (hown.lt _ rfl).2
                        refine wp_region_later _ (by kernel_rfl) (by kernel_rfl) ?_
                        repeat (go_big_quiet_step (fail))
                        refine wpQuiet_nil ?_
                        intro z
                        have hz := z.prop
                        generalize z.val = U at hz
                        clear E0 E1 E2 EA EB
                        have D0 := (hz.cell (p := ⟨bw, 0, none⟩) hD).trans D0
                        have D1 := (hz.cell (p := ⟨bw, 1, none⟩) hD).trans D1
                        have D2 := (hz.cell (p := ⟨bw, 2, none⟩) hD).trans D2
                        have hD := Nat.lt_of_lt_of_le hD hz.size
                        have hown := own_below hown hz
                        have hAt := hAt.step hz
                        have cA := own_rowI hown hA1
                        have cB := own_rowI hown hB1
                        go_wp2_with fail
                        go_still_tail 12, (by kernel_rfl)
                        clear cA cB
                        change wpList _ _ _ _ _ U.drew
                        have hzz : Below U.heap.size U U.drew := (Below.refl _ U).drew
                        generalize U.drew = V at hzz ⊢
                        have D0 := (hzz.cell (p := ⟨bw, 0, none⟩) hD).trans D0
                        have D1 := (hzz.cell (p := ⟨bw, 1, none⟩) hD).trans D1
                        have D2 := (hzz.cell (p := ⟨bw, 2, none⟩) hD).trans D2
                        have hD := Nat.lt_of_lt_of_le hD hzz.size
                        have hown := own_below hown hzz
                        have hAt := hAt.step hzz
                        have cB := own_rowI hown hA1
                        have fB := hown.frozenAt A
                        have hp := own_putI hown A (F1 B + d)
                        rw [← e1] at hp
                        have HP := Lib.hid hp.1
                        have HG := Lib.hid hp.2
                        clear hp
                        go_wp2
                        go_roundw
                        case rel => exact ⟨q + 1, by omega, by go_num, by rw [hst.out]; exact HP.out, hAt.grown HG.out (fun g e => by cases e; omega)⟩
                        case measure => simp [intOf]; omega
                      · have q2 : decide (F1 A < 0) = false := by simpa using p2
                        by_cases p3 : F1 B + d < F1 A
                        · have e1 : relax F1 B A d = upd F1 A (F1 B + d) := if_pos ⟨p1, .inr p3⟩
                          have E0 := Later.cell D0 hD
                          have E1 := Later.cell D1 hD
                          have E2 := Later.cell D2 hD
                          have EA := Later.cell (own_rowI hown hA1) (hown.lt _ rfl).2
                          have EB := Later.cell (own_rowI hown hB1) (hown.lt _ rfl).2
                          refine wp_region_later _ (by kernel_rfl) (by kernel_rfl) ?_
                          repeat (go_big_quiet_step (fail))
                          refine wpQuiet_nil ?_
                          intro z
                          have hz := z.prop
                          generalize z.val = U at hz
                          clear E0 E1 E2 EA EB
                          have D0 := (hz.cell (p := ⟨bw, 0, none⟩) hD).trans D0
                          have D1 := (hz.cell (p := ⟨bw, 1, none⟩) hD).trans D1
                          have D2 := (hz.cell (p := ⟨bw, 2, none⟩) hD).trans D2
                          have hD := Nat.lt_of_lt_of_le hD hz.size
                          have hown := own_below hown hz
                          have hAt := hAt.step hz
                          have cA := own_rowI hown hA1
                          have cB := own_rowI hown hB1
                          go_wp2_with fail
                          go_still_tail 12, (by kernel_rfl)
                          clear cA cB
                          change wpList _ _ _ _ _ U.drew
                          have hzz : Below U.heap.size U U.drew := (Below.refl _ U).drew
                          generalize U.drew = V at hzz ⊢
                          have D0 := (hzz.cell (p := ⟨bw, 0, none⟩) hD).trans D0
                          have D1 := (hzz.cell (p := ⟨bw, 1, none⟩) hD).trans D1
                          have D2 := (hzz.cell (p := ⟨bw, 2, none⟩) hD).trans D2
                          have hD := Nat.lt_of_lt_of_le hD hzz.size
                          have hown := own_below hown hzz
                          have hAt := hAt.step hzz
                          have cB := own_rowI hown hA1
                          have fB := hown.frozenAt A
                          have hp := own_putI hown A (F1 B + d)
                          rw [← e1] at hp
                          have HP := Lib.hid hp.1
                          have HG := Lib.hid hp.2
                          clear hp
                          go_wp2
                          go_roundw
                          case rel => exact ⟨q + 1, by omega, by go_num, by rw [hst.out]; exact HP.out, hAt.grown HG.out (fun g e => by cases e; omega)⟩
                          case measure => simp [intOf]; omega
                        · have q3 : decide (F1 B + d < F1 A) = false := by simpa using p3
                          have e1 : relax F1 B A d = F1 := if_neg (by omega)
                          have E0 := Later.cell D0 hD
                          have E1 := Later.cell D1 hD
                          have E2 := Later.cell D2 hD
                          have EA := Later.cell (own_rowI hown hA1) (hown.lt _ rfl).2
                          have EB := Later.cell (own_rowI hown hB1) (hown.lt _ rfl).2
                          refine wp_region_later _ (by kernel_rfl) (by kernel_rfl) ?_
                          repeat (go_big_quiet_step (fail))
                          refine wpQuiet_nil ?_
                          intro z
                          have hz := z.prop
                          generalize z.val = U at hz
                          clear E0 E1 E2 EA EB
                          have D0 := (hz.cell (p := ⟨bw, 0, none⟩) hD).trans D0
                          have D1 := (hz.cell (p := ⟨bw, 1, none⟩) hD).trans D1
                          have D2 := (hz.cell (p := ⟨bw, 2, none⟩) hD).trans D2
                          have hD := Nat.lt_of_lt_of_le hD hz.size
                          have hown := own_below hown hz
                          have hAt := hAt.step hz
                          rw [← congrArg (rowI n) e1] at hown
                          go_wp2
                          go_roundw
                          case rel => exact ⟨q + 1, by omega, by go_num, by rw [hst.out]; exact hown, hAt⟩
                          case measure => simp [intOf]; omega
                    · have q1 : decide (0 ≤ F1 B) = false := by simpa using p1
                      have e1 : relax F1 B A d = F1 := if_neg (by omega)
                      have E0 := Later.cell D0 hD
                      have E1 := Later.cell D1 hD
                      have E2 := Later.cell D2 hD
                      have EA := Later.cell (own_rowI hown hA1) (hown.lt _ rfl).2
                      have EB := Later.cell (own_rowI hown hB1) (hown.lt _ rfl).2
                      refine wp_region_later _ (by kernel_rfl) (by kernel_rfl) ?_
                      repeat (go_big_quiet_step (fail))
                      refine wpQuiet_nil ?_
                      intro z
                      have hz := z.prop
                      generalize z.val = U at hz
                      clear E0 E1 E2 EA EB
                      have D0 := (hz.cell (p := ⟨bw, 0, none⟩) hD).trans D0
                      have D1 := (hz.cell (p := ⟨bw, 1, none⟩) hD).trans D1
                      have D2 := (hz.cell (p := ⟨bw, 2, none⟩) hD).trans D2
                      have hD := Nat.lt_of_lt_of_le hD hz.size
                      have hown := own_below hown hz
                      have hAt := hAt.step hz
                      rw [← congrArg (rowI n) e1] at hown
                      go_wp2
                      go_roundw
                      case rel => exact ⟨q + 1, by omega, by go_num, by rw [hst.out]; exact hown, hAt⟩
                      case measure => simp [intOf]; omega
                  · have q3 : decide (F A + d < F B) = false := by simpa using p3
                    have e1 : relax F A B d = F := if_neg (by omega)
                    have E0 := Later.cell D0 hD
                    have E1 := Later.cell D1 hD
                    have E2 := Later.cell D2 hD
                    have EA := Later.cell (own_rowI hown hA1) (hown.lt _ rfl).2
                    have EB := Later.cell (own_rowI hown hB1) (hown.lt _ rfl).2
                    refine wp_region_later _ (by kernel_rfl) (by kernel_rfl) ?_
                    repeat (go_big_quiet_step (fail))
                    refine wpQuiet_nil ?_
                    intro z
                    have hz := z.prop
                    generalize z.val = U at hz
                    clear E0 E1 E2 EA EB
                    have D0 := (hz.cell (p := ⟨bw, 0, none⟩) hD).trans D0
                    have D1 := (hz.cell (p := ⟨bw, 1, none⟩) hD).trans D1
                    have D2 := (hz.cell (p := ⟨bw, 2, none⟩) hD).trans D2
                    have hD := Nat.lt_of_lt_of_le hD hz.size
                    have hown := own_below hown hz
                    have hAt := hAt.step hz
                    rw [← congrArg (rowI n) e1] at hown
                    go_upto_region 16 with (fail)
                    clear e1
                    try clear p1
                    try clear p2
                    try clear p3
                    try clear q1
                    try clear q2
                    try clear q3
                    generalize relax F A B d = F1 at hown hst hbd1
                    have hFA := hbd1 A
                    have hFB := hbd1 B
                    by_cases p1 : 0 ≤ F1 B
                    · by_cases p2 : F1 A < 0
                      · have e1 : relax F1 B A d = upd F1 A (F1 B + d) := if_pos ⟨p1, .inl p2⟩
                        have E0 := Later.cell D0 hD
                        have E1 := Later.cell D1 hD
                        have E2 := Later.cell D2 hD
                        have EA := Later.cell (own_rowI hown hA1) (hown.lt _ rfl).2
                        have EB := Later.cell (own_rowI hown hB1) (hown.lt _ rfl).2
                        refine wp_region_later _ (by kernel_rfl) (by kernel_rfl) ?_
                        repeat (go_big_quiet_step (fail))
                        refine wpQuiet_nil ?_
                        intro z
                        have hz := z.prop
                        generalize z.val = U at hz
                        clear E0 E1 E2 EA EB
                        have D0 := (hz.cell (p := ⟨bw, 0, none⟩) hD).trans D0
                        have D1 := (hz.cell (p := ⟨bw, 1, none⟩) hD).trans D1
                        have D2 := (hz.cell (p := ⟨bw, 2, none⟩) hD).trans D2
                        have hD := Nat.lt_of_lt_of_le hD hz.size
                        have hown := own_below hown hz
                        have hAt := hAt.step hz
                        have cA := own_rowI hown hA1
                        have cB := own_rowI hown hB1
                        go_wp2_with fail
                        go_still_tail 12, (by kernel_rfl)
                        clear cA cB
                        change wpList _ _ _ _ _ U.drew
                        have hzz : Below U.heap.size U U.drew := (Below.refl _ U).drew
                        generalize U.drew = V at hzz ⊢
                        have D0 := (hzz.cell (p := ⟨bw, 0, none⟩) hD).trans D0
                        have D1 := (hzz.cell (p := ⟨bw, 1, none⟩) hD).trans D1
                        have D2 := (hzz.cell (p := ⟨bw, 2, none⟩) hD).trans D2
                        have hD := Nat.lt_of_lt_of_le hD hzz.size
                        have hown := own_below hown hzz
                        have hAt := hAt.step hzz
                        have cB := own_rowI hown hA1
                        have fB := hown.frozenAt A
                        have hp := own_putI hown A (F1 B + d)
                        rw [← e1] at hp
                        have HP := Lib.hid hp.1
                        have HG := Lib.hid hp.2
                        clear hp
                        go_wp2
                        go_roundw
                        case rel => exact ⟨q + 1, by omega, by go_num, by rw [hst.out]; exact HP.out, hAt.grown HG.out (fun g e => by cases e; omega)⟩
                        case measure => simp [intOf]; omega
                      · have q2 : decide (F1 A < 0) = false := by simpa using p2
                        by_cases p3 : F1 B + d < F1 A
                        · have e1 : relax F1 B A d = upd F1 A (F1 B + d) := if_pos ⟨p1, .inr p3⟩
                          have E0 := Later.cell D0 hD
                          have E1 := Later.cell D1 hD
                          have E2 := Later.cell D2 hD
                          have EA := Later.cell (own_rowI hown hA1) (hown.lt _ rfl).2
                          have EB := Later.cell (own_rowI hown hB1) (hown.lt _ rfl).2
                          refine wp_region_later _ (by kernel_rfl) (by kernel_rfl) ?_
                          repeat (go_big_quiet_step (fail))
                          refine wpQuiet_nil ?_
                          intro z
                          have hz := z.prop
                          generalize z.val = U at hz
                          clear E0 E1 E2 EA EB
                          have D0 := (hz.cell (p := ⟨bw, 0, none⟩) hD).trans D0
                          have D1 := (hz.cell (p := ⟨bw, 1, none⟩) hD).trans D1
                          have D2 := (hz.cell (p := ⟨bw, 2, none⟩) hD).trans D2
                          have hD := Nat.lt_of_lt_of_le hD hz.size
                          have hown := own_below hown hz
                          have hAt := hAt.step hz
                          have cA := own_rowI hown hA1
                          have cB := own_rowI hown hB1
                          go_wp2_with fail
                          go_still_tail 12, (by kernel_rfl)
                          clear cA cB
                          change wpList _ _ _ _ _ U.drew
                          have hzz : Below U.heap.size U U.drew := (Below.refl _ U).drew
                          generalize U.drew = V at hzz ⊢
                          have D0 := (hzz.cell (p := ⟨bw, 0, none⟩) hD).trans D0
                          have D1 := (hzz.cell (p := ⟨bw, 1, none⟩) hD).trans D1
                          have D2 := (hzz.cell (p := ⟨bw, 2, none⟩) hD).trans D2
                          have hD := Nat.lt_of_lt_of_le hD hzz.size
                          have hown := own_below hown hzz
                          have hAt := hAt.step hzz
                          have cB := own_rowI hown hA1
                          have fB := hown.frozenAt A
                          have hp := own_putI hown A (F1 B + d)
                          rw [← e1] at hp
                          have HP := Lib.hid hp.1
                          have HG := Lib.hid hp.2
                          clear hp
                          go_wp2
                          go_roundw
                          case rel => exact ⟨q + 1, by omega, by go_num, by rw [hst.out]; exact HP.out, hAt.grown HG.out (fun g e => by cases e; omega)⟩
                          case measure => simp [intOf]; omega
                        · have q3 : decide (F1 B + d < F1 A) = false := by simpa using p3
                          have e1 : relax F1 B A d = F1 := if_neg (by omega)
                          have E0 := Later.cell D0 hD
                          have E1 := Later.cell D1 hD
                          have E2 := Later.cell D2 hD
                          have EA := Later.cell (own_rowI hown hA1) (hown.lt _ rfl).2
                          have EB := Later.cell (own_rowI hown hB1) (hown.lt _ rfl).2
                          refine wp_region_later _ (by kernel_rfl) (by kernel_rfl) ?_
                          repeat (go_big_quiet_step (fail))
                          refine wpQuiet_nil ?_
                          intro z
                          have hz := z.prop
                          generalize z.val = U at hz
                          clear E0 E1 E2 EA EB
                          have D0 := (hz.cell (p := ⟨bw, 0, none⟩) hD).trans D0
                          have D1 := (hz.cell (p := ⟨bw, 1, none⟩) hD).trans D1
                          have D2 := (hz.cell (p := ⟨bw, 2, none⟩) hD).trans D2
                          have hD := Nat.lt_of_lt_of_le hD hz.size
                          have hown := own_below hown hz
                          have hAt := hAt.step hz
                          rw [← congrArg (rowI n) e1] at hown
                          go_wp2
                          go_roundw
                          case rel => exact ⟨q + 1, by omega, by go_num, by rw [hst.out]; exact hown, hAt⟩
                          case measure => simp [intOf]; omega
                    · have q1 : decide (0 ≤ F1 B) = false := by simpa using p1
                      have e1 : relax F1 B A d = F1 := if_neg (by omega)
                      have E0 := Later.cell D0 hD
                      have E1 := Later.cell D1 hD
                      have E2 := Later.cell D2 hD
                      have EA := Later.cell (own_rowI hown hA1) (hown.lt _ rfl).2
                      have EB := Later.cell (own_rowI hown hB1) (hown.lt _ rfl).2
                      refine wp_region_later _ (by kernel_rfl) (by kernel_rfl) ?_
                      repeat (go_big_quiet_step (fail))
                      refine wpQuiet_nil ?_
                      intro z
                      have hz := z.prop
                      generalize z.val = U at hz
                      clear E0 E1 E2 EA EB
                      have D0 := (hz.cell (p := ⟨bw, 0, none⟩) hD).trans D0
                      have D1 := (hz.cell (p := ⟨bw, 1, none⟩) hD).trans D1
                      have D2 := (hz.cell (p := ⟨bw, 2, none⟩) hD).trans D2
                      have hD := Nat.lt_of_lt_of_le hD hz.size
                      have hown := own_below hown hz
                      have hAt := hAt.step hz
                      rw [← congrArg (rowI n) e1] at hown
                      go_wp2
                      go_roundw
                      case rel => exact ⟨q + 1, by omega, by go_num, by rw [hst.out]; exact hown, hAt⟩
                      case measure => simp [intOf]; omega
              · have q1 : decide (0 ≤ F A) = false := by simpa using p1
                have e1 : relax F A B d = F := if_neg (by omega)
                have E0 := Later.cell D0 hD
                have E1 := Later.cell D1 hD
                have E2 := Later.cell D2 hD
                have EA := Later.cell (own_rowI hown hA1) (hown.lt _ rfl).2
                have EB := Later.cell (own_rowI hown hB1) (hown.lt _ rfl).2
                refine wp_region_later _ (by kernel_rfl) (by kernel_rfl) ?_
                repeat (go_big_quiet_step (fail))
                refine wpQuiet_nil ?_
                intro z
                have hz := z.prop
                generalize z.val = U at hz
                clear E0 E1 E2 EA EB
                have D0 := (hz.cell (p := ⟨bw, 0, none⟩) hD).trans D0
                have D1 := (hz.cell (p := ⟨bw, 1, none⟩) hD).trans D1
                have D2 := (hz.cell (p := ⟨bw, 2, none⟩) hD).trans D2
                have hD := Nat.lt_of_lt_of_le hD hz.size
                have hown := own_below hown hz
                have hAt := hAt.step hz
                rw [← congrArg (rowI n) e1] at hown
                go_upto_region 16 with (fail)
                clear e1
                try clear p1
                try clear p2
                try clear p3
                try clear q1
                try clear q2
                try clear q3
                generalize relax F A B d = F1 at hown hst hbd1
                have hFA := hbd1 A
                have hFB := hbd1 B
                by_cases p1 : 0 ≤ F1 B
                · by_cases p2 : F1 A < 0
                  · have e1 : relax F1 B A d = upd F1 A (F1 B + d) := if_pos ⟨p1, .inl p2⟩
                    have E0 := Later.cell D0 hD
                    have E1 := Later.cell D1 hD
                    have E2 := Later.cell D2 hD
                    have EA := Later.cell (own_rowI hown hA1) (hown.lt _ rfl).2
                    have EB := Later.cell (own_rowI hown hB1) (hown.lt _ rfl).2
                    refine wp_region_later _ (by kernel_rfl) (by kernel_rfl) ?_
                    repeat (go_big_quiet_step (fail))
                    refine wpQuiet_nil ?_
                    intro z
                    have hz := z.prop
                    generalize z.val = U at hz
                    clear E0 E1 E2 EA EB
                    have D0 := (hz.cell (p := ⟨bw, 0, none⟩) hD).trans D0
                    have D1 := (hz.cell (p := ⟨bw, 1, none⟩) hD).trans D1
                    have D2 := (hz.cell (p := ⟨bw, 2, none⟩) hD).trans D2
                    have hD := Nat.lt_of_lt_of_le hD hz.size
                    have hown := own_below hown hz
                    have hAt := hAt.step hz
                    have cA := own_rowI hown hA1
                    have cB := own_rowI hown hB1
                    go_wp2_with fail
                    go_still_tail 12, (by kernel_rfl)
                    clear cA cB
                    change wpList _ _ _ _ _ U.drew
                    have hzz : Below U.heap.size U U.drew := (Below.refl _ U).drew
                    generalize U.drew = V at hzz ⊢
                    have D0 := (hzz.cell (p := ⟨bw, 0, none⟩) hD).trans D0
                    have D1 := (hzz.cell (p := ⟨bw, 1, none⟩) hD).trans D1
                    have D2 := (hzz.cell (p := ⟨bw, 2, none⟩) hD).trans D2
                    have hD := Nat.lt_of_lt_of_le hD hzz.size
                    have hown := own_below hown hzz
                    have hAt := hAt.step hzz
                    have cB := own_rowI hown hA1
                    have fB := hown.frozenAt A
                    have hp := own_putI hown A (F1 B + d)
                    rw [← e1] at hp
                    have HP := Lib.hid hp.1
                    have HG := Lib.hid hp.2
                    clear hp
                    go_wp2
                    go_roundw
                    case rel => exact ⟨q + 1, by omega, by go_num, by rw [hst.out]; exact HP.out, hAt.grown HG.out (fun g e => by cases e; omega)⟩
                    case measure => simp [intOf]; omega
                  · have q2 : decide (F1 A < 0) = false := by simpa using p2
                    by_cases p3 : F1 B + d < F1 A
                    · have e1 : relax F1 B A d = upd F1 A (F1 B + d) := if_pos ⟨p1, .inr p3⟩
                      have E0 := Later.cell D0 hD
                      have E1 := Later.cell D1 hD
                      have E2 := Later.cell D2 hD
                      have EA := Later.cell (own_rowI hown hA1) (hown.lt _ rfl).2
                      have EB := Later.cell (own_rowI hown hB1) (hown.lt _ rfl).2
                      refine wp_region_later _ (by kernel_rfl) (by kernel_rfl) ?_
                      repeat (go_big_quiet_step (fail))
                      refine wpQuiet_nil ?_
                      intro z
                      have hz := z.prop
                      generalize z.val = U at hz
                      clear E0 E1 E2 EA EB
                      have D0 := (hz.cell (p := ⟨bw, 0, none⟩) hD).trans D0
                      have D1 := (hz.cell (p := ⟨bw, 1, none⟩) hD).trans D1
                      have D2 := (hz.cell (p := ⟨bw, 2, none⟩) hD).trans D2
                      have hD := Nat.lt_of_lt_of_le hD hz.size
                      have hown := own_below hown hz
                      have hAt := hAt.step hz
                      have cA := own_rowI hown hA1
                      have cB := own_rowI hown hB1
                      go_wp2_with fail
                      go_still_tail 12, (by kernel_rfl)
                      clear cA cB
                      change wpList _ _ _ _ _ U.drew
                      have hzz : Below U.heap.size U U.drew := (Below.refl _ U).drew
                      generalize U.drew = V at hzz ⊢
                      have D0 := (hzz.cell (p := ⟨bw, 0, none⟩) hD).trans D0
                      have D1 := (hzz.cell (p := ⟨bw, 1, none⟩) hD).trans D1
                      have D2 := (hzz.cell (p := ⟨bw, 2, none⟩) hD).trans D2
                      have hD := Nat.lt_of_lt_of_le hD hzz.size
                      have hown := own_below hown hzz
                      have hAt := hAt.step hzz
                      have cB := own_rowI hown hA1
                      have fB := hown.frozenAt A
                      have hp := own_putI hown A (F1 B + d)
                      rw [← e1] at hp
                      have HP := Lib.hid hp.1
                      have HG := Lib.hid hp.2
                      clear hp
                      go_wp2
                      go_roundw
                      case rel => exact ⟨q + 1, by omega, by go_num, by rw [hst.out]; exact HP.out, hAt.grown HG.out (fun g e => by cases e; omega)⟩
                      case measure => simp [intOf]; omega
                    · have q3 : decide (F1 B + d < F1 A) = false := by simpa using p3
                      have e1 : relax F1 B A d = F1 := if_neg (by omega)
                      have E0 := Later.cell D0 hD
                      have E1 := Later.cell D1 hD
                      have E2 := Later.cell D2 hD
                      have EA := Later.cell (own_rowI hown hA1) (hown.lt _ rfl).2
                      have EB := Later.cell (own_rowI hown hB1) (hown.lt _ rfl).2
                      refine wp_region_later _ (by kernel_rfl) (by kernel_rfl) ?_
                      repeat (go_big_quiet_step (fail))
                      refine wpQuiet_nil ?_
                      intro z
                      have hz := z.prop
                      generalize z.val = U at hz
                      clear E0 E1 E2 EA EB
                      have D0 := (hz.cell (p := ⟨bw, 0, none⟩) hD).trans D0
                      have D1 := (hz.cell (p := ⟨bw, 1, none⟩) hD).trans D1
                      have D2 := (hz.cell (p := ⟨bw, 2, none⟩) hD).trans D2
                      have hD := Nat.lt_of_lt_of_le hD hz.size
                      have hown := own_below hown hz
                      have hAt := hAt.step hz
                      rw [← congrArg (rowI n) e1] at hown
                      go_wp2
                      go_roundw
                      case rel => exact ⟨q + 1, by omega, by go_num, by rw [hst.out]; exact hown, hAt⟩
                      case measure => simp [intOf]; omega
                · have q1 : decide (0 ≤ F1 B) = false := by simpa using p1
                  have e1 : relax F1 B A d = F1 := if_neg (by omega)
                  have E0 := Later.cell D0 hD
                  have E1 := Later.cell D1 hD
                  have E2 := Later.cell D2 hD
                  have EA := Later.cell (own_rowI hown hA1) (hown.lt _ rfl).2
                  have EB := Later.cell (own_rowI hown hB1) (hown.lt _ rfl).2
                  refine wp_region_later _ (by kernel_rfl) (by kernel_rfl) ?_
                  repeat (go_big_quiet_step (fail))
                  refine wpQuiet_nil ?_
                  intro z
                  have hz := z.prop
                  generalize z.val = U at hz
                  clear E0 E1 E2 EA EB
                  have D0 := (hz.cell (p := ⟨bw, 0, none⟩) hD).trans D0
                  have D1 := (hz.cell (p := ⟨bw, 1, none⟩) hD).trans D1
                  have D2 := (hz.cell (p := ⟨bw, 2, none⟩) hD).trans D2
                  have hD := Nat.lt_of_lt_of_le hD hz.size
                  have hown := own_below hown hz
                  have hAt := hAt.step hz
                  rw [← congrArg (rowI n) e1] at hown
                  go_wp2
                  go_roundw
                  case rel => exact ⟨q + 1, by omega, by go_num, by rw [hst.out]; exact hown, hAt⟩
                  case measure => simp [intOf]; omega
            · obtain rfl : q = ws.length := by omega
              go_wp2
              go_roundw
              case rel => exact ⟨r + 1, by omega, by go_num, by rw [← bfAt_full]; exact hown, hA⟩
              case measure => simp [intOf]; omega
        · obtain rfl : r = n := by omega
          go_wp2
          go_ret
          exact ⟨_, rfl, own_base hown (by omega), hA.below⟩
end Go.Proofs.YtipdcgfdejmjfaaGreatDoor
