/- Walks: RouteOf. Printed by gen_route.py. -/
import Derived.Test.YtihmacmieofbgaaDoorRtPlain
import Derived.Test.YtihmacmieofbgaaDoorIxl
import Derived.Test.YtihmacmieofbgaaDoorTrDays
import Derived.Test.YtihmacmieofbgaaDoorQLand
import Derived.Deep.RegionHeldLaw
import Derived.BigRegion
import Derived.BigQuiet
namespace Go.Proofs.YtihmacmieofbgaaDoor
open Go.ChangeShapes Go.WideShapes Go.ChangeAt Go.RowKit

theorem mStep_at (F : Nat → Int) (v A B : Nat) (mm d : Int) : mStep F v mm ⟨(A : Int), (B : Int), d⟩ = if B = v ∧ F A + d = F v then min (if A = v ∧ F B + d = F v then min mm B else mm) A else if A = v ∧ F B + d = F v then min mm B else mm := rfl
theorem mFold_take {F : Nat → Int} {v n : Nat} {ws : List Wy} {q : Nat} {m : Wy} (h : ws[q]? = some m) : (ws.take (q + 1)).foldl (mStep F v) (n : Int) = mStep F v ((ws.take q).foldl (mStep F v) (n : Int)) m := by
  obtain ⟨hq, rfl⟩ := List.getElem?_eq_some_iff.1 h
  rw [← List.take_append_getElem hq, List.foldl_append]; rfl
theorem mFold_bd {n : Nat} {ws : List Wy} (hs : OkWs n ws) (F : Nat → Int) (v q : Nat) : 0 ≤ (ws.take q).foldl (mStep F v) (n : Int) ∧ (ws.take q).foldl (mStep F v) (n : Int) ≤ n := by
  obtain ⟨h1, h2, _⟩ := mFold F v (ws.take q) n
  refine ⟨?_, h2⟩
  rcases h1 with h | ⟨m, hm, h⟩
  · omega
  · obtain ⟨A, B, ea, eb, _⟩ := hs m (List.mem_of_mem_take hm)
    rcases h with ⟨_, _, h⟩ | ⟨_, _, h⟩ <;> omega
theorem travR_zero {ps : List ByteArray} {ws : List Wy} {a b : Int} (h : (travR ps ws a b).2 = 0) : codeL ps ws [a, b] = 0 ∧ travM ps.length ws a.toNat b.toNat < 1000000 := by
  unfold travR at h
  split at h
  · rename_i hz
    split at h
    · rename_i h2; exact ⟨hz, h2⟩
    · cases h
  · rename_i hz; exact absurd h hz
theorem travR_four {ps : List ByteArray} {ws : List Wy} {a b : Int} (hz : codeL ps ws [a, b] = 0) (h : ¬ travM ps.length ws a.toNat b.toNat < 1000000) : (travR ps ws a b).2 = 4 := by
  unfold travR
  rw [if_pos hz, if_neg h]
theorem travR_code {ps : List ByteArray} {ws : List Wy} {a b : Int} (hz : codeL ps ws [a, b] ≠ 0) : (travR ps ws a b).2 = codeL ps ws [a, b] := by
  unfold travR
  rw [if_neg hz]

set_option maxRecDepth 100000 in
set_option maxHeartbeats 4000000 in
theorem specRoute_any (a0 a1 : Option Addr) (cap0 cap1 : Nat) (xs0 : List ByteArray) (xs1 : List Wy) (a b : Int) (w : World) (hc0 : xs0.length ≤ cap0) (hc1 : cap0 ≤ 9223372036854775807) (hl0 : xs0.length ≤ 1048576) (hx0 : Rd encS w a0 xs0) (hs0 : ∀ m ∈ xs0, m.size ≤ 1048576) (hl1 : xs1.length ≤ 1048576) (hx1 : Rd encWy w a1 xs1) :
    Calls Tryd.prog 9 #[.agg #[.slice a0 xs0.length cap0, .slice a1 xs1.length cap1], .int .i64 a, .int .i64 b] w fun e w' => ∃ br cr, e = .returned (.tuple #[.slice br (routeR xs0 xs1 a b).1.length cr, .int .i64 (routeR xs0 xs1 a b).2]) ∧ w'.ownsRow w.heap.size 2 1 (.slice br (routeR xs0 xs1 a b).1.length cr) (routeR xs0 xs1 a b).1.length ((routeR xs0 xs1 a b).1.flatMap encI) ∧ Below w.heap.size w w' := by
  obtain ⟨i0, hi, hz0, hz1, hz2⟩ := info_parts infoI
  have hA0 : At w [.slice a0 xs0.length cap0, .slice a1 xs1.length cap1] (w.alloc (.cells #[.slice a0 xs0.length cap0, .slice a1 xs1.length cap1] 27)) := At.start _ _ _
  have HC := Lib.hid (fun W (h0 : Rd encS W a0 xs0) (h1 : Rd encWy W a1 xs1) => l14Code_any a0 a1 cap0 cap1 xs0 xs1 a b W hc0 hc1 hl0 h0 hs0 hl1 h1)
  by_cases hz : codeL xs0 xs1 [a, b] = 0
  · have HC := Lib.hid (fun W h0 h1 => hz ▸ HC.out W h0 h1)
    obtain ⟨hA, hall⟩ := codeL_zero hz
    obtain ⟨hs, h1, hn12, hl40⟩ := landOk hA
    obtain ⟨⟨a, rfl, ha⟩, ⟨b, rfl, hb⟩⟩ := all2 hall
    have HF := Lib.hid (fun W (h1 : Rd encWy W a1 xs1) => fromDist_any a0 a1 cap0 cap1 b xs0 xs1 W hA hb h1)
    have hfl := travM_flip hs.ok ha hb
    have ha1 : (a : Int) < (xs0.length : Int) := by omega
    by_cases hlt : travM xs0.length xs1 a b < 1000000
    · have hR : Hid (routeR xs0 xs1 a b = ((a : Int) :: rtL xs0.length xs1 b a, 0)) := by
        unfold Hid routeR
        rw [if_pos (by unfold travR; rw [if_pos hz]; show (if travM xs0.length xs1 a b < 1000000 then _ else _ : Int × Int).2 = 0; rw [if_pos hlt])]
        rfl
      have hlr := routeR_len xs0 xs1 a b
      rw [hR.out] at hlr
      have hFa : ¬ distF xs0.length xs1 b a < 0 := by
        unfold distF
        rw [if_pos (by omega)]
        have := trav_bd hA hb ha
        omega
      have HST := Lib.hid (fun v (hv : v < xs0.length) (hne : v ≠ b) (hf : travM xs0.length xs1 v b < 1000000) => rt_step hs.ok hb hv hne hf)
      have HNX := Lib.hid (fun v (hv : v < xs0.length) (hne : v ≠ b) (hf : travM xs0.length xs1 v b < 1000000) => nx_ok hs.ok hb hv hne hf)
      have HMF := Lib.hid (fun v (hv : v < xs0.length) (hne : v ≠ b) (hf : travM xs0.length xs1 v b < 1000000) => mF_eq hs hn12 hl40 hb hv hne hf)
      have HBD := Lib.hid (fun v (hv : v < xs0.length) => dist_bd hs.ok hn12 hl40 hb hv)
      have HSP := Lib.hid (fun v (hv : v < xs0.length) => trav_bd hA hv hb)
      have HEND := Lib.hid (rt_stop xs0.length xs1 b)
      have hfb := Lib.hid (fun v q => mFold_bd hs (distF xs0.length xs1 b) v q)
      clear hz hall hA hfl h1
      generalize hT : (fun v => travM xs0.length xs1 v b) = T
      have hTv : ∀ v, travM xs0.length xs1 v b = T v := fun v => by rw [← hT]
      simp only [hTv] at hlt HST HNX HMF HSP
      clear hT hTv
      generalize distF xs0.length xs1 b = F at HF hFa HMF HBD hfb
      have hG : Hid ([(a : Int)] ++ rtL xs0.length xs1 b a = (a : Int) :: rtL xs0.length xs1 b a) := rfl
      generalize (a : Int) :: rtL xs0.length xs1 b a = full at hG hR hlr
      generalize rtL xs0.length xs1 b = rt at HST hG HEND
      generalize nxN xs0.length xs1 b = nx at HST HNX HMF
      go_enter Tryd.func9, Tryd.ntmps9
      go_wp2_with fail
      refine (HC.out _ (hx0.below hA0.below) (hx1.below hA0.below)).mono ?_
      rintro e w1 ⟨rfl, hB1⟩
      have hA1 := hA0.step hB1
      have b0 := hA1.cell 0 _ rfl
      have b1 := hA1.cell 1 _ rfl
      clear hA0 hB1
      go_wp2_with fail
      refine (HF.out _ (hx1.below hA1.below)).mono ?_
      rintro e w2 ⟨gl, rfl, hol, hB2⟩
      have hA2 := hA1.step hB2
      have hcl := own_rowI hol ha
      have HL : Hid (∀ v W, Below w2.heap.size w2 W → v < xs0.length → W.cell? ⟨gl, v, none⟩ = some (.int .i64 (F v))) := fun v W hB hv => (hB.cell (p := ⟨gl, v, none⟩) (own_lt hol).2).trans (own_rowI hol hv)
      have hgl2 := (own_lt hol).2
      have hBe := hA2.below
      have HB0 : Hid (∀ W, Below w2.heap.size w2 W → W.cell? ⟨w.heap.size, 0, none⟩ = some (.slice a0 xs0.length cap0) ∧ W.cell? ⟨w.heap.size, 1, none⟩ = some (.slice a1 xs1.length cap1)) := fun W hB => ⟨(hB.cell (p := ⟨w.heap.size, 0, none⟩) hA2.size).trans (hA2.cell 0 _ rfl), (hB.cell (p := ⟨w.heap.size, 1, none⟩) hA2.size).trans (hA2.cell 1 _ rfl)⟩
      have HX1 := Lib.hid (fun W (hB : Below w2.heap.size w2 W) => hx1.below (stepB hBe hB hBe.size))
      clear b0 b1 hA1 hB2 hol hA2
      go_wp2
      generalize hW3 : w2.alloc (.cells #[.int .i64 a] 2) = w3
      have hown3 : w3.ownsRow w2.heap.size 2 1 (.slice (some ⟨w2.heap.size, 0, none⟩) 1 1) 1 [.int .i64 a] := by
        rw [← hW3]
        exact ⟨rfl, .inr ⟨w2.heap.size, 1, #[.int .i64 a], rfl, Nat.le_refl _, heap_alloc_new w2 _, by decide, by decide, rfl, rfl⟩⟩
      have hB3 : Below w2.heap.size w2 w3 := by rw [← hW3]; exact (Below.refl _ _).alloc (Nat.le_refl _) _
      clear hW3 hcl
      go_loopw [10, 11] (fun s t wr => ∃ (v g c : Nat) (ys : List Int), v < xs0.length ∧ T v < 1000000 ∧ t = .int .i64 v ∧ s = .slice (some ⟨g, 0, none⟩) ys.length c ∧ wr.ownsRow w2.heap.size 2 1 (.slice (some ⟨g, 0, none⟩) ys.length c) ys.length (ys.flatMap encI) ∧ Below w2.heap.size w2 wr ∧ Hid (ys ++ rt v = full)) (fun _ t _ => (T (intOf t).toNat).toNat)
      case atStart => exact ⟨a, _, _, [(a : Int)], ha, hlt, rfl, rfl, hown3, hB3, hG⟩
      case round =>
        clear hown3 hB3 hG ha ha1 hFa hlt
        obtain ⟨v, g, c, ys, hv, hf, rfl, rfl, hown, hB, hys⟩ := hrel
        obtain ⟨wo, hwo⟩ : ∃ wo, wo = wr := ⟨_, rfl⟩
        subst hwo
        have hylen : ys.length ≤ 1048576 := by
          have h := hys.out
          rw [← h] at hlr
          simp at hlr
          omega
        have b0 := (HB0.out wo hB).1
        by_cases hne : v = b
        · subst hne
          have hE : ys = full := by have h := hys.out; rw [HEND.out, List.append_nil] at h; exact h
          subst hE
          go_wp2
          go_ret2
          rw [hR.out]
          exact ⟨_, _, rfl, own_base hown hBe.size, stepB hBe hB hBe.size⟩
        · have hne1 : ((v : Int) != (b : Int)) = true := by simpa using fun h : (v : Int) = b => hne (by omega)
          have hst := Lib.hid (HST.out v hv hne hf)
          obtain ⟨x1, _, _, x4, x5⟩ := HNX.out v hv hne hf
          have hmf := Lib.hid (HMF.out v hv hne hf)
          have hTd : (T (nx v)).toNat < (T v).toNat := by omega
          have hTn : T (nx v) < 1000000 := by omega
          have hT0 := (HSP.out v hv).1
          go_wp2
          go_loopw [12, 13] (fun m i wr => ∃ q : Nat, q ≤ xs1.length ∧ i = .int .i64 q ∧ m = .int .i64 ((xs1.take q).foldl (mStep F v) (xs0.length : Int)) ∧ Below wo.heap.size wo wr) (fun _ i _ => xs1.length - (intOf i).toNat)
          case atStart => exact ⟨0, Nat.zero_le _, rfl, rfl, Below.refl _ _⟩
          case round =>
            obtain ⟨q, hq, rfl, rfl, hBq⟩ := hrel
            have hBi := stepB hB hBq hB.size
            have b1 := (HB0.out wr hBi).2
            clear b0
            by_cases hlt2 : q < xs1.length
            · have hm := List.getElem?_eq_getElem hlt2
              generalize xs1[q] = m at hm
              obtain ⟨bb, off, rfl, hbb, c0, c1, c2⟩ := (HX1.out wr hBi).wy hm
              have hstp := Lib.hid (mFold_take (F := F) (v := v) (n := xs0.length) hm)
              have hmb := hfb.out v q
              obtain ⟨A, B, hmA, hmB, hA1, hB1, hAB, hd1, hd2⟩ := hs m (List.mem_of_getElem? hm)
              obtain ⟨_, _, d⟩ := m
              simp only at hmA hmB hd1 hd2 c0 c1 c2
              subst hmA hmB
              generalize (xs1.take q).foldl (mStep F v) (xs0.length : Int) = mm at hstp hmb ⊢
              have hstp : Hid ((xs1.take (q + 1)).foldl (mStep F v) (xs0.length : Int) = mStep F v mm ⟨(A : Int), (B : Int), d⟩) := hstp
              have hk2 : (q : Int) < (xs1.length : Int) := by omega
              have hA2 : (A : Int) < (xs0.length : Int) := by omega
              have hB2 : (B : Int) < (xs0.length : Int) := by omega
              have hv2 : (v : Int) < (xs0.length : Int) := by omega
              clear hm
              go_upto_region 15 with (fail)
              generalize hW : wr.alloc (.cells #[.int .i64 A, .int .i64 B, .int .i64 d] 42) = W
              have hBW : Below wr.heap.size wr W := by rw [← hW]; go_grown
              have hD : wr.heap.size < W.heap.size := by rw [← hW]; simp
              have D0 : W.cell? ⟨wr.heap.size, 0, none⟩ = some (.int .i64 A) := by rw [← hW]; exact World.cell?_alloc_at _ _ _ _ rfl
              have D1 : W.cell? ⟨wr.heap.size, 1, none⟩ = some (.int .i64 B) := by rw [← hW]; exact World.cell?_alloc_at _ _ _ _ rfl
              have D2 : W.cell? ⟨wr.heap.size, 2, none⟩ = some (.int .i64 d) := by rw [← hW]; exact World.cell?_alloc_at _ _ _ _ rfl
              have hBq := stepB hBq hBW hBq.size
              have hBi := stepB hB hBq hB.size
              have hFA := HBD.out A hA1
              have hFB := HBD.out B hB1
              have hFv := HBD.out v hv
              clear hW b1 c0 c1 c2 hBW
              have hgl := Nat.lt_of_lt_of_le hgl2 hBi.size
              generalize wr.heap.size = bw at hD D0 D1 D2 ⊢
              by_cases pA : A = v
              · have qA : ((A : Int) == (v : Int)) = true := by rw [pA]; simp
                have qB : ((B : Int) == (v : Int)) = false := by simp; omega
                have e2 : (if B = v ∧ F A + d = F v then min (if A = v ∧ F B + d = F v then min mm B else mm) A else if A = v ∧ F B + d = F v then min mm B else mm) = (if A = v ∧ F B + d = F v then min mm B else mm) := if_neg (by omega)
                by_cases pS : F B + d = F v
                · have qS : (F B + d == F v) = true := by rw [pS]; simp
                  have e1 : (if A = v ∧ F B + d = F v then min mm (B : Int) else mm) = min mm B := if_pos ⟨pA, pS⟩
                  have E0 := Later.cell D0 hD
                  have E1 := Later.cell D1 hD
                  have E2 := Later.cell D2 hD
                  have EA := Later.cell (HL.out A W hBi hA1) hgl
                  have EB := Later.cell (HL.out B W hBi hB1) hgl
                  have EV := Later.cell (HL.out v W hBi hv) hgl
                  refine wp_region_later _ (by kernel_rfl) (by kernel_rfl) ?_
                  repeat (go_big_quiet_step (fail))
                  refine wpQuiet_nil ?_
                  intro z
                  have hz := z.prop
                  generalize z.val = U at hz
                  clear E0 E1 E2 EA EB EV
                  have D0 := (hz.cell (p := ⟨bw, 0, none⟩) hD).trans D0
                  have D1 := (hz.cell (p := ⟨bw, 1, none⟩) hD).trans D1
                  have D2 := (hz.cell (p := ⟨bw, 2, none⟩) hD).trans D2
                  have hD := Nat.lt_of_lt_of_le hD hz.size
                  have hBi := stepB hBi hz hBi.size
                  have hBq := stepB hBq hz hBq.size
                  have hgl := Nat.lt_of_lt_of_le hgl hz.size
                  clear hz
                  go_wp2_with fail
                  have E0 := Later.cell D0 hD
                  have E1 := Later.cell D1 hD
                  have E2 := Later.cell D2 hD
                  have EA := Later.cell (HL.out A U hBi hA1) hgl
                  have EB := Later.cell (HL.out B U hBi hB1) hgl
                  have EV := Later.cell (HL.out v U hBi hv) hgl
                  refine wp_region_later _ (by kernel_rfl) (by kernel_rfl) ?_
                  repeat (go_big_quiet_step (fail))
                  refine wpQuiet_nil ?_
                  intro z
                  have hz := z.prop
                  generalize z.val = V at hz
                  clear E0 E1 E2 EA EB EV
                  have D0 := (hz.cell (p := ⟨bw, 0, none⟩) hD).trans D0
                  have D1 := (hz.cell (p := ⟨bw, 1, none⟩) hD).trans D1
                  have D2 := (hz.cell (p := ⟨bw, 2, none⟩) hD).trans D2
                  have hD := Nat.lt_of_lt_of_le hD hz.size
                  have hBi := stepB hBi hz hBi.size
                  have hBq := stepB hBq hz hBq.size
                  have hgl := Nat.lt_of_lt_of_le hgl hz.size
                  clear hz
                  go_wp2
                  go_roundw
                  case rel => exact ⟨q + 1, by omega, by go_num, by rw [hstp.out, mStep_at, e2]; simp only [e1], hBq⟩
                  case measure => simp [intOf]; omega
                · have qS : (F B + d == F v) = false := by simpa using pS
                  have e1 : (if A = v ∧ F B + d = F v then min mm (B : Int) else mm) = mm := if_neg (by omega)
                  have E0 := Later.cell D0 hD
                  have E1 := Later.cell D1 hD
                  have E2 := Later.cell D2 hD
                  have EA := Later.cell (HL.out A W hBi hA1) hgl
                  have EB := Later.cell (HL.out B W hBi hB1) hgl
                  have EV := Later.cell (HL.out v W hBi hv) hgl
                  refine wp_region_later _ (by kernel_rfl) (by kernel_rfl) ?_
                  repeat (go_big_quiet_step (fail))
                  refine wpQuiet_nil ?_
                  intro z
                  have hz := z.prop
                  generalize z.val = U at hz
                  clear E0 E1 E2 EA EB EV
                  have D0 := (hz.cell (p := ⟨bw, 0, none⟩) hD).trans D0
                  have D1 := (hz.cell (p := ⟨bw, 1, none⟩) hD).trans D1
                  have D2 := (hz.cell (p := ⟨bw, 2, none⟩) hD).trans D2
                  have hD := Nat.lt_of_lt_of_le hD hz.size
                  have hBi := stepB hBi hz hBi.size
                  have hBq := stepB hBq hz hBq.size
                  have hgl := Nat.lt_of_lt_of_le hgl hz.size
                  clear hz
                  go_wp2_with fail
                  have E0 := Later.cell D0 hD
                  have E1 := Later.cell D1 hD
                  have E2 := Later.cell D2 hD
                  have EA := Later.cell (HL.out A U hBi hA1) hgl
                  have EB := Later.cell (HL.out B U hBi hB1) hgl
                  have EV := Later.cell (HL.out v U hBi hv) hgl
                  refine wp_region_later _ (by kernel_rfl) (by kernel_rfl) ?_
                  repeat (go_big_quiet_step (fail))
                  refine wpQuiet_nil ?_
                  intro z
                  have hz := z.prop
                  generalize z.val = V at hz
                  clear E0 E1 E2 EA EB EV
                  have D0 := (hz.cell (p := ⟨bw, 0, none⟩) hD).trans D0
                  have D1 := (hz.cell (p := ⟨bw, 1, none⟩) hD).trans D1
                  have D2 := (hz.cell (p := ⟨bw, 2, none⟩) hD).trans D2
                  have hD := Nat.lt_of_lt_of_le hD hz.size
                  have hBi := stepB hBi hz hBi.size
                  have hBq := stepB hBq hz hBq.size
                  have hgl := Nat.lt_of_lt_of_le hgl hz.size
                  clear hz
                  go_wp2
                  go_roundw
                  case rel => exact ⟨q + 1, by omega, by go_num, by rw [hstp.out, mStep_at, e2]; simp only [e1], hBq⟩
                  case measure => simp [intOf]; omega
              · have qA : ((A : Int) == (v : Int)) = false := by simp; omega
                have e1 : (if A = v ∧ F B + d = F v then min mm (B : Int) else mm) = mm := if_neg (by omega)
                have E0 := Later.cell D0 hD
                have E1 := Later.cell D1 hD
                have E2 := Later.cell D2 hD
                have EA := Later.cell (HL.out A W hBi hA1) hgl
                have EB := Later.cell (HL.out B W hBi hB1) hgl
                have EV := Later.cell (HL.out v W hBi hv) hgl
                refine wp_region_later _ (by kernel_rfl) (by kernel_rfl) ?_
                repeat (go_big_quiet_step (fail))
                refine wpQuiet_nil ?_
                intro z
                have hz := z.prop
                generalize z.val = U at hz
                clear E0 E1 E2 EA EB EV
                have D0 := (hz.cell (p := ⟨bw, 0, none⟩) hD).trans D0
                have D1 := (hz.cell (p := ⟨bw, 1, none⟩) hD).trans D1
                have D2 := (hz.cell (p := ⟨bw, 2, none⟩) hD).trans D2
                have hD := Nat.lt_of_lt_of_le hD hz.size
                have hBi := stepB hBi hz hBi.size
                have hBq := stepB hBq hz hBq.size
                have hgl := Nat.lt_of_lt_of_le hgl hz.size
                clear hz
                go_wp2_with fail
                by_cases pB : B = v
                · have qB : ((B : Int) == (v : Int)) = true := by rw [pB]; simp
                  by_cases pT : F A + d = F v
                  · have qT : (F A + d == F v) = true := by rw [pT]; simp
                    have e2 : (if B = v ∧ F A + d = F v then min (if A = v ∧ F B + d = F v then min mm B else mm) A else if A = v ∧ F B + d = F v then min mm B else mm) = min (if A = v ∧ F B + d = F v then min mm B else mm) A := if_pos ⟨pB, pT⟩
                    have E0 := Later.cell D0 hD
                    have E1 := Later.cell D1 hD
                    have E2 := Later.cell D2 hD
                    have EA := Later.cell (HL.out A U hBi hA1) hgl
                    have EB := Later.cell (HL.out B U hBi hB1) hgl
                    have EV := Later.cell (HL.out v U hBi hv) hgl
                    refine wp_region_later _ (by kernel_rfl) (by kernel_rfl) ?_
                    repeat (go_big_quiet_step (fail))
                    refine wpQuiet_nil ?_
                    intro z
                    have hz := z.prop
                    generalize z.val = V at hz
                    clear E0 E1 E2 EA EB EV
                    have D0 := (hz.cell (p := ⟨bw, 0, none⟩) hD).trans D0
                    have D1 := (hz.cell (p := ⟨bw, 1, none⟩) hD).trans D1
                    have D2 := (hz.cell (p := ⟨bw, 2, none⟩) hD).trans D2
                    have hD := Nat.lt_of_lt_of_le hD hz.size
                    have hBi := stepB hBi hz hBi.size
                    have hBq := stepB hBq hz hBq.size
                    have hgl := Nat.lt_of_lt_of_le hgl hz.size
                    clear hz
                    go_wp2
                    go_roundw
                    case rel => exact ⟨q + 1, by omega, by go_num, by rw [hstp.out, mStep_at, e2]; simp only [e1], hBq⟩
                    case measure => simp [intOf]; omega
                  · have qT : (F A + d == F v) = false := by simpa using pT
                    have e2 : ¬ (B = v ∧ F A + d = F v) := by omega
                    have e2 : (if B = v ∧ F A + d = F v then min (if A = v ∧ F B + d = F v then min mm B else mm) A else if A = v ∧ F B + d = F v then min mm B else mm) = (if A = v ∧ F B + d = F v then min mm B else mm) := if_neg e2
                    have E0 := Later.cell D0 hD
                    have E1 := Later.cell D1 hD
                    have E2 := Later.cell D2 hD
                    have EA := Later.cell (HL.out A U hBi hA1) hgl
                    have EB := Later.cell (HL.out B U hBi hB1) hgl
                    have EV := Later.cell (HL.out v U hBi hv) hgl
                    refine wp_region_later _ (by kernel_rfl) (by kernel_rfl) ?_
                    repeat (go_big_quiet_step (fail))
                    refine wpQuiet_nil ?_
                    intro z
                    have hz := z.prop
                    generalize z.val = V at hz
                    clear E0 E1 E2 EA EB EV
                    have D0 := (hz.cell (p := ⟨bw, 0, none⟩) hD).trans D0
                    have D1 := (hz.cell (p := ⟨bw, 1, none⟩) hD).trans D1
                    have D2 := (hz.cell (p := ⟨bw, 2, none⟩) hD).trans D2
                    have hD := Nat.lt_of_lt_of_le hD hz.size
                    have hBi := stepB hBi hz hBi.size
                    have hBq := stepB hBq hz hBq.size
                    have hgl := Nat.lt_of_lt_of_le hgl hz.size
                    clear hz
                    go_wp2
                    go_roundw
                    case rel => exact ⟨q + 1, by omega, by go_num, by rw [hstp.out, mStep_at, e2]; simp only [e1], hBq⟩
                    case measure => simp [intOf]; omega
                · have qB : ((B : Int) == (v : Int)) = false := by simp; omega
                  have e2 : ¬ (B = v ∧ F A + d = F v) := by omega
                  have e2 : (if B = v ∧ F A + d = F v then min (if A = v ∧ F B + d = F v then min mm B else mm) A else if A = v ∧ F B + d = F v then min mm B else mm) = (if A = v ∧ F B + d = F v then min mm B else mm) := if_neg e2
                  have E0 := Later.cell D0 hD
                  have E1 := Later.cell D1 hD
                  have E2 := Later.cell D2 hD
                  have EA := Later.cell (HL.out A U hBi hA1) hgl
                  have EB := Later.cell (HL.out B U hBi hB1) hgl
                  have EV := Later.cell (HL.out v U hBi hv) hgl
                  refine wp_region_later _ (by kernel_rfl) (by kernel_rfl) ?_
                  repeat (go_big_quiet_step (fail))
                  refine wpQuiet_nil ?_
                  intro z
                  have hz := z.prop
                  generalize z.val = V at hz
                  clear E0 E1 E2 EA EB EV
                  have D0 := (hz.cell (p := ⟨bw, 0, none⟩) hD).trans D0
                  have D1 := (hz.cell (p := ⟨bw, 1, none⟩) hD).trans D1
                  have D2 := (hz.cell (p := ⟨bw, 2, none⟩) hD).trans D2
                  have hD := Nat.lt_of_lt_of_le hD hz.size
                  have hBi := stepB hBi hz hBi.size
                  have hBq := stepB hBq hz hBq.size
                  have hgl := Nat.lt_of_lt_of_le hgl hz.size
                  clear hz
                  go_wp2
                  go_roundw
                  case rel => exact ⟨q + 1, by omega, by go_num, by rw [hstp.out, mStep_at, e2]; simp only [e1], hBq⟩
                  case measure => simp [intOf]; omega
            · obtain rfl : q = xs1.length := by omega
              rw [List.take_length, hmf.out]
              have hown := own_below hown hBq
              go_wp2_with (at_builtin; refine wpList_append_own _ rfl _ _ 30 rfl w2.heap.size 2 i0 (.int .i64 0) 1 8 Tryd.underlying30 hi hz0 hz1 hz2 rfl (by decide) _ _ _ rfl (hown.alloc _) ⟨wr.heap.size, 0, none⟩ 1 1 [.int .i64 (nx v)] rfl rfl (cell_one_new _ _ _) ?c2 ?c3 ?c4 ?c5 ?_)
              case c2 => intro u hu; simp at hu; subst hu; rfl
              case c3 => unfold maxLen; omega
              case c4 => omega
              case c5 => have := hBi.size; first | omega | (simp; omega)
              intro v' w6 hown' hgr _
              have hB' := (hBi.alloc hBi.size _).grown hgr (by have := hBi.size; simp; omega) (fun x hx => (hown.lt x hx).1)
              obtain ⟨g', c', rfl⟩ := formJ hown' (by omega)
              clear hgr hown hB
              go_wp2
              go_roundw
              case rel => exact ⟨nx v, g', c', ys ++ [(nx v : Int)], x1, hTn, by go_num, by rw [List.length_append]; rfl, by rw [List.length_append, List.flatMap_append]; exact hown', hB', by unfold Hid; rw [List.append_assoc]; show ys ++ ((nx v : Int) :: rt (nx v)) = full; rw [← hst.out]; exact hys.out⟩
              case measure => simp [intOf]; omega
    · have hR : Hid (routeR xs0 xs1 a b = ([], 4)) := by
        have h4 : (travR xs0 xs1 a b).2 = 4 := travR_four hz hlt
        unfold Hid routeR
        rw [h4]
        rfl
      have hFa : distF xs0.length xs1 b a = -1 := by
        unfold distF
        rw [if_neg (by omega)]
      go_enter Tryd.func9, Tryd.ntmps9
      go_wp2_with fail
      refine (HC.out _ (hx0.below hA0.below) (hx1.below hA0.below)).mono ?_
      rintro e w1 ⟨rfl, hB1⟩
      have hA1 := hA0.step hB1
      have b0 := hA1.cell 0 _ rfl
      have b1 := hA1.cell 1 _ rfl
      clear hA0 hB1
      go_wp2_with fail
      refine (HF.out _ (hx1.below hA1.below)).mono ?_
      rintro e w2 ⟨gl, rfl, hol, hB2⟩
      have hcl := own_rowI hol ha
      rw [hFa] at hcl
      go_wp2
      go_ret2
      rw [hR.out]
      exact ⟨none, 0, rfl, World.ownsRow_nil _ _ _ _, (hA1.step hB2).below⟩
  · have hR : Hid (routeR xs0 xs1 a b = ([], codeL xs0 xs1 [a, b])) := by
      have h4 := travR_code hz
      unfold Hid routeR
      rw [h4, if_neg hz]
    generalize codeL xs0 xs1 [a, b] = c at hz HC hR
    have hz2 : (c != 0) = true := by simpa using hz
    go_enter Tryd.func9, Tryd.ntmps9
    go_wp2_with fail
    refine (HC.out _ (hx0.below hA0.below) (hx1.below hA0.below)).mono ?_
    rintro e w1 ⟨rfl, hB1⟩
    go_wp2
    go_ret2
    rw [hR.out]
    exact ⟨none, 0, rfl, World.ownsRow_nil _ _ _ _, (hA0.step hB1).below⟩

set_option maxRecDepth 100000 in
set_option maxHeartbeats 4000000 in
theorem implRoute_any (a0 a1 : Option Addr) (cap0 cap1 : Nat) (xs0 : List ByteArray) (xs1 : List Wy) (a b : Int) (w : World) (hc0 : xs0.length ≤ cap0) (hc1 : cap0 ≤ 9223372036854775807) (hl0 : xs0.length ≤ 1048576) (hx0 : Rd encS w a0 xs0) (hs0 : ∀ m ∈ xs0, m.size ≤ 1048576) (hl1 : xs1.length ≤ 1048576) (hx1 : Rd encWy w a1 xs1) :
    Calls Tryd.prog 8 #[.agg #[.slice a0 xs0.length cap0, .slice a1 xs1.length cap1], .int .i64 a, .int .i64 b] w fun e w' => ∃ br cr, e = .returned (.tuple #[.slice br (routeR xs0 xs1 a b).1.length cr, .int .i64 (routeR xs0 xs1 a b).2]) ∧ w'.ownsRow w.heap.size 2 1 (.slice br (routeR xs0 xs1 a b).1.length cr) (routeR xs0 xs1 a b).1.length ((routeR xs0 xs1 a b).1.flatMap encI) ∧ Below w.heap.size w w' := by
  obtain ⟨i0, hi, hz0, hz1, hz2⟩ := info_parts infoI
  have hA0 : At w [.slice a0 xs0.length cap0, .slice a1 xs1.length cap1] (w.alloc (.cells #[.slice a0 xs0.length cap0, .slice a1 xs1.length cap1] 27)) := At.start _ _ _
  have HC := Lib.hid (fun W (hB : Below w.heap.size w W) => implTravelDays_any a0 a1 cap0 cap1 xs0 xs1 a b W hc0 hc1 hl0 (hx0.below hB) hs0 hl1 (hx1.below hB))
  by_cases hz : (travR xs0 xs1 a b).2 = 0
  · obtain ⟨hz', hlt⟩ := travR_zero hz
    obtain ⟨hA, hall⟩ := codeL_zero hz'
    obtain ⟨hs, h1, hn12, hl40⟩ := landOk hA
    obtain ⟨⟨a, rfl, ha⟩, ⟨b, rfl, hb⟩⟩ := all2 hall
    have HT := Lib.hid (fun W (hB : Below w.heap.size w W) => trav_any a0 a1 cap0 cap1 xs0 xs1 W hA (hx1.below hB))
    have HW := Lib.hid (fun W (hB : Below w.heap.size w W) => waysOf_any a0 a1 cap0 cap1 xs0.length xs1 W h1 hn12 hl40 hs (hx1.below hB))
    have hR : Hid (routeR xs0 xs1 a b = ((a : Int) :: rtL xs0.length xs1 b a, 0)) := by
      unfold Hid routeR
      rw [if_pos hz]
      rfl
    have hlr := routeR_len xs0 xs1 a b
    rw [hR.out] at hlr
    have hlt : travM xs0.length xs1 a b < 1000000 := hlt
    have HST := Lib.hid (fun v (hv : v < xs0.length) (hne : v ≠ b) (hf : travM xs0.length xs1 v b < 1000000) => rt_step hs.ok hb hv hne hf)
    have HNX := Lib.hid (fun v (hv : v < xs0.length) (hne : v ≠ b) (hf : travM xs0.length xs1 v b < 1000000) => nx_ok hs.ok hb hv hne hf)
    have HQ : Hid (∀ v u, qN xs0.length xs1 b v u = (decide (0 < waysM xs1 v u) && decide (waysM xs1 v u < 1000000) && decide (waysM xs1 v u + travM xs0.length xs1 u b = travM xs0.length xs1 v b))) := fun _ _ => rfl
    have HSP := Lib.hid (fun v (hv : v < xs0.length) => trav_bd hA hv hb)
    have HWB := Lib.hid (fun v u (hv : v < xs0.length) (hu : u < xs0.length) => waysM_snd hs.ok v u hv hu)
    have HEND := Lib.hid (rt_stop xs0.length xs1 b)
    generalize hp1 : (travR xs0 xs1 a b).1 = p1 at HC
    rw [hz] at HC
    clear hz hz' hall hA h1 hp1 hs
    have hG : Hid ([(a : Int)] ++ rtL xs0.length xs1 b a = (a : Int) :: rtL xs0.length xs1 b a) := rfl
    generalize (a : Int) :: rtL xs0.length xs1 b a = full at hG hR hlr
    generalize rtL xs0.length xs1 b = rt at HST hG HEND
    generalize nxN xs0.length xs1 b = nx at HST HNX
    generalize qN xs0.length xs1 b = qf at HNX HQ
    generalize travM xs0.length xs1 = T at HT HQ HSP HNX HST hlt
    have HWB : Hid (∀ v u, v < xs0.length → u < xs0.length → 0 ≤ waysM xs1 v u ∧ waysM xs1 v u ≤ 1000000) := fun v u hv hu => ⟨(HWB.out v u hv hu).1, (HWB.out v u hv hu).2.1⟩
    generalize waysM xs1 = M at HW HQ HWB
    go_enter Tryd.func8, Tryd.ntmps8
    go_wp2_with fail
    refine (HC.out _ hA0.below).mono ?_
    rintro e w1 ⟨rfl, hB1⟩
    have hA1 := hA0.step hB1
    have b0 := hA1.cell 0 _ rfl
    have b1 := hA1.cell 1 _ rfl
    have hs := hA1.size
    clear hA0 hB1 HC
    go_wp2_with fail
    go_region_held_law (fun w' => w'.cell? ⟨w.heap.size, 0, none⟩ = some (.slice a0 xs0.length cap0) ∧ w'.cell? ⟨w.heap.size, 1, none⟩ = some (.slice a1 xs1.length cap1)) (first | exact ⟨b0, b1⟩ | exact ⟨(hB6.cell (p := ⟨w.heap.size, 0, none⟩) hs).trans b0, (hB6.cell (p := ⟨w.heap.size, 1, none⟩) hs).trans b1⟩ | exact ⟨(hB7.cell (p := ⟨w.heap.size, 0, none⟩) (Nat.lt_of_lt_of_le hs hB6.size)).trans ((hB6.cell (p := ⟨w.heap.size, 0, none⟩) hs).trans b0), (hB7.cell (p := ⟨w.heap.size, 1, none⟩) (Nat.lt_of_lt_of_le hs hB6.size)).trans ((hB6.cell (p := ⟨w.heap.size, 1, none⟩) hs).trans b1)⟩) (first | (go_at_call 37; refine (HT.out _ (hA1.step (Below.refl _ w1).drew).below).mono ?_; rintro e w6 ⟨H6, c6, g6, rfl, hM6, hB6⟩) | (go_at_call 38; refine (HW.out _ ((hA1.step (Below.refl _ w1).drew).step hB6).below).mono ?_; rintro e w7 ⟨H7, c7, g7, rfl, hM7, hB7⟩) | fail)
    have hA7 := ((hA1.step (Below.refl _ w1).drew).step hB6).step hB7
    have hM6 := hM6.below hB7
    have hBe := hA7.below
    have b0' := hA7.cell 0 _ rfl
    have hs7 := hA7.size
    clear hA1 hB6 hB7 b0 b1 hs HT HW hA7
    have HB0 : Hid (∀ W, Below w7.heap.size w7 W → W.cell? ⟨w.heap.size, 0, none⟩ = some (.slice a0 xs0.length cap0)) := fun W hB => (hB.cell (p := ⟨w.heap.size, 0, none⟩) hs7).trans b0'
    have HCT : Hid (∀ u v W, Below w7.heap.size w7 W → u < xs0.length → v < xs0.length → W.cell? ⟨H6, u, none⟩ = some (.slice (some ⟨g6 u, 0, none⟩) xs0.length xs0.length) ∧ W.cell? ⟨g6 u, v, none⟩ = some (.int .i64 (T u v)) ∧ H6 < W.heap.size ∧ g6 u < W.heap.size) := fun u v W hB hu hv => ⟨(hB.cell (p := ⟨H6, u, none⟩) hM6.hlt.2).trans (hM6.hcell hu), (hB.cell (p := ⟨g6 u, v, none⟩) (hM6.lt hu).2).trans (hM6.cell hu hv), Nat.lt_of_lt_of_le hM6.hlt.2 hB.size, Nat.lt_of_lt_of_le (hM6.lt hu).2 hB.size⟩
    have HCW : Hid (∀ u v W, Below w7.heap.size w7 W → u < xs0.length → v < xs0.length → W.cell? ⟨H7, u, none⟩ = some (.slice (some ⟨g7 u, 0, none⟩) xs0.length xs0.length) ∧ W.cell? ⟨g7 u, v, none⟩ = some (.int .i64 (M u v)) ∧ H7 < W.heap.size ∧ g7 u < W.heap.size) := fun u v W hB hu hv => ⟨(hB.cell (p := ⟨H7, u, none⟩) hM7.hlt.2).trans (hM7.hcell hu), (hB.cell (p := ⟨g7 u, v, none⟩) (hM7.lt hu).2).trans (hM7.cell hu hv), Nat.lt_of_lt_of_le hM7.hlt.2 hB.size, Nat.lt_of_lt_of_le (hM7.lt hu).2 hB.size⟩
    clear hM6 hM7 b0' hs7
    go_wp2
    generalize hW3 : w7.alloc (.cells #[.int .i64 a] 2) = w3
    have hown3 : w3.ownsRow w7.heap.size 2 1 (.slice (some ⟨w7.heap.size, 0, none⟩) 1 1) 1 [.int .i64 a] := by
      rw [← hW3]
      exact ⟨rfl, .inr ⟨w7.heap.size, 1, #[.int .i64 a], rfl, Nat.le_refl _, heap_alloc_new w7 _, by decide, by decide, rfl, rfl⟩⟩
    have hB3 : Below w7.heap.size w7 w3 := by rw [← hW3]; exact (Below.refl _ _).alloc (Nat.le_refl _) _
    clear hW3
    go_loopw [1, 12] (fun t s wr => ∃ (v g c : Nat) (ys : List Int), v < xs0.length ∧ T v b < 1000000 ∧ t = .int .i64 v ∧ s = .slice (some ⟨g, 0, none⟩) ys.length c ∧ wr.ownsRow w7.heap.size 2 1 (.slice (some ⟨g, 0, none⟩) ys.length c) ys.length (ys.flatMap encI) ∧ Below w7.heap.size w7 wr ∧ Hid (ys ++ rt v = full)) (fun t _ _ => (T (intOf t).toNat b).toNat)
    case atStart => exact ⟨a, _, _, [(a : Int)], ha, hlt, rfl, rfl, hown3, hB3, hG⟩
    case round =>
      clear hown3 hB3 hG ha hlt
      obtain ⟨v, g, c, ys, hv, hf, rfl, rfl, hown, hB, hys⟩ := hrel
      obtain ⟨wo, hwo⟩ : ∃ wo, wo = wr := ⟨_, rfl⟩
      subst hwo
      have hylen : ys.length ≤ 1048576 := by
        have h := hys.out
        rw [← h] at hlr
        simp at hlr
        omega
      have b0 := HB0.out wo hB
      by_cases hne : v = b
      · subst hne
        have hE : ys = full := by have h := hys.out; rw [HEND.out, List.append_nil] at h; exact h
        subst hE
        go_wp2
        go_ret2
        rw [hR.out]
        exact ⟨_, _, rfl, own_base hown hBe.size, stepB hBe hB hBe.size⟩
      · have hne1 : ((v : Int) != (b : Int)) = true := by simpa using fun h : (v : Int) = b => hne (by omega)
        have hst := Lib.hid (HST.out v hv hne hf)
        obtain ⟨x1, x2, x3, x4, x5⟩ := HNX.out v hv hne hf
        have hTd : (T (nx v) b).toNat < (T v b).toNat := by omega
        have hTn : T (nx v) b < 1000000 := by omega
        have hT0 := HSP.out v hv
        have X2 := Lib.hid x2
        have X3 := Lib.hid x3
        clear x2 x3
        go_wp2
        go_loopw [1, 37] (fun t i wr => ∃ q : Nat, q ≤ nx v ∧ i = .int .i64 q ∧ t = .int .i64 v ∧ Below wo.heap.size wo wr) (fun _ i _ => xs0.length - (intOf i).toNat)
        case atStart => exact ⟨0, Nat.zero_le _, rfl, rfl, Below.refl _ _⟩
        case round =>
          clear b0
          obtain ⟨q, hq, rfl, rfl, hBq⟩ := hrel
          have hBi := stepB hB hBq hB.size
          have hq1 : q < xs0.length := by omega
          have hq2 : (q : Int) < (xs0.length : Int) := by omega
          have hv2 : (v : Int) < (xs0.length : Int) := by omega
          have hb2 : (b : Int) < (xs0.length : Int) := by omega
          obtain ⟨e0, e1, e2, e3⟩ := HCW.out v q wr hBi hv hq1
          obtain ⟨d0, d1, d2, d3⟩ := HCT.out q b wr hBi hq1 hb
          obtain ⟨f0, f1, f2, f3⟩ := HCT.out v b wr hBi hv hb
          have hWb := HWB.out v q hv hq1
          have hTb := HSP.out q hq1
          have hqv := HQ.out v q
          go_upto_region 11 with (fail)
          generalize M v q = m at hqv hWb ⊢
          generalize T q b = tq at hqv hTb d1 ⊢
          generalize T v b = tv at hqv hT0 f1 ⊢
          have D0 := Later.cell d0 d2
          have D1 := Later.cell d1 d3
          have F0 := Later.cell f0 f2
          have F1 := Later.cell f1 f3
          by_cases hlast : q = nx v
          · subst hlast
            rw [X2.out] at hqv
            have hqv := hqv.symm
            simp only [Bool.and_eq_true, decide_eq_true_eq] at hqv
            obtain ⟨⟨g1, g2⟩, g3⟩ := hqv
            have g4 : (m + tq == tv) = true := by rw [g3]; simp
            clear g3 hqv
            refine wp_region_later _ (by kernel_rfl) (by kernel_rfl) ?_
            repeat (go_big_quiet_step (fail))
            refine wpQuiet_nil ?_
            intro z
            have hz := z.prop
            generalize z.val = U at hz
            clear D0 D1 F0 F1
            have hBi := stepB hBi hz hBi.size
            have hBq := stepB hBq hz hBq.size
            have hown := own_below hown hBq
            go_wp2_with (at_builtin; refine wpList_append_own _ rfl _ _ 30 rfl w7.heap.size 2 i0 (.int .i64 0) 1 8 Tryd.underlying30 hi hz0 hz1 hz2 rfl (by decide) _ _ _ rfl (hown.alloc _) ⟨U.heap.size, 0, none⟩ 1 1 [.int .i64 (nx v)] rfl rfl (cell_one_new _ _ _) ?c2 ?c3 ?c4 ?c5 ?_)
            case c2 => intro u hu; simp at hu; subst hu; rfl
            case c3 => unfold maxLen; omega
            case c4 => omega
            case c5 => have := hBi.size; first | omega | (simp; omega)
            intro v' w8 hown' hgr _
            have hB' := (hBi.alloc hBi.size _).grown hgr (by have := hBi.size; simp; omega) (fun x hx => (hown.lt x hx).1)
            obtain ⟨g', c', rfl⟩ := formJ hown' (by omega)
            clear hgr hown hB
            go_wp2
            go_roundw
            case rel => exact ⟨nx v, g', c', ys ++ [(nx v : Int)], x1, hTn, by go_num, by rw [List.length_append]; rfl, by rw [List.length_append, List.flatMap_append]; exact hown', hB', by unfold Hid; rw [List.append_assoc]; show ys ++ ((nx v : Int) :: rt (nx v)) = full; rw [← hst.out]; exact hys.out⟩
            case measure => simp [intOf]; omega
          · have hlow := X3.out q (by omega)
            rw [hlow] at hqv
            have hqn : q < nx v := by omega
            by_cases p1 : 0 < m
            · by_cases p2 : m < 1000000
              · have p3 : (m + tq == tv) = false := by
                  simp only [p1, p2, decide_true, Bool.true_and] at hqv
                  simpa using hqv.symm
                clear hqv
                refine wp_region_later _ (by kernel_rfl) (by kernel_rfl) ?_
                repeat (go_big_quiet_step (fail))
                refine wpQuiet_nil ?_
                intro z
                have hz := z.prop
                generalize z.val = U at hz
                clear D0 D1 F0 F1
                have hBi := stepB hBi hz hBi.size
                have hBq := stepB hBq hz hBq.size
                go_wp2
                go_roundw
                case rel => exact ⟨q + 1, by omega, by go_num, rfl, hBq⟩
                case measure => simp [intOf]; omega
              · have p2' : decide (m < 1000000) = false := by simpa using p2
                clear hqv
                refine wp_region_later _ (by kernel_rfl) (by kernel_rfl) ?_
                repeat (go_big_quiet_step (fail))
                refine wpQuiet_nil ?_
                intro z
                have hz := z.prop
                generalize z.val = U at hz
                clear D0 D1 F0 F1
                have hBi := stepB hBi hz hBi.size
                have hBq := stepB hBq hz hBq.size
                go_wp2
                go_roundw
                case rel => exact ⟨q + 1, by omega, by go_num, rfl, hBq⟩
                case measure => simp [intOf]; omega
            · have p1' : decide (0 < m) = false := by simpa using p1
              clear hqv
              refine wp_region_later _ (by kernel_rfl) (by kernel_rfl) ?_
              repeat (go_big_quiet_step (fail))
              refine wpQuiet_nil ?_
              intro z
              have hz := z.prop
              generalize z.val = U at hz
              clear D0 D1 F0 F1
              have hBi := stepB hBi hz hBi.size
              have hBq := stepB hBq hz hBq.size
              go_wp2
              go_roundw
              case rel => exact ⟨q + 1, by omega, by go_num, rfl, hBq⟩
              case measure => simp [intOf]; omega
  · have hR : Hid (routeR xs0 xs1 a b = ([], (travR xs0 xs1 a b).2)) := by unfold Hid routeR; rw [if_neg hz]
    generalize travR xs0 xs1 a b = R at hz HC hR
    obtain ⟨r1, c⟩ := R
    simp only at hz HC hR
    have hz2 : (c != 0) = true := by simpa using hz
    go_enter Tryd.func8, Tryd.ntmps8
    go_wp2_with fail
    refine (HC.out _ hA0.below).mono ?_
    rintro e w1 ⟨rfl, hB1⟩
    go_wp2
    go_ret2
    rw [hR.out]
    exact ⟨none, 0, rfl, World.ownsRow_nil _ _ _ _, (hA0.step hB1).below⟩
end Go.Proofs.YtihmacmieofbgaaDoor
