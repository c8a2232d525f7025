/- Walks: PlaceOn. -/
import Derived.Test.YtipdcgfdejmjfaaDoorItinS
import Derived.Test.YtipdcgfdejmjfaaDoorTI
import Derived.Test.YtipdcgfdejmjfaaDoorFix
import Derived.Test.YtipdcgfdejmjfaaDoorTSt
namespace Go.Proofs.YtipdcgfdejmjfaaDoor
section
open Go.ChangeShapes Go.WideShapes Go.ChangeAt Go.RowKit

set_option maxRecDepth 100000 in
set_option maxHeartbeats 4000000 in
theorem areStays_any (a0 a1 a2 : Option Addr) (cap0 cap1 cap2 n n1 H c B0 : Nat) (g : Nat → Nat) (xs1 : List Wy) (xs2 : List St) (w : World) (hn : n ≤ 12) (hT : ∀ a b, a < n → b < n → 0 ≤ travM n xs1 a b ∧ travM n xs1 a b ≤ 1000000) (hM : Mat B0 w H c n n g (travM n xs1)) (hl2 : xs2.length ≤ 1048576) (hx2 : Rd encSt w a2 xs2) :
    Calls Tryd.prog 49 #[.agg #[.slice a0 n cap0, .slice a1 n1 cap1], .slice (some ⟨H, 0, none⟩) n c, .slice a2 xs2.length cap2] w fun e w' => e = .returned (.bool (areStaysB n xs1 xs2 && decide (xs2.length ≤ 40))) ∧ Below w.heap.size w w' := by
  have HT := Lib.hid hT
  clear hT
  go_enter Tryd.func49, Tryd.ntmps49
  go_wp2
  go_loopw [13] (fun i wr => ∃ (k : Nat), k ≤ xs2.length ∧ i = .int .i64 k ∧ Hid (areStaysB n xs1 xs2 = upGo (okSt n) (ltSt n xs1) (prevOf xs2 k) (xs2.drop k)) ∧ (∀ p, prevOf xs2 k = some p → okSt n p = true) ∧ At w [.slice a0 n cap0, .slice a1 n1 cap1] wr) (fun i _ => xs2.length - (intOf i).toNat)
  case atStart => exact ⟨0, Nat.zero_le _, rfl, rfl, (fun p h => by simp [prevOf] at h), At.start _ _ _⟩
  case round =>
    obtain ⟨k, hk, rfl, hH, hP, hAt⟩ := hrel
    by_cases hlt : k < xs2.length
    · have hm := List.getElem?_eq_getElem hlt
      generalize xs2[k] = m at hm
      obtain ⟨b, off, rfl, hb, c0, c1, c2⟩ := (hx2.below hAt.below).st hm
      have bad := Lib.hid (fun ho => (hH.out.trans (upGo_bad (ok := okSt n) (lt := ltSt n xs1) hm ho)))
      have at0 := Lib.hid (fun h0 => upGo_at0 (ok := okSt n) (lt := ltSt n xs1) h0 hm)
      have hk1 : (k : Int) < (xs2.length : Int) := by omega
      go_upto_region 4 with (fail)
      generalize hW : wr.alloc (.cells #[.int .i64 m.place, .int .i64 m.fr, .int .i64 m.to] 39) = W
      have hBW : Below wr.heap.size wr W := by rw [← hW]; go_grown
      have hD : wr.heap.size < W.heap.size := by rw [← hW]; simp
      have D0 : W.cell? ⟨wr.heap.size, 0, none⟩ = some (.int .i64 m.place) := by rw [← hW]; exact World.cell?_alloc_at _ _ _ _ rfl
      have D1 : W.cell? ⟨wr.heap.size, 1, none⟩ = some (.int .i64 m.fr) := by rw [← hW]; exact World.cell?_alloc_at _ _ _ _ rfl
      have D2 : W.cell? ⟨wr.heap.size, 2, none⟩ = some (.int .i64 m.to) := by rw [← hW]; exact World.cell?_alloc_at _ _ _ _ rfl
      have hAW := hAt.step hBW
      have b0 := hAW.cell 0 _ rfl
      have b1 := hAW.cell 1 _ rfl
      clear hW c0 c1 c2 hb hAt hBW
      generalize wr.heap.size = bw at hD D0 D1 D2 ⊢
      cases hok : okSt n m
      · have HS := Lib.hid (fun W => hok ▸ isStay_any a0 a1 cap0 cap1 n n1 m W (by omega))
        have hbd := Lib.hid (bad.out hok)
        clear bad at0
        go_wp2_with fail
        refine (HS.out _).mono ?_
        rintro e w1 ⟨rfl, hB1⟩
        go_wp2
        go_ret
        exact ⟨ret_bool (by rw [hbd.out]; rfl), stepB hAW.below hB1 hAW.below.size⟩
      · have HS := Lib.hid (fun W => hok ▸ isStay_any a0 a1 cap0 cap1 n n1 m W (by omega))
        clear bad
        go_wp2_with fail
        refine (HS.out _).mono ?_
        rintro e w1 ⟨rfl, hB1⟩
        have hA1 := hAW.step hB1
        have F0 := (hB1.cell (p := ⟨bw, 0, none⟩) hD).trans D0
        have F1 := (hB1.cell (p := ⟨bw, 1, none⟩) hD).trans D1
        have hD1 := Nat.lt_of_lt_of_le hD hB1.size
        clear D0 D1 D2 hD b0 b1 hAW hB1
        by_cases h0 : k = 0
        · have hst := Lib.hid (at0.out h0)
          subst h0
          have hP1 : Hid (∀ p, prevOf xs2 1 = some p → okSt n p = true) := fun p hp => by
            have e : m = p := by simpa [prevOf, hm] using hp
            rw [← e]; exact hok
          go_wp2
          go_roundw
          case rel => exact ⟨1, by omega, by go_num, by unfold Hid; rw [hH.out, hst.out, hok]; rfl, hP1.out, hA1⟩
          case measure => simp [intOf]; omega
        · have hk0 : 0 < k := by omega
          have hpl : k - 1 < xs2.length := by omega
          have hp := List.getElem?_eq_getElem hpl
          generalize xs2[k - 1] = p at hp
          obtain ⟨_, _, e', hb, p0, p1, p2⟩ := (hx2.below hA1.below).st hp
          simp only [Option.some.injEq, Addr.mk.injEq, and_true] at e'
          obtain ⟨rfl, rfl⟩ := e'
          have hN := Lib.hid (upGo_at (ok := okSt n) (lt := ltSt n xs1) hk0 hp hm)
          have hpk : prevOf xs2 k = some p := by
            obtain ⟨j, rfl⟩ : ∃ j, k = j + 1 := ⟨k - 1, by omega⟩
            exact hp
          have hq := hP p hpk
          have hP' : ∀ p, prevOf xs2 (k + 1) = some p → okSt n p = true := fun p hp => by
            have e : m = p := by simpa [prevOf, hm] using hp
            rw [← e]; exact hok
          have HP' := Lib.hid hP'
          have HOK := Lib.hid hok
          obtain ⟨⟨B, hmB, hB1⟩, hmf, hmf2, _, _⟩ := okSt_bd hok
          obtain ⟨⟨A, hpA, hA0⟩, _, _, hpt, hpt2⟩ := okSt_bd hq
          clear hP hP' hok hq hm hp at0 hpk
          obtain ⟨pp, pf, pt⟩ := p
          obtain ⟨mp, mf, mt⟩ := m
          simp only at hmB hmf hmf2 hpA hpt hpt2 F0 F1 p0 p1 p2
          subst hmB hpA
          have hbd := HT.out A B hA0 hB1
          have hl : ltSt n xs1 ⟨A, pf, pt⟩ ⟨B, mf, mt⟩ = (decide (travM n xs1 A B < 1000000) && decide (pt < mf) && decide (pt + travM n xs1 A B ≤ mf)) := rfl
          have hA2 : (A : Int) < (n : Int) := by omega
          have hB2 : (B : Int) < (n : Int) := by omega
          have hw1 : IntKind.i64.wrap ((k : Int) - 1) = (k : Int) - 1 := by rw [IntKind.wrap_i64]; omega
          have hk4 : (0 : Int) ≤ (k : Int) - 1 := by omega
          have hk5 : (k : Int) - 1 < (xs2.length : Int) := by omega
          have hk6 : ((k : Int) - 1).toNat = k - 1 := by omega
          have hk7 : (1 : Int) ≤ (k : Int) := by omega
          have hk8 : ((k : Int) == 0) = false := by simp; omega
          go_upto_region 8 with (fail)
          generalize hW : w1.alloc (.cells #[.int .i64 A, .int .i64 pf, .int .i64 pt] 39) = W2
          have hBW : Below w1.heap.size w1 W2 := by rw [← hW]; go_grown
          have hE : w1.heap.size < W2.heap.size := by rw [← hW]; simp
          have G0 : W2.cell? ⟨w1.heap.size, 0, none⟩ = some (.int .i64 A) := by rw [← hW]; exact World.cell?_alloc_at _ _ _ _ rfl
          have G2 : W2.cell? ⟨w1.heap.size, 2, none⟩ = some (.int .i64 pt) := by rw [← hW]; exact World.cell?_alloc_at _ _ _ _ rfl
          have F0 := (hBW.cell (p := ⟨bw, 0, none⟩) hD1).trans F0
          have F1 := (hBW.cell (p := ⟨bw, 1, none⟩) hD1).trans F1
          have hD2 := Nat.lt_of_lt_of_le hD1 hBW.size
          have hA3 := hA1.step hBW
          have hM2 := hM.below hA3.below
          clear hW p0 p1 p2 hb hA1 hBW hD1
          generalize w1.heap.size = bp at hE G0 G2 ⊢
          have C0 := Later.cell F0 hD2
          have C1 := Later.cell G0 hE
          have C2 := Later.cell (hM2.hcell hA0) hM2.hlt.2
          have C3 := Later.cell (hM2.cell hA0 hB1) (hM2.lt hA0).2
          generalize travM n xs1 A B = T at C3 hl hbd
          refine wp_region_later W2 (by kernel_rfl) (by kernel_rfl) ?_
          repeat (go_big_quiet_step (fail))
          refine wpQuiet_nil ?_
          intro z
          have hz := z.prop
          generalize z.val = W3 at hz
          clear C0 C1 C2 C3 hM2
          have F1 := (hz.cell (p := ⟨bw, 1, none⟩) hD2).trans F1
          have G2 := (hz.cell (p := ⟨bp, 2, none⟩) hE).trans G2
          have hA4 := hA3.step hz
          clear F0 G0 hz hA3
          by_cases ht : T < 1000000
          · have ht2 : ¬ 1000000 ≤ T := by omega
            by_cases h1 : mf ≤ pt
            · have hlf : Hid (ltSt n xs1 ⟨A, pf, pt⟩ ⟨B, mf, mt⟩ = false) := by unfold Hid; rw [hl, decide_eq_false (show ¬ pt < mf by omega)]; simp
              clear hl
              go_wp2
              go_ret
              exact ⟨ret_bool (by rw [hH.out, hN.out, HOK.out, hlf.out]; rfl), hA4.below⟩
            · by_cases h2 : mf < pt + T
              · have hlf : Hid (ltSt n xs1 ⟨A, pf, pt⟩ ⟨B, mf, mt⟩ = false) := by unfold Hid; rw [hl, decide_eq_false (show ¬ pt + T ≤ mf by omega)]; simp
                clear hl
                go_wp2
                go_ret
                exact ⟨ret_bool (by rw [hH.out, hN.out, HOK.out, hlf.out]; rfl), hA4.below⟩
              · have hlt' : Hid (ltSt n xs1 ⟨A, pf, pt⟩ ⟨B, mf, mt⟩ = true) := by
                  unfold Hid; rw [hl, decide_eq_true ht, decide_eq_true (show pt < mf by omega), decide_eq_true (show pt + T ≤ mf by omega)]; rfl
                clear hl
                go_wp2
                go_roundw
                case rel => exact ⟨k + 1, by omega, by go_num, by unfold Hid; rw [hH.out, hN.out, HOK.out, hlt'.out]; rfl, HP'.out, hA4⟩
                case measure => simp [intOf]; omega
          · have ht2 : 1000000 ≤ T := by omega
            have hlf : Hid (ltSt n xs1 ⟨A, pf, pt⟩ ⟨B, mf, mt⟩ = false) := by unfold Hid; rw [hl, decide_eq_false ht]; rfl
            clear hl
            go_wp2
            go_ret
            exact ⟨ret_bool (by rw [hH.out, hN.out, HOK.out, hlf.out]; rfl), hA4.below⟩
    · obtain rfl : k = xs2.length := by omega
      go_wp2
      go_ret
      exact ⟨ret_bool (by rw [hH.out, upGo_end (Nat.le_refl _)]; simp; omega), hAt.below⟩

set_option maxHeartbeats 4000000 in
theorem implIsItin_any (a0 a1 a2 : Option Addr) (cap0 cap1 cap2 : Nat) (xs0 : List ByteArray) (xs1 : List Wy) (xs2 : List St) (w : World) (hc0 : xs0.length ≤ cap0) (hc1 : cap0 ≤ 9223372036854775807) (hl0 : xs0.length ≤ 1048576) (hx0 : Rd encS w a0 xs0) (hs0 : ∀ m ∈ xs0, m.size ≤ 1048576) (hl1 : xs1.length ≤ 1048576) (hx1 : Rd encWy w a1 xs1) (hl2 : xs2.length ≤ 1048576) (hx2 : Rd encSt w a2 xs2) :
    Calls Tryd.prog 28 #[.agg #[.slice a0 xs0.length cap0, .slice a1 xs1.length cap1], .slice a2 xs2.length cap2] w fun e w' => e = .returned (.bool (isItinB xs0 xs1 xs2)) ∧ Below w.heap.size w w' := by
  cases hA : isLandB xs0 xs1
  · have HM := Lib.hid (fun W (h0 : Rd encS W a0 xs0) (h1 : Rd encWy W a1 xs1) => hA ▸ implIsLand_any a0 a1 cap0 cap1 xs0 xs1 W hc0 hc1 hl0 h0 hs0 hl1 h1)
    have hR : Hid (isItinB xs0 xs1 xs2 = false) := by unfold Hid isItinB; rw [hA]; rfl
    clear hA
    go_enter Tryd.func28, Tryd.ntmps28
    go_wp2_with fail
    generalize hW : w.alloc (.cells #[.slice a0 xs0.length cap0, .slice a1 xs1.length cap1] 36) = W
    have hA0 : At w [.slice a0 xs0.length cap0, .slice a1 xs1.length cap1] W := hW ▸ At.start _ _ _
    clear hW
    have E0 := Later.cell (hA0.cell 0 _ rfl) hA0.size
    have E1 := Later.cell (hA0.cell 1 _ rfl) hA0.size
    have hx0' := hx0.below hA0.below
    have hx1' := hx1.below hA0.below
    refine wp_region_later W (by kernel_rfl) (by kernel_rfl) ?_
    repeat (go_big_quiet_step ((go_at_call 48; exact Later.call (Nat.le_refl _) (HM.out _ (hx0'.below (Later.prop _)) (hx1'.below (Later.prop _))))))
    refine wpQuiet_nil ?_
    intro z
    have hz := z.prop
    generalize z.val = w2 at hz
    clear E0 E1
    go_wp2
    go_ret
    exact ⟨ret_bool hR.out.symm, stepB hA0.below hz hA0.below.size⟩
  · have HM := Lib.hid (fun W (h0 : Rd encS W a0 xs0) (h1 : Rd encWy W a1 xs1) => hA ▸ implIsLand_any a0 a1 cap0 cap1 xs0 xs1 W hc0 hc1 hl0 h0 hs0 hl1 h1)
    have HF := Lib.hid (fun W (h1 : Rd encWy W a1 xs1) => trav_any a0 a1 cap0 cap1 xs0 xs1 W hA h1)
    have hT := fun a b (ha : a < xs0.length) (hb : b < xs0.length) => trav_bd hA ha hb
    have HS := Lib.hid (fun W B0 H c g (hM : Mat B0 W H c xs0.length xs0.length g (travM xs0.length xs1)) (h2 : Rd encSt W a2 xs2) => areStays_any a0 a1 a2 cap0 cap1 cap2 xs0.length xs1.length H c B0 g xs1 xs2 W (landOk hA).2.2.1 hT hM hl2 h2)
    have hR : Hid (isItinB xs0 xs1 xs2 = (areStaysB xs0.length xs1 xs2 && decide (xs2.length ≤ 40))) := by unfold Hid isItinB; rw [hA]; rfl
    clear hA hT
    generalize (areStaysB xs0.length xs1 xs2 && decide (xs2.length ≤ 40)) = V at HS hR
    go_enter Tryd.func28, Tryd.ntmps28
    go_wp2_with fail
    generalize hW : w.alloc (.cells #[.slice a0 xs0.length cap0, .slice a1 xs1.length cap1] 36) = W
    have hA0 : At w [.slice a0 xs0.length cap0, .slice a1 xs1.length cap1] W := hW ▸ At.start _ _ _
    clear hW
    have b0 := hA0.cell 0 _ rfl
    have b1 := hA0.cell 1 _ rfl
    have hs := hA0.size
    have hBd : Below w.heap.size w W.drew := hA0.below.drew
    go_region_held3 (fun w' => w'.cell? ⟨w.heap.size, 0, none⟩ = some (.slice a0 xs0.length cap0) ∧ w'.cell? ⟨w.heap.size, 1, none⟩ = some (.slice a1 xs1.length cap1))
      (first | go_keep | (exact ⟨(hB3.cell (p := ⟨w.heap.size, 0, none⟩) hs).trans b0, (hB3.cell (p := ⟨w.heap.size, 1, none⟩) hs).trans b1⟩) | (exact ⟨(hB4.cell (p := ⟨w.heap.size, 0, none⟩) hs3).trans d0, (hB4.cell (p := ⟨w.heap.size, 1, none⟩) hs3).trans d1⟩) | (exact ⟨(hB5.cell (p := ⟨w.heap.size, 0, none⟩) hs4).trans e0, (hB5.cell (p := ⟨w.heap.size, 1, none⟩) hs4).trans e1⟩))
      (first
        | (go_at_call 48; refine (HM.out _ (hx0.below hBd) (hx1.below hBd)).mono ?_; rintro e w3 ⟨rfl, hB3⟩; have hBe := stepB hBd hB3 hBd.size; have d0 := (hB3.cell (p := ⟨w.heap.size, 0, none⟩) hs).trans b0; have d1 := (hB3.cell (p := ⟨w.heap.size, 1, none⟩) hs).trans b1; have hs3 : w.heap.size < w3.heap.size := Nat.lt_of_lt_of_le hs hB3.size)
        | (go_at_call 50; refine (HF.out _ (hx1.below hBe)).mono ?_; rintro e w4 ⟨H, c, g, rfl, hM, hB4⟩; have hBf := stepB hBe hB4 hBe.size; have e0 := (hB4.cell (p := ⟨w.heap.size, 0, none⟩) hs3).trans d0; have e1 := (hB4.cell (p := ⟨w.heap.size, 1, none⟩) hs3).trans d1; have hs4 : w.heap.size < w4.heap.size := Nat.lt_of_lt_of_le hs3 hB4.size)
        | (go_at_call 49; refine (HS.out _ _ H c g hM (hx2.below hBf)).mono ?_; rintro e w5 ⟨rfl, hB5⟩))
    have hBz := stepB hBf hB5 hBf.size
    go_wp2
    go_ret
    exact ⟨ret_bool hR.out.symm, hBz⟩
end

section
open Go.ChangeShapes Go.WideShapes Go.ChangeAt Go.RowKit


























































end

section
open Go.ChangeShapes Go.WideShapes Go.ChangeAt Go.RowKit


























































end

section
open Go.ChangeShapes Go.WideShapes Go.ChangeAt Go.RowKit


























































end

section
open Go.ChangeShapes Go.WideShapes Go.ChangeAt Go.RowKit

def inStay (n : Int) (m : St) : Bool := inB n m.fr m.to
def codeI (ps : List ByteArray) (ws : List Wy) (xs : List St) (b : Bool) : Int := if isItinB ps ws xs then (if b then 0 else 2) else 1
theorem codeI_zero {ps : List ByteArray} {ws : List Wy} {xs : List St} {b : Bool} (h : codeI ps ws xs b = 0) : isItinB ps ws xs = true ∧ b = true := by
  unfold codeI at h
  cases hA : isItinB ps ws xs
  · rw [hA] at h; simp at h
  · cases b
    · rw [hA] at h; simp at h
    · exact ⟨rfl, rfl⟩


















































set_option maxHeartbeats 1000000 in
theorem l15Code_any (a0 a1 a2 : Option Addr) (cap0 cap1 cap2 : Nat) (xs0 : List ByteArray) (xs1 : List Wy) (xs2 : List St) (b : Bool) (w : World) (hc0 : xs0.length ≤ cap0) (hc1 : cap0 ≤ 9223372036854775807) (hl0 : xs0.length ≤ 1048576) (hx0 : Rd encS w a0 xs0) (hs0 : ∀ m ∈ xs0, m.size ≤ 1048576) (hl1 : xs1.length ≤ 1048576) (hx1 : Rd encWy w a1 xs1) (hl2 : xs2.length ≤ 1048576) (hx2 : Rd encSt w a2 xs2) :
    Calls Tryd.prog 23 #[.agg #[.slice a0 xs0.length cap0, .slice a1 xs1.length cap1], .slice a2 xs2.length cap2, .bool b] w fun e w' => e = .returned (.int .i64 (codeI xs0 xs1 xs2 b)) ∧ Below w.heap.size w w' := by
  have hB0 : Below w.heap.size w (w.alloc (.cells #[.slice a0 xs0.length cap0, .slice a1 xs1.length cap1] 36)) := (Below.refl _ w).alloc (Nat.le_refl _) _
  have HM := Lib.hid (fun W (h0 : Rd encS W a0 xs0) (h1 : Rd encWy W a1 xs1) (h2 : Rd encSt W a2 xs2) => specIsItin_any a0 a1 a2 cap0 cap1 cap2 xs0 xs1 xs2 W hc0 hc1 hl0 h0 hs0 hl1 h1 hl2 h2)
  have hR : Hid (codeI xs0 xs1 xs2 b = if isItinB xs0 xs1 xs2 then (if b then 0 else 2) else 1) := rfl
  cases hA : isItinB xs0 xs1 xs2
  · have HM := Lib.hid (fun W h0 h1 h2 => hA ▸ HM.out W h0 h1 h2)
    rw [hA] at hR
    clear hA
    go_enter Tryd.func23, Tryd.ntmps23
    go_wp2_with fail
    refine (HM.out _ (hx0.below hB0) (hx1.below hB0) (hx2.below hB0)).mono ?_
    rintro e w1 ⟨rfl, hB1⟩
    go_wp2
    go_ret
    exact ⟨ret_int hR.out.symm, stepB hB0 hB1 hB0.size⟩
  · have HM := Lib.hid (fun W h0 h1 h2 => hA ▸ HM.out W h0 h1 h2)
    rw [hA] at hR
    clear hA
    cases b
    · go_enter Tryd.func23, Tryd.ntmps23
      go_wp2_with fail
      refine (HM.out _ (hx0.below hB0) (hx1.below hB0) (hx2.below hB0)).mono ?_
      rintro e w1 ⟨rfl, hB1⟩
      go_wp2
      go_ret
      exact ⟨ret_int hR.out.symm, stepB hB0 hB1 hB0.size⟩
    · go_enter Tryd.func23, Tryd.ntmps23
      go_wp2_with fail
      refine (HM.out _ (hx0.below hB0) (hx1.below hB0) (hx2.below hB0)).mono ?_
      rintro e w1 ⟨rfl, hB1⟩
      go_wp2
      go_ret
      exact ⟨ret_int hR.out.symm, stepB hB0 hB1 hB0.size⟩





















theorem any_not_all (p : Int → Bool) (zs : List Int) : (zs.any fun m => !p m) = !zs.all p := by
  induction zs with
  | nil => rfl
  | cons x xs ih => simp only [List.any_cons, List.all_cons, Bool.not_and, ih]


























































































def placeOnR (xs : List St) (z c : Int) : Int × Int :=
  if c = 0 then (if fidx (inStay z) xs 0 < 0 then (0, 4) else (match xs[(fidx (inStay z) xs 0).toNat]? with | some m => m.place | none => 0, 0)) else (0, c)






































































































































end
end Go.Proofs.YtipdcgfdejmjfaaDoor
