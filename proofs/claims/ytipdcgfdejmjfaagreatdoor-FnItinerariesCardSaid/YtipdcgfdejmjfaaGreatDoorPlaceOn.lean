/- Walks: PlaceOn. -/
import Derived.Test.YtipdcgfdejmjfaaGreatDoorItinS
import Derived.Test.YtipdcgfdejmjfaaGreatDoorTI
import Derived.Test.YtipdcgfdejmjfaaGreatDoorFix
import Derived.Test.YtipdcgfdejmjfaaGreatDoorTSt
namespace Go.Proofs.YtipdcgfdejmjfaaGreatDoor
section
open Go.ChangeShapes Go.WideShapes Go.ChangeAt Go.RowKit

set_option maxRecDepth 100000 in
set_option maxHeartbeats 4000000 in
theorem areStays_any (a0 a1 a2 : Option Addr) (cap0 cap1 cap2 n n1 H c B0 : Nat) (g : Nat → Nat) (xs1 : List Wy) (xs2 : List St) (w : World) (hn : n ≤ 12) (hT : ∀ a b, a < n → b < n → 0 ≤ travM n xs1 a b ∧ travM n xs1 a b ≤ 1000000) (hM : Mat B0 w H c n n g (travM n xs1)) (hl2 : xs2.length ≤ 1048576) (hx2 : Rd encSt w a2 xs2) :
    Calls Tryz.prog 64 #[.agg #[.slice a0 n cap0, .slice a1 n1 cap1], .slice (some ⟨H, 0, none⟩) n c, .slice a2 xs2.length cap2] w fun e w' => e = .returned (.bool (areStaysB n xs1 xs2 && decide (xs2.length ≤ 40))) ∧ Below w.heap.size w w' := by
  have HT := Lib.hid hT
  clear hT
  go_enter Tryz.func64, Tryz.ntmps64
  go_wp2
  go_loopw [13] (fun i wr => ∃ (k : Nat), k ≤ xs2.length ∧ i = .int .i64 k ∧ Hid (areStaysB n xs1 xs2 = upGo (okSt n) (ltSt n xs1) (prevOf xs2 k) (xs2.drop k)) ∧ (∀ p, prevOf xs2 k = some p → okSt n p = true) ∧ At w [.slice a0 n cap0, .slice a1 n1 cap1] wr) (fun i _ => xs2.length - (intOf i).toNat)
  case atStart => exact ⟨0, Nat.zero_le _, rfl, rfl, (fun p h => by simp [prevOf] at h), At.start _ _ _⟩
  case round =>
    obtain ⟨k, hk, rfl, hH, hP, hAt⟩ := hrel
    by_cases hlt : k < xs2.length
    · have hm := List.getElem?_eq_getElem hlt
      generalize xs2[k] = m at hm
      obtain ⟨b, off, rfl, hb, c0, c1, c2⟩ := (hx2.below hAt.below).st hm
      have bad := Lib.hid (fun ho => (hH.out.trans (upGo_bad (ok := okSt n) (lt := ltSt n xs1) hm ho)))
      have at0 := Lib.hid (fun h0 => upGo_at0 (ok := okSt n) (lt := ltSt n xs1) h0 hm)
      have hk1 : (k : Int) < (xs2.length : Int) := by omega
      go_upto_region 4 with (fail)
      generalize hW : wr.alloc (.cells #[.int .i64 m.place, .int .i64 m.fr, .int .i64 m.to] 49) = W
      have hBW : Below wr.heap.size wr W := by rw [← hW]; go_grown
      have hD : wr.heap.size < W.heap.size := by rw [← hW]; simp
      have D0 : W.cell? ⟨wr.heap.size, 0, none⟩ = some (.int .i64 m.place) := by rw [← hW]; exact World.cell?_alloc_at _ _ _ _ rfl
      have D1 : W.cell? ⟨wr.heap.size, 1, none⟩ = some (.int .i64 m.fr) := by rw [← hW]; exact World.cell?_alloc_at _ _ _ _ rfl
      have D2 : W.cell? ⟨wr.heap.size, 2, none⟩ = some (.int .i64 m.to) := by rw [← hW]; exact World.cell?_alloc_at _ _ _ _ rfl
      have hAW := hAt.step hBW
      have b0 := hAW.cell 0 _ rfl
      have b1 := hAW.cell 1 _ rfl
      clear hW c0 c1 c2 hb hAt hBW
      generalize wr.heap.size = bw at hD D0 D1 D2 ⊢
      cases hok : okSt n m
      · have HS := Lib.hid (fun W => hok ▸ isStay_any a0 a1 cap0 cap1 n n1 m W (by omega))
        have hbd := Lib.hid (bad.out hok)
        clear bad at0
        go_wp2_with fail
        refine (HS.out _).mono ?_
        rintro e w1 ⟨rfl, hB1⟩
        go_wp2
        go_ret
        exact ⟨ret_bool (by rw [hbd.out]; rfl), stepB hAW.below hB1 hAW.below.size⟩
      · have HS := Lib.hid (fun W => hok ▸ isStay_any a0 a1 cap0 cap1 n n1 m W (by omega))
        clear bad
        go_wp2_with fail
        refine (HS.out _).mono ?_
        rintro e w1 ⟨rfl, hB1⟩
        have hA1 := hAW.step hB1
        have F0 := (hB1.cell (p := ⟨bw, 0, none⟩) hD).trans D0
        have F1 := (hB1.cell (p := ⟨bw, 1, none⟩) hD).trans D1
        have hD1 := Nat.lt_of_lt_of_le hD hB1.size
        clear D0 D1 D2 hD b0 b1 hAW hB1
        by_cases h0 : k = 0
        · have hst := Lib.hid (at0.out h0)
          subst h0
          have hP1 : Hid (∀ p, prevOf xs2 1 = some p → okSt n p = true) := fun p hp => by
            have e : m = p := by simpa [prevOf, hm] using hp
            rw [← e]; exact hok
          go_wp2
          go_roundw
          case rel => exact ⟨1, by omega, by go_num, by unfold Hid; rw [hH.out, hst.out, hok]; rfl, hP1.out, hA1⟩
          case measure => simp [intOf]; omega
        · have hk0 : 0 < k := by omega
          have hpl : k - 1 < xs2.length := by omega
          have hp := List.getElem?_eq_getElem hpl
          generalize xs2[k - 1] = p at hp
          obtain ⟨_, _, e', hb, p0, p1, p2⟩ := (hx2.below hA1.below).st hp
          simp only [Option.some.injEq, Addr.mk.injEq, and_true] at e'
          obtain ⟨rfl, rfl⟩ := e'
          have hN := Lib.hid (upGo_at (ok := okSt n) (lt := ltSt n xs1) hk0 hp hm)
          have hpk : prevOf xs2 k = some p := by
            obtain ⟨j, rfl⟩ : ∃ j, k = j + 1 := ⟨k - 1, by omega⟩
            exact hp
          have hq := hP p hpk
          have hP' : ∀ p, prevOf xs2 (k + 1) = some p → okSt n p = true := fun p hp => by
            have e : m = p := by simpa [prevOf, hm] using hp
            rw [← e]; exact hok
          have HP' := Lib.hid hP'
          have HOK := Lib.hid hok
          obtain ⟨⟨B, hmB, hB1⟩, hmf, hmf2, _, _⟩ := okSt_bd hok
          obtain ⟨⟨A, hpA, hA0⟩, _, _, hpt, hpt2⟩ := okSt_bd hq
          clear hP hP' hok hq hm hp at0 hpk
          obtain ⟨pp, pf, pt⟩ := p
          obtain ⟨mp, mf, mt⟩ := m
          simp only at hmB hmf hmf2 hpA hpt hpt2 F0 F1 p0 p1 p2
          subst hmB hpA
          have hbd := HT.out A B hA0 hB1
          have hl : ltSt n xs1 ⟨A, pf, pt⟩ ⟨B, mf, mt⟩ = (decide (travM n xs1 A B < 1000000) && decide (pt < mf) && decide (pt + travM n xs1 A B ≤ mf)) := rfl
          have hA2 : (A : Int) < (n : Int) := by omega
          have hB2 : (B : Int) < (n : Int) := by omega
          have hw1 : IntKind.i64.wrap ((k : Int) - 1) = (k : Int) - 1 := by rw [IntKind.wrap_i64]; omega
          have hk4 : (0 : Int) ≤ (k : Int) - 1 := by omega
          have hk5 : (k : Int) - 1 < (xs2.length : Int) := by omega
          have hk6 : ((k : Int) - 1).toNat = k - 1 := by omega
          have hk7 : (1 : Int) ≤ (k : Int) := by omega
          have hk8 : ((k : Int) == 0) = false := by simp; omega
          go_upto_region 8 with (fail)
          generalize hW : w1.alloc (.cells #[.int .i64 A, .int .i64 pf, .int .i64 pt] 49) = W2
          have hBW : Below w1.heap.size w1 W2 := by rw [← hW]; go_grown
          have hE : w1.heap.size < W2.heap.size := by rw [← hW]; simp
          have G0 : W2.cell? ⟨w1.heap.size, 0, none⟩ = some (.int .i64 A) := by rw [← hW]; exact World.cell?_alloc_at _ _ _ _ rfl
          have G2 : W2.cell? ⟨w1.heap.size, 2, none⟩ = some (.int .i64 pt) := by rw [← hW]; exact World.cell?_alloc_at _ _ _ _ rfl
          have F0 := (hBW.cell (p := ⟨bw, 0, none⟩) hD1).trans F0
          have F1 := (hBW.cell (p := ⟨bw, 1, none⟩) hD1).trans F1
          have hD2 := Nat.lt_of_lt_of_le hD1 hBW.size
          have hA3 := hA1.step hBW
          have hM2 := hM.below hA3.below
          clear hW p0 p1 p2 hb hA1 hBW hD1
          generalize w1.heap.size = bp at hE G0 G2 ⊢
          have C0 := Later.cell F0 hD2
          have C1 := Later.cell G0 hE
          have C2 := Later.cell (hM2.hcell hA0) hM2.hlt.2
          have C3 := Later.cell (hM2.cell hA0 hB1) (hM2.lt hA0).2
          generalize travM n xs1 A B = T at C3 hl hbd
          refine wp_region_later W2 (by kernel_rfl) (by kernel_rfl) ?_
          repeat (go_big_quiet_step (fail))
          refine wpQuiet_nil ?_
          intro z
          have hz := z.prop
          generalize z.val = W3 at hz
          clear C0 C1 C2 C3 hM2
          have F1 := (hz.cell (p := ⟨bw, 1, none⟩) hD2).trans F1
          have G2 := (hz.cell (p := ⟨bp, 2, none⟩) hE).trans G2
          have hA4 := hA3.step hz
          clear F0 G0 hz hA3
          by_cases ht : T < 1000000
          · have ht2 : ¬ 1000000 ≤ T := by omega
            by_cases h1 : mf ≤ pt
            · have hlf : Hid (ltSt n xs1 ⟨A, pf, pt⟩ ⟨B, mf, mt⟩ = false) := by unfold Hid; rw [hl, decide_eq_false (show ¬ pt < mf by omega)]; simp
              clear hl
              go_wp2
              go_ret
              exact ⟨ret_bool (by rw [hH.out, hN.out, HOK.out, hlf.out]; rfl), hA4.below⟩
            · by_cases h2 : mf < pt + T
              · have hlf : Hid (ltSt n xs1 ⟨A, pf, pt⟩ ⟨B, mf, mt⟩ = false) := by unfold Hid; rw [hl, decide_eq_false (show ¬ pt + T ≤ mf by omega)]; simp
                clear hl
                go_wp2
                go_ret
                exact ⟨ret_bool (by rw [hH.out, hN.out, HOK.out, hlf.out]; rfl), hA4.below⟩
              · have hlt' : Hid (ltSt n xs1 ⟨A, pf, pt⟩ ⟨B, mf, mt⟩ = true) := by
                  unfold Hid; rw [hl, decide_eq_true ht, decide_eq_true (show pt < mf by omega), decide_eq_true (show pt + T ≤ mf by omega)]; rfl
                clear hl
                go_wp2
                go_roundw
                case rel => exact ⟨k + 1, by omega, by go_num, by unfold Hid; rw [hH.out, hN.out, HOK.out, hlt'.out]; rfl, HP'.out, hA4⟩
                case measure => simp [intOf]; omega
          · have ht2 : 1000000 ≤ T := by omega
            have hlf : Hid (ltSt n xs1 ⟨A, pf, pt⟩ ⟨B, mf, mt⟩ = false) := by unfold Hid; rw [hl, decide_eq_false ht]; rfl
            clear hl
            go_wp2
            go_ret
            exact ⟨ret_bool (by rw [hH.out, hN.out, HOK.out, hlf.out]; rfl), hA4.below⟩
    · obtain rfl : k = xs2.length := by omega
      go_wp2
      go_ret
      exact ⟨ret_bool (by rw [hH.out, upGo_end (Nat.le_refl _)]; simp; omega), hAt.below⟩

set_option maxHeartbeats 4000000 in
theorem implIsItin_any (a0 a1 a2 : Option Addr) (cap0 cap1 cap2 : Nat) (xs0 : List ByteArray) (xs1 : List Wy) (xs2 : List St) (w : World) (hc0 : xs0.length ≤ cap0) (hc1 : cap0 ≤ 9223372036854775807) (hl0 : xs0.length ≤ 1048576) (hx0 : Rd encS w a0 xs0) (hs0 : ∀ m ∈ xs0, m.size ≤ 1048576) (hl1 : xs1.length ≤ 1048576) (hx1 : Rd encWy w a1 xs1) (hl2 : xs2.length ≤ 1048576) (hx2 : Rd encSt w a2 xs2) :
    Calls Tryz.prog 24 #[.agg #[.slice a0 xs0.length cap0, .slice a1 xs1.length cap1], .slice a2 xs2.length cap2] w fun e w' => e = .returned (.bool (isItinB xs0 xs1 xs2)) ∧ Below w.heap.size w w' := by
  cases hA : isLandB xs0 xs1
  · have HM := Lib.hid (fun W (h0 : Rd encS W a0 xs0) (h1 : Rd encWy W a1 xs1) => hA ▸ implIsLand_any a0 a1 cap0 cap1 xs0 xs1 W hc0 hc1 hl0 h0 hs0 hl1 h1)
    have hR : Hid (isItinB xs0 xs1 xs2 = false) := by unfold Hid isItinB; rw [hA]; rfl
    clear hA
    go_enter Tryz.func24, Tryz.ntmps24
    go_wp2_with fail
    generalize hW : w.alloc (.cells #[.slice a0 xs0.length cap0, .slice a1 xs1.length cap1] 35) = W
    have hA0 : At w [.slice a0 xs0.length cap0, .slice a1 xs1.length cap1] W := hW ▸ At.start _ _ _
    clear hW
    have E0 := Later.cell (hA0.cell 0 _ rfl) hA0.size
    have E1 := Later.cell (hA0.cell 1 _ rfl) hA0.size
    have hx0' := hx0.below hA0.below
    have hx1' := hx1.below hA0.below
    refine wp_region_later W (by kernel_rfl) (by kernel_rfl) ?_
    repeat (go_big_quiet_step ((go_at_call 63; exact Later.call (Nat.le_refl _) (HM.out _ (hx0'.below (Later.prop _)) (hx1'.below (Later.prop _))))))
    refine wpQuiet_nil ?_
    intro z
    have hz := z.prop
    generalize z.val = w2 at hz
    clear E0 E1
    go_wp2
    go_ret
    exact ⟨ret_bool hR.out.symm, stepB hA0.below hz hA0.below.size⟩
  · have HM := Lib.hid (fun W (h0 : Rd encS W a0 xs0) (h1 : Rd encWy W a1 xs1) => hA ▸ implIsLand_any a0 a1 cap0 cap1 xs0 xs1 W hc0 hc1 hl0 h0 hs0 hl1 h1)
    have HF := Lib.hid (fun W (h1 : Rd encWy W a1 xs1) => trav_any a0 a1 cap0 cap1 xs0 xs1 W hA h1)
    have hT := fun a b (ha : a < xs0.length) (hb : b < xs0.length) => trav_bd hA ha hb
    have HS := Lib.hid (fun W B0 H c g (hM : Mat B0 W H c xs0.length xs0.length g (travM xs0.length xs1)) (h2 : Rd encSt W a2 xs2) => areStays_any a0 a1 a2 cap0 cap1 cap2 xs0.length xs1.length H c B0 g xs1 xs2 W (landOk hA).2.2.1 hT hM hl2 h2)
    have hR : Hid (isItinB xs0 xs1 xs2 = (areStaysB xs0.length xs1 xs2 && decide (xs2.length ≤ 40))) := by unfold Hid isItinB; rw [hA]; rfl
    clear hA hT
    generalize (areStaysB xs0.length xs1 xs2 && decide (xs2.length ≤ 40)) = V at HS hR
    go_enter Tryz.func24, Tryz.ntmps24
    go_wp2_with fail
    generalize hW : w.alloc (.cells #[.slice a0 xs0.length cap0, .slice a1 xs1.length cap1] 35) = W
    have hA0 : At w [.slice a0 xs0.length cap0, .slice a1 xs1.length cap1] W := hW ▸ At.start _ _ _
    clear hW
    have b0 := hA0.cell 0 _ rfl
    have b1 := hA0.cell 1 _ rfl
    have hs := hA0.size
    have hBd : Below w.heap.size w W.drew := hA0.below.drew
    go_region_held3 (fun w' => w'.cell? ⟨w.heap.size, 0, none⟩ = some (.slice a0 xs0.length cap0) ∧ w'.cell? ⟨w.heap.size, 1, none⟩ = some (.slice a1 xs1.length cap1))
      (first | go_keep | (exact ⟨(hB3.cell (p := ⟨w.heap.size, 0, none⟩) hs).trans b0, (hB3.cell (p := ⟨w.heap.size, 1, none⟩) hs).trans b1⟩) | (exact ⟨(hB4.cell (p := ⟨w.heap.size, 0, none⟩) hs3).trans d0, (hB4.cell (p := ⟨w.heap.size, 1, none⟩) hs3).trans d1⟩) | (exact ⟨(hB5.cell (p := ⟨w.heap.size, 0, none⟩) hs4).trans e0, (hB5.cell (p := ⟨w.heap.size, 1, none⟩) hs4).trans e1⟩))
      (first
        | (go_at_call 63; refine (HM.out _ (hx0.below hBd) (hx1.below hBd)).mono ?_; rintro e w3 ⟨rfl, hB3⟩; have hBe := stepB hBd hB3 hBd.size; have d0 := (hB3.cell (p := ⟨w.heap.size, 0, none⟩) hs).trans b0; have d1 := (hB3.cell (p := ⟨w.heap.size, 1, none⟩) hs).trans b1; have hs3 : w.heap.size < w3.heap.size := Nat.lt_of_lt_of_le hs hB3.size)
        | (go_at_call 42; refine (HF.out _ (hx1.below hBe)).mono ?_; rintro e w4 ⟨H, c, g, rfl, hM, hB4⟩; have hBf := stepB hBe hB4 hBe.size; have e0 := (hB4.cell (p := ⟨w.heap.size, 0, none⟩) hs3).trans d0; have e1 := (hB4.cell (p := ⟨w.heap.size, 1, none⟩) hs3).trans d1; have hs4 : w.heap.size < w4.heap.size := Nat.lt_of_lt_of_le hs3 hB4.size)
        | (go_at_call 64; refine (HS.out _ _ H c g hM (hx2.below hBf)).mono ?_; rintro e w5 ⟨rfl, hB5⟩))
    have hBz := stepB hBf hB5 hBf.size
    go_wp2
    go_ret
    exact ⟨ret_bool hR.out.symm, hBz⟩
end

section
open Go.ChangeShapes Go.WideShapes Go.ChangeAt Go.RowKit

set_option maxHeartbeats 400000 in
theorem indexFunc_checkStays_1 (q : Addr) (a : Option Addr) (cap : Nat) (xs : List Int) (p : Int → Bool) (w : World) (hl : xs.length ≤ 1048576) (hx : Rd encI w a xs)
    (hf : ∀ W, Below w.heap.size w W → ∀ m ∈ xs, Calls Tryz.prog 84 #[.int .i64 m, .pointer (some q)] W fun e w' => e = .returned (.bool (p m)) ∧ Below W.heap.size W w') :
    Calls Tryz.prog 132 #[.slice a xs.length cap, .func (.func 84) #[] #[.pointer (some q)]] w fun e w' => e = .returned (.int .i64 (fidx p xs 0)) ∧ Below w.heap.size w w' := by
  have HF := Lib.hid hf
  clear hf
  go_enter Tryz.func132, Tryz.ntmps132
  go_wp2
  go_loopw [8] (fun i wr => ∃ (k : Nat), k ≤ xs.length ∧ i = .int .i64 k ∧ Hid (fidx p xs 0 = fidx p (xs.drop k) k) ∧ Below w.heap.size w wr) (fun i _ => xs.length - (intOf i).toNat)
  case atStart => exact ⟨0, Nat.zero_le _, rfl, rfl, Below.refl _ _⟩
  case round =>
    obtain ⟨k, hk, rfl, hH, hB⟩ := hrel
    by_cases hlt : k < xs.length
    · have hm := List.getElem?_eq_getElem hlt
      generalize xs[k] = m at hm
      obtain ⟨b, off, rfl, hb, c0⟩ := (hx.below hB).i hm
      have hd := Lib.hid (fidx_drop p k k hm)
      have hc := HF.out wr hB m (List.mem_of_getElem? hm)
      have hk1 : (k : Int) < (xs.length : Int) := by omega
      clear hm
      cases hp : p m
      · rw [hp] at hc
        have HC := Lib.hid hc
        clear hc
        go_wp2_with fail
        refine HC.out.mono ?_
        rintro e w1 ⟨rfl, hB1⟩
        go_wp2
        go_roundw
        case rel => exact ⟨k + 1, by omega, by go_num, by unfold Hid; rw [hH.out, hd.out, hp]; rfl, stepB hB hB1 hB.size⟩
        case measure => simp [intOf]; omega
      · rw [hp] at hc
        have HC := Lib.hid hc
        clear hc
        go_wp2_with fail
        refine HC.out.mono ?_
        rintro e w1 ⟨rfl, hB1⟩
        go_wp2
        go_ret
        exact ⟨ret_int (by rw [hH.out, hd.out, hp]; rfl), stepB hB hB1 hB.size⟩
    · go_wp2
      go_ret
      exact ⟨ret_int (by rw [hH.out, List.drop_eq_nil_of_le (by omega)]; rfl), hB⟩
theorem containsFunc_checkStays_1 (q : Addr) (a : Option Addr) (cap : Nat) (xs : List Int) (p : Int → Bool) (w : World) (hl : xs.length ≤ 1048576) (hx : Rd encI w a xs) (hf : ∀ W, Below w.heap.size w W → ∀ m ∈ xs, Calls Tryz.prog 84 #[.int .i64 m, .pointer (some q)] W fun e w' => e = .returned (.bool (p m)) ∧ Below W.heap.size W w') : Calls Tryz.prog 83 #[.slice a xs.length cap, .func (.func 84) #[] #[.pointer (some q)]] w fun e w' => e = .returned (.bool (xs.any p)) ∧ Below w.heap.size w w' := by
  have HC := Lib.hid (indexFunc_checkStays_1 q a cap xs p w hl hx hf)
  clear hf
  have hd := fidx_any p xs
  generalize fidx p xs 0 = r at *
  have HD := Lib.hid hd
  clear hd
  go_enter Tryz.func83, Tryz.ntmps83
  go_wp2_with fail
  refine HC.out.mono ?_
  rintro e w1 ⟨rfl, hB1⟩
  go_wp2
  go_ret
  exact ⟨ret_bool HD.out, hB1⟩
end

section
open Go.ChangeShapes Go.WideShapes Go.ChangeAt Go.RowKit

set_option maxHeartbeats 400000 in
theorem indexFunc_checkStays_2 (a : Option Addr) (cap : Nat) (xs : List Int) (p : Int → Bool) (w : World) (hl : xs.length ≤ 1048576) (hx : Rd encI w a xs)
    (hf : ∀ W, Below w.heap.size w W → ∀ m ∈ xs, Calls Tryz.prog 86 #[.int .i64 m] W fun e w' => e = .returned (.bool (p m)) ∧ Below W.heap.size W w') :
    Calls Tryz.prog 132 #[.slice a xs.length cap, .func (.func 86) #[] #[]] w fun e w' => e = .returned (.int .i64 (fidx p xs 0)) ∧ Below w.heap.size w w' := by
  have HF := Lib.hid hf
  clear hf
  go_enter Tryz.func132, Tryz.ntmps132
  go_wp2
  go_loopw [8] (fun i wr => ∃ (k : Nat), k ≤ xs.length ∧ i = .int .i64 k ∧ Hid (fidx p xs 0 = fidx p (xs.drop k) k) ∧ Below w.heap.size w wr) (fun i _ => xs.length - (intOf i).toNat)
  case atStart => exact ⟨0, Nat.zero_le _, rfl, rfl, Below.refl _ _⟩
  case round =>
    obtain ⟨k, hk, rfl, hH, hB⟩ := hrel
    by_cases hlt : k < xs.length
    · have hm := List.getElem?_eq_getElem hlt
      generalize xs[k] = m at hm
      obtain ⟨b, off, rfl, hb, c0⟩ := (hx.below hB).i hm
      have hd := Lib.hid (fidx_drop p k k hm)
      have hc := HF.out wr hB m (List.mem_of_getElem? hm)
      have hk1 : (k : Int) < (xs.length : Int) := by omega
      clear hm
      cases hp : p m
      · rw [hp] at hc
        have HC := Lib.hid hc
        clear hc
        go_wp2_with fail
        refine HC.out.mono ?_
        rintro e w1 ⟨rfl, hB1⟩
        go_wp2
        go_roundw
        case rel => exact ⟨k + 1, by omega, by go_num, by unfold Hid; rw [hH.out, hd.out, hp]; rfl, stepB hB hB1 hB.size⟩
        case measure => simp [intOf]; omega
      · rw [hp] at hc
        have HC := Lib.hid hc
        clear hc
        go_wp2_with fail
        refine HC.out.mono ?_
        rintro e w1 ⟨rfl, hB1⟩
        go_wp2
        go_ret
        exact ⟨ret_int (by rw [hH.out, hd.out, hp]; rfl), stepB hB hB1 hB.size⟩
    · go_wp2
      go_ret
      exact ⟨ret_int (by rw [hH.out, List.drop_eq_nil_of_le (by omega)]; rfl), hB⟩
theorem containsFunc_checkStays_2 (a : Option Addr) (cap : Nat) (xs : List Int) (p : Int → Bool) (w : World) (hl : xs.length ≤ 1048576) (hx : Rd encI w a xs) (hf : ∀ W, Below w.heap.size w W → ∀ m ∈ xs, Calls Tryz.prog 86 #[.int .i64 m] W fun e w' => e = .returned (.bool (p m)) ∧ Below W.heap.size W w') : Calls Tryz.prog 83 #[.slice a xs.length cap, .func (.func 86) #[] #[]] w fun e w' => e = .returned (.bool (xs.any p)) ∧ Below w.heap.size w w' := by
  have HC := Lib.hid (indexFunc_checkStays_2 a cap xs p w hl hx hf)
  clear hf
  have hd := fidx_any p xs
  generalize fidx p xs 0 = r at *
  have HD := Lib.hid hd
  clear hd
  go_enter Tryz.func83, Tryz.ntmps83
  go_wp2_with fail
  refine HC.out.mono ?_
  rintro e w1 ⟨rfl, hB1⟩
  go_wp2
  go_ret
  exact ⟨ret_bool HD.out, hB1⟩
end

section
open Go.ChangeShapes Go.WideShapes Go.ChangeAt Go.RowKit

set_option maxHeartbeats 400000 in
theorem indexFunc_PlaceOn_1 (q : Addr) (a : Option Addr) (cap : Nat) (xs : List St) (p : St → Bool) (w : World) (hl : xs.length ≤ 1048576) (hx : Rd encSt w a xs)
    (hf : ∀ W, Below w.heap.size w W → ∀ m ∈ xs, Calls Tryz.prog 49 #[.agg #[.int .i64 m.place, .int .i64 m.fr, .int .i64 m.to], .pointer (some q)] W fun e w' => e = .returned (.bool (p m)) ∧ Below W.heap.size W w') :
    Calls Tryz.prog 48 #[.slice a xs.length cap, .func (.func 49) #[] #[.pointer (some q)]] w fun e w' => e = .returned (.int .i64 (fidx p xs 0)) ∧ Below w.heap.size w w' := by
  have HF := Lib.hid hf
  clear hf
  go_enter Tryz.func48, Tryz.ntmps48
  go_wp2
  go_loopw [8] (fun i wr => ∃ (k : Nat), k ≤ xs.length ∧ i = .int .i64 k ∧ Hid (fidx p xs 0 = fidx p (xs.drop k) k) ∧ Below w.heap.size w wr) (fun i _ => xs.length - (intOf i).toNat)
  case atStart => exact ⟨0, Nat.zero_le _, rfl, rfl, Below.refl _ _⟩
  case round =>
    obtain ⟨k, hk, rfl, hH, hB⟩ := hrel
    by_cases hlt : k < xs.length
    · have hm := List.getElem?_eq_getElem hlt
      generalize xs[k] = m at hm
      obtain ⟨b, off, rfl, hb, c0, c1, c2⟩ := (hx.below hB).st hm
      have hd := Lib.hid (fidx_drop p k k hm)
      have hc := HF.out wr hB m (List.mem_of_getElem? hm)
      have hk1 : (k : Int) < (xs.length : Int) := by omega
      clear hm
      cases hp : p m
      · rw [hp] at hc
        have HC := Lib.hid hc
        clear hc
        go_wp2_with fail
        refine HC.out.mono ?_
        rintro e w1 ⟨rfl, hB1⟩
        go_wp2
        go_roundw
        case rel => exact ⟨k + 1, by omega, by go_num, by unfold Hid; rw [hH.out, hd.out, hp]; rfl, stepB hB hB1 hB.size⟩
        case measure => simp [intOf]; omega
      · rw [hp] at hc
        have HC := Lib.hid hc
        clear hc
        go_wp2_with fail
        refine HC.out.mono ?_
        rintro e w1 ⟨rfl, hB1⟩
        go_wp2
        go_ret
        exact ⟨ret_int (by rw [hH.out, hd.out, hp]; rfl), stepB hB hB1 hB.size⟩
    · go_wp2
      go_ret
      exact ⟨ret_int (by rw [hH.out, List.drop_eq_nil_of_le (by omega)]; rfl), hB⟩
end

section
open Go.ChangeShapes Go.WideShapes Go.ChangeAt Go.RowKit

def inStay (n : Int) (m : St) : Bool := inB n m.fr m.to
def codeI (ps : List ByteArray) (ws : List Wy) (xs : List St) (b : Bool) : Int := if isItinB ps ws xs then (if b then 0 else 2) else 1
theorem codeI_zero {ps : List ByteArray} {ws : List Wy} {xs : List St} {b : Bool} (h : codeI ps ws xs b = 0) : isItinB ps ws xs = true ∧ b = true := by
  unfold codeI at h
  cases hA : isItinB ps ws xs
  · rw [hA] at h; simp at h
  · cases b
    · rw [hA] at h; simp at h
    · exact ⟨rfl, rfl⟩
set_option maxHeartbeats 1000000 in
theorem l15At_any (a : Option Addr) (cap : Nat) (xs : List St) (z : Int) (w : World) (hl : xs.length ≤ 1048576) (hx : Rd encSt w a xs) :
    Calls Tryz.prog 51 #[.slice a xs.length cap, .int .i64 z] w fun e w' => e = .returned (.int .i64 (fidx (inStay z) xs 0)) ∧ Below w.heap.size w w' := by
  go_enter Tryz.func51, Tryz.ntmps51
  go_wp2
  go_loopw [5] (fun i wr => ∃ (k : Nat), k ≤ xs.length ∧ i = .int .i64 k ∧ Hid (fidx (inStay z) xs 0 = fidx (inStay z) (xs.drop k) k) ∧ Below w.heap.size w wr) (fun i _ => xs.length - (intOf i).toNat)
  case atStart => exact ⟨0, Nat.zero_le _, rfl, rfl, Below.refl _ _⟩
  case round =>
    obtain ⟨k, hk, rfl, hH, hB⟩ := hrel
    by_cases hlt : k < xs.length
    · have hm := List.getElem?_eq_getElem hlt
      generalize xs[k] = m at hm
      obtain ⟨b, off, rfl, hb, c0, c1, c2⟩ := (hx.below hB).st hm
      have hd := Lib.hid (fidx_drop (inStay z) k k hm)
      have hk1 : (k : Int) < (xs.length : Int) := by omega
      have C1 := Later.cell c1 hb
      have C2 := Later.cell c2 hb
      clear hm
      cases hp : inB z m.fr m.to
      · have hp' : Hid (inStay z m = false) := hp
        have HI := Lib.hid (fun W => hp ▸ l01In_any z m.fr m.to W)
        go_wp2_with fail
        refine wp_region_later wr (by kernel_rfl) (by kernel_rfl) ?_
        repeat (go_big_quiet_step ((go_at_call 92; exact Later.same (HI.out _))))
        refine wpQuiet_nil ?_
        intro z'
        have hz := z'.prop
        generalize z'.val = w2 at hz
        clear C1 C2
        go_wp2
        go_roundw
        case rel => exact ⟨k + 1, by omega, by go_num, by unfold Hid; rw [hH.out, hd.out, hp'.out]; rfl, stepB hB hz hB.size⟩
        case measure => simp [intOf]; omega
      · have hp' : Hid (inStay z m = true) := hp
        have HI := Lib.hid (fun W => hp ▸ l01In_any z m.fr m.to W)
        go_wp2_with fail
        refine wp_region_later wr (by kernel_rfl) (by kernel_rfl) ?_
        repeat (go_big_quiet_step ((go_at_call 92; exact Later.same (HI.out _))))
        refine wpQuiet_nil ?_
        intro z'
        have hz := z'.prop
        generalize z'.val = w2 at hz
        clear C1 C2
        go_wp2
        go_ret
        exact ⟨ret_int (by rw [hH.out, hd.out, hp'.out]; rfl), stepB hB hz hB.size⟩
    · go_wp2
      go_ret
      exact ⟨ret_int (by rw [hH.out, List.drop_eq_nil_of_le (by omega)]; rfl), hB⟩

set_option maxHeartbeats 1000000 in
theorem l15Code_any (a0 a1 a2 : Option Addr) (cap0 cap1 cap2 : Nat) (xs0 : List ByteArray) (xs1 : List Wy) (xs2 : List St) (b : Bool) (w : World) (hc0 : xs0.length ≤ cap0) (hc1 : cap0 ≤ 9223372036854775807) (hl0 : xs0.length ≤ 1048576) (hx0 : Rd encS w a0 xs0) (hs0 : ∀ m ∈ xs0, m.size ≤ 1048576) (hl1 : xs1.length ≤ 1048576) (hx1 : Rd encWy w a1 xs1) (hl2 : xs2.length ≤ 1048576) (hx2 : Rd encSt w a2 xs2) :
    Calls Tryz.prog 43 #[.agg #[.slice a0 xs0.length cap0, .slice a1 xs1.length cap1], .slice a2 xs2.length cap2, .bool b] w fun e w' => e = .returned (.int .i64 (codeI xs0 xs1 xs2 b)) ∧ Below w.heap.size w w' := by
  have hB0 : Below w.heap.size w (w.alloc (.cells #[.slice a0 xs0.length cap0, .slice a1 xs1.length cap1] 35)) := (Below.refl _ w).alloc (Nat.le_refl _) _
  have HM := Lib.hid (fun W (h0 : Rd encS W a0 xs0) (h1 : Rd encWy W a1 xs1) (h2 : Rd encSt W a2 xs2) => specIsItin_any a0 a1 a2 cap0 cap1 cap2 xs0 xs1 xs2 W hc0 hc1 hl0 h0 hs0 hl1 h1 hl2 h2)
  have hR : Hid (codeI xs0 xs1 xs2 b = if isItinB xs0 xs1 xs2 then (if b then 0 else 2) else 1) := rfl
  cases hA : isItinB xs0 xs1 xs2
  · have HM := Lib.hid (fun W h0 h1 h2 => hA ▸ HM.out W h0 h1 h2)
    rw [hA] at hR
    clear hA
    go_enter Tryz.func43, Tryz.ntmps43
    go_wp2_with fail
    refine (HM.out _ (hx0.below hB0) (hx1.below hB0) (hx2.below hB0)).mono ?_
    rintro e w1 ⟨rfl, hB1⟩
    go_wp2
    go_ret
    exact ⟨ret_int hR.out.symm, stepB hB0 hB1 hB0.size⟩
  · have HM := Lib.hid (fun W h0 h1 h2 => hA ▸ HM.out W h0 h1 h2)
    rw [hA] at hR
    clear hA
    cases b
    · go_enter Tryz.func43, Tryz.ntmps43
      go_wp2_with fail
      refine (HM.out _ (hx0.below hB0) (hx1.below hB0) (hx2.below hB0)).mono ?_
      rintro e w1 ⟨rfl, hB1⟩
      go_wp2
      go_ret
      exact ⟨ret_int hR.out.symm, stepB hB0 hB1 hB0.size⟩
    · go_enter Tryz.func43, Tryz.ntmps43
      go_wp2_with fail
      refine (HM.out _ (hx0.below hB0) (hx1.below hB0) (hx2.below hB0)).mono ?_
      rintro e w1 ⟨rfl, hB1⟩
      go_wp2
      go_ret
      exact ⟨ret_int hR.out.symm, stepB hB0 hB1 hB0.size⟩

set_option maxHeartbeats 1000000 in
theorem checkStays1_any (q : Nat) (m : Int) (a0 a1 : Option Addr) (cap0 cap1 n0 n1 : Nat) (w : World) (hl : n0 ≤ 1048576) (h0 : w.cell? ⟨q, 0, none⟩ = some (.slice a0 n0 cap0)) (h1 : w.cell? ⟨q, 1, none⟩ = some (.slice a1 n1 cap1)) :
    Calls Tryz.prog 84 #[.int .i64 m, .pointer (some ⟨q, 0, none⟩)] w fun e w' => e = .returned (.bool (!placeB n0 m)) ∧ Below w.heap.size w w' := by
  have HP := Lib.hid (fun W => isPlace_any a0 a1 cap0 cap1 n0 n1 m W hl)
  go_enter Tryz.func84, Tryz.ntmps84
  go_wp2_with fail
  refine (HP.out _).mono ?_
  rintro e w1 ⟨rfl, hB⟩
  go_wp2
  go_ret
  exact ⟨rfl, hB⟩
theorem checkStays2_any (m : Int) (w : World) :
    Calls Tryz.prog 86 #[.int .i64 m] w fun e w' => e = .returned (.bool (!dayB m)) ∧ Below w.heap.size w w' := by
  go_enter Tryz.func86, Tryz.ntmps86
  go_wp2_with fail
  refine (isDay_any _ _).mono ?_
  rintro e w1 ⟨rfl, rfl⟩
  go_wp2
  go_ret
  exact ⟨rfl, Below.refl _ _⟩
theorem any_not_all (p : Int → Bool) (zs : List Int) : (zs.any fun m => !p m) = !zs.all p := by
  induction zs with
  | nil => rfl
  | cons x xs ih => simp only [List.any_cons, List.all_cons, Bool.not_and, ih]

set_option maxHeartbeats 2000000 in
theorem checkStays_any (a0 a1 a2 a3 a4 : Option Addr) (cap0 cap1 cap2 cap3 cap4 : Nat) (xs0 : List ByteArray) (xs1 : List Wy) (xs2 : List St) (ys zs : List Int) (w : World) (hc0 : xs0.length ≤ cap0) (hc1 : cap0 ≤ 9223372036854775807) (hl0 : xs0.length ≤ 1048576) (hx0 : Rd encS w a0 xs0) (hs0 : ∀ m ∈ xs0, m.size ≤ 1048576) (hl1 : xs1.length ≤ 1048576) (hx1 : Rd encWy w a1 xs1) (hl2 : xs2.length ≤ 1048576) (hx2 : Rd encSt w a2 xs2) (hl3 : ys.length ≤ 1048576) (hx3 : Rd encI w a3 ys) (hl4 : zs.length ≤ 1048576) (hx4 : Rd encI w a4 zs) :
    Calls Tryz.prog 39 #[.agg #[.slice a0 xs0.length cap0, .slice a1 xs1.length cap1], .slice a2 xs2.length cap2, .slice a3 ys.length cap3, .slice a4 zs.length cap4] w fun e w' => e = .returned (.int .i64 (codeI xs0 xs1 xs2 (ys.all (placeB xs0.length) && zs.all dayB))) ∧ Below w.heap.size w w' := by
  have hA0 : At w [.slice a0 xs0.length cap0, .slice a1 xs1.length cap1] (w.alloc (.cells #[.slice a0 xs0.length cap0, .slice a1 xs1.length cap1] 35)) := At.start _ _ _
  have HM := Lib.hid (fun W (hAt : At w [.slice a0 xs0.length cap0, .slice a1 xs1.length cap1] W) => implIsItin_any a0 a1 a2 cap0 cap1 cap2 xs0 xs1 xs2 W hc0 hc1 hl0 (hx0.below hAt.below) hs0 hl1 (hx1.below hAt.below) hl2 (hx2.below hAt.below))
  have hR : Hid (codeI xs0 xs1 xs2 (ys.all (placeB xs0.length) && zs.all dayB) = if isItinB xs0 xs1 xs2 then (if (ys.all (placeB xs0.length) && zs.all dayB) then 0 else 2) else 1) := rfl
  have hmf : ∀ (fn : Fn) (first cap : Array Value) (w : World), (Instr.makeFunc fn first cap).run Tryz.prog w = .ok (.func fn first cap) w := fun _ _ _ _ => rfl
  have hct1 := fun W (hAt : At w [.slice a0 xs0.length cap0, .slice a1 xs1.length cap1] W) => containsFunc_checkStays_1 ⟨w.heap.size, 0, none⟩ a3 cap3 ys (fun m => !placeB xs0.length m) W hl3 (hx3.below hAt.below) (fun W' hW' m _ => checkStays1_any w.heap.size m a0 a1 cap0 cap1 xs0.length xs1.length W' hl0 ((hAt.step hW').cell 0 _ rfl) ((hAt.step hW').cell 1 _ rfl))
  have hct2 := fun W (hAt : At w [.slice a0 xs0.length cap0, .slice a1 xs1.length cap1] W) => containsFunc_checkStays_2 a4 cap4 zs (fun m => !dayB m) W hl4 (hx4.below hAt.below) (fun W' _ m _ => checkStays2_any m W')
  rw [any_not_all (placeB xs0.length)] at hct1
  rw [any_not_all dayB] at hct2
  have HC1 := Lib.hid hct1
  have HC2 := Lib.hid hct2
  clear hct1 hct2
  cases hA : isItinB xs0 xs1 xs2
  · have HM := Lib.hid (fun W h => hA ▸ HM.out W h)
    rw [hA] at hR
    clear hA
    go_enter Tryz.func39, Tryz.ntmps39
    go_wp2_with fail
    refine (HM.out _ hA0).mono ?_
    rintro e w1 ⟨rfl, hB1⟩
    go_wp2
    go_ret
    exact ⟨ret_int hR.out.symm, (hA0.step hB1).below⟩
  · have HM := Lib.hid (fun W h => hA ▸ HM.out W h)
    rw [hA] at hR
    clear hA
    cases hy : ys.all (placeB xs0.length)
    · rw [hy] at hR
      have HC1 := Lib.hid (fun W h => hy ▸ HC1.out W h)
      clear hy
      go_enter Tryz.func39, Tryz.ntmps39
      go_wp2_with fail
      refine (HM.out _ hA0).mono ?_
      rintro e w1 ⟨rfl, hB1⟩
      have hA1 := hA0.step hB1
      clear hA0 hB1
      go_wp2_with fail
      refine (HC1.out _ hA1).mono ?_
      rintro e w2 ⟨rfl, hB2⟩
      go_wp2
      go_ret
      exact ⟨ret_int hR.out.symm, (hA1.step hB2).below⟩
    · rw [hy] at hR
      have HC1 := Lib.hid (fun W h => hy ▸ HC1.out W h)
      clear hy
      cases hz : zs.all dayB
      · rw [hz] at hR
        have HC2 := Lib.hid (fun W h => hz ▸ HC2.out W h)
        clear hz
        go_enter Tryz.func39, Tryz.ntmps39
        go_wp2_with fail
        refine (HM.out _ hA0).mono ?_
        rintro e w1 ⟨rfl, hB1⟩
        have hA1 := hA0.step hB1
        clear hA0 hB1
        go_wp2_with fail
        refine (HC1.out _ hA1).mono ?_
        rintro e w2 ⟨rfl, hB2⟩
        have hA2 := hA1.step hB2
        clear hA1 hB2
        go_wp2_with fail
        refine (HC2.out _ hA2).mono ?_
        rintro e w3 ⟨rfl, hB3⟩
        go_wp2
        go_ret
        exact ⟨ret_int hR.out.symm, (hA2.step hB3).below⟩
      · rw [hz] at hR
        have HC2 := Lib.hid (fun W h => hz ▸ HC2.out W h)
        clear hz
        go_enter Tryz.func39, Tryz.ntmps39
        go_wp2_with fail
        refine (HM.out _ hA0).mono ?_
        rintro e w1 ⟨rfl, hB1⟩
        have hA1 := hA0.step hB1
        clear hA0 hB1
        go_wp2_with fail
        refine (HC1.out _ hA1).mono ?_
        rintro e w2 ⟨rfl, hB2⟩
        have hA2 := hA1.step hB2
        clear hA1 hB2
        go_wp2_with fail
        refine (HC2.out _ hA2).mono ?_
        rintro e w3 ⟨rfl, hB3⟩
        go_wp2
        go_ret
        exact ⟨ret_int hR.out.symm, (hA2.step hB3).below⟩

def placeOnR (xs : List St) (z c : Int) : Int × Int :=
  if c = 0 then (if fidx (inStay z) xs 0 < 0 then (0, 4) else (match xs[(fidx (inStay z) xs 0).toNat]? with | some m => m.place | none => 0, 0)) else (0, c)
set_option maxHeartbeats 2000000 in
theorem specPlaceOn_any (a0 a1 a2 : Option Addr) (cap0 cap1 cap2 : Nat) (xs0 : List ByteArray) (xs1 : List Wy) (xs2 : List St) (z : Int) (w : World) (hc0 : xs0.length ≤ cap0) (hc1 : cap0 ≤ 9223372036854775807) (hl0 : xs0.length ≤ 1048576) (hx0 : Rd encS w a0 xs0) (hs0 : ∀ m ∈ xs0, m.size ≤ 1048576) (hl1 : xs1.length ≤ 1048576) (hx1 : Rd encWy w a1 xs1) (hl2 : xs2.length ≤ 1048576) (hx2 : Rd encSt w a2 xs2) :
    Calls Tryz.prog 16 #[.agg #[.slice a0 xs0.length cap0, .slice a1 xs1.length cap1], .slice a2 xs2.length cap2, .int .i64 z] w fun e w' => e = .returned (.tuple #[.int .i64 (placeOnR xs2 z (codeI xs0 xs1 xs2 (dayB z))).1, .int .i64 (placeOnR xs2 z (codeI xs0 xs1 xs2 (dayB z))).2]) ∧ Below w.heap.size w w' := by
  have HC := Lib.hid (fun W (h0 : Rd encS W a0 xs0) (h1 : Rd encWy W a1 xs1) (h2 : Rd encSt W a2 xs2) => l15Code_any a0 a1 a2 cap0 cap1 cap2 xs0 xs1 xs2 (dayB z) W hc0 hc1 hl0 h0 hs0 hl1 h1 hl2 h2)
  have HI := Lib.hid (fun W (h2 : Rd encSt W a2 xs2) => l15At_any a2 cap2 xs2 z W hl2 h2)
  generalize codeI xs0 xs1 xs2 (dayB z) = c at HC ⊢
  go_enter Tryz.func16, Tryz.ntmps16
  go_wp2_with fail
  generalize hW : w.alloc (.cells #[.slice a0 xs0.length cap0, .slice a1 xs1.length cap1] 35) = W
  have hA0 : At w [.slice a0 xs0.length cap0, .slice a1 xs1.length cap1] W := hW ▸ At.start _ _ _
  clear hW
  have E0 := Later.cell (hA0.cell 0 _ rfl) hA0.size
  have E1 := Later.cell (hA0.cell 1 _ rfl) hA0.size
  have hx0' := hx0.below hA0.below
  have hx1' := hx1.below hA0.below
  have hx2' := hx2.below hA0.below
  refine wp_region_later W (by kernel_rfl) (by kernel_rfl) ?_
  repeat (go_big_quiet_step ((first | (go_at_call 45; exact Later.same (l01Day_any _ _)) | (go_at_call 43; exact Later.call (Nat.le_refl _) (HC.out _ (hx0'.below (Later.prop _)) (hx1'.below (Later.prop _)) (hx2'.below (Later.prop _)))))))
  refine wpQuiet_nil ?_
  intro z'
  have hz := z'.prop
  generalize z'.val = w1 at hz
  have hA1 := hA0.step hz
  clear E0 E1 hA0 hz hx0' hx1' hx2' HC
  by_cases hc : c = 0
  · subst hc
    have hR : Hid (placeOnR xs2 z 0 = if fidx (inStay z) xs2 0 < 0 then (0, 4) else (match xs2[(fidx (inStay z) xs2 0).toNat]? with | some m => m.place | none => 0, 0)) := rfl
    go_wp2_with fail
    refine (HI.out _ (hx2.below hA1.below)).mono ?_
    rintro e w2 ⟨rfl, hB2⟩
    have hA2 := hA1.step hB2
    clear hA1 hB2
    rcases fidx_bd (inStay z) xs2 0 with e | ⟨k, m, e, hk, hm, _⟩
    · rw [e] at hR ⊢
      go_wp2
      go_ret2
      rw [hR.out]
      exact ⟨rfl, hA2.below⟩
    · rw [Nat.zero_add] at e
      rw [e] at hR ⊢
      have hR : Hid (placeOnR xs2 z 0 = (m.place, 0)) := by
        unfold Hid
        rw [hR.out, if_neg (by omega)]
        simp [hm]
      obtain ⟨b, off, rfl, hb, c0, _, _⟩ := (hx2.below hA2.below).st hm
      have hk1 : (k : Int) < (xs2.length : Int) := by omega
      clear hm
      go_wp2
      go_ret2
      rw [hR.out]
      exact ⟨rfl, hA2.below⟩
  · have hR : Hid (placeOnR xs2 z c = (0, c)) := by unfold Hid placeOnR; rw [if_neg hc]
    have hc2 : (c != 0) = true := by simpa using hc
    go_wp2
    go_ret2
    rw [hR.out]
    exact ⟨rfl, hA1.below⟩

theorem placeOn1_any (q : Nat) (z : Int) (m : St) (w : World) (h0 : w.cell? ⟨q, 0, none⟩ = some (.int .i64 z)) :
    Calls Tryz.prog 49 #[.agg #[.int .i64 m.place, .int .i64 m.fr, .int .i64 m.to], .pointer (some ⟨q, 0, none⟩)] w fun e w' => e = .returned (.bool (inStay z m)) ∧ Below w.heap.size w w' := by
  have hq := World.block_lt_of_cell? w _ h0
  simp only at hq
  have hb : Below w.heap.size w (w.alloc (.cells #[.int .i64 m.place, .int .i64 m.fr, .int .i64 m.to] 49)) := (Below.refl _ w).alloc (Nat.le_refl _) _
  have h0' := (hb.cell (p := ⟨q, 0, none⟩) hq).trans h0
  go_enter Tryz.func49, Tryz.ntmps49
  go_wp2_with fail
  refine (within_any _ _ _ _).mono ?_
  rintro e w1 ⟨rfl, rfl⟩
  go_wp2
  go_ret
  exact ⟨rfl, by go_grown⟩

set_option maxHeartbeats 2000000 in
theorem implPlaceOn_any (a0 a1 a2 : Option Addr) (cap0 cap1 cap2 : Nat) (xs0 : List ByteArray) (xs1 : List Wy) (xs2 : List St) (z : Int) (w : World) (hc0 : xs0.length ≤ cap0) (hc1 : cap0 ≤ 9223372036854775807) (hl0 : xs0.length ≤ 1048576) (hx0 : Rd encS w a0 xs0) (hs0 : ∀ m ∈ xs0, m.size ≤ 1048576) (hl1 : xs1.length ≤ 1048576) (hx1 : Rd encWy w a1 xs1) (hl2 : xs2.length ≤ 1048576) (hx2 : Rd encSt w a2 xs2) :
    Calls Tryz.prog 15 #[.agg #[.slice a0 xs0.length cap0, .slice a1 xs1.length cap1], .slice a2 xs2.length cap2, .int .i64 z] w fun e w' => e = .returned (.tuple #[.int .i64 (placeOnR xs2 z (codeI xs0 xs1 xs2 (dayB z))).1, .int .i64 (placeOnR xs2 z (codeI xs0 xs1 xs2 (dayB z))).2]) ∧ Below w.heap.size w w' := by
  have hB3 : Below w.heap.size w (((w.alloc (.cells #[.slice a0 xs0.length cap0, .slice a1 xs1.length cap1] 35)).alloc (.cells #[.int .i64 z] 2)).alloc (.cells #[.int .i64 z] 2)) := by go_grown
  have hs3 : (((w.alloc (.cells #[.slice a0 xs0.length cap0, .slice a1 xs1.length cap1] 35)).alloc (.cells #[.int .i64 z] 2)).alloc (.cells #[.int .i64 z] 2)).heap.size = w.heap.size + 3 := by simp
  have hq : (((w.alloc (.cells #[.slice a0 xs0.length cap0, .slice a1 xs1.length cap1] 35)).alloc (.cells #[.int .i64 z] 2)).alloc (.cells #[.int .i64 z] 2)).cell? ⟨w.heap.size + 1, 0, none⟩ = some (.int .i64 z) := by
    rw [World.cell?_alloc_past _ _ _ (by simp)]; exact World.cell?_alloc_at _ _ _ _ (by simp)
  have hrd : Rd encI (((w.alloc (.cells #[.slice a0 xs0.length cap0, .slice a1 xs1.length cap1] 35)).alloc (.cells #[.int .i64 z] 2)).alloc (.cells #[.int .i64 z] 2)) (some ⟨w.heap.size + 2, 0, none⟩) [z] := by
    intro i x hi
    refine ⟨w.heap.size + 2, 0, rfl, by simp, fun j v hv => ?_⟩
    rw [World.cell?_alloc_at _ _ _ _ (by simp)]
    match i, hi with
    | 0, hi => cases hi; match j, hv with | 0, hv => cases hv; rfl
  have HRD := Lib.hid hrd
  have HC := Lib.hid (fun W (hB : Below w.heap.size w W) (hr : Rd encI W (some ⟨w.heap.size + 2, 0, none⟩) [z]) => checkStays_any a0 a1 a2 none (some ⟨w.heap.size + 2, 0, none⟩) cap0 cap1 cap2 0 1 xs0 xs1 xs2 [] [z] W hc0 hc1 hl0 (hx0.below hB) hs0 hl1 (hx1.below hB) hl2 (hx2.below hB) (by simp) (Rd.nil _ _ _) (by simp) hr)
  have hbe : (([] : List Int).all (placeB xs0.length) && [z].all dayB) = dayB z := by simp
  rw [hbe] at HC
  have HI := Lib.hid (fun W (hB : Below w.heap.size w W) (h0 : W.cell? ⟨w.heap.size + 1, 0, none⟩ = some (.int .i64 z)) (hlt : w.heap.size + 1 < W.heap.size) => indexFunc_PlaceOn_1 ⟨w.heap.size + 1, 0, none⟩ a2 cap2 xs2 (inStay z) W hl2 (hx2.below hB) (fun W' hW' m _ => placeOn1_any (w.heap.size + 1) z m W' ((hW'.cell (p := ⟨w.heap.size + 1, 0, none⟩) hlt).trans h0)))
  have hmf : ∀ (fn : Fn) (first cap : Array Value) (w : World), (Instr.makeFunc fn first cap).run Tryz.prog w = .ok (.func fn first cap) w := fun _ _ _ _ => rfl
  generalize codeI xs0 xs1 xs2 (dayB z) = c at HC ⊢
  clear hbe hrd
  go_enter Tryz.func15, Tryz.ntmps15
  go_wp2_with fail
  refine (HC.out _ hB3 HRD.out).mono ?_
  rintro e w1 ⟨rfl, hB1⟩
  have hB := stepB hB3 hB1 hB3.size
  have hq1 := (hB1.cell (p := ⟨w.heap.size + 1, 0, none⟩) (by rw [hs3]; simp)).trans hq
  have hlt1 : w.heap.size + 1 < w1.heap.size := by have := hB1.size; omega
  clear hB3 hs3 hq hB1 HRD HC
  by_cases hc : c = 0
  · subst hc
    have hR : Hid (placeOnR xs2 z 0 = if fidx (inStay z) xs2 0 < 0 then (0, 4) else (match xs2[(fidx (inStay z) xs2 0).toNat]? with | some m => m.place | none => 0, 0)) := rfl
    go_wp2_with fail
    refine (HI.out _ hB hq1 hlt1).mono ?_
    rintro e w2 ⟨rfl, hB2⟩
    have hB := stepB hB hB2 hB.size
    clear hB2 hq1 hlt1
    rcases fidx_bd (inStay z) xs2 0 with e | ⟨k, m, e, hk, hm, _⟩
    · rw [e] at hR ⊢
      go_wp2
      go_ret2
      rw [hR.out]
      exact ⟨rfl, hB⟩
    · rw [Nat.zero_add] at e
      rw [e] at hR ⊢
      have hR : Hid (placeOnR xs2 z 0 = (m.place, 0)) := by
        unfold Hid
        rw [hR.out, if_neg (by omega)]
        simp [hm]
      obtain ⟨b, off, rfl, hb, c0, _, _⟩ := (hx2.below hB).st hm
      have hk1 : (k : Int) < (xs2.length : Int) := by omega
      clear hm
      go_wp2
      go_ret2
      rw [hR.out]
      exact ⟨rfl, hB⟩
  · have hR : Hid (placeOnR xs2 z c = (0, c)) := by unfold Hid placeOnR; rw [if_neg hc]
    have hc2 : (c != 0) = true := by simpa using hc
    go_wp2
    go_ret2
    rw [hR.out]
    exact ⟨rfl, hB⟩
end
end Go.Proofs.YtipdcgfdejmjfaaGreatDoor
