/- Walk: IsItinerary of the reference. -/
import Derived.Test.YtipdcgfdejmjfaaGreatDoorTSt
import Derived.Test.YtipdcgfdejmjfaaGreatDoorTrDays
import Derived.Test.YtipdcgfdejmjfaaGreatDoorRSt
import Derived.Deep.RegionWith
namespace Go.Proofs.YtipdcgfdejmjfaaGreatDoor
section
open Go.ChangeShapes Go.WideShapes Go.ChangeAt Go.RowKit

def okSt (n : Nat) (m : St) : Bool := placeB n m.place && spanB m.fr m.to
set_option maxHeartbeats 1000000 in
theorem isStay_any (a0 a1 : Option Addr) (cap0 cap1 n0 n1 : Nat) (m : St) (w : World) (hl : n0 ≤ 1048576) :
    Calls Tryz.prog 56 #[.agg #[.slice a0 n0 cap0, .slice a1 n1 cap1], .agg #[.int .i64 m.place, .int .i64 m.fr, .int .i64 m.to]] w fun e w' => e = .returned (.bool (okSt n0 m)) ∧ Below w.heap.size w w' := by
  have hok : Hid (okSt n0 m = (placeB n0 m.place && spanB m.fr m.to)) := rfl
  go_enter Tryz.func56, Tryz.ntmps56
  go_upto_region 1 with (fail)
  generalize hW : (w.alloc (.cells #[.slice a0 n0 cap0, .slice a1 n1 cap1] 35)).alloc (.cells #[.int .i64 m.place, .int .i64 m.fr, .int .i64 m.to] 49) = W
  have hB : Below w.heap.size w W := by rw [← hW]; go_grown
  have hs : W.heap.size = w.heap.size + 2 := by rw [← hW]; simp
  have l0 : W.cell? ⟨w.heap.size, 0, none⟩ = some (.slice a0 n0 cap0) := by rw [← hW, World.cell?_alloc_past _ _ _ (by simp)]; exact World.cell?_alloc_at _ _ _ _ rfl
  have l1 : W.cell? ⟨w.heap.size, 1, none⟩ = some (.slice a1 n1 cap1) := by rw [← hW, World.cell?_alloc_past _ _ _ (by simp)]; exact World.cell?_alloc_at _ _ _ _ rfl
  have d0 : W.cell? ⟨w.heap.size + 1, 0, none⟩ = some (.int .i64 m.place) := by rw [← hW]; exact World.cell?_alloc_at _ _ _ _ (by simp)
  have d1 : W.cell? ⟨w.heap.size + 1, 1, none⟩ = some (.int .i64 m.fr) := by rw [← hW]; exact World.cell?_alloc_at _ _ _ _ (by simp)
  have d2 : W.cell? ⟨w.heap.size + 1, 2, none⟩ = some (.int .i64 m.to) := by rw [← hW]; exact World.cell?_alloc_at _ _ _ _ (by simp)
  clear hW
  go_wp2_with fail
  refine (isPlace_any _ _ _ _ _ _ _ _ hl).mono ?_
  rintro e w1 ⟨rfl, hB1⟩
  have d1 := (hB1.cell (p := ⟨w.heap.size + 1, 1, none⟩) (by simp; omega)).trans d1
  have d2 := (hB1.cell (p := ⟨w.heap.size + 1, 2, none⟩) (by simp; omega)).trans d2
  have hB := stepB hB hB1 hB.size
  clear l0 l1 d0 hB1 hs
  go_wp2_with (go_at_call 66; refine (isDay_any _ _).mono ?_; rintro e w' ⟨rfl, rfl⟩)
  all_goals go_ret
  all_goals exact ⟨ret_bool (by rw [hok.out]; unfold spanB; simp [*]), hB⟩

set_option maxHeartbeats 1000000 in
theorem l15Stay_any (a0 a1 : Option Addr) (cap0 cap1 n0 n1 : Nat) (m : St) (w : World) (hl : n0 ≤ 1048576) :
    Calls Tryz.prog 61 #[.agg #[.slice a0 n0 cap0, .slice a1 n1 cap1], .agg #[.int .i64 m.place, .int .i64 m.fr, .int .i64 m.to]] w fun e w' => e = .returned (.bool (okSt n0 m)) ∧ Below w.heap.size w w' := by
  have hok : Hid (okSt n0 m = (placeB n0 m.place && spanB m.fr m.to)) := rfl
  go_enter Tryz.func61, Tryz.ntmps61
  go_upto_region 1 with (fail)
  generalize hW : (w.alloc (.cells #[.slice a0 n0 cap0, .slice a1 n1 cap1] 35)).alloc (.cells #[.int .i64 m.place, .int .i64 m.fr, .int .i64 m.to] 49) = W
  have hB : Below w.heap.size w W := by rw [← hW]; go_grown
  have hs : W.heap.size = w.heap.size + 2 := by rw [← hW]; simp
  have l0 : W.cell? ⟨w.heap.size, 0, none⟩ = some (.slice a0 n0 cap0) := by rw [← hW, World.cell?_alloc_past _ _ _ (by simp)]; exact World.cell?_alloc_at _ _ _ _ rfl
  have l1 : W.cell? ⟨w.heap.size, 1, none⟩ = some (.slice a1 n1 cap1) := by rw [← hW, World.cell?_alloc_past _ _ _ (by simp)]; exact World.cell?_alloc_at _ _ _ _ rfl
  have d0 : W.cell? ⟨w.heap.size + 1, 0, none⟩ = some (.int .i64 m.place) := by rw [← hW]; exact World.cell?_alloc_at _ _ _ _ (by simp)
  have d1 : W.cell? ⟨w.heap.size + 1, 1, none⟩ = some (.int .i64 m.fr) := by rw [← hW]; exact World.cell?_alloc_at _ _ _ _ (by simp)
  have d2 : W.cell? ⟨w.heap.size + 1, 2, none⟩ = some (.int .i64 m.to) := by rw [← hW]; exact World.cell?_alloc_at _ _ _ _ (by simp)
  clear hW
  go_wp2_with fail
  refine (l14Place_any _ _ _ _ _ _ _ _ hl).mono ?_
  rintro e w1 ⟨rfl, hB1⟩
  have d1 := (hB1.cell (p := ⟨w.heap.size + 1, 1, none⟩) (by simp; omega)).trans d1
  have d2 := (hB1.cell (p := ⟨w.heap.size + 1, 2, none⟩) (by simp; omega)).trans d2
  have hB := stepB hB hB1 hB.size
  clear l0 l1 d0 hB1 hs
  go_wp2_with (go_at_call 98; refine (l13Span_any _ _ _).mono ?_; rintro e w' ⟨rfl, hBs⟩)
  all_goals go_ret
  · exact ⟨ret_bool (by rw [hok.out]; simp [*]), stepB hB hBs hB.size⟩
  · exact ⟨ret_bool (by rw [hok.out]; simp [*]), hB⟩
end

section
open Go.ChangeShapes Go.WideShapes Go.ChangeAt Go.RowKit

def ltSt (n : Nat) (ws : List Wy) (p m : St) : Bool := decide (travM n ws p.place.toNat m.place.toNat < 1000000) && decide (p.to < m.fr) && decide (p.to + travM n ws p.place.toNat m.place.toNat ≤ m.fr)
def areStaysB (n : Nat) (ws : List Wy) (xs : List St) : Bool := upGo (okSt n) (ltSt n ws) none xs
def isItinB (ps : List ByteArray) (ws : List Wy) (xs : List St) : Bool := isLandB ps ws && areStaysB ps.length ws xs && decide (xs.length ≤ 40)
theorem okSt_bd {n : Nat} {m : St} (h : okSt n m = true) : (∃ a : Nat, m.place = a ∧ a < n) ∧ 0 ≤ m.fr ∧ m.fr ≤ 730499 ∧ 0 ≤ m.to ∧ m.to ≤ 730499 := by
  unfold okSt spanB at h
  simp only [Bool.and_eq_true] at h
  have h1 := dayB_bd h.2.1.1
  have h2 := dayB_bd h.2.1.2
  exact ⟨place_nat h.1, h1.1, h1.2, h2.1, h2.2⟩

set_option maxRecDepth 100000 in
set_option maxHeartbeats 4000000 in
theorem specIsItin_any (a0 a1 a2 : Option Addr) (cap0 cap1 cap2 : Nat) (xs0 : List ByteArray) (xs1 : List Wy) (xs2 : List St) (w : World) (hc0 : xs0.length ≤ cap0) (hc1 : cap0 ≤ 9223372036854775807) (hl0 : xs0.length ≤ 1048576) (hx0 : Rd encS w a0 xs0) (hs0 : ∀ m ∈ xs0, m.size ≤ 1048576) (hl1 : xs1.length ≤ 1048576) (hx1 : Rd encWy w a1 xs1) (hl2 : xs2.length ≤ 1048576) (hx2 : Rd encSt w a2 xs2) :
    Calls Tryz.prog 62 #[.agg #[.slice a0 xs0.length cap0, .slice a1 xs1.length cap1], .slice a2 xs2.length cap2] w fun e w' => e = .returned (.bool (isItinB xs0 xs1 xs2)) ∧ Below w.heap.size w w' := by
  have hB0 : Below w.heap.size w (w.alloc (.cells #[.slice a0 xs0.length cap0, .slice a1 xs1.length cap1] 35)) := (Below.refl _ w).alloc (Nat.le_refl _) _
  have hA0 : At w [.slice a0 xs0.length cap0, .slice a1 xs1.length cap1] (w.alloc (.cells #[.slice a0 xs0.length cap0, .slice a1 xs1.length cap1] 35)) := At.start _ _ _
  cases hA : isLandB xs0 xs1
  · have HM := Lib.hid (fun W (h0 : Rd encS W a0 xs0) (h1 : Rd encWy W a1 xs1) => hA ▸ specIsLand_any a0 a1 cap0 cap1 xs0 xs1 W hc0 hc1 hl0 h0 hs0 hl1 h1)
    have hR : Hid (isItinB xs0 xs1 xs2 = false) := by unfold Hid isItinB; rw [hA]; rfl
    clear hA hA0
    go_enter Tryz.func62, Tryz.ntmps62
    go_wp2_with fail
    refine (HM.out _ (hx0.below hB0) (hx1.below hB0)).mono ?_
    rintro e w1 ⟨rfl, hB1⟩
    go_wp2
    go_ret
    exact ⟨ret_bool hR.out.symm, stepB hB0 hB1 hB0.size⟩
  · have HM := Lib.hid (fun W (h0 : Rd encS W a0 xs0) (h1 : Rd encWy W a1 xs1) => hA ▸ specIsLand_any a0 a1 cap0 cap1 xs0 xs1 W hc0 hc1 hl0 h0 hs0 hl1 h1)
    by_cases hlen : 40 < (xs2.length : Int)
    · have hR : Hid (isItinB xs0 xs1 xs2 = false) := by unfold Hid isItinB; rw [decide_eq_false (show ¬ xs2.length ≤ 40 by omega)]; simp
      clear hA hA0
      go_enter Tryz.func62, Tryz.ntmps62
      go_wp2_with fail
      refine (HM.out _ (hx0.below hB0) (hx1.below hB0)).mono ?_
      rintro e w1 ⟨rfl, hB1⟩
      go_wp2
      go_ret
      exact ⟨ret_bool hR.out.symm, stepB hB0 hB1 hB0.size⟩
    · have hR : Hid (isItinB xs0 xs1 xs2 = areStaysB xs0.length xs1 xs2) := by unfold Hid isItinB; rw [hA, decide_eq_true (show xs2.length ≤ 40 by omega)]; simp
      have HF := Lib.hid (fun (a : Nat) W (ha : a < xs0.length) (h1 : Rd encWy W a1 xs1) => fromDist_any a0 a1 cap0 cap1 a xs0 xs1 W hA ha h1)
      have HBD := Lib.hid (fun (a b : Nat) (ha : a < xs0.length) (hb : b < xs0.length) => trav_bd hA ha hb)
      have hn12 := (landOk hA).2.2.1
      clear hA
      generalize isItinB xs0 xs1 xs2 = R at hR ⊢
      go_enter Tryz.func62, Tryz.ntmps62
      go_wp2_with fail
      refine (HM.out _ (hx0.below hB0) (hx1.below hB0)).mono ?_
      rintro e w1 ⟨rfl, hB1⟩
      have hA1 := hA0.step hB1
      clear hA0 hB0 hB1 HM
      go_wp2
      go_loopw [5] (fun i wr => ∃ (k : Nat), k ≤ xs2.length ∧ i = .int .i64 k ∧ Hid (areStaysB xs0.length xs1 xs2 = upGo (okSt xs0.length) (ltSt xs0.length xs1) (prevOf xs2 k) (xs2.drop k)) ∧ (∀ p, prevOf xs2 k = some p → okSt xs0.length p = true) ∧ At w [.slice a0 xs0.length cap0, .slice a1 xs1.length cap1] wr) (fun i _ => xs2.length - (intOf i).toNat)
      case atStart => exact ⟨0, Nat.zero_le _, rfl, rfl, (fun p h => by simp [prevOf] at h), hA1⟩
      case round =>
        clear hA1
        obtain ⟨k, hk, rfl, hH, hP, hAt⟩ := hrel
        have b0 := hAt.cell 0 _ rfl
        have b1 := hAt.cell 1 _ rfl
        by_cases hlt : k < xs2.length
        · have hm := List.getElem?_eq_getElem hlt
          generalize xs2[k] = m at hm
          obtain ⟨b, off, rfl, hb, c0, c1, c2⟩ := (hx2.below hAt.below).st hm
          have bad := Lib.hid (fun ho => (hH.out.trans (upGo_bad (ok := okSt xs0.length) (lt := ltSt xs0.length xs1) hm ho)))
          have at0 := Lib.hid (fun h0 => upGo_at0 (ok := okSt xs0.length) (lt := ltSt xs0.length xs1) h0 hm)
          have hk1 : (k : Int) < (xs2.length : Int) := by omega
          have hHS := Lib.hid (fun W => l15Stay_any a0 a1 cap0 cap1 xs0.length xs1.length m W hl0)
          have E0 := Later.cell b0 hAt.size
          have E1 := Later.cell b1 hAt.size
          have C0 := Later.cell c0 hb
          have C1 := Later.cell c1 hb
          have C2 := Later.cell c2 hb
          go_wp2_with fail
          cases hok : okSt xs0.length m
          · have hHS := Lib.hid (fun W => hok ▸ hHS.out W)
            refine wp_region_later wr (by kernel_rfl) (by kernel_rfl) ?_
            repeat (go_big_quiet_step ((go_at_call 61; exact Later.call (Nat.le_refl _) (hHS.out _))))
            refine wpQuiet_nil ?_
            intro z
            have hz := z.prop
            generalize z.val = w2 at hz
            clear E0 E1 C0 C1 C2
            have hbd := Lib.hid (bad.out hok)
            go_wp2
            go_ret
            exact ⟨ret_bool (by rw [hR.out, hbd.out]), stepB hAt.below hz hAt.below.size⟩
          · have hHS := Lib.hid (fun W => hok ▸ hHS.out W)
            refine wp_region_later wr (by kernel_rfl) (by kernel_rfl) ?_
            repeat (go_big_quiet_step ((go_at_call 61; exact Later.call (Nat.le_refl _) (hHS.out _))))
            refine wpQuiet_nil ?_
            intro z
            have hz := z.prop
            generalize z.val = w2 at hz
            clear E0 E1 C0 C1 C2 bad
            have hAt := hAt.step hz
            have b0 := hAt.cell 0 _ rfl
            have b1 := hAt.cell 1 _ rfl
            have d0 := (hz.cell (p := ⟨b, off + k * 3, none⟩) hb).trans c0
            have d1 := (hz.cell (p := ⟨b, off + k * 3 + 1, none⟩) hb).trans c1
            have hb2 := Nat.lt_of_lt_of_le hb hz.size
            clear hz c0 c1 c2 hb
            by_cases h0 : k = 0
            · have hst := Lib.hid (at0.out h0)
              subst h0
              have hP1 : Hid (∀ p, prevOf xs2 1 = some p → okSt xs0.length p = true) := fun p hp => by
                have e : m = p := by simpa [prevOf, hm] using hp
                rw [← e]; exact hok
              go_wp2
              go_roundw
              case rel => exact ⟨1, by omega, by go_num, by unfold Hid; rw [hH.out, hst.out, hok]; rfl, hP1.out, hAt⟩
              case measure => simp [intOf]; omega
            · have hk0 : 0 < k := by omega
              have hpl : k - 1 < xs2.length := by omega
              have hp := List.getElem?_eq_getElem hpl
              generalize xs2[k - 1] = p at hp
              obtain ⟨_, _, e', _, p0, _, p2⟩ := (hx2.below hAt.below).st hp
              simp only [Option.some.injEq, Addr.mk.injEq, and_true] at e'
              obtain ⟨rfl, rfl⟩ := e'
              have hN := Lib.hid (upGo_at (ok := okSt xs0.length) (lt := ltSt xs0.length xs1) hk0 hp hm)
              have hpk : prevOf xs2 k = some p := by
                obtain ⟨j, rfl⟩ : ∃ j, k = j + 1 := ⟨k - 1, by omega⟩
                exact hp
              have hq := hP p hpk
              have hP' : ∀ p, prevOf xs2 (k + 1) = some p → okSt xs0.length p = true := fun p hp => by
                have e : m = p := by simpa [prevOf, hm] using hp
                rw [← e]; exact hok
              have HP' := Lib.hid hP'
              have HOK := Lib.hid hok
              obtain ⟨⟨B, hmB, hB1⟩, hmf, hmf2, _, _⟩ := okSt_bd hok
              obtain ⟨⟨A, hpA, hA1⟩, _, _, hpt, hpt2⟩ := okSt_bd hq
              clear hP hP' hok hq hm hp at0 hpk
              obtain ⟨pp, pf, pt⟩ := p
              obtain ⟨mp, mf, mt⟩ := m
              simp only at hmB hmf hmf2 hpA hpt hpt2 d0 d1 p0 p2
              subst hmB hpA
              have hbd := HBD.out A B hA1 hB1
              have hl : ltSt xs0.length xs1 ⟨A, pf, pt⟩ ⟨B, mf, mt⟩ = (decide (travM xs0.length xs1 A B < 1000000) && decide (pt < mf) && decide (pt + travM xs0.length xs1 A B ≤ mf)) := rfl
              have hB2 : (B : Int) < (xs0.length : Int) := by omega
              have hk2 : (0 : Int) < (k : Int) := by omega
              have hw1 : IntKind.i64.wrap ((k : Int) - 1) = (k : Int) - 1 := by rw [IntKind.wrap_i64]; omega
              have hk4 : (0 : Int) ≤ (k : Int) - 1 := by omega
              have hk5 : (k : Int) - 1 < (xs2.length : Int) := by omega
              have hk6 : ((k : Int) - 1).toNat = k - 1 := by omega
              have hk7 : (1 : Int) ≤ (k : Int) := by omega
              have hBd : Below w.heap.size w w2.drew := hAt.below.drew
              have hs := hAt.size
              have hd0 : distF xs0.length xs1 A B = if travM xs0.length xs1 A B < 1000000 then travM xs0.length xs1 A B else -1 := rfl
              go_wp2_with fail
              by_cases ht : travM xs0.length xs1 A B < 1000000
              · rw [if_pos ht] at hd0
                rw [decide_eq_true ht] at hl
                generalize travM xs0.length xs1 A B = T at ht hbd hd0 hl
                have hl := Lib.hid hl
                go_region_with (first | (go_at_call 93; refine (HF.out A _ hA1 (hx1.below hBd)).mono ?_; rintro e w3 ⟨g, rfl, ho, hB3⟩; have cg := own_rowI ho hB1; rw [hd0] at cg; have e0 := (hB3.cell (p := ⟨b, off + k * 3, none⟩) hb2).trans d0))
                all_goals
                  simp only [List.getElem_toArray, List.getElem_cons_succ, List.getElem_cons_zero, Act.put, List.setIfInBounds_toArray, List.set_cons_zero, List.set_cons_succ]
                  have c1 := (hB3.cell (p := ⟨b, off + k * 3 + 1, none⟩) hb2).trans d1
                  have q2 := (hB3.cell (p := ⟨b, off + (k - 1) * 3 + 2, none⟩) hb2).trans p2
                  have hb3 := Nat.lt_of_lt_of_le hb2 hB3.size
                  have hAt : At w [.slice a0 xs0.length cap0, .slice a1 xs1.length cap1] w3 := (hAt.step (Below.refl _ w2).drew).step hB3
                  have hn : decide (T < 0) = false := by simp; omega
                  have s3 : 0 ≤ pt + max 1 T ∧ pt + max 1 T ≤ 2000000 := by omega
                  clear hB3 ho cg e0 p0 p2 d0 d1 b0 b1 hBd hs
                  have C1 := Later.cell c1 hb3
                  have P2 := Later.cell q2 hb3
                  go_wp2_with fail
                  by_cases hc : mf < pt + max 1 T
                  · have hlf : Hid (ltSt xs0.length xs1 ⟨A, pf, pt⟩ ⟨B, mf, mt⟩ = false) := by
                      unfold Hid; rw [hl.out]
                      by_cases h1 : pt < mf
                      · rw [decide_eq_false (show ¬ pt + T ≤ mf by omega)]; simp
                      · rw [decide_eq_false h1]; simp
                    refine wp_region_later w3 (by kernel_rfl) (by kernel_rfl) ?_
                    repeat (go_big_quiet_step (fail))
                    refine wpQuiet_nil ?_
                    intro z
                    have hz := z.prop
                    generalize z.val = w4 at hz
                    clear C1 P2
                    go_wp2
                    go_ret
                    exact ⟨ret_bool (by rw [hR.out, hH.out, hN.out, HOK.out, hlf.out]; rfl), stepB hAt.below hz hAt.below.size⟩
                  · have hlt' : Hid (ltSt xs0.length xs1 ⟨A, pf, pt⟩ ⟨B, mf, mt⟩ = true) := by
                      unfold Hid; rw [hl.out, decide_eq_true (show pt < mf by omega), decide_eq_true (show pt + T ≤ mf by omega)]; rfl
                    have hc2 : decide (mf < pt + max 1 T) = false := by simpa using hc
                    refine wp_region_later w3 (by kernel_rfl) (by kernel_rfl) ?_
                    repeat (go_big_quiet_step (fail))
                    refine wpQuiet_nil ?_
                    intro z
                    have hz := z.prop
                    generalize z.val = w4 at hz
                    clear C1 P2
                    go_wp2
                    go_roundw
                    case rel => exact ⟨k + 1, by omega, by go_num, by unfold Hid; rw [hH.out, hN.out, HOK.out, hlt'.out]; rfl, HP'.out, hAt.step hz⟩
                    case measure => simp [intOf]; omega
              · rw [if_neg ht] at hd0
                rw [decide_eq_false ht] at hl
                have hlf : Hid (ltSt xs0.length xs1 ⟨A, pf, pt⟩ ⟨B, mf, mt⟩ = false) := by unfold Hid; rw [hl]; rfl
                clear hl hbd
                go_region_with (first | (go_at_call 93; refine (HF.out A _ hA1 (hx1.below hBd)).mono ?_; rintro e w3 ⟨g, rfl, ho, hB3⟩; have cg := own_rowI ho hB1; rw [hd0] at cg; have e0 := (hB3.cell (p := ⟨b, off + k * 3, none⟩) hb2).trans d0))
                all_goals
                  simp only [List.getElem_toArray, List.getElem_cons_succ, List.getElem_cons_zero, Act.put, List.setIfInBounds_toArray, List.set_cons_zero, List.set_cons_succ]
                  have hAt : At w [.slice a0 xs0.length cap0, .slice a1 xs1.length cap1] w3 := (hAt.step (Below.refl _ w2).drew).step hB3
                  clear hB3 ho cg e0 p0 d0 b0 b1 hBd hs d1 p2
                  go_wp2_with fail
                  refine wp_region_later w3 (by kernel_rfl) (by kernel_rfl) ?_
                  repeat (go_big_quiet_step (fail))
                  refine wpQuiet_nil ?_
                  intro z
                  have hz := z.prop
                  generalize z.val = w4 at hz
                  go_wp2
                  go_ret
                  exact ⟨ret_bool (by rw [hR.out, hH.out, hN.out, HOK.out, hlf.out]; rfl), stepB hAt.below hz hAt.below.size⟩
        · obtain rfl : k = xs2.length := by omega
          go_wp2
          go_ret
          exact ⟨ret_bool (by rw [hR.out, hH.out, upGo_end (Nat.le_refl _)]), hAt.below⟩
end
end Go.Proofs.YtipdcgfdejmjfaaGreatDoor
