/- Walks: FarthestPlace. -/
import Derived.Test.YtihmacmieofbgaaDoorTrDays
namespace Go.Proofs.YtihmacmieofbgaaDoor
open Go.ChangeShapes Go.WideShapes Go.ChangeAt Go.RowKit

def bestS (f : Nat → Int) : Nat → Nat
  | 0 => 0
  | k + 1 => if f (bestS f k) < f k then k else bestS f k
theorem bestS_lt (f : Nat → Int) {n : Nat} (hn : 0 < n) : ∀ k, k ≤ n → bestS f k < n
  | 0, _ => hn
  | k + 1, h => by
    unfold bestS
    have := bestS_lt f hn k (by omega)
    split <;> omega
def farR (ps : List ByteArray) (ws : List Wy) (a : Int) (c : Int) : Int × Int × Int :=
  if c = 0 then (((bestS (distF ps.length ws a.toNat) ps.length : Nat) : Int), distF ps.length ws a.toNat (bestS (distF ps.length ws a.toNat) ps.length), 0) else (0, 0, c)
theorem codeL_dup (ps : List ByteArray) (ws : List Wy) (a : Int) : codeL ps ws [a, a] = codeL ps ws [a] := by
  unfold codeL
  simp
theorem all1 {n : Nat} {a : Int} (h : [a].all (placeB n) = true) : ∃ k : Nat, a = k ∧ k < n := by
  simp only [List.all_cons, List.all_nil, Bool.and_true] at h
  exact place_nat h
/-- What the program has found behind k places. -/
def mostI (f : Nat → Int) (k : Nat) : Int := if k = 0 then -1 else f (bestS f k)

set_option maxHeartbeats 2000000 in
theorem specFarthest_any (a0 a1 : Option Addr) (cap0 cap1 : Nat) (xs0 : List ByteArray) (xs1 : List Wy) (a : Int) (w : World) (hc0 : xs0.length ≤ cap0) (hc1 : cap0 ≤ 9223372036854775807) (hl0 : xs0.length ≤ 1048576) (hx0 : Rd encS w a0 xs0) (hs0 : ∀ m ∈ xs0, m.size ≤ 1048576) (hl1 : xs1.length ≤ 1048576) (hx1 : Rd encWy w a1 xs1) :
    Calls Tryd.prog 24 #[.agg #[.slice a0 xs0.length cap0, .slice a1 xs1.length cap1], .int .i64 a] w fun e w' => e = .returned (.tuple #[.int .i64 (farR xs0 xs1 a (codeL xs0 xs1 [a])).1, .int .i64 (farR xs0 xs1 a (codeL xs0 xs1 [a])).2.1, .int .i64 (farR xs0 xs1 a (codeL xs0 xs1 [a])).2.2]) ∧ Below w.heap.size w w' := by
  have hB0 : Below w.heap.size w (w.alloc (.cells #[.slice a0 xs0.length cap0, .slice a1 xs1.length cap1] 27)) := (Below.refl _ w).alloc (Nat.le_refl _) _
  have hA0 : At w [.slice a0 xs0.length cap0, .slice a1 xs1.length cap1] (w.alloc (.cells #[.slice a0 xs0.length cap0, .slice a1 xs1.length cap1] 27)) := At.start _ _ _
  have HC := Lib.hid (fun W (h0 : Rd encS W a0 xs0) (h1 : Rd encWy W a1 xs1) => codeL_dup xs0 xs1 a ▸ l14Code_any a0 a1 cap0 cap1 xs0 xs1 a a W hc0 hc1 hl0 h0 hs0 hl1 h1)
  by_cases hz : codeL xs0 xs1 [a] = 0
  · obtain ⟨hA, hall⟩ := codeL_zero hz
    have HC := Lib.hid (fun W h0 h1 => hz ▸ HC.out W h0 h1)
    obtain ⟨a, rfl, ha⟩ := all1 hall
    have HF := Lib.hid (fun W (h1 : Rd encWy W a1 xs1) => fromDist_any a0 a1 cap0 cap1 a xs0 xs1 W hA ha h1)
    have hR : Hid (farR xs0 xs1 a (codeL xs0 xs1 [(a : Int)]) = (((bestS (distF xs0.length xs1 a) xs0.length : Nat) : Int), distF xs0.length xs1 a (bestS (distF xs0.length xs1 a) xs0.length), 0)) := by unfold Hid farR; rw [if_pos hz]; rfl
    have hn1 : 0 < xs0.length := by omega
    clear hz hall hA
    generalize distF xs0.length xs1 a = f at HF hR
    go_enter Tryd.func24, Tryd.ntmps24
    go_wp2_with fail
    refine (HC.out _ (hx0.below hB0) (hx1.below hB0)).mono ?_
    rintro e w1 ⟨rfl, hB1⟩
    have hA1 := hA0.step hB1
    have b0 := hA1.cell 0 _ rfl
    have b1 := hA1.cell 1 _ rfl
    clear hA0 hB0 hB1
    go_wp2_with fail
    refine (HF.out _ (hx1.below hA1.below)).mono ?_
    rintro e w2 ⟨g, rfl, ho, hB2⟩
    have hB := stepB hA1.below hB2 hA1.below.size
    clear b0 b1 hA1 hB2 hx0 hx1 HC HF
    go_wp2
    go_loopw [9, 10] (fun b i wr => ∃ (k : Nat), k ≤ xs0.length ∧ i = .int .i64 k ∧ b = .int .i64 (bestS f k : Nat) ∧ wr.ownsRow w1.heap.size 2 1 (.slice (some ⟨g, 0, none⟩) xs0.length xs0.length) xs0.length (rowI xs0.length f) ∧ Below w.heap.size w wr) (fun _ i _ => xs0.length - (intOf i).toNat)
    case atStart => exact ⟨0, Nat.zero_le _, rfl, rfl, ho, hB⟩
    case round =>
      clear ho hB
      rename_i wr
      obtain ⟨k, hk, rfl, rfl, ho, hB⟩ := hrel
      have hbl := bestS_lt f hn1 k hk
      have hbl1 : ((bestS f k : Nat) : Int) < (xs0.length : Int) := by omega
      have c1 := own_rowI ho hbl
      have hgl := (own_lt ho).2
      by_cases hlt : k < xs0.length
      · have hk1 : (k : Int) < (xs0.length : Int) := by omega
        have c0 := own_rowI ho hlt
        have C0 := Later.cell c0 hgl
        have C1 := Later.cell c1 hgl
        go_wp2_with fail
        by_cases hgt : f (bestS f k) < f k
        · have hst : Hid (bestS f (k + 1) = k) := if_pos hgt
          refine wp_region_later wr (by kernel_rfl) (by kernel_rfl) ?_
          repeat (go_big_quiet_step (fail))
          refine wpQuiet_nil ?_
          intro z
          have hz := z.prop
          generalize z.val = w3 at hz
          clear C0 C1
          go_wp2
          go_roundw
          case rel => exact ⟨k + 1, by omega, by go_num, by rw [hst.out], own_below ho hz, stepB hB hz hB.size⟩
          case measure => simp [intOf]; omega
        · have hst : Hid (bestS f (k + 1) = bestS f k) := if_neg hgt
          have hgt2 : decide (f (bestS f k) < f k) = false := by simpa using hgt
          refine wp_region_later wr (by kernel_rfl) (by kernel_rfl) ?_
          repeat (go_big_quiet_step (fail))
          refine wpQuiet_nil ?_
          intro z
          have hz := z.prop
          generalize z.val = w3 at hz
          clear C0 C1
          go_wp2
          go_roundw
          case rel => exact ⟨k + 1, by omega, by go_num, by rw [hst.out], own_below ho hz, stepB hB hz hB.size⟩
          case measure => simp [intOf]; omega
      · obtain rfl : k = xs0.length := by omega
        have C1 := Later.cell c1 hgl
        go_wp2_with fail
        refine wp_region_later wr (by kernel_rfl) (by kernel_rfl) ?_
        repeat (go_big_quiet_step (fail))
        refine wpQuiet_nil ?_
        intro z
        have hz := z.prop
        generalize z.val = w3 at hz
        clear C1
        go_wp2
        go_ret3
        rw [hR.out]
        exact ⟨rfl, stepB hB hz hB.size⟩
  · generalize codeL xs0 xs1 [a] = c at hz HC ⊢
    have hR : Hid (farR xs0 xs1 a c = (0, 0, c)) := by unfold Hid farR; rw [if_neg hz]
    have hz2 : (c != 0) = true := by simpa using hz
    clear hA0
    go_enter Tryd.func24, Tryd.ntmps24
    go_wp2_with fail
    refine (HC.out _ (hx0.below hB0) (hx1.below hB0)).mono ?_
    rintro e w1 ⟨rfl, hB1⟩
    go_wp2
    go_ret3
    rw [hR.out]
    exact ⟨rfl, stepB hB0 hB1 hB0.size⟩

set_option maxHeartbeats 2000000 in
theorem implFarthest_any (a0 a1 : Option Addr) (cap0 cap1 : Nat) (xs0 : List ByteArray) (xs1 : List Wy) (a : Int) (w : World) (hc0 : xs0.length ≤ cap0) (hc1 : cap0 ≤ 9223372036854775807) (hl0 : xs0.length ≤ 1048576) (hx0 : Rd encS w a0 xs0) (hs0 : ∀ m ∈ xs0, m.size ≤ 1048576) (hl1 : xs1.length ≤ 1048576) (hx1 : Rd encWy w a1 xs1) :
    Calls Tryd.prog 23 #[.agg #[.slice a0 xs0.length cap0, .slice a1 xs1.length cap1], .int .i64 a] w fun e w' => e = .returned (.tuple #[.int .i64 (farR xs0 xs1 a (codeL xs0 xs1 [a])).1, .int .i64 (farR xs0 xs1 a (codeL xs0 xs1 [a])).2.1, .int .i64 (farR xs0 xs1 a (codeL xs0 xs1 [a])).2.2]) ∧ Below w.heap.size w w' := by
  have hA0 : At w [.slice a0 xs0.length cap0, .slice a1 xs1.length cap1] ((w.alloc (.cells #[.slice a0 xs0.length cap0, .slice a1 xs1.length cap1] 27)).alloc (.cells #[.int .i64 a] 2)) := (At.start w _ _).step ((Below.refl _ _).alloc (Nat.le_refl _) _)
  have hrd : Rd encI ((w.alloc (.cells #[.slice a0 xs0.length cap0, .slice a1 xs1.length cap1] 27)).alloc (.cells #[.int .i64 a] 2)) (some ⟨w.heap.size + 1, 0, none⟩) [a] := by
    intro i x hi
    refine ⟨w.heap.size + 1, 0, rfl, by simp, fun j v hv => ?_⟩
    rw [World.cell?_alloc_at _ _ _ _ (by simp)]
    match i, hi with
    | 0, hi => cases hi; match j, hv with | 0, hv => cases hv; rfl
  have HC := Lib.hid (fun W (h0 : Rd encS W a0 xs0) (h1 : Rd encWy W a1 xs1) (h2 : Rd encI W (some ⟨w.heap.size + 1, 0, none⟩) [a]) => checkLand_any a0 a1 (some ⟨w.heap.size + 1, 0, none⟩) cap0 cap1 1 xs0 xs1 [a] W hc0 hc1 hl0 h0 hs0 hl1 h1 (by simp) h2)
  have HRD := Lib.hid hrd
  clear hrd
  by_cases hz : codeL xs0 xs1 [a] = 0
  · obtain ⟨hA, hall⟩ := codeL_zero hz
    have HC := Lib.hid (fun W h0 h1 h2 => hz ▸ HC.out W h0 h1 h2)
    obtain ⟨a, rfl, ha⟩ := all1 hall
    have HF := Lib.hid (fun W (h1 : Rd encWy W a1 xs1) => trav_any a0 a1 cap0 cap1 xs0 xs1 W hA h1)
    have hbd := fun b (hb : b < xs0.length) => trav_bd hA ha hb
    have ha1 : (a : Int) < (xs0.length : Int) := by omega
    have hR : Hid (farR xs0 xs1 a (codeL xs0 xs1 [(a : Int)]) = (((bestS (distF xs0.length xs1 a) xs0.length : Nat) : Int), distF xs0.length xs1 a (bestS (distF xs0.length xs1 a) xs0.length), 0)) := by unfold Hid farR; rw [if_pos hz]; rfl
    have hn1 : 0 < xs0.length := by omega
    have hfd : ∀ b, distF xs0.length xs1 a b = if travM xs0.length xs1 a b < 1000000 then travM xs0.length xs1 a b else -1 := fun _ => rfl
    clear hz hall hA
    generalize distF xs0.length xs1 a = f at hR hfd
    go_enter Tryd.func23, Tryd.ntmps23
    go_wp2_with fail
    refine (HC.out _ (hx0.below hA0.below) (hx1.below hA0.below) HRD.out).mono ?_
    rintro e w1 ⟨rfl, hB1⟩
    have hA1 := hA0.step hB1
    have b0 := hA1.cell 0 _ rfl
    have b1 := hA1.cell 1 _ rfl
    clear hA0 hB1 HRD
    go_wp2_with fail
    refine (HF.out _ (hx1.below hA1.below)).mono ?_
    rintro e w2 ⟨H, c, g, rfl, hM, hB2⟩
    have hB := stepB hA1.below hB2 hA1.below.size
    have c1 := hM.hcell ha
    have hcl := fun b (hb : b < xs0.length) => hM.cell ha hb
    have HCL := Lib.hid hcl
    clear b0 b1 hA1 hB2 hM hcl hx0 hx1 HC HF
    go_wp2
    go_loop [8, 9, 25] (fun b m i => ∃ (k : Nat), k ≤ xs0.length ∧ i = .int .i64 k ∧ b = .int .i64 (bestS f k : Nat) ∧ m = .int .i64 (mostI f k)) (fun _ _ i => xs0.length - (intOf i).toNat)
    case atStart => exact ⟨0, Nat.zero_le _, rfl, rfl, rfl⟩
    case round =>
      obtain ⟨k, hk, rfl, rfl, rfl⟩ := hrel
      by_cases hlt : k < xs0.length
      · have hk1 : (k : Int) < (xs0.length : Int) := by omega
        have c0 := HCL.out k hlt
        have hbk := hbd k hlt
        have hfk := hfd k
        have hlow : k ≠ 0 → -1 ≤ f (bestS f k) := fun _ => by
          have := hbd (bestS f k) (bestS_lt f hn1 k hk)
          rw [hfd]
          split <;> omega
        generalize travM xs0.length xs1 a k = t at c0 hbk hfk
        by_cases ht : t < 1000000
        · rw [if_pos ht] at hfk
          by_cases hgt : mostI f k < t
          · have hst : Hid (bestS f (k + 1) = k ∧ mostI f (k + 1) = t) := by
              unfold mostI at hgt ⊢
              by_cases h0 : k = 0
              · subst h0
                have e : bestS f (0 + 1) = 0 := by show (if f 0 < f 0 then 0 else 0) = 0; split <;> rfl
                refine ⟨e, ?_⟩
                rw [if_neg (by omega), e, hfk]
              · rw [if_neg h0] at hgt
                have e : bestS f (k + 1) = k := if_pos (by omega)
                refine ⟨e, ?_⟩
                rw [if_neg (by omega), e, hfk]
            clear hlow hfk
            generalize mostI f k = mo at hgt ⊢
            go_wp2
            go_round
            case rel => exact ⟨k + 1, by omega, by go_num, by rw [hst.out.1], by rw [hst.out.2]⟩
            case measure => simp [intOf]; omega
          · have hst : Hid (bestS f (k + 1) = bestS f k ∧ mostI f (k + 1) = mostI f k) := by
              unfold mostI at hgt ⊢
              by_cases h0 : k = 0
              · subst h0
                rw [if_pos rfl] at hgt
                omega
              · rw [if_neg h0] at hgt ⊢
                have e : bestS f (k + 1) = bestS f k := if_neg (by omega)
                rw [if_neg (by omega), e]
                exact ⟨rfl, rfl⟩
            clear hlow hfk
            generalize mostI f k = mo at hgt hst ⊢
            go_wp2
            go_round
            case rel => exact ⟨k + 1, by omega, by go_num, by rw [hst.out.1], by rw [hst.out.2]⟩
            case measure => simp [intOf]; omega
        · rw [if_neg ht] at hfk
          have hst : Hid (bestS f (k + 1) = bestS f k ∧ mostI f (k + 1) = mostI f k) := by
            unfold mostI
            by_cases h0 : k = 0
            · subst h0
              have e : bestS f (0 + 1) = 0 := by show (if f 0 < f 0 then 0 else 0) = 0; split <;> rfl
              rw [if_neg (by omega), if_pos rfl, e]
              exact ⟨rfl, hfk⟩
            · have := hlow h0
              have e : bestS f (k + 1) = bestS f k := if_neg (by omega)
              rw [if_neg (by omega), if_neg h0, e]
              exact ⟨rfl, rfl⟩
          clear hlow hfk
          generalize mostI f k = mo at hst ⊢
          go_wp2
          go_round
          case rel => exact ⟨k + 1, by omega, by go_num, by rw [hst.out.1], by rw [hst.out.2]⟩
          case measure => simp [intOf]; omega
      · obtain rfl : k = xs0.length := by omega
        have hm : mostI f xs0.length = f (bestS f xs0.length) := if_neg (by omega)
        rw [hm]
        clear hfd hbd
        go_wp2
        go_ret3
        rw [hR.out]
        exact ⟨rfl, hB⟩
  · generalize codeL xs0 xs1 [a] = c at hz HC ⊢
    have hR : Hid (farR xs0 xs1 a c = (0, 0, c)) := by unfold Hid farR; rw [if_neg hz]
    have hz2 : (c != 0) = true := by simpa using hz
    go_enter Tryd.func23, Tryd.ntmps23
    go_wp2_with fail
    refine (HC.out _ (hx0.below hA0.below) (hx1.below hA0.below) HRD.out).mono ?_
    rintro e w1 ⟨rfl, hB1⟩
    go_wp2
    go_ret3
    rw [hR.out]
    exact ⟨rfl, stepB hA0.below hB1 hA0.below.size⟩
end Go.Proofs.YtihmacmieofbgaaDoor
