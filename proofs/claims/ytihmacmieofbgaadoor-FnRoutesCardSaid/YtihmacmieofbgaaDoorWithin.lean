/- Walks: PlacesWithin. -/
import Derived.Test.YtihmacmieofbgaaDoorTrFar
import Derived.Test.YtihmacmieofbgaaDoorQLand
import Derived.Deep.AppendLies
namespace Go.Proofs.YtihmacmieofbgaaDoor
open Go.ChangeShapes Go.WideShapes Go.ChangeAt Go.RowKit

/-- The numbers below k that a test takes. -/
def ixl (p : Nat → Bool) : Nat → List Int
  | 0 => []
  | k + 1 => if p k then ixl p k ++ [(k : Int)] else ixl p k
theorem ixl_len (p : Nat → Bool) : ∀ k, (ixl p k).length ≤ k
  | 0 => Nat.le_refl _
  | k + 1 => by
    have := ixl_len p k
    unfold ixl
    split
    · simp; exact this
    · omega
theorem ixl_yes {p : Nat → Bool} {k : Nat} (h : p k = true) : ixl p (k + 1) = ixl p k ++ [(k : Int)] := if_pos h
theorem ixl_no {p : Nat → Bool} {k : Nat} (h : p k = false) : ixl p (k + 1) = ixl p k := if_neg (by simp [h])
def withinR (ps : List ByteArray) (ws : List Wy) (a days c : Int) : List Int × Int :=
  if c = 0 then (if inB days 0 1000 then (ixl (fun v => inB (distF ps.length ws a.toNat v) 0 days) ps.length, 0) else ([], 2)) else ([], c)
theorem withinR_len (ps : List ByteArray) (ws : List Wy) (a days : Int) : (withinR ps ws a days (codeL ps ws [a])).1.length ≤ 1048576 := by
  unfold withinR
  split
  · rename_i h
    split
    · have h1 := (landOk (codeL_zero h).1).2.2.1
      have h2 := ixl_len (fun v => inB (distF ps.length ws a.toNat v) 0 days) ps.length
      show (ixl (fun v => inB (distF ps.length ws a.toNat v) 0 days) ps.length).length ≤ 1048576
      omega
    · simp
  · simp

set_option maxHeartbeats 2000000 in
theorem specWithin_any (a0 a1 : Option Addr) (cap0 cap1 : Nat) (xs0 : List ByteArray) (xs1 : List Wy) (a days : Int) (w : World) (hc0 : xs0.length ≤ cap0) (hc1 : cap0 ≤ 9223372036854775807) (hl0 : xs0.length ≤ 1048576) (hx0 : Rd encS w a0 xs0) (hs0 : ∀ m ∈ xs0, m.size ≤ 1048576) (hl1 : xs1.length ≤ 1048576) (hx1 : Rd encWy w a1 xs1) :
    Calls Tryd.prog 22 #[.agg #[.slice a0 xs0.length cap0, .slice a1 xs1.length cap1], .int .i64 a, .int .i64 days] w fun e w' => ∃ b c, e = .returned (.tuple #[.slice b (withinR xs0 xs1 a days (codeL xs0 xs1 [a])).1.length c, .int .i64 (withinR xs0 xs1 a days (codeL xs0 xs1 [a])).2]) ∧
      w'.ownsRow w.heap.size 2 1 (.slice b (withinR xs0 xs1 a days (codeL xs0 xs1 [a])).1.length c) (withinR xs0 xs1 a days (codeL xs0 xs1 [a])).1.length ((withinR xs0 xs1 a days (codeL xs0 xs1 [a])).1.flatMap encI) ∧ Below w.heap.size w w' := by
  obtain ⟨i0, hi, hz0, hz1, hz2⟩ := info_parts infoI
  have hB0 : Below w.heap.size w (w.alloc (.cells #[.slice a0 xs0.length cap0, .slice a1 xs1.length cap1] 27)) := (Below.refl _ w).alloc (Nat.le_refl _) _
  have hA0 : At w [.slice a0 xs0.length cap0, .slice a1 xs1.length cap1] (w.alloc (.cells #[.slice a0 xs0.length cap0, .slice a1 xs1.length cap1] 27)) := At.start _ _ _
  have HC := Lib.hid (fun W (h0 : Rd encS W a0 xs0) (h1 : Rd encWy W a1 xs1) => codeL_dup xs0 xs1 a ▸ l14Code_any a0 a1 cap0 cap1 xs0 xs1 a a W hc0 hc1 hl0 h0 hs0 hl1 h1)
  by_cases hz : codeL xs0 xs1 [a] = 0
  · obtain ⟨hA, hall⟩ := codeL_zero hz
    have HC := Lib.hid (fun W h0 h1 => hz ▸ HC.out W h0 h1)
    have HI := Lib.hid (fun x lo hi W => l01In_any x lo hi W)
    cases hd : inB days 0 1000
    · have hR : Hid (withinR xs0 xs1 a days (codeL xs0 xs1 [a]) = ([], 2)) := by unfold Hid withinR; rw [if_pos hz, hd]; rfl
      have HD := Lib.hid (fun W => hd ▸ HI.out days 0 1000 W)
      clear hz hall hA hA0
      go_enter Tryd.func22, Tryd.ntmps22
      go_wp2_with fail
      refine (HC.out _ (hx0.below hB0) (hx1.below hB0)).mono ?_
      rintro e w1 ⟨rfl, hB1⟩
      go_wp2_with fail
      refine (HD.out _).mono ?_
      rintro e w2 ⟨rfl, rfl⟩
      go_wp2
      go_ret2
      rw [hR.out]
      exact ⟨none, 0, rfl, World.ownsRow_nil _ _ _ _, stepB hB0 hB1 hB0.size⟩
    · obtain ⟨a, rfl, ha⟩ := all1 hall
      have HF := Lib.hid (fun W (h1 : Rd encWy W a1 xs1) => fromDist_any a0 a1 cap0 cap1 a xs0 xs1 W hA ha h1)
      have hR : Hid (withinR xs0 xs1 a days (codeL xs0 xs1 [(a : Int)]) = (ixl (fun v => inB (distF xs0.length xs1 a v) 0 days) xs0.length, 0)) := by unfold Hid withinR; rw [if_pos hz, hd]; rfl
      have HD := Lib.hid (fun W => hd ▸ HI.out days 0 1000 W)
      have hn12 := (landOk hA).2.2.1
      clear hz hall hA
      generalize hf : distF xs0.length xs1 a = f at HF hR
      obtain ⟨p, hp⟩ : ∃ p : Nat → Bool, p = fun v => inB (f v) 0 days := ⟨_, rfl⟩
      rw [← hp] at hR
      have hpv : ∀ v, p v = inB (f v) 0 days := fun v => by rw [hp]
      have HPV := Lib.hid hpv
      clear hp hpv hf
      go_enter Tryd.func22, Tryd.ntmps22
      go_wp2_with fail
      refine (HC.out _ (hx0.below hB0) (hx1.below hB0)).mono ?_
      rintro e w1 ⟨rfl, hB1⟩
      have hA1 := hA0.step hB1
      clear hA0 hB0 hB1
      go_wp2_with fail
      refine (HD.out _).mono ?_
      rintro e w2 ⟨rfl, rfl⟩
      have hBo : Below w1.heap.size w1 (w1.alloc (.cells #[] 2)) := (Below.refl _ w1).alloc (Nat.le_refl _) _
      have hso : (w1.alloc (.cells #[] 2)).heap.size = w1.heap.size + 1 := by simp
      have hA2 := hA1.step hBo
      have b0 := hA2.cell 0 _ rfl
      have b1 := hA2.cell 1 _ rfl
      have hown0 := World.ownsRow_made w1 #[] 0 hA1.below.size (by decide) rfl (e := 2) (size := 1)
      go_wp2_with fail
      refine (HF.out _ (hx1.below hA2.below)).mono ?_
      rintro e w2 ⟨gf, rfl, hof, hB2⟩
      have hown0 := own_below hown0 hB2
      have hgf := own_lt hof
      rw [hso] at hgf
      have hB := stepB hA2.below hB2 hA2.below.size
      have hof := own_base hof hA2.below.size
      have hne0 : w1.heap.size ≠ gf := by omega
      clear hBo hso b0 b1 hA1 hA2 hB2 hgf HC HD HF
      go_wp2
      go_loopw [9, 11] (fun o i wr => ∃ (k g c : Nat), k ≤ xs0.length ∧ i = .int .i64 k ∧ o = .slice (some ⟨g, 0, none⟩) (ixl p k).length c ∧ g ≠ gf ∧ wr.ownsRow w.heap.size 2 1 (.slice (some ⟨g, 0, none⟩) (ixl p k).length c) (ixl p k).length ((ixl p k).flatMap encI) ∧ wr.ownsRow w.heap.size 2 1 (.slice (some ⟨gf, 0, none⟩) xs0.length xs0.length) xs0.length (rowI xs0.length f) ∧ Below w.heap.size w wr) (fun _ i _ => xs0.length - (intOf i).toNat)
      case atStart => exact ⟨0, _, _, Nat.zero_le _, rfl, rfl, hne0, hown0, hof, hB⟩
      case round =>
        clear hown0 hof hB hne0
        rename_i wr
        obtain ⟨k, g, c, hk, rfl, rfl, hne, hown, hof, hB⟩ := hrel
        have hlen := ixl_len p k
        by_cases hlt : k < xs0.length
        · have hk1 : (k : Int) < (xs0.length : Int) := by omega
          have c0 := own_rowI hof hlt
          have hpk := HPV.out k
          have HX := Lib.hid (fun W => hpk ▸ HI.out (f k) 0 days W)
          clear hpk
          cases hb : p k
          · have HX := Lib.hid (fun W => hb ▸ HX.out W)
            have hst := Lib.hid (ixl_no hb)
            clear hb
            go_wp2_with fail
            refine (HX.out _).mono ?_
            rintro e w3 ⟨rfl, rfl⟩
            go_wp2
            go_roundw
            case rel => exact ⟨k + 1, g, c, by omega, by go_num, by rw [hst.out], hne, by rw [hst.out]; exact hown, hof, hB⟩
            case measure => simp [intOf]; omega
          · have HX := Lib.hid (fun W => hb ▸ HX.out W)
            have hst := Lib.hid (ixl_yes hb)
            have hgl := own_lt hof
            clear hb
            generalize ixl p k = out at hown hst hlen ⊢
            go_wp2_with fail
            refine (HX.out _).mono ?_
            rintro e w3 ⟨rfl, rfl⟩
            go_wp2_with (at_builtin; refine wpList_append_lies _ rfl _ _ 30 rfl w.heap.size 2 i0 (.int .i64 0) 1 8 Tryd.underlying30 hi hz0 hz1 hz2 rfl (by decide) _ _ _ rfl (hown.alloc _) ⟨wr.heap.size, 0, none⟩ 1 1 [.int .i64 k] rfl rfl (cell_one_new _ _ _) ?c2 (by decide) ?c3 ?c4 ?c5 _ rfl ?_)
            case c2 => intro u hu; simp at hu; subst hu; rfl
            case c3 => unfold maxLen; omega
            case c4 => omega
            case c5 => have := hB.size; simp; omega
            intro g' c' w4 hown' hgr hat _
            have hB' := (hB.alloc hB.size _).grown hgr (by have := hB.size; simp; omega) (fun x hx => ((hown.lt x hx).1))
            have hof' := own_keepOther (hof.alloc _) hgr (fun e => hne e.symm)
            have hne' : g' ≠ gf := by
              rcases hat with h | h
              · have : g = g' := by simpa [Value.ownBlock] using h
                omega
              · omega
            clear hgr hown hB hof hat
            go_wp2
            go_roundw
            case rel => exact ⟨k + 1, g', c', by omega, by go_num, by rw [hst.out, List.length_append]; rfl, hne', by rw [hst.out, List.length_append, List.flatMap_append]; exact hown', hof', hB'⟩
            case measure => simp [intOf]; omega
        · obtain rfl : k = xs0.length := by omega
          go_wp2
          go_ret2
          rw [hR.out]
          exact ⟨_, _, rfl, hown, hB⟩
  · generalize codeL xs0 xs1 [a] = c at hz HC ⊢
    have hR : Hid (withinR xs0 xs1 a days c = ([], c)) := by unfold Hid withinR; rw [if_neg hz]
    have hz2 : (c != 0) = true := by simpa using hz
    have hz3 : (c == 0) = false := by simpa using hz
    clear hA0
    go_enter Tryd.func22, Tryd.ntmps22
    go_wp2_with fail
    refine (HC.out _ (hx0.below hB0) (hx1.below hB0)).mono ?_
    rintro e w1 ⟨rfl, hB1⟩
    go_wp2
    go_ret2
    rw [hR.out]
    exact ⟨none, 0, rfl, World.ownsRow_nil _ _ _ _, stepB hB0 hB1 hB0.size⟩

set_option maxHeartbeats 2000000 in
theorem implWithin_any (a0 a1 : Option Addr) (cap0 cap1 : Nat) (xs0 : List ByteArray) (xs1 : List Wy) (a days : Int) (w : World) (hc0 : xs0.length ≤ cap0) (hc1 : cap0 ≤ 9223372036854775807) (hl0 : xs0.length ≤ 1048576) (hx0 : Rd encS w a0 xs0) (hs0 : ∀ m ∈ xs0, m.size ≤ 1048576) (hl1 : xs1.length ≤ 1048576) (hx1 : Rd encWy w a1 xs1) :
    Calls Tryd.prog 21 #[.agg #[.slice a0 xs0.length cap0, .slice a1 xs1.length cap1], .int .i64 a, .int .i64 days] w fun e w' => ∃ b c, e = .returned (.tuple #[.slice b (withinR xs0 xs1 a days (codeL xs0 xs1 [a])).1.length c, .int .i64 (withinR xs0 xs1 a days (codeL xs0 xs1 [a])).2]) ∧
      w'.ownsRow w.heap.size 2 1 (.slice b (withinR xs0 xs1 a days (codeL xs0 xs1 [a])).1.length c) (withinR xs0 xs1 a days (codeL xs0 xs1 [a])).1.length ((withinR xs0 xs1 a days (codeL xs0 xs1 [a])).1.flatMap encI) ∧ Below w.heap.size w w' := by
  obtain ⟨i0, hi, hz0, hz1, hz2⟩ := info_parts infoI
  have hA0 : At w [.slice a0 xs0.length cap0, .slice a1 xs1.length cap1] ((w.alloc (.cells #[.slice a0 xs0.length cap0, .slice a1 xs1.length cap1] 27)).alloc (.cells #[.int .i64 a] 2)) := (At.start w _ _).step ((Below.refl _ _).alloc (Nat.le_refl _) _)
  have hrd : Rd encI ((w.alloc (.cells #[.slice a0 xs0.length cap0, .slice a1 xs1.length cap1] 27)).alloc (.cells #[.int .i64 a] 2)) (some ⟨w.heap.size + 1, 0, none⟩) [a] := by
    intro i x hi
    refine ⟨w.heap.size + 1, 0, rfl, by simp, fun j v hv => ?_⟩
    rw [World.cell?_alloc_at _ _ _ _ (by simp)]
    match i, hi with
    | 0, hi => cases hi; match j, hv with | 0, hv => cases hv; rfl
  have HC := Lib.hid (fun W (h0 : Rd encS W a0 xs0) (h1 : Rd encWy W a1 xs1) (h2 : Rd encI W (some ⟨w.heap.size + 1, 0, none⟩) [a]) => checkLand_any a0 a1 (some ⟨w.heap.size + 1, 0, none⟩) cap0 cap1 1 xs0 xs1 [a] W hc0 hc1 hl0 h0 hs0 hl1 h1 (by simp) h2)
  have HRD := Lib.hid hrd
  clear hrd
  by_cases hz : codeL xs0 xs1 [a] = 0
  · obtain ⟨hA, hall⟩ := codeL_zero hz
    have HC := Lib.hid (fun W h0 h1 h2 => hz ▸ HC.out W h0 h1 h2)
    have HI := Lib.hid (fun x lo hi W => within_any x lo hi W)
    cases hd : inB days 0 1000
    · have hR : Hid (withinR xs0 xs1 a days (codeL xs0 xs1 [a]) = ([], 2)) := by unfold Hid withinR; rw [if_pos hz, hd]; rfl
      have HD := Lib.hid (fun W => hd ▸ HI.out days 0 1000 W)
      clear hz hall hA
      go_enter Tryd.func21, Tryd.ntmps21
      go_wp2_with fail
      refine (HC.out _ (hx0.below hA0.below) (hx1.below hA0.below) HRD.out).mono ?_
      rintro e w1 ⟨rfl, hB1⟩
      go_wp2_with fail
      refine (HD.out _).mono ?_
      rintro e w2 ⟨rfl, rfl⟩
      go_wp2
      go_ret2
      rw [hR.out]
      exact ⟨none, 0, rfl, World.ownsRow_nil _ _ _ _, stepB hA0.below hB1 hA0.below.size⟩
    · obtain ⟨a, rfl, ha⟩ := all1 hall
      have HF := Lib.hid (fun W (h1 : Rd encWy W a1 xs1) => trav_any a0 a1 cap0 cap1 xs0 xs1 W hA h1)
      have hR : Hid (withinR xs0 xs1 a days (codeL xs0 xs1 [(a : Int)]) = (ixl (fun v => inB (distF xs0.length xs1 a v) 0 days) xs0.length, 0)) := by unfold Hid withinR; rw [if_pos hz, hd]; rfl
      have HD := Lib.hid (fun W => hd ▸ HI.out days 0 1000 W)
      have hn12 := (landOk hA).2.2.1
      have ha1 : (a : Int) < (xs0.length : Int) := by omega
      have hdb : 0 ≤ days ∧ days ≤ 1000 := by simpa [inB] using hd
      obtain ⟨p, hp⟩ : ∃ p : Nat → Bool, p = fun v => inB (distF xs0.length xs1 a v) 0 days := ⟨_, rfl⟩
      rw [← hp] at hR
      have hpv : ∀ v, v < xs0.length → p v = decide (travM xs0.length xs1 a v ≤ days) := fun v hv => by
        have hb := trav_bd hA ha hv
        rw [hp]
        show inB (distF xs0.length xs1 a v) 0 days = _
        unfold distF inB
        by_cases ht : travM xs0.length xs1 a v < 1000000
        · rw [if_pos ht]; simp; omega
        · rw [if_neg ht]; simp; omega
      have HPV := Lib.hid hpv
      clear hp hpv hz hall hA
      generalize hf : travM xs0.length xs1 = T at HF HPV
      clear hf
      go_enter Tryd.func21, Tryd.ntmps21
      go_wp2_with fail
      refine (HC.out _ (hx0.below hA0.below) (hx1.below hA0.below) HRD.out).mono ?_
      rintro e w1 ⟨rfl, hB1⟩
      have hA1 := hA0.step hB1
      clear hA0 hB1 HRD HC
      go_wp2_with fail
      refine (HD.out _).mono ?_
      rintro e w2 ⟨rfl, rfl⟩
      have hBo : Below w1.heap.size w1 (w1.alloc (.cells #[] 2)) := (Below.refl _ w1).alloc (Nat.le_refl _) _
      have hso : (w1.alloc (.cells #[] 2)).heap.size = w1.heap.size + 1 := by simp
      have hA2 := hA1.step hBo
      have b0 := hA2.cell 0 _ rfl
      have b1 := hA2.cell 1 _ rfl
      have hown0 := World.ownsRow_made w1 #[] 0 hA1.below.size (by decide) rfl (e := 2) (size := 1)
      go_wp2_with fail
      refine (HF.out _ (hx1.below hA2.below)).mono ?_
      rintro e w2 ⟨H, cH, gm, rfl, hM, hB2⟩
      have hown0 := own_below hown0 hB2
      have hcH := hM.hcell ha
      have hof := hM.row a ha
      have hgf := own_lt hof
      rw [hso] at hgf
      have hB := stepB hA2.below hB2 hA2.below.size
      have hof := own_base hof hA2.below.size
      generalize gm a = gf at hof hgf hcH
      have hne0 : w1.heap.size ≠ gf := by omega
      generalize hfa : T a = f at hof
      have HPV : Hid (∀ v, v < xs0.length → p v = decide (f v ≤ days)) := by rw [← hfa]; exact HPV.out
      clear hBo hso b0 b1 hA1 hA2 hB2 hgf HD HF hM hfa
      go_wp2
      go_loopw [9, 29] (fun o i wr => ∃ (k g c : Nat), k ≤ xs0.length ∧ i = .int .i64 k ∧ o = .slice (some ⟨g, 0, none⟩) (ixl p k).length c ∧ g ≠ gf ∧ wr.ownsRow w.heap.size 2 1 (.slice (some ⟨g, 0, none⟩) (ixl p k).length c) (ixl p k).length ((ixl p k).flatMap encI) ∧ wr.ownsRow w.heap.size 2 1 (.slice (some ⟨gf, 0, none⟩) xs0.length xs0.length) xs0.length (rowI xs0.length f) ∧ Below w.heap.size w wr) (fun _ i _ => xs0.length - (intOf i).toNat)
      case atStart => exact ⟨0, _, _, Nat.zero_le _, rfl, rfl, hne0, hown0, hof, hB⟩
      case round =>
        clear hown0 hof hB hne0 hcH
        rename_i wr
        obtain ⟨k, g, c, hk, rfl, rfl, hne, hown, hof, hB⟩ := hrel
        have hlen := ixl_len p k
        by_cases hlt : k < xs0.length
        · have hk1 : (k : Int) < (xs0.length : Int) := by omega
          have c0 := own_rowI hof hlt
          have hpk := HPV.out k hlt
          by_cases hb : f k ≤ days
          · rw [decide_eq_true hb] at hpk
            have hst := Lib.hid (ixl_yes hpk)
            have hgl := own_lt hof
            clear hpk
            generalize ixl p k = out at hown hst hlen ⊢
            go_wp2_with (at_builtin; refine wpList_append_lies _ rfl _ _ 30 rfl w.heap.size 2 i0 (.int .i64 0) 1 8 Tryd.underlying30 hi hz0 hz1 hz2 rfl (by decide) _ _ _ rfl (hown.alloc _) ⟨wr.heap.size, 0, none⟩ 1 1 [.int .i64 k] rfl rfl (cell_one_new _ _ _) ?c2 (by decide) ?c3 ?c4 ?c5 _ rfl ?_)
            case c2 => intro u hu; simp at hu; subst hu; rfl
            case c3 => unfold maxLen; omega
            case c4 => omega
            case c5 => have := hB.size; simp; omega
            intro g' c' w4 hown' hgr hat _
            have hB' := (hB.alloc hB.size _).grown hgr (by have := hB.size; simp; omega) (fun x hx => ((hown.lt x hx).1))
            have hof' := own_keepOther (hof.alloc _) hgr (fun e => hne e.symm)
            have hne' : g' ≠ gf := by
              rcases hat with h | h
              · have : g = g' := by simpa [Value.ownBlock] using h
                omega
              · omega
            clear hgr hown hB hof hat
            go_wp2
            go_roundw
            case rel => exact ⟨k + 1, g', c', by omega, by go_num, by rw [hst.out, List.length_append]; rfl, hne', by rw [hst.out, List.length_append, List.flatMap_append]; exact hown', hof', hB'⟩
            case measure => simp [intOf]; omega
          · rw [decide_eq_false hb] at hpk
            have hst := Lib.hid (ixl_no hpk)
            clear hpk
            go_wp2
            go_roundw
            case rel => exact ⟨k + 1, g, c, by omega, by go_num, by rw [hst.out], hne, by rw [hst.out]; exact hown, hof, hB⟩
            case measure => simp [intOf]; omega
        · obtain rfl : k = xs0.length := by omega
          go_wp2
          go_ret2
          rw [hR.out]
          exact ⟨_, _, rfl, hown, hB⟩
  · generalize codeL xs0 xs1 [a] = c at hz HC ⊢
    have hR : Hid (withinR xs0 xs1 a days c = ([], c)) := by unfold Hid withinR; rw [if_neg hz]
    have hz2 : (c != 0) = true := by simpa using hz
    go_enter Tryd.func21, Tryd.ntmps21
    go_wp2_with fail
    refine (HC.out _ (hx0.below hA0.below) (hx1.below hA0.below) HRD.out).mono ?_
    rintro e w1 ⟨rfl, hB1⟩
    go_wp2
    go_ret2
    rw [hR.out]
    exact ⟨none, 0, rfl, World.ownsRow_nil _ _ _ _, stepB hA0.below hB1 hA0.below.size⟩
end Go.Proofs.YtihmacmieofbgaaDoor
