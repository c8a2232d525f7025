/- Walks: the number of the days that fit a dating, and their spans, by the program. Printed by gen_set.py. -/
import Derived.Test.YtdbgnbohdplndaaGreatDoorHoldP
import Derived.Test.YtdbgnbohdplndaaGreatDoorSpRow
import Derived.Test.YtdbgnbohdplndaaGreatDoorFix
import Derived.StillTailTactics
import Derived.Test.YtdbgnbohdplndaaGreatDoorFirst
import Derived.Test.YtdbgnbohdplndaaGreatDoorSpMet
import Derived.Test.YtdbgnbohdplndaaGreatDoorRowI
import Derived.Deep.AppendLies
namespace Go.Proofs.YtdbgnbohdplndaaGreatDoor
section
open Go.ChangeShapes Go.WideShapes Go.ChangeAt Go.RowKit Go.IntWalk

set_option maxRecDepth 100000 in
set_option maxHeartbeats 1000000 in
theorem l02Count_any (a : Option Addr) (cap n : Nat) (xs : List Sp) (w : World) (hn : xs.length = n) (hl : n ≤ 1048576) (hx : Rd encSp w a xs) (ho : inSp 0 730499 xs) :
    Calls Tryz.prog 54 #[.slice a n cap] w fun e w' => e = .returned (.int .i64 (cntSp xs)) ∧ Below w.heap.size w w' := by
  subst hn
  have hB0 := Below.refl w.heap.size w
  have hV : Hid (cntSp xs = cntSp (xs.take xs.length)) := by unfold Hid; rw [List.take_length]
  generalize hVV : cntSp xs = V at hV ⊢
  clear hVV
  go_enter Tryz.func54, Tryz.ntmps54
  go_wp2
  go_loopw [3, 4] (fun s i wr => ∃ (k : Nat) (z : Int), k ≤ xs.length ∧ i = .int .i64 k ∧ s = .int .i64 z ∧ Hid (z = cntSp (xs.take k)) ∧ Below w.heap.size w wr) (fun _ i _ => xs.length - (intOf i).toNat)
  case atStart => exact ⟨0, 0, Nat.zero_le _, rfl, rfl, rfl, hB0⟩
  case round =>
    clear hB0
    obtain ⟨k, z, hk, rfl, rfl, hz, hB⟩ := hrel
    by_cases hlt : k < xs.length
    · have hlt' : (k : Int) < (xs.length : Int) := by omega
      have hm := List.getElem?_eq_getElem hlt
      generalize xs[k] = m at hm
      obtain ⟨h1, h2, h3, h4⟩ := ho m (List.mem_of_getElem? hm)
      have hbd := cnt_bd (inSp_take ho k)
      rw [← hz.out, List.length_take, Nat.min_eq_left hk] at hbd
      obtain ⟨hb1, hb2⟩ := hbd
      have hst := cnt_step hm
      rw [← hz.out] at hst
      have hst := Lib.hid hst
      obtain ⟨b, off, rfl, hb, c0, c1⟩ := (hx.below hB).sp hm
      have v1 := i64_in (z + m.to) (by omega)
      have v2 := i64_in (z + m.to - m.fr) (by omega)
      have v3 := i64_in (z + m.to - m.fr + 1) (by omega)
      clear hm
      go_wp2_with fail
      go_still (by kernel_rfl)
      go_wp2
      go_roundw
      case rel => exact ⟨k + 1, z + m.to - m.fr + 1, by omega, by go_num, rfl, by unfold Hid; rw [hst.out]; omega, hB.drew⟩
      case measure => simp [intOf]; omega
    · have hlt' : decide ((k : Int) < (xs.length : Int)) = false := by simp; omega
      obtain rfl : k = xs.length := by omega
      go_wp2
      go_ret
      exact ⟨ret_int (hz.out.trans hV.out.symm), hB⟩

set_option maxRecDepth 100000 in
set_option maxHeartbeats 1000000 in
theorem countDays_any (a : Option Addr) (cap n : Nat) (xs : List Sp) (w : World) (hn : xs.length = n) (hl : n ≤ 1048576) (hx : Rd encSp w a xs) (ho : inSp 0 730499 xs) :
    Calls Tryz.prog 59 #[.slice a n cap] w fun e w' => e = .returned (.int .i64 (cntSp xs)) ∧ Below w.heap.size w w' := by
  subst hn
  have hB0 := Below.refl w.heap.size w
  have hV : Hid (cntSp xs = cntSp (xs.take xs.length)) := by unfold Hid; rw [List.take_length]
  generalize hVV : cntSp xs = V at hV ⊢
  clear hVV
  go_enter Tryz.func59, Tryz.ntmps59
  go_wp2
  go_loopw [3, 8] (fun s i wr => ∃ (k : Nat) (z : Int), k ≤ xs.length ∧ i = .int .i64 k ∧ s = .int .i64 z ∧ Hid (z = cntSp (xs.take k)) ∧ Below w.heap.size w wr) (fun _ i _ => xs.length - (intOf i).toNat)
  case atStart => exact ⟨0, 0, Nat.zero_le _, rfl, rfl, rfl, hB0⟩
  case round =>
    clear hB0
    obtain ⟨k, z, hk, rfl, rfl, hz, hB⟩ := hrel
    by_cases hlt : k < xs.length
    · have hlt' : (k : Int) < (xs.length : Int) := by omega
      have hm := List.getElem?_eq_getElem hlt
      generalize xs[k] = m at hm
      obtain ⟨h1, h2, h3, h4⟩ := ho m (List.mem_of_getElem? hm)
      have hbd := cnt_bd (inSp_take ho k)
      rw [← hz.out, List.length_take, Nat.min_eq_left hk] at hbd
      obtain ⟨hb1, hb2⟩ := hbd
      have hst := cnt_step hm
      rw [← hz.out] at hst
      have hst := Lib.hid hst
      obtain ⟨b, off, rfl, hb, c0, c1⟩ := (hx.below hB).sp hm
      have v1 := i64_in (m.to - m.fr) (by omega)
      have v2 := i64_in (m.to - m.fr + 1) (by omega)
      have v3 := i64_in (z + (m.to - m.fr + 1)) (by omega)
      have hB1 := Lib.hid (hB.alloc hB.size (.cells #[.int .i64 m.fr, .int .i64 m.to] 94))
      clear hm
      go_wp2
      go_roundw
      case rel => exact ⟨k + 1, z + (m.to - m.fr + 1), by omega, by go_num, rfl, hst.out.symm, hB1.out⟩
      case measure => simp [intOf]; omega
    · have hlt' : decide ((k : Int) < (xs.length : Int)) = false := by simp; omega
      obtain rfl : k = xs.length := by omega
      go_wp2
      go_ret
      exact ⟨ret_int (hz.out.trans hV.out.symm), hB⟩
end

section
open Go.ChangeShapes Go.WideShapes Go.ChangeAt Go.RowKit Go.IntWalk

set_option maxRecDepth 100000 in
set_option maxHeartbeats 4000000 in
theorem l12Set_any (a0 a1 : Option Addr) (cap0 cap1 : Nat) (rs : List Rg) (f t : Int) (cs : List Cl) (w : World) (hl0 : rs.length ≤ 1048576) (hx0 : Rd encRg w a0 rs) (hfr : ∀ r ∈ rs, 0 ≤ r.fr) (hl1 : cs.length ≤ 1048576) (hx1 : Rd encCl w a1 cs) (hok : ∀ c ∈ cs, okCl c = true) (hf : 0 ≤ f) (hft : f ≤ t) (ht : t ≤ 730499) (htf : t ≤ f + 20000) :
    Calls Tryz.prog 55 #[.agg #[.slice a0 rs.length cap0, .int .i64 f, .int .i64 t], .slice a1 cs.length cap1] w fun e w' => ∃ g c, e = .returned (.slice (some ⟨g, 0, none⟩) (spRun (fitB rs cs) f (t - f + 1).toNat []).length c) ∧ w'.ownsRow w.heap.size 94 2 (.slice (some ⟨g, 0, none⟩) (spRun (fitB rs cs) f (t - f + 1).toNat []).length c) (spRun (fitB rs cs) f (t - f + 1).toNat []).length ((spRun (fitB rs cs) f (t - f + 1).toNat []).flatMap encSp) ∧ Below w.heap.size w w' := by
  have hA := At.start w [.slice a0 rs.length cap0, .int .i64 f, .int .i64 t] 32
  have HQ := Lib.hid (fun y W (h : At w [.slice a0 rs.length cap0, .int .i64 f, .int .i64 t] W) h0 h4 => l12Fits_any a0 a1 cap0 cap1 rs f t cs y W hl0 (hx0.below h.below) hfr hl1 (hx1.below h.below) hok h0 h4)
  generalize fitB rs cs = q at HQ ⊢
  obtain ⟨i0, hi, hz0, hz1, hz2⟩ := info_parts infoSp
  have hA0 := hA.step ((Below.refl _ (w.alloc (.cells #[.slice a0 rs.length cap0, .int .i64 f, .int .i64 t] 32))).alloc (Nat.le_refl _) (.cells #[] 94))
  have howns := World.ownsRow_made (w.alloc (.cells #[.slice a0 rs.length cap0, .int .i64 f, .int .i64 t] 32)) #[] 0 (base := w.heap.size + 1) (by simp) (by decide) rfl (e := 94) (size := 2)
  have c1 := hA.cell 1 _ rfl
  generalize hR : spRun q f (t - f + 1).toNat [] = R
  have hR := Lib.hid hR
  go_enter Tryz.func55, Tryz.ntmps55
  go_wp2
  go_loopw [5, 6] (fun s i wr => ∃ (g c : Nat) (out : List Sp) (y : Int) (k : Nat), f ≤ y ∧ y + k = t + 1 ∧ i = .int .i64 y ∧ s = .slice (some ⟨g, 0, none⟩) out.length c ∧ wr.ownsRow (w.heap.size + 1) 94 2 (.slice (some ⟨g, 0, none⟩) (out).length c) (out).length ((out).flatMap encSp) ∧ At w [.slice a0 rs.length cap0, .int .i64 f, .int .i64 t] wr ∧ Hid (spRun q y k out = R) ∧ out.length + k ≤ 20001) (fun _ i _ => (730500 - intOf i).toNat)
  case atStart => exact ⟨_, _, [], f, (t - f + 1).toNat, Int.le_refl _, by omega, rfl, rfl, by simpa using howns, hA0, hR.out, by simp; omega⟩
  case round =>
    clear howns hA hA0 hR c1
    obtain ⟨g, c, out, y, k, hfy, hyk, rfl, rfl, hown, hA, hM, hlen⟩ := hrel
    have c0 := hA.cell 0 _ rfl
    have c1 := hA.cell 1 _ rfl
    have c2 := hA.cell 2 _ rfl
    by_cases hlt : y ≤ t
    · obtain ⟨k, rfl⟩ : ∃ k', k = k' + 1 := ⟨k - 1, by omega⟩
      have v3 := i64_in (y + 1) (by omega)
      have v4 := i64_in (y - 1) (by omega)
      have HQy := Lib.hid (HQ.out y wr hA (by omega) (by omega))
      cases hg : q y
      · have hM := Lib.hid (spRun_no (out := out) k hg ▸ hM.out)
        have HQy := Lib.hid (hg ▸ HQy.out)
        go_wp2_with fail
        refine HQy.out.mono ?_
        rintro e w2 ⟨rfl, hB2⟩
        clear c0 c1 c2
        go_wp2
        go_roundw
        case rel => exact ⟨g, c, out, y + 1, k, by omega, by omega, rfl, rfl, own_below hown hB2, hA.step hB2, hM.out, by omega⟩
        case measure => simp [intOf]; omega
      · have hM := Lib.hid (spRun_hit (out := out) k hg ▸ hM.out)
        have HQy := Lib.hid (hg ▸ HQy.out)
        rcases List.eq_nil_or_concat out with rfl | ⟨ys, s, rfl⟩
        · have hM : Hid (spRun q (y + 1) k [⟨y, y⟩] = R) := hM.out
          go_wp2_with fail
          refine HQy.out.mono ?_
          rintro e w2 ⟨rfl, hB2⟩
          have hown := own_below hown hB2
          have hA := hA.step hB2
          clear hB2 c0 c1 c2
          go_wp2_with (at_builtin; refine wpList_append_own _ rfl _ _ 49 rfl (w.heap.size + 1) 94 i0 (.agg #[.int .i64 0, .int .i64 0]) 2 16 Tryz.underlying49 hi hz0 hz1 hz2 rfl (by decide) _ _ _ rfl (hown.alloc _) ⟨w2.heap.size, 0, none⟩ 1 1 [.int .i64 y, .int .i64 y] rfl rfl (cell_two_new _ _ _ _) ?c2 ?c3 ?c4 ?c5 ?_)
          case c2 => intro u hu; simp at hu; subst hu; rfl
          case c3 => unfold maxLen; omega
          case c4 => omega
          case c5 => have := hA.size; simp; omega
          intro v' w4 hown' hgr _
          have hA' := (hA.step ((Below.refl _ w2).alloc (Nat.le_refl _) (.cells #[.int .i64 y, .int .i64 y] 94))).grown hgr (fun x hx => (hown.lt x hx).1)
          obtain ⟨g', c', rfl⟩ := formJ hown' (by omega)
          clear hgr hown hA
          go_wp2
          go_roundw
          case rel => exact ⟨g', c', [⟨y, y⟩], y + 1, k, by omega, by omega, rfl, rfl, hown', hA', hM, by simp; omega⟩
          case measure => simp [intOf]; omega
        · rw [List.concat_eq_append] at hown hM hlen ⊢
          rw [spStep_snoc] at hM
          have hl : (ys ++ [s]).length = ys.length + 1 := by simp
          rw [hl] at hown hlen ⊢
          have v5 := i64_in (ys.length : Int) (by omega)
          have hli : (ys.length : Int) < ((ys.length : Int) + 1) := by omega
          by_cases h1 : s.to = y - 1
          · rw [if_pos h1] at hM
            have hM := Lib.hid hM.out
            have h1' : (s.to == y - 1) = true := by simpa using h1
            clear h1 hl
            go_wp2_with fail
            refine HQy.out.mono ?_
            rintro e w2 ⟨rfl, hB2⟩
            have hown := own_below hown hB2
            have hA := hA.step hB2
            clear hB2 c0 c1 c2
            have e1 := own_at encSp_len hown (i := ys.length) (x := s) (by simp) (j := 1) rfl
            have f1 := hown.frozenAt (ys.length * 2 + 1)
            have hput := Lib.hid (own_putTo (pre := ys) (x := s) (post := []) hown rfl y)
            have hgo := own_lt hown
            go_wp2
            go_roundw
            case rel => exact ⟨g, c, ys ++ [⟨s.fr, y⟩], y + 1, k, by omega, by omega, rfl, by simp, by simpa using hput.out.1, hA.grown hput.out.2 (fun x e => by cases e; exact hgo.1), hM, by simp; omega⟩
            case measure => simp [intOf]; omega
          · rw [if_neg h1] at hM
            have hM := Lib.hid hM.out
            have h1' : (s.to == y - 1) = false := by simpa using h1
            clear h1
            go_wp2_with fail
            refine HQy.out.mono ?_
            rintro e w2 ⟨rfl, hB2⟩
            have hown := own_below hown hB2
            have hA := hA.step hB2
            clear hB2 c0 c1 c2
            have e1 := own_at encSp_len hown (i := ys.length) (x := s) (by simp) (j := 1) rfl
            go_wp2_with (at_builtin; refine wpList_append_own _ rfl _ _ 49 rfl (w.heap.size + 1) 94 i0 (.agg #[.int .i64 0, .int .i64 0]) 2 16 Tryz.underlying49 hi hz0 hz1 hz2 rfl (by decide) _ _ _ rfl (hown.alloc _) ⟨w2.heap.size, 0, none⟩ 1 1 [.int .i64 y, .int .i64 y] rfl rfl (cell_two_new _ _ _ _) ?c2 ?c3 ?c4 ?c5 ?_)
            case c2 => intro u hu; simp at hu; subst hu; rfl
            case c3 => unfold maxLen; omega
            case c4 => omega
            case c5 => have := hA.size; simp; omega
            intro v' w4 hown' hgr _
            have hA' := (hA.step ((Below.refl _ w2).alloc (Nat.le_refl _) (.cells #[.int .i64 y, .int .i64 y] 94))).grown hgr (fun x hx => (hown.lt x hx).1)
            obtain ⟨g', c', rfl⟩ := formJ hown' (by omega)
            clear hgr hown hA
            go_wp2
            go_roundw
            case rel => exact ⟨g', c', ys ++ [s] ++ [⟨y, y⟩], y + 1, k, by omega, by omega, rfl, by simp, by have h := hown'; simp [encSp] at h ⊢; exact h, hA', hM, by simp; omega⟩
            case measure => simp [intOf]; omega
    · have hlt' : decide (y ≤ t) = false := by simpa using hlt
      obtain rfl : k = 0 := by omega
      have hM : out = R := hM.out
      subst hM
      go_wp2
      go_ret
      exact ⟨g, c, rfl, own_base hown (by omega), hA.below⟩
def cntF (rs : List Rg) (f t : Int) (cs : List Cl) : Int × Int := if datedB rs f t cs = true then (cntSp (spRun (fitB rs cs) f (t - f + 1).toNat []), 0) else (0, 1)
/-- A list of spans, if it is not too long. -/
def limR (xs : List Sp) : List Sp × Int := if 300 < xs.length then ([], 3) else (xs, 0)
def fitR (rs : List Rg) (f t : Int) (cs : List Cl) : List Sp × Int := if datedB rs f t cs = true then limR (spRun (fitB rs cs) f (t - f + 1).toNat []) else ([], 1)
theorem limR_len (xs : List Sp) : (limR xs).1.length ≤ 300 := by
  unfold limR
  split
  · simp
  · simp; omega
theorem fitR_len (rs : List Rg) (f t : Int) (cs : List Cl) : (fitR rs f t cs).1.length ≤ 1048576 := by
  unfold fitR
  split
  · have := limR_len (spRun (fitB rs cs) f (t - f + 1).toNat []); omega
  · simp
theorem l02Result_any (g c : Nat) (xs : List Sp) (w : World) (hl : xs.length ≤ 1048576) (B : Nat) (hown : w.ownsRow B 94 2 (.slice (some ⟨g, 0, none⟩) xs.length c) xs.length (xs.flatMap encSp)) :
    Calls Tryz.prog 71 #[.slice (some ⟨g, 0, none⟩) xs.length c] w fun e w' => ∃ b c, e = .returned (.tuple #[.slice b (limR xs).1.length c, .int .i64 (limR xs).2]) ∧ w'.ownsRow B 94 2 (.slice b (limR xs).1.length c) (limR xs).1.length ((limR xs).1.flatMap encSp) ∧ Below w.heap.size w w' := by
  by_cases h : 300 < xs.length
  · have hR : Hid (limR xs = ([], 3)) := by unfold Hid limR; rw [if_pos h]
    generalize limR xs = V at hR ⊢
    have h' : (300 : Int) < (xs.length : Int) := by omega
    go_enter Tryz.func71, Tryz.ntmps71
    go_wp2
    go_ret2
    rw [hR.out]
    exact ⟨none, 0, rfl, World.ownsRow_nil _ _ _ _, Below.refl _ _⟩
  · have hR : Hid (limR xs = (xs, 0)) := by unfold Hid limR; rw [if_neg h]
    generalize limR xs = V at hR ⊢
    have h' : decide ((300 : Int) < (xs.length : Int)) = false := by simp; omega
    go_enter Tryz.func71, Tryz.ntmps71
    go_wp2
    go_ret2
    rw [hR.out]
    exact ⟨_, c, rfl, hown, Below.refl _ _⟩
set_option maxHeartbeats 1000000 in
theorem specCount_any (a0 a1 : Option Addr) (cap0 cap1 : Nat) (rs : List Rg) (f t : Int) (cs : List Cl) (w : World) (hl0 : rs.length ≤ 1048576) (hx0 : Rd encRg w a0 rs) (hs0 : ∀ m ∈ rs, m.king.size ≤ 1048576) (hl1 : cs.length ≤ 1048576) (hx1 : Rd encCl w a1 cs) (hs1 : ∀ m ∈ cs, szCl m ≤ 1048576) :
    Calls Tryz.prog 12 #[.agg #[.slice a0 rs.length cap0, .int .i64 f, .int .i64 t], .slice a1 cs.length cap1] w fun e w' => e = .returned (.tuple #[.int .i64 (cntF rs f t cs).1, .int .i64 (cntF rs f t cs).2]) ∧ Below w.heap.size w w' := by
  have hA := At.start w [.slice a0 rs.length cap0, .int .i64 f, .int .i64 t] 32
  have HV := Lib.hid (fun W (h : At w [.slice a0 rs.length cap0, .int .i64 f, .int .i64 t] W) => l12Valid_any a0 a1 cap0 cap1 rs f t cs W hl0 (hx0.below h.below) hs0 hl1 (hx1.below h.below) hs1)
  have c0 := hA.cell 0 _ rfl
  have c1 := hA.cell 1 _ rfl
  have c2 := hA.cell 2 _ rfl
  cases hd : datedB rs f t cs
  · have hR : Hid (cntF rs f t cs = (0, 1)) := by unfold Hid cntF; rw [hd]; rfl
    generalize cntF rs f t cs = V at hR ⊢
    have HV := Lib.hid (fun W h => hd ▸ HV.out W h)
    go_enter Tryz.func12, Tryz.ntmps12
    go_wp2_with fail
    refine (HV.out _ hA).mono ?_
    rintro e w1 ⟨rfl, hB1⟩
    go_wp2
    go_ret2
    rw [hR.out]
    exact ⟨rfl, (hA.step hB1).below⟩
  obtain ⟨hfr, hok, _, hf0, hft, ht, htf⟩ := dated_facts hd
  have HV := Lib.hid (fun W h => hd ▸ HV.out W h)
  have HF := Lib.hid (fun W (h : At w [.slice a0 rs.length cap0, .int .i64 f, .int .i64 t] W) => l12Set_any a0 a1 cap0 cap1 rs f t cs W hl0 (hx0.below h.below) hfr hl1 (hx1.below h.below) hok hf0 hft ht htf)
  have hR : Hid (cntF rs f t cs = (cntSp (spRun (fitB rs cs) f (t - f + 1).toNat []), 0)) := by unfold Hid cntF; rw [hd]; rfl
  have hin : inSp 0 730499 (spRun (fitB rs cs) f (t - f + 1).toNat []) := inSp_run _ (by intro s hs; cases hs) (by omega) (by omega)
  have hlen := spRun_len (q := fitB rs cs) (t - f + 1).toNat (a := f) (out := [])
  generalize cntF rs f t cs = V at hR ⊢
  generalize spRun (fitB rs cs) f (t - f + 1).toNat [] = xs at HF hR hin hlen
  clear hd
  go_enter Tryz.func12, Tryz.ntmps12
  go_wp2_with fail
  refine (HV.out _ hA).mono ?_
  rintro e w1 ⟨rfl, hB1⟩
  have hA := hA.step hB1
  clear c0 c1 c2 hB1
  have c0 := hA.cell 0 _ rfl
  have c1 := hA.cell 1 _ rfl
  have c2 := hA.cell 2 _ rfl
  go_wp2_with fail
  refine (HF.out _ hA).mono ?_
  rintro e w2 ⟨g, c, rfl, hown, hB2⟩
  have hown := own_base hown hA.below.size
  have hA := hA.step hB2
  clear c0 c1 c2 hB2
  go_wp2_with fail
  refine (l02Count_any (some ⟨g, 0, none⟩) c xs.length xs _ rfl (by simp at hlen; omega) (Rd.of_own encSp_len (by decide) hown) hin).mono ?_
  rintro e w3 ⟨rfl, hB3⟩
  go_wp2
  go_ret2
  rw [hR.out]
  exact ⟨rfl, (hA.step hB3).below⟩
set_option maxHeartbeats 1000000 in
theorem specFitting_any (a0 a1 : Option Addr) (cap0 cap1 : Nat) (rs : List Rg) (f t : Int) (cs : List Cl) (w : World) (hl0 : rs.length ≤ 1048576) (hx0 : Rd encRg w a0 rs) (hs0 : ∀ m ∈ rs, m.king.size ≤ 1048576) (hl1 : cs.length ≤ 1048576) (hx1 : Rd encCl w a1 cs) (hs1 : ∀ m ∈ cs, szCl m ≤ 1048576) :
    Calls Tryz.prog 27 #[.agg #[.slice a0 rs.length cap0, .int .i64 f, .int .i64 t], .slice a1 cs.length cap1] w fun e w' => ∃ b c, e = .returned (.tuple #[.slice b (fitR rs f t cs).1.length c, .int .i64 (fitR rs f t cs).2]) ∧ w'.ownsRow w.heap.size 94 2 (.slice b (fitR rs f t cs).1.length c) (fitR rs f t cs).1.length ((fitR rs f t cs).1.flatMap encSp) ∧ Below w.heap.size w w' := by
  have hA := At.start w [.slice a0 rs.length cap0, .int .i64 f, .int .i64 t] 32
  have HV := Lib.hid (fun W (h : At w [.slice a0 rs.length cap0, .int .i64 f, .int .i64 t] W) => l12Valid_any a0 a1 cap0 cap1 rs f t cs W hl0 (hx0.below h.below) hs0 hl1 (hx1.below h.below) hs1)
  have c0 := hA.cell 0 _ rfl
  have c1 := hA.cell 1 _ rfl
  have c2 := hA.cell 2 _ rfl
  cases hd : datedB rs f t cs
  · have hR : Hid (fitR rs f t cs = ([], 1)) := by unfold Hid fitR; rw [hd]; rfl
    generalize fitR rs f t cs = V at hR ⊢
    have HV := Lib.hid (fun W h => hd ▸ HV.out W h)
    go_enter Tryz.func27, Tryz.ntmps27
    go_wp2_with fail
    refine (HV.out _ hA).mono ?_
    rintro e w1 ⟨rfl, hB1⟩
    go_wp2
    go_ret2
    rw [hR.out]
    exact ⟨none, 0, rfl, World.ownsRow_nil _ _ _ _, (hA.step hB1).below⟩
  obtain ⟨hfr, hok, _, hf0, hft, ht, htf⟩ := dated_facts hd
  have HV := Lib.hid (fun W h => hd ▸ HV.out W h)
  have HF := Lib.hid (fun W (h : At w [.slice a0 rs.length cap0, .int .i64 f, .int .i64 t] W) => l12Set_any a0 a1 cap0 cap1 rs f t cs W hl0 (hx0.below h.below) hfr hl1 (hx1.below h.below) hok hf0 hft ht htf)
  have hR : Hid (fitR rs f t cs = limR (spRun (fitB rs cs) f (t - f + 1).toNat [])) := by unfold Hid fitR; rw [hd]; rfl
  have hlen := spRun_len (q := fitB rs cs) (t - f + 1).toNat (a := f) (out := [])
  generalize fitR rs f t cs = V at hR ⊢
  generalize spRun (fitB rs cs) f (t - f + 1).toNat [] = xs at HF hR hlen
  clear hd
  go_enter Tryz.func27, Tryz.ntmps27
  go_wp2_with fail
  refine (HV.out _ hA).mono ?_
  rintro e w1 ⟨rfl, hB1⟩
  have hA := hA.step hB1
  clear c0 c1 c2 hB1
  have c0 := hA.cell 0 _ rfl
  have c1 := hA.cell 1 _ rfl
  have c2 := hA.cell 2 _ rfl
  go_wp2_with fail
  refine (HF.out _ hA).mono ?_
  rintro e w2 ⟨g, c, rfl, hown, hB2⟩
  have hown := own_base hown hA.below.size
  have hA := hA.step hB2
  clear c0 c1 c2 hB2
  go_wp2_with fail
  refine (l02Result_any g c xs _ (by simp at hlen; omega) _ hown).mono ?_
  rintro e w3 ⟨b, c, rfl, hown, hB3⟩
  go_wp2
  go_ret2
  rw [hR.out]
  exact ⟨b, c, rfl, hown, (hA.step hB3).below⟩
end

section
open Go.ChangeShapes Go.WideShapes Go.ChangeAt Go.RowKit Go.IntWalk

theorem limited_any (g c : Nat) (xs : List Sp) (w : World) (hl : xs.length ≤ 1048576) (B : Nat) (hown : w.ownsRow B 94 2 (.slice (some ⟨g, 0, none⟩) xs.length c) xs.length (xs.flatMap encSp)) :
    Calls Tryz.prog 72 #[.slice (some ⟨g, 0, none⟩) xs.length c] w fun e w' => ∃ b c, e = .returned (.tuple #[.slice b (limR xs).1.length c, .int .i64 (limR xs).2]) ∧ w'.ownsRow B 94 2 (.slice b (limR xs).1.length c) (limR xs).1.length ((limR xs).1.flatMap encSp) ∧ Below w.heap.size w w' := by
  by_cases h : 300 < xs.length
  · have hR : Hid (limR xs = ([], 3)) := by unfold Hid limR; rw [if_pos h]
    generalize limR xs = V at hR ⊢
    have h' : (300 : Int) < (xs.length : Int) := by omega
    go_enter Tryz.func72, Tryz.ntmps72
    go_wp2
    go_ret2
    rw [hR.out]
    exact ⟨none, 0, rfl, World.ownsRow_nil _ _ _ _, Below.refl _ _⟩
  · have hR : Hid (limR xs = (xs, 0)) := by unfold Hid limR; rw [if_neg h]
    generalize limR xs = V at hR ⊢
    have h' : decide ((300 : Int) < (xs.length : Int)) = false := by simp; omega
    go_enter Tryz.func72, Tryz.ntmps72
    go_wp2
    go_ret2
    rw [hR.out]
    exact ⟨_, c, rfl, hown, Below.refl _ _⟩
set_option maxHeartbeats 1000000 in
theorem implCount_any (a0 a1 : Option Addr) (cap0 cap1 : Nat) (rs : List Rg) (f t : Int) (cs : List Cl) (w : World) (hl0 : rs.length ≤ 1048576) (hx0 : Rd encRg w a0 rs) (hs0 : ∀ m ∈ rs, m.king.size ≤ 1048576) (hl1 : cs.length ≤ 1048576) (hx1 : Rd encCl w a1 cs) (hs1 : ∀ m ∈ cs, szCl m ≤ 1048576) :
    Calls Tryz.prog 15 #[.agg #[.slice a0 rs.length cap0, .int .i64 f, .int .i64 t], .slice a1 cs.length cap1] w fun e w' => e = .returned (.tuple #[.int .i64 (cntF rs f t cs).1, .int .i64 (cntF rs f t cs).2]) ∧ Below w.heap.size w w' := by
  have hA := At.start w [.slice a0 rs.length cap0, .int .i64 f, .int .i64 t] 32
  have HV := Lib.hid (fun W (h : At w [.slice a0 rs.length cap0, .int .i64 f, .int .i64 t] W) => isDated_any a0 a1 cap0 cap1 rs f t cs W hl0 (hx0.below h.below) hs0 hl1 (hx1.below h.below) hs1)
  have c0 := hA.cell 0 _ rfl
  have c1 := hA.cell 1 _ rfl
  have c2 := hA.cell 2 _ rfl
  cases hd : datedB rs f t cs
  · have hR : Hid (cntF rs f t cs = (0, 1)) := by unfold Hid cntF; rw [hd]; rfl
    generalize cntF rs f t cs = V at hR ⊢
    have HV := Lib.hid (fun W h => hd ▸ HV.out W h)
    go_enter Tryz.func15, Tryz.ntmps15
    go_wp2_with fail
    refine (HV.out _ hA).mono ?_
    rintro e w1 ⟨rfl, hB1⟩
    go_wp2
    go_ret2
    rw [hR.out]
    exact ⟨rfl, (hA.step hB1).below⟩
  obtain ⟨hfr, hok, _, hf0, hft, ht, htf⟩ := dated_facts hd
  have HV := Lib.hid (fun W h => hd ▸ HV.out W h)
  have HF := Lib.hid (fun W (h : At w [.slice a0 rs.length cap0, .int .i64 f, .int .i64 t] W) => fittingDays_any a0 a1 cap0 cap1 rs f t cs W hl0 (hx0.below h.below) hfr hl1 (hx1.below h.below) hok hf0 hft ht htf)
  have hR : Hid (cntF rs f t cs = (cntSp (spRun (fitB rs cs) f (t - f + 1).toNat []), 0)) := by unfold Hid cntF; rw [hd]; rfl
  have hin : inSp 0 730499 (spRun (fitB rs cs) f (t - f + 1).toNat []) := inSp_run _ (by intro s hs; cases hs) (by omega) (by omega)
  have hlen := spRun_len (q := fitB rs cs) (t - f + 1).toNat (a := f) (out := [])
  generalize cntF rs f t cs = V at hR ⊢
  generalize spRun (fitB rs cs) f (t - f + 1).toNat [] = xs at HF hR hin hlen
  clear hd
  go_enter Tryz.func15, Tryz.ntmps15
  go_wp2_with fail
  refine (HV.out _ hA).mono ?_
  rintro e w1 ⟨rfl, hB1⟩
  have hA := hA.step hB1
  clear c0 c1 c2 hB1
  have c0 := hA.cell 0 _ rfl
  have c1 := hA.cell 1 _ rfl
  have c2 := hA.cell 2 _ rfl
  go_wp2_with fail
  refine (HF.out _ hA).mono ?_
  rintro e w2 ⟨g, c, rfl, hown, hB2⟩
  have hown := own_base hown hA.below.size
  have hA := hA.step hB2
  clear c0 c1 c2 hB2
  go_wp2_with fail
  refine (countDays_any (some ⟨g, 0, none⟩) c xs.length xs _ rfl (by simp at hlen; omega) (Rd.of_own encSp_len (by decide) hown) hin).mono ?_
  rintro e w3 ⟨rfl, hB3⟩
  go_wp2
  go_ret2
  rw [hR.out]
  exact ⟨rfl, (hA.step hB3).below⟩
set_option maxHeartbeats 1000000 in
theorem implFitting_any (a0 a1 : Option Addr) (cap0 cap1 : Nat) (rs : List Rg) (f t : Int) (cs : List Cl) (w : World) (hl0 : rs.length ≤ 1048576) (hx0 : Rd encRg w a0 rs) (hs0 : ∀ m ∈ rs, m.king.size ≤ 1048576) (hl1 : cs.length ≤ 1048576) (hx1 : Rd encCl w a1 cs) (hs1 : ∀ m ∈ cs, szCl m ≤ 1048576) :
    Calls Tryz.prog 28 #[.agg #[.slice a0 rs.length cap0, .int .i64 f, .int .i64 t], .slice a1 cs.length cap1] w fun e w' => ∃ b c, e = .returned (.tuple #[.slice b (fitR rs f t cs).1.length c, .int .i64 (fitR rs f t cs).2]) ∧ w'.ownsRow w.heap.size 94 2 (.slice b (fitR rs f t cs).1.length c) (fitR rs f t cs).1.length ((fitR rs f t cs).1.flatMap encSp) ∧ Below w.heap.size w w' := by
  have hA := At.start w [.slice a0 rs.length cap0, .int .i64 f, .int .i64 t] 32
  have HV := Lib.hid (fun W (h : At w [.slice a0 rs.length cap0, .int .i64 f, .int .i64 t] W) => isDated_any a0 a1 cap0 cap1 rs f t cs W hl0 (hx0.below h.below) hs0 hl1 (hx1.below h.below) hs1)
  have c0 := hA.cell 0 _ rfl
  have c1 := hA.cell 1 _ rfl
  have c2 := hA.cell 2 _ rfl
  cases hd : datedB rs f t cs
  · have hR : Hid (fitR rs f t cs = ([], 1)) := by unfold Hid fitR; rw [hd]; rfl
    generalize fitR rs f t cs = V at hR ⊢
    have HV := Lib.hid (fun W h => hd ▸ HV.out W h)
    go_enter Tryz.func28, Tryz.ntmps28
    go_wp2_with fail
    refine (HV.out _ hA).mono ?_
    rintro e w1 ⟨rfl, hB1⟩
    go_wp2
    go_ret2
    rw [hR.out]
    exact ⟨none, 0, rfl, World.ownsRow_nil _ _ _ _, (hA.step hB1).below⟩
  obtain ⟨hfr, hok, _, hf0, hft, ht, htf⟩ := dated_facts hd
  have HV := Lib.hid (fun W h => hd ▸ HV.out W h)
  have HF := Lib.hid (fun W (h : At w [.slice a0 rs.length cap0, .int .i64 f, .int .i64 t] W) => fittingDays_any a0 a1 cap0 cap1 rs f t cs W hl0 (hx0.below h.below) hfr hl1 (hx1.below h.below) hok hf0 hft ht htf)
  have hR : Hid (fitR rs f t cs = limR (spRun (fitB rs cs) f (t - f + 1).toNat [])) := by unfold Hid fitR; rw [hd]; rfl
  have hlen := spRun_len (q := fitB rs cs) (t - f + 1).toNat (a := f) (out := [])
  generalize fitR rs f t cs = V at hR ⊢
  generalize spRun (fitB rs cs) f (t - f + 1).toNat [] = xs at HF hR hlen
  clear hd
  go_enter Tryz.func28, Tryz.ntmps28
  go_wp2_with fail
  refine (HV.out _ hA).mono ?_
  rintro e w1 ⟨rfl, hB1⟩
  have hA := hA.step hB1
  clear c0 c1 c2 hB1
  have c0 := hA.cell 0 _ rfl
  have c1 := hA.cell 1 _ rfl
  have c2 := hA.cell 2 _ rfl
  go_wp2_with fail
  refine (HF.out _ hA).mono ?_
  rintro e w2 ⟨g, c, rfl, hown, hB2⟩
  have hown := own_base hown hA.below.size
  have hA := hA.step hB2
  clear c0 c1 c2 hB2
  go_wp2_with fail
  refine (limited_any g c xs _ (by simp at hlen; omega) _ hown).mono ?_
  rintro e w3 ⟨b, c, rfl, hown, hB3⟩
  go_wp2
  go_ret2
  rw [hR.out]
  exact ⟨b, c, rfl, hown, (hA.step hB3).below⟩
end
end Go.Proofs.YtdbgnbohdplndaaGreatDoor
