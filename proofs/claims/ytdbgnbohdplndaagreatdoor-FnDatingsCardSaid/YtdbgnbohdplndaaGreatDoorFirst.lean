/- Walks: FirstFitting of the program. Printed by gen_first.py. -/
import Derived.Test.YtdbgnbohdplndaaGreatDoorHoldP
import Derived.Test.YtdbgnbohdplndaaGreatDoorHoldI
import Derived.Test.YtdbgnbohdplndaaGreatDoorFfit11
import Derived.Test.YtdbgnbohdplndaaGreatDoorSpRow
import Derived.Test.YtdbgnbohdplndaaGreatDoorSpMet
import Derived.Test.YtdbgnbohdplndaaGreatDoorFix
import Derived.Deep.AppendLies
import Derived.Deep.LoopGhost
import Derived.Test.YtdbgnbohdplndaaGreatDoorNextH
import Derived.Test.YtdbgnbohdplndaaGreatDoorChan
import Derived.Test.YtdbgnbohdplndaaGreatDoorDating
namespace Go.Proofs.YtdbgnbohdplndaaGreatDoor
section
open Go.ChangeShapes Go.WideShapes Go.ChangeAt Go.RowKit Go.IntWalk

set_option maxHeartbeats 1000000 in
theorem fit11_any (a0 : Option Addr) (cap0 : Nat) (rs : List Rg) (p2 p3 : Nat) (c : Cl) (n : Int) (w : World) (hok : okCl c = true) (hl0 : rs.length ≤ 1048576) (hx0 : Rd encRg w a0 rs) (hfr : ∀ r ∈ rs, 0 ≤ r.fr) (hn0 : 0 ≤ n) (hn : n ≤ 730499) (c0 : w.cell? ⟨p2, 0, none⟩ = some (.slice a0 rs.length cap0)) (cn : w.cell? ⟨p3, 0, none⟩ = some (.int .i64 n)) (s2 : p2 < w.heap.size) (s3 : p3 < w.heap.size) :
    Calls Tryz.prog 99 #[.agg #[.int .i64 c.kind, .int .i64 c.number, .int .i64 c.month, .int .i64 c.feast, .int .i64 c.relation, .int .i64 c.weekday, .int .i64 c.style, .string c.king], .pointer (some ⟨p2, 0, none⟩), .pointer (some ⟨p3, 0, none⟩)] w fun e w' => e = .returned (.bool (!holdB rs c n)) ∧ Below w.heap.size w w' := by
  have hA := At.start w [.int .i64 c.kind, .int .i64 c.number, .int .i64 c.month, .int .i64 c.feast, .int .i64 c.relation, .int .i64 c.weekday, .int .i64 c.style, .string c.king] 57
  have HH := Lib.hid (fun W (h : Below w.heap.size w W) => holds_any a0 cap0 rs c n W hok hl0 (hx0.below h) hfr hn0 hn)
  have b0 := (hA.below.cell (p := ⟨p2, 0, none⟩) s2).trans c0
  have bn := (hA.below.cell (p := ⟨p3, 0, none⟩) s3).trans cn
  generalize holdB rs c n = V at HH ⊢
  clear c0 cn
  have x0 := hA.cell 0 _ rfl
  have x1 := hA.cell 1 _ rfl
  have x2 := hA.cell 2 _ rfl
  have x3 := hA.cell 3 _ rfl
  have x4 := hA.cell 4 _ rfl
  have x5 := hA.cell 5 _ rfl
  have x6 := hA.cell 6 _ rfl
  have x7 := hA.cell 7 _ rfl
  cases V
  all_goals
    go_enter Tryz.func99, Tryz.ntmps99
    go_wp2_with fail
    refine (HH.out _ hA.below).mono ?_
    rintro e w1 ⟨rfl, hB1⟩
    go_wp2
    go_ret
    exact ⟨rfl, (hA.step hB1).below⟩
set_option maxRecDepth 100000 in
set_option maxHeartbeats 4000000 in
theorem daysFor_any (p1 p2 : Nat) (f t : Int) (q : Int → Bool) (w : World) (hf : 0 ≤ f) (hft : f ≤ t) (ht : t ≤ 730499) (htf : t ≤ f + 20000)
    (hq : ∀ W, Below w.heap.size w W → ∀ n : Int, f ≤ n → n ≤ t → Calls Tryz.prog 97 #[.int .i64 n, .pointer (some ⟨p1, 0, none⟩), .pointer (some ⟨p2, 0, none⟩)] W fun e w' => e = .returned (.bool (q n)) ∧ Below W.heap.size W w') :
    Calls Tryz.prog 96 #[.int .i64 f, .int .i64 t, .func (.func 97) #[] #[.pointer (some ⟨p1, 0, none⟩), .pointer (some ⟨p2, 0, none⟩)]] w fun e w' => ∃ g c, e = .returned (.slice (some ⟨g, 0, none⟩) (spRun q f (t - f + 1).toNat []).length c) ∧ w'.ownsRow w.heap.size 94 2 (.slice (some ⟨g, 0, none⟩) (spRun q f (t - f + 1).toNat []).length c) (spRun q f (t - f + 1).toNat []).length ((spRun q f (t - f + 1).toNat []).flatMap encSp) ∧ Below w.heap.size w w' := by
  have HQ := Lib.hid hq
  clear hq
  obtain ⟨i0, hi, hz0, hz1, hz2⟩ := info_parts infoSp
  have hBs : Below w.heap.size w (w.alloc (.cells #[] 94)) := (Below.refl _ w).alloc (Nat.le_refl _) _
  have howns := World.ownsRow_made w #[] 0 (Nat.le_refl _) (by decide) rfl (e := 94) (size := 2)
  generalize hR : spRun q f (t - f + 1).toNat [] = R
  have hR := Lib.hid hR
  go_enter Tryz.func96, Tryz.ntmps96
  go_wp2
  go_loopw [7, 8] (fun s i wr => ∃ (g c : Nat) (out : List Sp) (y : Int) (k : Nat), f ≤ y ∧ y + k = t + 1 ∧ i = .int .i64 y ∧ s = .slice (some ⟨g, 0, none⟩) out.length c ∧ wr.ownsRow w.heap.size 94 2 (.slice (some ⟨g, 0, none⟩) out.length c) out.length (out.flatMap encSp) ∧ Below w.heap.size w wr ∧ Hid (spRun q y k out = R) ∧ out.length + k ≤ 20001) (fun _ i _ => (730500 - intOf i).toNat)
  case atStart => exact ⟨_, _, [], f, (t - f + 1).toNat, Int.le_refl _, by omega, rfl, rfl, howns, hBs, hR.out, by simp; omega⟩
  case round =>
    clear howns hBs hR
    obtain ⟨g, c, out, y, k, hfy, hyk, rfl, rfl, hown, hB, hM, hlen⟩ := hrel
    by_cases hlt : y ≤ t
    · obtain ⟨k, rfl⟩ : ∃ k', k = k' + 1 := ⟨k - 1, by omega⟩
      have v3 := i64_in (y + 1) (by omega)
      have v4 := i64_in (y - 1) (by omega)
      have HQy := Lib.hid (HQ.out wr hB y hfy hlt)
      cases hg : q y
      · have hM := Lib.hid (spRun_no (out := out) k hg ▸ hM.out)
        have HQy := Lib.hid (hg ▸ HQy.out)
        go_wp2_with fail
        refine HQy.out.mono ?_
        rintro e w2 ⟨rfl, hB2⟩
        go_wp2
        go_roundw
        case rel => exact ⟨g, c, out, y + 1, k, by omega, by omega, rfl, rfl, own_below hown hB2, stepB hB hB2 hB.size, hM.out, by omega⟩
        case measure => simp [intOf]; omega
      · have hM := Lib.hid (spRun_hit (out := out) k hg ▸ hM.out)
        have HQy := Lib.hid (hg ▸ HQy.out)
        rcases List.eq_nil_or_concat out with rfl | ⟨ys, s, rfl⟩
        · have hM : Hid (spRun q (y + 1) k [⟨y, y⟩] = R) := hM.out
          go_wp2_with fail
          refine HQy.out.mono ?_
          rintro e w2 ⟨rfl, hB2⟩
          have hown := own_below hown hB2
          have hB := stepB hB hB2 hB.size
          clear hB2
          go_wp2_with (at_builtin; refine wpList_append_own _ rfl _ _ 49 rfl w.heap.size 94 i0 (.agg #[.int .i64 0, .int .i64 0]) 2 16 Tryz.underlying49 hi hz0 hz1 hz2 rfl (by decide) _ _ _ rfl (hown.alloc _) ⟨w2.heap.size, 0, none⟩ 1 1 [.int .i64 y, .int .i64 y] rfl rfl (cell_two_new _ _ _ _) ?c2 ?c3 ?c4 ?c5 ?_)
          case c2 => intro u hu; simp at hu; subst hu; rfl
          case c3 => unfold maxLen; omega
          case c4 => omega
          case c5 => have := hB.size; simp; omega
          intro v' w4 hown' hgr _
          have hB' := (hB.alloc hB.size (.cells #[.int .i64 y, .int .i64 y] 94)).grown hgr (Nat.le_trans hB.size (by simp)) (fun x hx => (hown.lt x hx).1)
          obtain ⟨g', c', rfl⟩ := formJ hown' (by omega)
          clear hgr hown hB
          go_wp2
          go_roundw
          case rel => exact ⟨g', c', [⟨y, y⟩], y + 1, k, by omega, by omega, rfl, rfl, hown', hB', hM, by simp; omega⟩
          case measure => simp [intOf]; omega
        · rw [List.concat_eq_append] at hown hM hlen ⊢
          rw [spStep_snoc] at hM
          have hl : (ys ++ [s]).length = ys.length + 1 := by simp
          rw [hl] at hown hlen ⊢
          have v5 := i64_in (ys.length : Int) (by omega)
          have hli : (ys.length : Int) < ((ys.length : Int) + 1) := by omega
          by_cases h1 : s.to = y - 1
          · rw [if_pos h1] at hM
            have hM := Lib.hid hM.out
            have h1' : (s.to == y - 1) = true := by simpa using h1
            clear h1 hl
            go_wp2_with fail
            refine HQy.out.mono ?_
            rintro e w2 ⟨rfl, hB2⟩
            have hown := own_below hown hB2
            have hB := stepB hB hB2 hB.size
            clear hB2
            have e1 := own_at encSp_len hown (i := ys.length) (x := s) (by simp) (j := 1) rfl
            have f1 := hown.frozenAt (ys.length * 2 + 1)
            have hput := Lib.hid (own_putTo (pre := ys) (x := s) (post := []) hown rfl y)
            have hgo := own_lt hown
            go_wp2
            go_roundw
            case rel => exact ⟨g, c, ys ++ [⟨s.fr, y⟩], y + 1, k, by omega, by omega, rfl, by simp, by simpa using hput.out.1, hB.grown hput.out.2 hB.size (fun x e => by cases e; exact hgo.1), hM, by simp; omega⟩
            case measure => simp [intOf]; omega
          · rw [if_neg h1] at hM
            have hM := Lib.hid hM.out
            have h1' : (s.to == y - 1) = false := by simpa using h1
            clear h1
            go_wp2_with fail
            refine HQy.out.mono ?_
            rintro e w2 ⟨rfl, hB2⟩
            have hown := own_below hown hB2
            have hB := stepB hB hB2 hB.size
            clear hB2
            have e1 := own_at encSp_len hown (i := ys.length) (x := s) (by simp) (j := 1) rfl
            go_wp2_with (at_builtin; refine wpList_append_own _ rfl _ _ 49 rfl w.heap.size 94 i0 (.agg #[.int .i64 0, .int .i64 0]) 2 16 Tryz.underlying49 hi hz0 hz1 hz2 rfl (by decide) _ _ _ rfl (hown.alloc _) ⟨w2.heap.size, 0, none⟩ 1 1 [.int .i64 y, .int .i64 y] rfl rfl (cell_two_new _ _ _ _) ?c2 ?c3 ?c4 ?c5 ?_)
            case c2 => intro u hu; simp at hu; subst hu; rfl
            case c3 => unfold maxLen; omega
            case c4 => omega
            case c5 => have := hB.size; simp; omega
            intro v' w4 hown' hgr _
            have hB' := (hB.alloc hB.size (.cells #[.int .i64 y, .int .i64 y] 94)).grown hgr (Nat.le_trans hB.size (by simp)) (fun x hx => (hown.lt x hx).1)
            obtain ⟨g', c', rfl⟩ := formJ hown' (by omega)
            clear hgr hown hB
            go_wp2
            go_roundw
            case rel => exact ⟨g', c', ys ++ [s] ++ [⟨y, y⟩], y + 1, k, by omega, by omega, rfl, by simp, by have h := hown'; simp [encSp] at h ⊢; exact h, hB', hM, by simp; omega⟩
            case measure => simp [intOf]; omega
    · have hlt' : decide (y ≤ t) = false := by simpa using hlt
      obtain rfl : k = 0 := by omega
      have hM : out = R := hM.out
      subst hM
      go_wp2
      go_ret
      exact ⟨g, c, rfl, hown, hB⟩
theorem any_not_all {α : Type} (p : α → Bool) (xs : List α) : (xs.any fun m => !p m) = !xs.all p := by
  induction xs with
  | nil => rfl
  | cons x xs ih => simp only [List.any_cons, List.all_cons, Bool.not_and, ih]
set_option maxHeartbeats 1000000 in
theorem fit1_any (a0 a1 : Option Addr) (cap0 cap1 : Nat) (rs : List Rg) (cs : List Cl) (p1 p2 : Nat) (n : Int) (w : World) (hl0 : rs.length ≤ 1048576) (hx0 : Rd encRg w a0 rs) (hfr : ∀ r ∈ rs, 0 ≤ r.fr) (hl1 : cs.length ≤ 1048576) (hx1 : Rd encCl w a1 cs) (hok : ∀ c ∈ cs, okCl c = true) (hn0 : 0 ≤ n) (hn : n ≤ 730499) (c1 : w.cell? ⟨p1, 0, none⟩ = some (.slice a1 cs.length cap1)) (c2 : w.cell? ⟨p2, 0, none⟩ = some (.slice a0 rs.length cap0)) (s1 : p1 < w.heap.size) (s2 : p2 < w.heap.size) :
    Calls Tryz.prog 97 #[.int .i64 n, .pointer (some ⟨p1, 0, none⟩), .pointer (some ⟨p2, 0, none⟩)] w fun e w' => e = .returned (.bool (fitB rs cs n)) ∧ Below w.heap.size w w' := by
  have hA := At.start w [.int .i64 n] 2
  have HC := Lib.hid (fun W (h : At w [.int .i64 n] W) => containsFunc_fittingDays_1_1 ⟨p2, 0, none⟩ ⟨w.heap.size, 0, none⟩ a1 cap1 cs (fun c => !holdB rs c n) W hl1 (hx1.below h.below) (fun W2 hB2 c hc => fit11_any a0 cap0 rs p2 w.heap.size c n W2 (hok c hc) hl0 (hx0.below (h.step hB2).below) hfr hn0 hn (((h.step hB2).below.cell (p := ⟨p2, 0, none⟩) s2).trans c2) ((h.step hB2).cell 0 _ rfl) (Nat.lt_of_lt_of_le s2 (h.step hB2).below.size) (h.step hB2).size))
  have hF : Hid (fitB rs cs n = !(cs.any (fun c => !holdB rs c n))) := by unfold Hid; rw [any_not_all, Bool.not_not]; rfl
  generalize fitB rs cs n = V at hF ⊢
  generalize cs.any (fun c => !holdB rs c n) = U at HC hF
  have b1 := (hA.below.cell (p := ⟨p1, 0, none⟩) s1).trans c1
  clear c1 c2
  cases U
  all_goals
    go_enter Tryz.func97, Tryz.ntmps97
    go_wp2_with fail
    refine (HC.out _ hA).mono ?_
    rintro e w1 ⟨rfl, hB1⟩
    go_wp2
    go_ret
    exact ⟨ret_bool hF.out.symm, (hA.step hB1).below⟩
set_option maxHeartbeats 1000000 in
theorem fittingDays_any (a0 a1 : Option Addr) (cap0 cap1 : Nat) (rs : List Rg) (f t : Int) (cs : List Cl) (w : World) (hl0 : rs.length ≤ 1048576) (hx0 : Rd encRg w a0 rs) (hfr : ∀ r ∈ rs, 0 ≤ r.fr) (hl1 : cs.length ≤ 1048576) (hx1 : Rd encCl w a1 cs) (hok : ∀ c ∈ cs, okCl c = true) (hf : 0 ≤ f) (hft : f ≤ t) (ht : t ≤ 730499) (htf : t ≤ f + 20000) :
    Calls Tryz.prog 60 #[.agg #[.slice a0 rs.length cap0, .int .i64 f, .int .i64 t], .slice a1 cs.length cap1] w fun e w' => ∃ g c, e = .returned (.slice (some ⟨g, 0, none⟩) (spRun (fitB rs cs) f (t - f + 1).toNat []).length c) ∧ w'.ownsRow w.heap.size 94 2 (.slice (some ⟨g, 0, none⟩) (spRun (fitB rs cs) f (t - f + 1).toNat []).length c) (spRun (fitB rs cs) f (t - f + 1).toNat []).length ((spRun (fitB rs cs) f (t - f + 1).toNat []).flatMap encSp) ∧ Below w.heap.size w w' := by
  have s1 : (w.alloc (.cells #[.slice a0 rs.length cap0, .int .i64 f, .int .i64 t] 32)).heap.size = w.heap.size + 1 := by simp
  have h1 := Box.new w 32 [.slice a0 rs.length cap0, .int .i64 f, .int .i64 t] w.heap.size (Nat.le_refl _) (by simp)
  have h2 := Box.new (w.alloc (.cells #[.slice a0 rs.length cap0, .int .i64 f, .int .i64 t] 32)) 34 [.slice a1 cs.length cap1] w.heap.size (by simp) (by simp)
  rw [s1] at h2
  have b1 := (Below.refl _ (w.alloc (.cells #[.slice a0 rs.length cap0, .int .i64 f, .int .i64 t] 32))).alloc (Nat.le_refl _) (.cells #[.slice a1 cs.length cap1] 34)
  have h1 := h1.below b1
  have hB : Below w.heap.size w ((w.alloc (.cells #[.slice a0 rs.length cap0, .int .i64 f, .int .i64 t] 32)).alloc (.cells #[.slice a1 cs.length cap1] 34)) := by go_grown
  clear b1 s1
  go_enter Tryz.func60, Tryz.ntmps60
  go_wp2_with fail
  generalize (w.alloc (.cells #[.slice a0 rs.length cap0, .int .i64 f, .int .i64 t] 32)).alloc (.cells #[.slice a1 cs.length cap1] 34) = W at h1 h2 hB ⊢
  have c0 := h1.cell 0 _ rfl
  have c1 := h1.cell 1 _ rfl
  have c2 := h1.cell 2 _ rfl
  have d0 := h2.cell 0 _ rfl
  refine (daysFor_any (w.heap.size + 1) w.heap.size f t (fitB rs cs) W hf hft ht htf (fun W2 hB2 n h0 h4 => fit1_any a0 a1 cap0 cap1 rs cs (w.heap.size + 1) w.heap.size n W2 hl0 (hx0.below (stepB hB hB2 hB.size)) hfr hl1 (hx1.below (stepB hB hB2 hB.size)) hok (by omega) (by omega) ((hB2.cell (p := ⟨w.heap.size + 1, 0, none⟩) h2.lt.2).trans d0) ((hB2.cell (p := ⟨w.heap.size, 0, none⟩) h1.lt.2).trans c0) (Nat.lt_of_lt_of_le h2.lt.2 hB2.size) (Nat.lt_of_lt_of_le h1.lt.2 hB2.size))).mono ?_
  rintro e w1 ⟨g, c, rfl, hown, hB1⟩
  go_wp2
  go_ret
  exact ⟨g, c, rfl, own_base hown hB.size, stepB hB hB1 hB.size⟩
end

section
open Go.ChangeShapes Go.WideShapes Go.ChangeAt Go.RowKit Go.IntWalk

set_option maxRecDepth 100000 in
set_option maxHeartbeats 1000000 in
theorem l12Fits_any (a0 a1 : Option Addr) (cap0 cap1 : Nat) (rs : List Rg) (f t : Int) (cs : List Cl) (n : Int) (w : World) (hl0 : rs.length ≤ 1048576) (hx0 : Rd encRg w a0 rs) (hfr : ∀ r ∈ rs, 0 ≤ r.fr) (hl1 : cs.length ≤ 1048576) (hx1 : Rd encCl w a1 cs) (hok : ∀ c ∈ cs, okCl c = true) (hn0 : 0 ≤ n) (hn : n ≤ 730499) :
    Calls Tryz.prog 84 #[.agg #[.slice a0 rs.length cap0, .int .i64 f, .int .i64 t], .slice a1 cs.length cap1, .int .i64 n] w fun e w' => e = .returned (.bool (fitB rs cs n)) ∧ Below w.heap.size w w' := by
  have hA := At.start w [.slice a0 rs.length cap0, .int .i64 f, .int .i64 t] 32
  have HH := Lib.hid (fun c W (h : At w [.slice a0 rs.length cap0, .int .i64 f, .int .i64 t] W) (hc : c ∈ cs) => l11Holds_any a0 cap0 rs c n W (hok c hc) hl0 (hx0.below h.below) hfr hn0 hn)
  have hF : Hid (fitB rs cs n = cs.all (fun c => holdB rs c n)) := rfl
  generalize fitB rs cs n = V at hF ⊢
  generalize hp : (fun c => holdB rs c n) = p at hF
  have hpc := Lib.hid (fun c => (show holdB rs c n = p c by rw [← hp]))
  clear hp
  go_enter Tryz.func84, Tryz.ntmps84
  go_wp2
  go_loopw [7] (fun i wr => ∃ k : Nat, k ≤ cs.length ∧ i = .int .i64 k ∧ Hid (cs.all p = (cs.drop k).all p) ∧ At w [.slice a0 rs.length cap0, .int .i64 f, .int .i64 t] wr) (fun i _ => cs.length - (intOf i).toNat)
  case atStart => exact ⟨0, Nat.zero_le _, rfl, rfl, hA⟩
  case round =>
    clear hA
    obtain ⟨k, hk, rfl, hq, hA⟩ := hrel
    by_cases hlt : k < cs.length
    · have hlt' : (k : Int) < (cs.length : Int) := by omega
      have hm := List.getElem?_eq_getElem hlt
      have hmem := List.getElem_mem hlt
      have hdr : Hid (cs.all p = (p cs[k] && (cs.drop (k + 1)).all p)) := by unfold Hid; rw [hq.out, List.drop_eq_getElem_cons hlt]; rfl
      generalize cs[k] = c at hm hmem hdr
      obtain ⟨b, off, rfl, hb, c0, c1, c2, c3, c4, c5, c6, c7⟩ := (hx1.below hA.below).cl hm
      have HHc := Lib.hid (fun W h => hpc.out c ▸ HH.out c W h hmem)
      have E0 := Later.cell (hA.cell 0 _ rfl) hA.size
      have G0 := Later.cell c0 hb
      have G1 := Later.cell c1 hb
      have G2 := Later.cell c2 hb
      have G3 := Later.cell c3 hb
      have G4 := Later.cell c4 hb
      have G5 := Later.cell c5 hb
      have G6 := Later.cell c6 hb
      have G7 := Later.cell c7 hb
      clear hm hmem c0 c1 c2 c3 c4 c5 c6 c7
      cases hg : p c
      · have hR : Hid (V = false) := by unfold Hid; rw [hF.out, hdr.out, hg]; rfl
        have HHc := Lib.hid (fun W h => hg ▸ HHc.out W h)
        go_upto_region 4 with (fail)
        refine wp_region_later _ (by kernel_rfl) (by kernel_rfl) ?_
        repeat (go_big_quiet_step (fail))
        go_big_quiet_step ((go_at_call 82; exact Later.call (Nat.le_refl _) (HHc.out _ (hA.step (Later.prop _)))))
        repeat (go_big_quiet_step (fail))
        refine wpQuiet_nil ?_
        intro z
        have hz := z.prop
        generalize z.val = w2 at hz
        clear E0 G0 G1 G2 G3 G4 G5 G6 G7
        go_wp2
        go_ret
        exact ⟨ret_bool hR.out.symm, (hA.step hz).below⟩
      · have hq := Lib.hid (hdr.out.trans (by rw [hg, Bool.true_and] : _ = (cs.drop (k + 1)).all p))
        have HHc := Lib.hid (fun W h => hg ▸ HHc.out W h)
        go_upto_region 4 with (fail)
        refine wp_region_later _ (by kernel_rfl) (by kernel_rfl) ?_
        repeat (go_big_quiet_step (fail))
        go_big_quiet_step ((go_at_call 82; exact Later.call (Nat.le_refl _) (HHc.out _ (hA.step (Later.prop _)))))
        repeat (go_big_quiet_step (fail))
        refine wpQuiet_nil ?_
        intro z
        have hz := z.prop
        generalize z.val = w2 at hz
        clear E0 G0 G1 G2 G3 G4 G5 G6 G7
        go_wp2
        go_roundw
        case rel => exact ⟨k + 1, by omega, by go_num, hq.out, hA.step hz⟩
        case measure => simp [intOf]; omega
    · have hlt' : decide ((k : Int) < (cs.length : Int)) = false := by simp; omega
      have hR : Hid (V = true) := by unfold Hid; rw [hF.out, hq.out, List.drop_eq_nil_of_le (by omega)]; rfl
      go_wp2
      go_ret
      exact ⟨ret_bool hR.out.symm, hA.below⟩
def datedB (rs : List Rg) (f t : Int) (cs : List Cl) : Bool := isChanceryB rs f t && isDatingB cs
theorem l12Valid_any (a0 a1 : Option Addr) (cap0 cap1 : Nat) (rs : List Rg) (f t : Int) (cs : List Cl) (w : World) (hl0 : rs.length ≤ 1048576) (hx0 : Rd encRg w a0 rs) (hs0 : ∀ m ∈ rs, m.king.size ≤ 1048576) (hl1 : cs.length ≤ 1048576) (hx1 : Rd encCl w a1 cs) (hs1 : ∀ m ∈ cs, szCl m ≤ 1048576) :
    Calls Tryz.prog 53 #[.agg #[.slice a0 rs.length cap0, .int .i64 f, .int .i64 t], .slice a1 cs.length cap1] w fun e w' => e = .returned (.bool (datedB rs f t cs)) ∧ Below w.heap.size w w' := by
  have hA := At.start w [.slice a0 rs.length cap0, .int .i64 f, .int .i64 t] 32
  have HC := Lib.hid (fun W (h : At w [.slice a0 rs.length cap0, .int .i64 f, .int .i64 t] W) => specIsChancery_any a0 cap0 rs f t W hl0 (hx0.below h.below) hs0)
  have HD := Lib.hid (fun W (h : At w [.slice a0 rs.length cap0, .int .i64 f, .int .i64 t] W) => specIsDating_any a1 cap1 cs W hl1 (hx1.below h.below) hs1)
  have hV : Hid (datedB rs f t cs = (isChanceryB rs f t && isDatingB cs)) := rfl
  generalize datedB rs f t cs = V at hV ⊢
  generalize isDatingB cs = d at HD hV
  have c0 := hA.cell 0 _ rfl
  have c1 := hA.cell 1 _ rfl
  have c2 := hA.cell 2 _ rfl
  cases hc : isChanceryB rs f t
  · have hR : Hid (V = false) := by unfold Hid; rw [hV.out, hc]; rfl
    have HC := Lib.hid (fun W h => hc ▸ HC.out W h)
    go_enter Tryz.func53, Tryz.ntmps53
    go_wp2_with fail
    refine (HC.out _ hA).mono ?_
    rintro e w1 ⟨rfl, hB1⟩
    go_wp2
    go_ret
    exact ⟨ret_bool hR.out.symm, (hA.step hB1).below⟩
  · have hR : Hid (V = d) := by unfold Hid; rw [hV.out, hc]; rfl
    have HC := Lib.hid (fun W h => hc ▸ HC.out W h)
    go_enter Tryz.func53, Tryz.ntmps53
    go_wp2_with fail
    refine (HC.out _ hA).mono ?_
    rintro e w1 ⟨rfl, hB1⟩
    have hA := hA.step hB1
    go_wp2_with fail
    refine (HD.out _ hA).mono ?_
    rintro e w2 ⟨rfl, hB2⟩
    go_wp2
    go_ret
    exact ⟨ret_bool hR.out.symm, (hA.step hB2).below⟩
theorem dated_facts {rs : List Rg} {f t : Int} {cs : List Cl} (h : datedB rs f t cs = true) : (∀ r ∈ rs, 0 ≤ r.fr) ∧ (∀ c ∈ cs, okCl c = true) ∧ cs.length ≤ 8 ∧ 0 ≤ f ∧ f ≤ t ∧ t ≤ 730499 ∧ t ≤ f + 20000 := by
  unfold datedB isChanceryB isDatingB at h
  simp only [Bool.and_eq_true, dayB, inB, decide_eq_true_eq, List.all_eq_true] at h
  refine ⟨reigns_fr (by simp only [h]), ?_, ?_, ?_, ?_, ?_, ?_⟩
  · exact h.2.1
  all_goals omega
def firstF (rs : List Rg) (f t : Int) (cs : List Cl) : Int × Int :=
  if datedB rs f t cs = true then match fstR (fitB rs cs) f (t - f + 1).toNat with
    | some y => (y, 0)
    | none => (0, 4)
  else (0, 1)
set_option maxHeartbeats 1000000 in
theorem specFirst_any (a0 a1 : Option Addr) (cap0 cap1 : Nat) (rs : List Rg) (f t : Int) (cs : List Cl) (w : World) (hl0 : rs.length ≤ 1048576) (hx0 : Rd encRg w a0 rs) (hs0 : ∀ m ∈ rs, m.king.size ≤ 1048576) (hl1 : cs.length ≤ 1048576) (hx1 : Rd encCl w a1 cs) (hs1 : ∀ m ∈ cs, szCl m ≤ 1048576) :
    Calls Tryz.prog 43 #[.agg #[.slice a0 rs.length cap0, .int .i64 f, .int .i64 t], .slice a1 cs.length cap1] w fun e w' => e = .returned (.tuple #[.int .i64 (firstF rs f t cs).1, .int .i64 (firstF rs f t cs).2]) ∧ Below w.heap.size w w' := by
  have hA := At.start w [.slice a0 rs.length cap0, .int .i64 f, .int .i64 t] 32
  have HV := Lib.hid (fun W (h : At w [.slice a0 rs.length cap0, .int .i64 f, .int .i64 t] W) => l12Valid_any a0 a1 cap0 cap1 rs f t cs W hl0 (hx0.below h.below) hs0 hl1 (hx1.below h.below) hs1)
  have c0 := hA.cell 0 _ rfl
  have c1 := hA.cell 1 _ rfl
  have c2 := hA.cell 2 _ rfl
  cases hd : datedB rs f t cs
  · have hR : Hid (firstF rs f t cs = (0, 1)) := by unfold Hid firstF; rw [hd]; rfl
    generalize firstF rs f t cs = V at hR ⊢
    have HV := Lib.hid (fun W h => hd ▸ HV.out W h)
    go_enter Tryz.func43, Tryz.ntmps43
    go_wp2_with fail
    refine (HV.out _ hA).mono ?_
    rintro e w1 ⟨rfl, hB1⟩
    go_wp2
    go_ret2
    rw [hR.out]
    exact ⟨rfl, (hA.step hB1).below⟩
  · obtain ⟨hfr, hok, _, hf0, hft, ht, _⟩ := dated_facts hd
    have HV := Lib.hid (fun W h => hd ▸ HV.out W h)
    have hR : Hid (firstF rs f t cs = match fstR (fitB rs cs) f (t - f + 1).toNat with | some y => (y, 0) | none => (0, 4)) := by unfold Hid firstF; rw [hd]; rfl
    have HH := Lib.hid (fun y W (h : At w [.slice a0 rs.length cap0, .int .i64 f, .int .i64 t] W) h0 h4 => l12Fits_any a0 a1 cap0 cap1 rs f t cs y W hl0 (hx0.below h.below) hfr hl1 (hx1.below h.below) hok h0 h4)
    generalize firstF rs f t cs = V at hR ⊢
    generalize fitB rs cs = q at hR HH
    clear hd
    go_enter Tryz.func43, Tryz.ntmps43
    go_wp2_with fail
    refine (HV.out _ hA).mono ?_
    rintro e w1 ⟨rfl, hB1⟩
    have hA := hA.step hB1
    clear c0 c1 c2 hB1
    have c0 := hA.cell 0 _ rfl
    have c1 := hA.cell 1 _ rfl
    have c2 := hA.cell 2 _ rfl
    go_wp2
    go_loopw [6] (fun i wr => ∃ (y : Int) (k : Nat), f ≤ y ∧ y + k = t + 1 ∧ i = .int .i64 y ∧ Hid (fstR q f (t - f + 1).toNat = fstR q y k) ∧ At w [.slice a0 rs.length cap0, .int .i64 f, .int .i64 t] wr) (fun i _ => (730500 - intOf i).toNat)
    case atStart => exact ⟨f, (t - f + 1).toNat, Int.le_refl _, by omega, rfl, rfl, hA⟩
    case round =>
      clear hA c0 c1 c2
      obtain ⟨y, k, hfy, hyk, rfl, hq, hA⟩ := hrel
      have c0 := hA.cell 0 _ rfl
      have c1 := hA.cell 1 _ rfl
      have c2 := hA.cell 2 _ rfl
      by_cases hlt : y ≤ t
      · obtain ⟨k, rfl⟩ : ∃ k', k = k' + 1 := ⟨k - 1, by omega⟩
        have v3 := i64_in (y + 1) (by omega)
        have HHy := Lib.hid (fun W h => HH.out y W h (by omega) (by omega))
        have hq : Hid (fstR q f (t - f + 1).toNat = if q y = true then some y else fstR q (y + 1) k) := hq
        cases hg : q y
        · rw [hg] at hq
          have hq := Lib.hid hq
          have HHy := Lib.hid (fun W h => hg ▸ HHy.out W h)
          go_wp2_with fail
          refine (HHy.out _ hA).mono ?_
          rintro e w2 ⟨rfl, hB2⟩
          go_wp2
          go_roundw
          case rel => exact ⟨y + 1, k, by omega, by omega, rfl, hq.out, hA.step hB2⟩
          case measure => simp [intOf]; omega
        · rw [hg] at hq
          have hRR : Hid (V = (y, 0)) := by unfold Hid; rw [hR.out, hq.out]; rfl
          have HHy := Lib.hid (fun W h => hg ▸ HHy.out W h)
          go_wp2_with fail
          refine (HHy.out _ hA).mono ?_
          rintro e w2 ⟨rfl, hB2⟩
          go_wp2
          go_ret2
          rw [hRR.out]
          exact ⟨rfl, (hA.step hB2).below⟩
      · have hlt' : decide (y ≤ t) = false := by simpa using hlt
        have hRR : Hid (V = (0, 4)) := by unfold Hid; rw [hR.out, hq.out, show k = 0 by omega]; rfl
        go_wp2
        go_ret2
        rw [hRR.out]
        exact ⟨rfl, hA.below⟩
end

section
open Go.ChangeShapes Go.WideShapes Go.ChangeAt Go.RowKit Go.IntWalk

theorem isDated_any (a0 a1 : Option Addr) (cap0 cap1 : Nat) (rs : List Rg) (f t : Int) (cs : List Cl) (w : World) (hl0 : rs.length ≤ 1048576) (hx0 : Rd encRg w a0 rs) (hs0 : ∀ m ∈ rs, m.king.size ≤ 1048576) (hl1 : cs.length ≤ 1048576) (hx1 : Rd encCl w a1 cs) (hs1 : ∀ m ∈ cs, szCl m ≤ 1048576) :
    Calls Tryz.prog 58 #[.agg #[.slice a0 rs.length cap0, .int .i64 f, .int .i64 t], .slice a1 cs.length cap1] w fun e w' => e = .returned (.bool (datedB rs f t cs)) ∧ Below w.heap.size w w' := by
  have hA := At.start w [.slice a0 rs.length cap0, .int .i64 f, .int .i64 t] 32
  have HC := Lib.hid (fun W (h : At w [.slice a0 rs.length cap0, .int .i64 f, .int .i64 t] W) => implIsChancery_any a0 cap0 rs f t W hl0 (hx0.below h.below) hs0)
  have HD := Lib.hid (fun W (h : At w [.slice a0 rs.length cap0, .int .i64 f, .int .i64 t] W) => implIsDating_any a1 cap1 cs W hl1 (hx1.below h.below) hs1)
  have hV : Hid (datedB rs f t cs = (isChanceryB rs f t && isDatingB cs)) := rfl
  generalize datedB rs f t cs = V at hV ⊢
  generalize isDatingB cs = d at HD hV
  have c0 := hA.cell 0 _ rfl
  have c1 := hA.cell 1 _ rfl
  have c2 := hA.cell 2 _ rfl
  cases hc : isChanceryB rs f t
  · have hR : Hid (V = false) := by unfold Hid; rw [hV.out, hc]; rfl
    have HC := Lib.hid (fun W h => hc ▸ HC.out W h)
    go_enter Tryz.func58, Tryz.ntmps58
    go_wp2_with fail
    refine (HC.out _ hA).mono ?_
    rintro e w1 ⟨rfl, hB1⟩
    go_wp2
    go_ret
    exact ⟨ret_bool hR.out.symm, (hA.step hB1).below⟩
  · have hR : Hid (V = d) := by unfold Hid; rw [hV.out, hc]; rfl
    have HC := Lib.hid (fun W h => hc ▸ HC.out W h)
    go_enter Tryz.func58, Tryz.ntmps58
    go_wp2_with fail
    refine (HC.out _ hA).mono ?_
    rintro e w1 ⟨rfl, hB1⟩
    have hA := hA.step hB1
    go_wp2_with fail
    refine (HD.out _ hA).mono ?_
    rintro e w2 ⟨rfl, hB2⟩
    go_wp2
    go_ret
    exact ⟨ret_bool hR.out.symm, (hA.step hB2).below⟩
set_option maxHeartbeats 1000000 in
theorem implFirst_any (a0 a1 : Option Addr) (cap0 cap1 : Nat) (rs : List Rg) (f t : Int) (cs : List Cl) (w : World) (hl0 : rs.length ≤ 1048576) (hx0 : Rd encRg w a0 rs) (hs0 : ∀ m ∈ rs, m.king.size ≤ 1048576) (hl1 : cs.length ≤ 1048576) (hx1 : Rd encCl w a1 cs) (hs1 : ∀ m ∈ cs, szCl m ≤ 1048576) :
    Calls Tryz.prog 42 #[.agg #[.slice a0 rs.length cap0, .int .i64 f, .int .i64 t], .slice a1 cs.length cap1] w fun e w' => e = .returned (.tuple #[.int .i64 (firstF rs f t cs).1, .int .i64 (firstF rs f t cs).2]) ∧ Below w.heap.size w w' := by
  have hA := At.start w [.slice a0 rs.length cap0, .int .i64 f, .int .i64 t] 32
  have HV := Lib.hid (fun W (h : At w [.slice a0 rs.length cap0, .int .i64 f, .int .i64 t] W) => isDated_any a0 a1 cap0 cap1 rs f t cs W hl0 (hx0.below h.below) hs0 hl1 (hx1.below h.below) hs1)
  have c0 := hA.cell 0 _ rfl
  have c1 := hA.cell 1 _ rfl
  have c2 := hA.cell 2 _ rfl
  cases hd : datedB rs f t cs
  · have hR : Hid (firstF rs f t cs = (0, 1)) := by unfold Hid firstF; rw [hd]; rfl
    generalize firstF rs f t cs = V at hR ⊢
    have HV := Lib.hid (fun W h => hd ▸ HV.out W h)
    go_enter Tryz.func42, Tryz.ntmps42
    go_wp2_with fail
    refine (HV.out _ hA).mono ?_
    rintro e w1 ⟨rfl, hB1⟩
    go_wp2
    go_ret2
    rw [hR.out]
    exact ⟨rfl, (hA.step hB1).below⟩
  obtain ⟨hfr, hok, _, hf0, hft, ht, htf⟩ := dated_facts hd
  have HV := Lib.hid (fun W h => hd ▸ HV.out W h)
  have hR : Hid (firstF rs f t cs = match fstR (fitB rs cs) f (t - f + 1).toNat with | some y => (y, 0) | none => (0, 4)) := by unfold Hid firstF; rw [hd]; rfl
  have HF := Lib.hid (fun W (h : At w [.slice a0 rs.length cap0, .int .i64 f, .int .i64 t] W) => fittingDays_any a0 a1 cap0 cap1 rs f t cs W hl0 (hx0.below h.below) hfr hl1 (hx1.below h.below) hok hf0 hft ht htf)
  have hfst := spRun_first (q := fitB rs cs) (t - f + 1).toNat f
  have hlen := spRun_len (q := fitB rs cs) (t - f + 1).toNat (a := f) (out := [])
  generalize firstF rs f t cs = V at hR ⊢
  generalize fstR (fitB rs cs) f (t - f + 1).toNat = fs at hR hfst
  generalize spRun (fitB rs cs) f (t - f + 1).toNat [] = xs at HF hfst hlen
  clear hd
  cases xs with
  | nil =>
    have hRR : Hid (V = (0, 4)) := by unfold Hid; rw [hR.out, ← hfst]; rfl
    clear hfst hR
    go_enter Tryz.func42, Tryz.ntmps42
    go_wp2_with fail
    refine (HV.out _ hA).mono ?_
    rintro e w1 ⟨rfl, hB1⟩
    have hA := hA.step hB1
    clear c0 c1 c2 hB1
    have c0 := hA.cell 0 _ rfl
    have c1 := hA.cell 1 _ rfl
    have c2 := hA.cell 2 _ rfl
    go_wp2_with fail
    refine (HF.out _ hA).mono ?_
    rintro e w2 ⟨g, c, rfl, hown, hB2⟩
    have hA := hA.step hB2
    clear c0 c1 c2 hB2
    go_wp2
    go_ret2
    rw [hRR.out]
    exact ⟨rfl, hA.below⟩
  | cons s ss =>
    have hRR : Hid (V = (s.fr, 0)) := by unfold Hid; rw [hR.out, ← hfst]; rfl
    clear hfst hR
    have hl2 : ((s :: ss).length : Int) = (ss.length : Int) + 1 := by simp
    have hss : ss.length ≤ 30000 := by simp at hlen; omega
    go_enter Tryz.func42, Tryz.ntmps42
    go_wp2_with fail
    refine (HV.out _ hA).mono ?_
    rintro e w1 ⟨rfl, hB1⟩
    have hA := hA.step hB1
    clear c0 c1 c2 hB1
    have c0 := hA.cell 0 _ rfl
    have c1 := hA.cell 1 _ rfl
    have c2 := hA.cell 2 _ rfl
    go_wp2_with fail
    refine (HF.out _ hA).mono ?_
    rintro e w2 ⟨g, c, rfl, hown, hB2⟩
    have hA := hA.step hB2
    clear c0 c1 c2 hB2
    have e0 := own_at encSp_len hown (i := 0) (x := s) rfl (j := 0) rfl
    have hne : (((s :: ss).length : Int) == 0) = false := by simp; omega
    have hpos : (0 : Int) < ((s :: ss).length : Int) := by omega
    generalize (s :: ss).length = n at *
    clear hl2
    go_wp2
    go_ret2
    rw [hRR.out]
    exact ⟨rfl, hA.below⟩
end
end Go.Proofs.YtdbgnbohdplndaaGreatDoor
