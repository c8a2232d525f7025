/- Walks: the days that fit a dating, by the reference. Printed by gen_fit.py. -/
import Derived.Test.YtdbgnbohdplndaaGreatDoorHoldP
import Derived.Test.YtdbgnbohdplndaaGreatDoorNextH
import Derived.Test.YtdbgnbohdplndaaGreatDoorChan
import Derived.Test.YtdbgnbohdplndaaGreatDoorDating
namespace Go.Proofs.YtdbgnbohdplndaaGreatDoor
open Go.ChangeShapes Go.WideShapes Go.ChangeAt Go.RowKit Go.IntWalk

set_option maxRecDepth 100000 in
set_option maxHeartbeats 1000000 in
theorem l12Fits_any (a0 a1 : Option Addr) (cap0 cap1 : Nat) (rs : List Rg) (f t : Int) (cs : List Cl) (n : Int) (w : World) (hl0 : rs.length ≤ 1048576) (hx0 : Rd encRg w a0 rs) (hfr : ∀ r ∈ rs, 0 ≤ r.fr) (hl1 : cs.length ≤ 1048576) (hx1 : Rd encCl w a1 cs) (hok : ∀ c ∈ cs, okCl c = true) (hn0 : 0 ≤ n) (hn : n ≤ 730499) :
    Calls Tryz.prog 84 #[.agg #[.slice a0 rs.length cap0, .int .i64 f, .int .i64 t], .slice a1 cs.length cap1, .int .i64 n] w fun e w' => e = .returned (.bool (fitB rs cs n)) ∧ Below w.heap.size w w' := by
  have hA := At.start w [.slice a0 rs.length cap0, .int .i64 f, .int .i64 t] 32
  have HH := Lib.hid (fun c W (h : At w [.slice a0 rs.length cap0, .int .i64 f, .int .i64 t] W) (hc : c ∈ cs) => l11Holds_any a0 cap0 rs c n W (hok c hc) hl0 (hx0.below h.below) hfr hn0 hn)
  have hF : Hid (fitB rs cs n = cs.all (fun c => holdB rs c n)) := rfl
  generalize fitB rs cs n = V at hF ⊢
  generalize hp : (fun c => holdB rs c n) = p at hF
  have hpc := Lib.hid (fun c => (show holdB rs c n = p c by rw [← hp]))
  clear hp
  go_enter Tryz.func84, Tryz.ntmps84
  go_wp2
  go_loopw [7] (fun i wr => ∃ k : Nat, k ≤ cs.length ∧ i = .int .i64 k ∧ Hid (cs.all p = (cs.drop k).all p) ∧ At w [.slice a0 rs.length cap0, .int .i64 f, .int .i64 t] wr) (fun i _ => cs.length - (intOf i).toNat)
  case atStart => exact ⟨0, Nat.zero_le _, rfl, rfl, hA⟩
  case round =>
    clear hA
    obtain ⟨k, hk, rfl, hq, hA⟩ := hrel
    by_cases hlt : k < cs.length
    · have hlt' : (k : Int) < (cs.length : Int) := by omega
      have hm := List.getElem?_eq_getElem hlt
      have hmem := List.getElem_mem hlt
      have hdr : Hid (cs.all p = (p cs[k] && (cs.drop (k + 1)).all p)) := by unfold Hid; rw [hq.out, List.drop_eq_getElem_cons hlt]; rfl
      generalize cs[k] = c at hm hmem hdr
      obtain ⟨b, off, rfl, hb, c0, c1, c2, c3, c4, c5, c6, c7⟩ := (hx1.below hA.below).cl hm
      have HHc := Lib.hid (fun W h => hpc.out c ▸ HH.out c W h hmem)
      have E0 := Later.cell (hA.cell 0 _ rfl) hA.size
      have G0 := Later.cell c0 hb
      have G1 := Later.cell c1 hb
      have G2 := Later.cell c2 hb
      have G3 := Later.cell c3 hb
      have G4 := Later.cell c4 hb
      have G5 := Later.cell c5 hb
      have G6 := Later.cell c6 hb
      have G7 := Later.cell c7 hb
      clear hm hmem c0 c1 c2 c3 c4 c5 c6 c7
      cases hg : p c
      · have hR : Hid (V = false) := by unfold Hid; rw [hF.out, hdr.out, hg]; rfl
        have HHc := Lib.hid (fun W h => hg ▸ HHc.out W h)
        go_upto_region 4 with (fail)
        refine wp_region_later _ (by kernel_rfl) (by kernel_rfl) ?_
        repeat (go_big_quiet_step (fail))
        go_big_quiet_step ((go_at_call 82; exact Later.call (Nat.le_refl _) (HHc.out _ (hA.step (Later.prop _)))))
        repeat (go_big_quiet_step (fail))
        refine wpQuiet_nil ?_
        intro z
        have hz := z.prop
        generalize z.val = w2 at hz
        clear E0 G0 G1 G2 G3 G4 G5 G6 G7
        go_wp2
        go_ret
        exact ⟨ret_bool hR.out.symm, (hA.step hz).below⟩
      · have hq := Lib.hid (hdr.out.trans (by rw [hg, Bool.true_and] : _ = (cs.drop (k + 1)).all p))
        have HHc := Lib.hid (fun W h => hg ▸ HHc.out W h)
        go_upto_region 4 with (fail)
        refine wp_region_later _ (by kernel_rfl) (by kernel_rfl) ?_
        repeat (go_big_quiet_step (fail))
        go_big_quiet_step ((go_at_call 82; exact Later.call (Nat.le_refl _) (HHc.out _ (hA.step (Later.prop _)))))
        repeat (go_big_quiet_step (fail))
        refine wpQuiet_nil ?_
        intro z
        have hz := z.prop
        generalize z.val = w2 at hz
        clear E0 G0 G1 G2 G3 G4 G5 G6 G7
        go_wp2
        go_roundw
        case rel => exact ⟨k + 1, by omega, by go_num, hq.out, hA.step hz⟩
        case measure => simp [intOf]; omega
    · have hlt' : decide ((k : Int) < (cs.length : Int)) = false := by simp; omega
      have hR : Hid (V = true) := by unfold Hid; rw [hF.out, hq.out, List.drop_eq_nil_of_le (by omega)]; rfl
      go_wp2
      go_ret
      exact ⟨ret_bool hR.out.symm, hA.below⟩
def datedB (rs : List Rg) (f t : Int) (cs : List Cl) : Bool := isChanceryB rs f t && isDatingB cs
theorem l12Valid_any (a0 a1 : Option Addr) (cap0 cap1 : Nat) (rs : List Rg) (f t : Int) (cs : List Cl) (w : World) (hl0 : rs.length ≤ 1048576) (hx0 : Rd encRg w a0 rs) (hs0 : ∀ m ∈ rs, m.king.size ≤ 1048576) (hl1 : cs.length ≤ 1048576) (hx1 : Rd encCl w a1 cs) (hs1 : ∀ m ∈ cs, szCl m ≤ 1048576) :
    Calls Tryz.prog 53 #[.agg #[.slice a0 rs.length cap0, .int .i64 f, .int .i64 t], .slice a1 cs.length cap1] w fun e w' => e = .returned (.bool (datedB rs f t cs)) ∧ Below w.heap.size w w' := by
  have hA := At.start w [.slice a0 rs.length cap0, .int .i64 f, .int .i64 t] 32
  have HC := Lib.hid (fun W (h : At w [.slice a0 rs.length cap0, .int .i64 f, .int .i64 t] W) => specIsChancery_any a0 cap0 rs f t W hl0 (hx0.below h.below) hs0)
  have HD := Lib.hid (fun W (h : At w [.slice a0 rs.length cap0, .int .i64 f, .int .i64 t] W) => specIsDating_any a1 cap1 cs W hl1 (hx1.below h.below) hs1)
  have hV : Hid (datedB rs f t cs = (isChanceryB rs f t && isDatingB cs)) := rfl
  generalize datedB rs f t cs = V at hV ⊢
  generalize isDatingB cs = d at HD hV
  have c0 := hA.cell 0 _ rfl
  have c1 := hA.cell 1 _ rfl
  have c2 := hA.cell 2 _ rfl
  cases hc : isChanceryB rs f t
  · have hR : Hid (V = false) := by unfold Hid; rw [hV.out, hc]; rfl
    have HC := Lib.hid (fun W h => hc ▸ HC.out W h)
    go_enter Tryz.func53, Tryz.ntmps53
    go_wp2_with fail
    refine (HC.out _ hA).mono ?_
    rintro e w1 ⟨rfl, hB1⟩
    go_wp2
    go_ret
    exact ⟨ret_bool hR.out.symm, (hA.step hB1).below⟩
  · have hR : Hid (V = d) := by unfold Hid; rw [hV.out, hc]; rfl
    have HC := Lib.hid (fun W h => hc ▸ HC.out W h)
    go_enter Tryz.func53, Tryz.ntmps53
    go_wp2_with fail
    refine (HC.out _ hA).mono ?_
    rintro e w1 ⟨rfl, hB1⟩
    have hA := hA.step hB1
    go_wp2_with fail
    refine (HD.out _ hA).mono ?_
    rintro e w2 ⟨rfl, hB2⟩
    go_wp2
    go_ret
    exact ⟨ret_bool hR.out.symm, (hA.step hB2).below⟩
theorem dated_facts {rs : List Rg} {f t : Int} {cs : List Cl} (h : datedB rs f t cs = true) : (∀ r ∈ rs, 0 ≤ r.fr) ∧ (∀ c ∈ cs, okCl c = true) ∧ cs.length ≤ 8 ∧ 0 ≤ f ∧ f ≤ t ∧ t ≤ 730499 ∧ t ≤ f + 20000 := by
  unfold datedB isChanceryB isDatingB at h
  simp only [Bool.and_eq_true, dayB, inB, decide_eq_true_eq, List.all_eq_true] at h
  refine ⟨reigns_fr (by simp only [h]), ?_, ?_, ?_, ?_, ?_, ?_⟩
  · exact h.2.1
  all_goals omega
def firstF (rs : List Rg) (f t : Int) (cs : List Cl) : Int × Int :=
  if datedB rs f t cs = true then match fstR (fitB rs cs) f (t - f + 1).toNat with
    | some y => (y, 0)
    | none => (0, 4)
  else (0, 1)
set_option maxHeartbeats 1000000 in
theorem specFirst_any (a0 a1 : Option Addr) (cap0 cap1 : Nat) (rs : List Rg) (f t : Int) (cs : List Cl) (w : World) (hl0 : rs.length ≤ 1048576) (hx0 : Rd encRg w a0 rs) (hs0 : ∀ m ∈ rs, m.king.size ≤ 1048576) (hl1 : cs.length ≤ 1048576) (hx1 : Rd encCl w a1 cs) (hs1 : ∀ m ∈ cs, szCl m ≤ 1048576) :
    Calls Tryz.prog 43 #[.agg #[.slice a0 rs.length cap0, .int .i64 f, .int .i64 t], .slice a1 cs.length cap1] w fun e w' => e = .returned (.tuple #[.int .i64 (firstF rs f t cs).1, .int .i64 (firstF rs f t cs).2]) ∧ Below w.heap.size w w' := by
  have hA := At.start w [.slice a0 rs.length cap0, .int .i64 f, .int .i64 t] 32
  have HV := Lib.hid (fun W (h : At w [.slice a0 rs.length cap0, .int .i64 f, .int .i64 t] W) => l12Valid_any a0 a1 cap0 cap1 rs f t cs W hl0 (hx0.below h.below) hs0 hl1 (hx1.below h.below) hs1)
  have c0 := hA.cell 0 _ rfl
  have c1 := hA.cell 1 _ rfl
  have c2 := hA.cell 2 _ rfl
  cases hd : datedB rs f t cs
  · have hR : Hid (firstF rs f t cs = (0, 1)) := by unfold Hid firstF; rw [hd]; rfl
    generalize firstF rs f t cs = V at hR ⊢
    have HV := Lib.hid (fun W h => hd ▸ HV.out W h)
    go_enter Tryz.func43, Tryz.ntmps43
    go_wp2_with fail
    refine (HV.out _ hA).mono ?_
    rintro e w1 ⟨rfl, hB1⟩
    go_wp2
    go_ret2
    rw [hR.out]
    exact ⟨rfl, (hA.step hB1).below⟩
  · obtain ⟨hfr, hok, _, hf0, hft, ht, _⟩ := dated_facts hd
    have HV := Lib.hid (fun W h => hd ▸ HV.out W h)
    have hR : Hid (firstF rs f t cs = match fstR (fitB rs cs) f (t - f + 1).toNat with | some y => (y, 0) | none => (0, 4)) := by unfold Hid firstF; rw [hd]; rfl
    have HH := Lib.hid (fun y W (h : At w [.slice a0 rs.length cap0, .int .i64 f, .int .i64 t] W) h0 h4 => l12Fits_any a0 a1 cap0 cap1 rs f t cs y W hl0 (hx0.below h.below) hfr hl1 (hx1.below h.below) hok h0 h4)
    generalize firstF rs f t cs = V at hR ⊢
    generalize fitB rs cs = q at hR HH
    clear hd
    go_enter Tryz.func43, Tryz.ntmps43
    go_wp2_with fail
    refine (HV.out _ hA).mono ?_
    rintro e w1 ⟨rfl, hB1⟩
    have hA := hA.step hB1
    clear c0 c1 c2 hB1
    have c0 := hA.cell 0 _ rfl
    have c1 := hA.cell 1 _ rfl
    have c2 := hA.cell 2 _ rfl
    go_wp2
    go_loopw [6] (fun i wr => ∃ (y : Int) (k : Nat), f ≤ y ∧ y + k = t + 1 ∧ i = .int .i64 y ∧ Hid (fstR q f (t - f + 1).toNat = fstR q y k) ∧ At w [.slice a0 rs.length cap0, .int .i64 f, .int .i64 t] wr) (fun i _ => (730500 - intOf i).toNat)
    case atStart => exact ⟨f, (t - f + 1).toNat, Int.le_refl _, by omega, rfl, rfl, hA⟩
    case round =>
      clear hA c0 c1 c2
      obtain ⟨y, k, hfy, hyk, rfl, hq, hA⟩ := hrel
      have c0 := hA.cell 0 _ rfl
      have c1 := hA.cell 1 _ rfl
      have c2 := hA.cell 2 _ rfl
      by_cases hlt : y ≤ t
      · obtain ⟨k, rfl⟩ : ∃ k', k = k' + 1 := ⟨k - 1, by omega⟩
        have v3 := i64_in (y + 1) (by omega)
        have HHy := Lib.hid (fun W h => HH.out y W h (by omega) (by omega))
        have hq : Hid (fstR q f (t - f + 1).toNat = if q y = true then some y else fstR q (y + 1) k) := hq
        cases hg : q y
        · rw [hg] at hq
          have hq := Lib.hid hq
          have HHy := Lib.hid (fun W h => hg ▸ HHy.out W h)
          go_wp2_with fail
          refine (HHy.out _ hA).mono ?_
          rintro e w2 ⟨rfl, hB2⟩
          go_wp2
          go_roundw
          case rel => exact ⟨y + 1, k, by omega, by omega, rfl, hq.out, hA.step hB2⟩
          case measure => simp [intOf]; omega
        · rw [hg] at hq
          have hRR : Hid (V = (y, 0)) := by unfold Hid; rw [hR.out, hq.out]; rfl
          have HHy := Lib.hid (fun W h => hg ▸ HHy.out W h)
          go_wp2_with fail
          refine (HHy.out _ hA).mono ?_
          rintro e w2 ⟨rfl, hB2⟩
          go_wp2
          go_ret2
          rw [hRR.out]
          exact ⟨rfl, (hA.step hB2).below⟩
      · have hlt' : decide (y ≤ t) = false := by simpa using hlt
        have hRR : Hid (V = (0, 4)) := by unfold Hid; rw [hR.out, hq.out, show k = 0 by omega]; rfl
        go_wp2
        go_ret2
        rw [hRR.out]
        exact ⟨rfl, hA.below⟩
end Go.Proofs.YtdbgnbohdplndaaGreatDoor
