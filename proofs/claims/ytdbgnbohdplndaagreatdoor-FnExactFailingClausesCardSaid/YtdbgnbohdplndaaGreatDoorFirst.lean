/- Walks: FirstFitting of the program. Printed by gen_first.py. -/
import Derived.Test.YtdbgnbohdplndaaGreatDoorFitI
import Derived.Test.YtdbgnbohdplndaaGreatDoorFitS
namespace Go.Proofs.YtdbgnbohdplndaaGreatDoor
open Go.ChangeShapes Go.WideShapes Go.ChangeAt Go.RowKit Go.IntWalk

theorem isDated_any (a0 a1 : Option Addr) (cap0 cap1 : Nat) (rs : List Rg) (f t : Int) (cs : List Cl) (w : World) (hl0 : rs.length ≤ 1048576) (hx0 : Rd encRg w a0 rs) (hs0 : ∀ m ∈ rs, m.king.size ≤ 1048576) (hl1 : cs.length ≤ 1048576) (hx1 : Rd encCl w a1 cs) (hs1 : ∀ m ∈ cs, szCl m ≤ 1048576) :
    Calls Tryz.prog 58 #[.agg #[.slice a0 rs.length cap0, .int .i64 f, .int .i64 t], .slice a1 cs.length cap1] w fun e w' => e = .returned (.bool (datedB rs f t cs)) ∧ Below w.heap.size w w' := by
  have hA := At.start w [.slice a0 rs.length cap0, .int .i64 f, .int .i64 t] 32
  have HC := Lib.hid (fun W (h : At w [.slice a0 rs.length cap0, .int .i64 f, .int .i64 t] W) => implIsChancery_any a0 cap0 rs f t W hl0 (hx0.below h.below) hs0)
  have HD := Lib.hid (fun W (h : At w [.slice a0 rs.length cap0, .int .i64 f, .int .i64 t] W) => implIsDating_any a1 cap1 cs W hl1 (hx1.below h.below) hs1)
  have hV : Hid (datedB rs f t cs = (isChanceryB rs f t && isDatingB cs)) := rfl
  generalize datedB rs f t cs = V at hV ⊢
  generalize isDatingB cs = d at HD hV
  have c0 := hA.cell 0 _ rfl
  have c1 := hA.cell 1 _ rfl
  have c2 := hA.cell 2 _ rfl
  cases hc : isChanceryB rs f t
  · have hR : Hid (V = false) := by unfold Hid; rw [hV.out, hc]; rfl
    have HC := Lib.hid (fun W h => hc ▸ HC.out W h)
    go_enter Tryz.func58, Tryz.ntmps58
    go_wp2_with fail
    refine (HC.out _ hA).mono ?_
    rintro e w1 ⟨rfl, hB1⟩
    go_wp2
    go_ret
    exact ⟨ret_bool hR.out.symm, (hA.step hB1).below⟩
  · have hR : Hid (V = d) := by unfold Hid; rw [hV.out, hc]; rfl
    have HC := Lib.hid (fun W h => hc ▸ HC.out W h)
    go_enter Tryz.func58, Tryz.ntmps58
    go_wp2_with fail
    refine (HC.out _ hA).mono ?_
    rintro e w1 ⟨rfl, hB1⟩
    have hA := hA.step hB1
    go_wp2_with fail
    refine (HD.out _ hA).mono ?_
    rintro e w2 ⟨rfl, hB2⟩
    go_wp2
    go_ret
    exact ⟨ret_bool hR.out.symm, (hA.step hB2).below⟩
set_option maxHeartbeats 1000000 in
theorem implFirst_any (a0 a1 : Option Addr) (cap0 cap1 : Nat) (rs : List Rg) (f t : Int) (cs : List Cl) (w : World) (hl0 : rs.length ≤ 1048576) (hx0 : Rd encRg w a0 rs) (hs0 : ∀ m ∈ rs, m.king.size ≤ 1048576) (hl1 : cs.length ≤ 1048576) (hx1 : Rd encCl w a1 cs) (hs1 : ∀ m ∈ cs, szCl m ≤ 1048576) :
    Calls Tryz.prog 42 #[.agg #[.slice a0 rs.length cap0, .int .i64 f, .int .i64 t], .slice a1 cs.length cap1] w fun e w' => e = .returned (.tuple #[.int .i64 (firstF rs f t cs).1, .int .i64 (firstF rs f t cs).2]) ∧ Below w.heap.size w w' := by
  have hA := At.start w [.slice a0 rs.length cap0, .int .i64 f, .int .i64 t] 32
  have HV := Lib.hid (fun W (h : At w [.slice a0 rs.length cap0, .int .i64 f, .int .i64 t] W) => isDated_any a0 a1 cap0 cap1 rs f t cs W hl0 (hx0.below h.below) hs0 hl1 (hx1.below h.below) hs1)
  have c0 := hA.cell 0 _ rfl
  have c1 := hA.cell 1 _ rfl
  have c2 := hA.cell 2 _ rfl
  cases hd : datedB rs f t cs
  · have hR : Hid (firstF rs f t cs = (0, 1)) := by unfold Hid firstF; rw [hd]; rfl
    generalize firstF rs f t cs = V at hR ⊢
    have HV := Lib.hid (fun W h => hd ▸ HV.out W h)
    go_enter Tryz.func42, Tryz.ntmps42
    go_wp2_with fail
    refine (HV.out _ hA).mono ?_
    rintro e w1 ⟨rfl, hB1⟩
    go_wp2
    go_ret2
    rw [hR.out]
    exact ⟨rfl, (hA.step hB1).below⟩
  obtain ⟨hfr, hok, _, hf0, hft, ht, htf⟩ := dated_facts hd
  have HV := Lib.hid (fun W h => hd ▸ HV.out W h)
  have hR : Hid (firstF rs f t cs = match fstR (fitB rs cs) f (t - f + 1).toNat with | some y => (y, 0) | none => (0, 4)) := by unfold Hid firstF; rw [hd]; rfl
  have HF := Lib.hid (fun W (h : At w [.slice a0 rs.length cap0, .int .i64 f, .int .i64 t] W) => fittingDays_any a0 a1 cap0 cap1 rs f t cs W hl0 (hx0.below h.below) hfr hl1 (hx1.below h.below) hok hf0 hft ht htf)
  have hfst := spRun_first (q := fitB rs cs) (t - f + 1).toNat f
  have hlen := spRun_len (q := fitB rs cs) (t - f + 1).toNat (a := f) (out := [])
  generalize firstF rs f t cs = V at hR ⊢
  generalize fstR (fitB rs cs) f (t - f + 1).toNat = fs at hR hfst
  generalize spRun (fitB rs cs) f (t - f + 1).toNat [] = xs at HF hfst hlen
  clear hd
  cases xs with
  | nil =>
    have hRR : Hid (V = (0, 4)) := by unfold Hid; rw [hR.out, ← hfst]; rfl
    clear hfst hR
    go_enter Tryz.func42, Tryz.ntmps42
    go_wp2_with fail
    refine (HV.out _ hA).mono ?_
    rintro e w1 ⟨rfl, hB1⟩
    have hA := hA.step hB1
    clear c0 c1 c2 hB1
    have c0 := hA.cell 0 _ rfl
    have c1 := hA.cell 1 _ rfl
    have c2 := hA.cell 2 _ rfl
    go_wp2_with fail
    refine (HF.out _ hA).mono ?_
    rintro e w2 ⟨g, c, rfl, hown, hB2⟩
    have hA := hA.step hB2
    clear c0 c1 c2 hB2
    go_wp2
    go_ret2
    rw [hRR.out]
    exact ⟨rfl, hA.below⟩
  | cons s ss =>
    have hRR : Hid (V = (s.fr, 0)) := by unfold Hid; rw [hR.out, ← hfst]; rfl
    clear hfst hR
    have hl2 : ((s :: ss).length : Int) = (ss.length : Int) + 1 := by simp
    have hss : ss.length ≤ 30000 := by simp at hlen; omega
    go_enter Tryz.func42, Tryz.ntmps42
    go_wp2_with fail
    refine (HV.out _ hA).mono ?_
    rintro e w1 ⟨rfl, hB1⟩
    have hA := hA.step hB1
    clear c0 c1 c2 hB1
    have c0 := hA.cell 0 _ rfl
    have c1 := hA.cell 1 _ rfl
    have c2 := hA.cell 2 _ rfl
    go_wp2_with fail
    refine (HF.out _ hA).mono ?_
    rintro e w2 ⟨g, c, rfl, hown, hB2⟩
    have hA := hA.step hB2
    clear c0 c1 c2 hB2
    have e0 := own_at encSp_len hown (i := 0) (x := s) rfl (j := 0) rfl
    have hne : (((s :: ss).length : Int) == 0) = false := by simp; omega
    have hpos : (0 : Int) < ((s :: ss).length : Int) := by omega
    generalize (s :: ss).length = n at *
    clear hl2
    go_wp2
    go_ret2
    rw [hRR.out]
    exact ⟨rfl, hA.below⟩
end Go.Proofs.YtdbgnbohdplndaaGreatDoor
