/- Walks: the number of the days that fit a dating, and their spans, by the program. Printed by gen_set.py. -/
import Derived.Test.YteajkofgcmfaoaaGreatDoorFt
import Derived.StillTailTactics
import Derived.Test.YteajkofgcmfaoaaGreatDoorSq
import Derived.Test.YteajkofgcmfaoaaGreatDoorBB
import Derived.Deep.AppendLies
import Derived.WalkSmall
import Derived.BigRegion
import Derived.Deep.CutRange
import Derived.Test.YteajkofgcmfaoaaGreatDoorLi
import Derived.Test.YteajkofgcmfaoaaGreatDoorRi
import Derived.Test.YteajkofgcmfaoaaGreatDoorMk
namespace Go.Proofs.YteajkofgcmfaoaaGreatDoor
section
def cntSp : List Sp → Int
  | [] => 0
  | s :: ss => (s.to - s.fr + 1) + cntSp ss
theorem cntSp_app : ∀ (xs ys : List Sp), cntSp (xs ++ ys) = cntSp xs + cntSp ys
  | [], ys => by simp [cntSp]
  | x :: xs, ys => by
    simp only [List.cons_append, cntSp, cntSp_app xs ys]
    omega
theorem cnt_step {xs : List Sp} {k : Nat} {m : Sp} (h : xs[k]? = some m) : cntSp (xs.take (k + 1)) = cntSp (xs.take k) + (m.to - m.fr + 1) := by
  obtain ⟨hk, rfl⟩ := List.getElem?_eq_some_iff.1 h
  rw [List.take_succ_eq_append_getElem hk, cntSp_app]
  simp [cntSp]
theorem cnt_bd : ∀ {xs : List Sp}, inSp 0 730499 xs → -(730500 * (xs.length : Int)) ≤ cntSp xs ∧ cntSp xs ≤ 730500 * (xs.length : Int)
  | [], _ => by simp [cntSp]
  | x :: xs, h => by
    have h1 := cnt_bd (xs := xs) (fun s hs => h s (by simp [hs]))
    have h2 := h x (by simp)
    simp only [cntSp, List.length_cons]
    omega
theorem inSp_take {lo hi : Int} {xs : List Sp} (h : inSp lo hi xs) (k : Nat) : inSp lo hi (xs.take k) := fun s hs => h s (List.mem_of_mem_take hs)
end

section
open Go.ChangeShapes Go.WideShapes Go.ChangeAt Go.RowKit Go.IntWalk

set_option maxRecDepth 100000 in
set_option maxHeartbeats 1000000 in
theorem countDays_any (a : Option Addr) (cap n : Nat) (xs : List Sp) (w : World) (hn : xs.length = n) (hl : n ≤ 1048576) (hx : Rd encSp w a xs) (ho : inSp 0 730499 xs) :
    Calls Tryz.prog 80 #[.slice a n cap] w fun e w' => e = .returned (.int .i64 (cntSp xs)) ∧ Below w.heap.size w w' := by
  subst hn
  have hB0 := Below.refl w.heap.size w
  have hV : Hid (cntSp xs = cntSp (xs.take xs.length)) := by unfold Hid; rw [List.take_length]
  generalize hVV : cntSp xs = V at hV ⊢
  clear hVV
  go_enter Tryz.func80, Tryz.ntmps80
  go_wp2
  go_loopw [3, 8] (fun s i wr => ∃ (k : Nat) (z : Int), k ≤ xs.length ∧ i = .int .i64 k ∧ s = .int .i64 z ∧ Hid (z = cntSp (xs.take k)) ∧ Below w.heap.size w wr) (fun _ i _ => xs.length - (intOf i).toNat)
  case atStart => exact ⟨0, 0, Nat.zero_le _, rfl, rfl, rfl, hB0⟩
  case round =>
    clear hB0
    obtain ⟨k, z, hk, rfl, rfl, hz, hB⟩ := hrel
    by_cases hlt : k < xs.length
    · have hlt' : (k : Int) < (xs.length : Int) := by omega
      have hm := List.getElem?_eq_getElem hlt
      generalize xs[k] = m at hm
      obtain ⟨h1, h2, h3, h4⟩ := ho m (List.mem_of_getElem? hm)
      have hbd := cnt_bd (inSp_take ho k)
      rw [← hz.out, List.length_take, Nat.min_eq_left hk] at hbd
      obtain ⟨hb1, hb2⟩ := hbd
      have hst := cnt_step hm
      rw [← hz.out] at hst
      have hst := Lib.hid hst
      obtain ⟨b, off, rfl, hb, c0, c1⟩ := (hx.below hB).sp hm
      have v1 := i64_in (m.to - m.fr) (by omega)
      have v2 := i64_in (m.to - m.fr + 1) (by omega)
      have v3 := i64_in (z + (m.to - m.fr + 1)) (by omega)
      have hB1 := Lib.hid (hB.alloc hB.size (.cells #[.int .i64 m.fr, .int .i64 m.to] 126))
      clear hm
      go_wp2
      go_roundw
      case rel => exact ⟨k + 1, z + (m.to - m.fr + 1), by omega, by go_num, rfl, hst.out.symm, hB1.out⟩
      case measure => simp [intOf]; omega
    · have hlt' : decide ((k : Int) < (xs.length : Int)) = false := by simp; omega
      obtain rfl : k = xs.length := by omega
      go_wp2
      go_ret
      exact ⟨ret_int (hz.out.trans hV.out.symm), hB⟩
end

section
open Go.ChangeShapes Go.WideShapes Go.ChangeAt Go.RowKit Go.IntWalk

def cntF (rs : List Rg) (f t : Int) (cs : List Cl) : Int × Int := if datedB rs f t cs = true then (cntSp (spRun (fitB rs cs) f (t - f + 1).toNat []), 0) else (0, 1)
end

section
open Go.ChangeShapes Go.WideShapes Go.ChangeAt Go.RowKit Go.IntWalk

set_option maxHeartbeats 1000000 in
theorem implCount_any (a0 a1 : Option Addr) (cap0 cap1 : Nat) (rs : List Rg) (f t : Int) (cs : List Cl) (w : World) (hl0 : rs.length ≤ 1048576) (hx0 : Rd encRg w a0 rs) (hs0 : ∀ m ∈ rs, m.king.size ≤ 1048576) (hl1 : cs.length ≤ 1048576) (hx1 : Rd encCl w a1 cs) (hs1 : ∀ m ∈ cs, szCl m ≤ 1048576) :
    Calls Tryz.prog 36 #[.agg #[.slice a0 rs.length cap0, .int .i64 f, .int .i64 t], .slice a1 cs.length cap1] w fun e w' => e = .returned (.tuple #[.int .i64 (cntF rs f t cs).1, .int .i64 (cntF rs f t cs).2]) ∧ Below w.heap.size w w' := by
  have hA := At.start w [.slice a0 rs.length cap0, .int .i64 f, .int .i64 t] 43
  have HV := Lib.hid (fun W (h : At w [.slice a0 rs.length cap0, .int .i64 f, .int .i64 t] W) => isDated_any a0 a1 cap0 cap1 rs f t cs W hl0 (hx0.below h.below) hs0 hl1 (hx1.below h.below) hs1)
  have c0 := hA.cell 0 _ rfl
  have c1 := hA.cell 1 _ rfl
  have c2 := hA.cell 2 _ rfl
  cases hd : datedB rs f t cs
  · have hR : Hid (cntF rs f t cs = (0, 1)) := by unfold Hid cntF; rw [hd]; rfl
    generalize cntF rs f t cs = V at hR ⊢
    have HV := Lib.hid (fun W h => hd ▸ HV.out W h)
    go_enter Tryz.func36, Tryz.ntmps36
    go_wp2_with fail
    refine (HV.out _ hA).mono ?_
    rintro e w1 ⟨rfl, hB1⟩
    go_wp2
    go_ret2
    rw [hR.out]
    exact ⟨rfl, (hA.step hB1).below⟩
  obtain ⟨hfr, hok, _, hf0, hft, ht, htf⟩ := dated_facts hd
  have HV := Lib.hid (fun W h => hd ▸ HV.out W h)
  have HF := Lib.hid (fun W (h : At w [.slice a0 rs.length cap0, .int .i64 f, .int .i64 t] W) => fittingDays_any a0 a1 cap0 cap1 rs f t cs W hl0 (hx0.below h.below) hfr hl1 (hx1.below h.below) hok hf0 hft ht htf)
  have hR : Hid (cntF rs f t cs = (cntSp (spRun (fitB rs cs) f (t - f + 1).toNat []), 0)) := by unfold Hid cntF; rw [hd]; rfl
  have hin : inSp 0 730499 (spRun (fitB rs cs) f (t - f + 1).toNat []) := inSp_run _ (by intro s hs; cases hs) (by omega) (by omega)
  have hlen := spRun_len (q := fitB rs cs) (t - f + 1).toNat (a := f) (out := [])
  generalize cntF rs f t cs = V at hR ⊢
  generalize spRun (fitB rs cs) f (t - f + 1).toNat [] = xs at HF hR hin hlen
  clear hd
  go_enter Tryz.func36, Tryz.ntmps36
  go_wp2_with fail
  refine (HV.out _ hA).mono ?_
  rintro e w1 ⟨rfl, hB1⟩
  have hA := hA.step hB1
  clear c0 c1 c2 hB1
  have c0 := hA.cell 0 _ rfl
  have c1 := hA.cell 1 _ rfl
  have c2 := hA.cell 2 _ rfl
  go_wp2_with fail
  refine (HF.out _ hA).mono ?_
  rintro e w2 ⟨g, c, rfl, hown, hB2⟩
  have hown := own_base hown hA.below.size
  have hA := hA.step hB2
  clear c0 c1 c2 hB2
  go_wp2_with fail
  refine (countDays_any (some ⟨g, 0, none⟩) c xs.length xs _ rfl (by simp at hlen; omega) (Rd.of_own encSp_len (by decide) hown) hin).mono ?_
  rintro e w3 ⟨rfl, hB3⟩
  go_wp2
  go_ret2
  rw [hR.out]
  exact ⟨rfl, (hA.step hB3).below⟩
end
end Go.Proofs.YteajkofgcmfaoaaGreatDoor
