/- Walks: slices.IndexFunc and slices.ContainsFunc at slices of int64. Printed by gen_fidx.py. -/
import Derived.Test.YtddjedbnikhjkaaGreatDoorTI
import Derived.Test.YtddjedbnikhjkaaGreatDoorFix
import Derived.Test.YtddjedbnikhjkaaGreatDoorIxl
import Derived.Test.YtddjedbnikhjkaaGreatDoorQPeople
import Derived.Test.YtddjedbnikhjkaaGreatDoorPeopSpec
import Derived.Test.YtddjedbnikhjkaaGreatDoorPeopImpl
import Derived.Test.YtddjedbnikhjkaaGreatDoorOffice
import Derived.Test.YtddjedbnikhjkaaGreatDoorSpHas
import Derived.Test.YtddjedbnikhjkaaGreatDoorTWt
import Derived.Deep.RegionHeldLaw
import Derived.Deep.RegionHeld
import Derived.BigRegion
import Derived.Test.YtddjedbnikhjkaaGreatDoorCPeople
import Derived.Test.YtddjedbnikhjkaaGreatDoorMI
import Derived.Test.YtddjedbnikhjkaaGreatDoorHI
import Derived.Test.YtddjedbnikhjkaaGreatDoorMWt
namespace Go.Proofs.YtddjedbnikhjkaaGreatDoor
section
open Go.ChangeShapes Go.WideShapes Go.ChangeAt Go.RowKit

set_option maxHeartbeats 400000 in
theorem indexFunc_checkPeople_1 (a : Option Addr) (cap : Nat) (xs : List Int) (p : Int → Bool) (w : World) (hl : xs.length ≤ 1048576) (hx : Rd encI w a xs)
    (hf : ∀ W, Below w.heap.size w W → ∀ m ∈ xs, Calls Tryz.prog 120 #[.int .i64 m] W fun e w' => e = .returned (.bool (p m)) ∧ Below W.heap.size W w') :
    Calls Tryz.prog 110 #[.slice a xs.length cap, .func (.func 120) #[] #[]] w fun e w' => e = .returned (.int .i64 (fidx p xs 0)) ∧ Below w.heap.size w w' := by
  have HF := Lib.hid hf
  clear hf
  go_enter Tryz.func110, Tryz.ntmps110
  go_wp2
  go_loopw [8] (fun i wr => ∃ (k : Nat), k ≤ xs.length ∧ i = .int .i64 k ∧ Hid (fidx p xs 0 = fidx p (xs.drop k) k) ∧ Below w.heap.size w wr) (fun i _ => xs.length - (intOf i).toNat)
  case atStart => exact ⟨0, Nat.zero_le _, rfl, rfl, Below.refl _ _⟩
  case round =>
    obtain ⟨k, hk, rfl, hH, hB⟩ := hrel
    by_cases hlt : k < xs.length
    · have hm := List.getElem?_eq_getElem hlt
      generalize xs[k] = m at hm
      obtain ⟨b, off, rfl, hb, c0⟩ := (hx.below hB).i hm
      have hd := Lib.hid (fidx_drop p k k hm)
      have hc := HF.out wr hB m (List.mem_of_getElem? hm)
      have hk1 : (k : Int) < (xs.length : Int) := by omega
      clear hm
      cases hp : p m
      · rw [hp] at hc
        have HC := Lib.hid hc
        clear hc
        go_wp2_with fail
        refine HC.out.mono ?_
        rintro e w1 ⟨rfl, hB1⟩
        go_wp2
        go_roundw
        case rel => exact ⟨k + 1, by omega, by go_num, by unfold Hid; rw [hH.out, hd.out, hp]; rfl, stepB hB hB1 hB.size⟩
        case measure => simp [intOf]; omega
      · rw [hp] at hc
        have HC := Lib.hid hc
        clear hc
        go_wp2_with fail
        refine HC.out.mono ?_
        rintro e w1 ⟨rfl, hB1⟩
        go_wp2
        go_ret
        exact ⟨ret_int (by rw [hH.out, hd.out, hp]; rfl), stepB hB hB1 hB.size⟩
    · go_wp2
      go_ret
      exact ⟨ret_int (by rw [hH.out, List.drop_eq_nil_of_le (by omega)]; rfl), hB⟩
theorem containsFunc_checkPeople_1 (a : Option Addr) (cap : Nat) (xs : List Int) (p : Int → Bool) (w : World) (hl : xs.length ≤ 1048576) (hx : Rd encI w a xs) (hf : ∀ W, Below w.heap.size w W → ∀ m ∈ xs, Calls Tryz.prog 120 #[.int .i64 m] W fun e w' => e = .returned (.bool (p m)) ∧ Below W.heap.size W w') : Calls Tryz.prog 95 #[.slice a xs.length cap, .func (.func 120) #[] #[]] w fun e w' => e = .returned (.bool (xs.any p)) ∧ Below w.heap.size w w' := by
  have HC := Lib.hid (indexFunc_checkPeople_1 a cap xs p w hl hx hf)
  clear hf
  have hd := fidx_any p xs
  generalize fidx p xs 0 = r at *
  have HD := Lib.hid hd
  clear hd
  go_enter Tryz.func95, Tryz.ntmps95
  go_wp2_with fail
  refine HC.out.mono ?_
  rintro e w1 ⟨rfl, hB1⟩
  go_wp2
  go_ret
  exact ⟨ret_bool HD.out, hB1⟩
end

section
open Go.ChangeShapes Go.WideShapes Go.ChangeAt Go.RowKit

def pL (ps : List Ps) (n : Int) (i : Nat) : Bool := match ps[i]? with
  | some m => inB n m.fr m.to
  | none => false
theorem pL_at {ps : List Ps} {n : Int} {i : Nat} {m : Ps} (h : ps[i]? = some m) : pL ps n i = inB n m.fr m.to := by unfold pL; rw [h]
def codeP (ps : List Ps) (ts : List Tm) (zs : List Int) : Int := if isPeopleB ps ts then (if zs.all dayB then 0 else 2) else 1
def livingR (ps : List Ps) (ts : List Tm) (n : Int) : List Int × Int :=
  if isPeopleB ps ts then (if dayB n then (jxl (pL ps n) ps.length, 0) else ([], 2)) else ([], 1)
theorem livingR_len (ps : List Ps) (ts : List Tm) (n : Int) (h : ps.length ≤ 1048576) : (livingR ps ts n).1.length ≤ 1048576 := by
  unfold livingR
  split
  · split
    · exact Nat.le_trans (jxl_len (pL ps n) ps.length) h
    · simp
  · simp




























































































































theorem checkPeople1_any (m : Int) (w : World) :
    Calls Tryz.prog 120 #[.int .i64 m] w fun e w' => e = .returned (.bool (!dayB m)) ∧ Below w.heap.size w w' := by
  go_enter Tryz.func120, Tryz.ntmps120
  go_wp2_with fail
  refine (isDay_any _ _).mono ?_
  rintro e w1 ⟨rfl, rfl⟩
  go_wp2
  go_ret
  exact ⟨rfl, Below.refl _ _⟩
theorem any_not_day (zs : List Int) : (zs.any fun m => !dayB m) = !zs.all dayB := by
  induction zs with
  | nil => rfl
  | cons x xs ih => simp only [List.any_cons, List.all_cons, Bool.not_and, ih]
set_option maxHeartbeats 2000000 in
theorem checkPeople_any (a0 a1 a2 : Option Addr) (cap0 cap1 cap2 : Nat) (xs0 : List Ps) (xs1 : List Tm) (zs : List Int) (w : World) (hl0 : xs0.length ≤ 1048576) (hx0 : Rd encPs w a0 xs0) (hs0 : ∀ m ∈ xs0, szPs m ≤ 1048576) (hl1 : xs1.length ≤ 1048576) (hx1 : Rd encTm w a1 xs1) (hs1 : ∀ m ∈ xs1, szTm m ≤ 1048576) (hl2 : zs.length ≤ 1048576) (hx2 : Rd encI w a2 zs) :
    Calls Tryz.prog 80 #[.agg #[.slice a0 xs0.length cap0, .slice a1 xs1.length cap1], .int .i64 0, .slice a2 zs.length cap2] w fun e w' => e = .returned (.int .i64 (codeP xs0 xs1 zs)) ∧ Below w.heap.size w w' := by
  have hA0 : At w [.slice a0 xs0.length cap0, .slice a1 xs1.length cap1] (w.alloc (.cells #[.slice a0 xs0.length cap0, .slice a1 xs1.length cap1] 66)) := At.start _ _ _
  have HM := Lib.hid (fun W (hAt : At w [.slice a0 xs0.length cap0, .slice a1 xs1.length cap1] W) => implIsPeople_any a0 a1 cap0 cap1 xs0 xs1 W hl0 (hx0.below hAt.below) hs0 hl1 (hx1.below hAt.below) hs1)
  have hct := fun W (hAt : At w [.slice a0 xs0.length cap0, .slice a1 xs1.length cap1] W) => containsFunc_checkPeople_1 a2 cap2 zs (fun m => !dayB m) W hl2 (hx2.below hAt.below) (fun W' _ m _ => checkPeople1_any m W')
  rw [any_not_day] at hct
  have HCT := Lib.hid hct
  clear hct
  cases hA : isPeopleB xs0 xs1
  · have HM := Lib.hid (fun W h => hA ▸ HM.out W h)
    have hR : Hid (codeP xs0 xs1 zs = 1) := by unfold Hid codeP; rw [hA]; rfl
    clear hA
    go_enter Tryz.func80, Tryz.ntmps80
    go_wp2_with fail
    refine (HM.out _ hA0).mono ?_
    rintro e w1 ⟨rfl, hB1⟩
    go_wp2
    go_ret
    exact ⟨ret_int hR.out.symm, (hA0.step hB1).below⟩
  · have HM := Lib.hid (fun W h => hA ▸ HM.out W h)
    cases hz : zs.all dayB
    · have hR : Hid (codeP xs0 xs1 zs = 2) := by unfold Hid codeP; rw [hA, hz]; rfl
      have HCT := Lib.hid (fun W h => hz ▸ HCT.out W h)
      clear hA hz
      go_enter Tryz.func80, Tryz.ntmps80
      go_wp2_with fail
      refine (HM.out _ hA0).mono ?_
      rintro e w1 ⟨rfl, hB1⟩
      have hA1 := hA0.step hB1
      go_wp2_with fail
      refine (HCT.out _ hA1).mono ?_
      rintro e w2 ⟨rfl, hB2⟩
      go_wp2
      go_ret
      exact ⟨ret_int hR.out.symm, (hA1.step hB2).below⟩
    · have hR : Hid (codeP xs0 xs1 zs = 0) := by unfold Hid codeP; rw [hA, hz]; rfl
      have HCT := Lib.hid (fun W h => hz ▸ HCT.out W h)
      clear hA hz
      go_enter Tryz.func80, Tryz.ntmps80
      go_wp2_with fail
      refine (HM.out _ hA0).mono ?_
      rintro e w1 ⟨rfl, hB1⟩
      have hA1 := hA0.step hB1
      go_wp2_with fail
      refine (HCT.out _ hA1).mono ?_
      rintro e w2 ⟨rfl, hB2⟩
      go_wp2
      go_ret
      exact ⟨ret_int hR.out.symm, (hA1.step hB2).below⟩





































































































































































end

section
open Go.ChangeShapes Go.WideShapes Go.ChangeAt Go.RowKit

def witL (ps : List Ps) (ts : List Tm) (m : Wt) : List Sp := if m.office.toList == [] then (match ps[(personIx ps m.person).toNat]? with | some p => [⟨p.fr, p.to⟩] | none => []) else uni (tsp (isOP m.office m.person) ts)
theorem person_at {ps : List Ps} {s : ByteArray} (h : 0 ≤ personIx ps s) : ∃ k x, personIx ps s = ((k : Nat) : Int) ∧ k < ps.length ∧ ps[k]? = some x := by
  rcases fidx_bd (isNm s) ps 0 with h1 | ⟨k, x, h1, h2, h3, _⟩
  · unfold personIx at h; omega
  · exact ⟨k, x, by unfold personIx; rw [h1, Nat.zero_add], h2, h3⟩
theorem witL_own {ps : List Ps} {ts : List Tm} {m : Wt} {k : Nat} {x : Ps} (ho : (m.office.toList == []) = true) (h : personIx ps m.person = ((k : Nat) : Int)) (hx : ps[k]? = some x) : witL ps ts m = [⟨x.fr, x.to⟩] := by
  unfold witL
  rw [if_pos ho, h, Int.toNat_natCast, hx]
theorem witL_office {ps : List Ps} {ts : List Tm} {m : Wt} (ho : (m.office.toList == []) = false) : witL ps ts m = uni (tsp (isOP m.office m.person) ts) := by
  unfold witL
  rw [ho, if_neg Bool.false_ne_true]
theorem witL_len {ps : List Ps} {ts : List Tm} (h : isPeopleB ps ts = true) (m : Wt) : (witL ps ts m).length ≤ 60 := by
  have h1 := uni_len (tsp (isOP m.office m.person) ts)
  have h2 := tsp_len (isOP m.office m.person) ts
  have h3 := (people_bd h).2
  unfold witL
  split
  · split <;> simp
  · omega
def okW (ps : List Ps) (m : Wt) : Bool := decide (0 ≤ personIx ps m.person)
def codeW (ps : List Ps) (ts : List Tm) (l : List Wt) (b : Bool) : Int := if isPeopleB ps ts then (if b && decide (l.length ≤ 12) then (if l.all (okW ps) then 0 else 4) else 2) else 1
theorem codeW_zero {ps : List Ps} {ts : List Tm} {l : List Wt} {b : Bool} (h : codeW ps ts l b = 0) : isPeopleB ps ts = true ∧ b = true ∧ l.length ≤ 12 ∧ l.all (okW ps) = true := by
  unfold codeW at h
  cases hA : isPeopleB ps ts
  · rw [hA] at h; simp at h
  · rw [hA] at h
    cases hb : (b && decide (l.length ≤ 12))
    · rw [hb] at h; simp at h
    · rw [hb] at h
      cases ho : l.all (okW ps)
      · rw [ho] at h; simp at h
      · simp only [Bool.and_eq_true, decide_eq_true_eq] at hb
        exact ⟨rfl, hb.1, hb.2, rfl⟩
theorem own_one (w : World) (a b : Value) (T : TypeId) : (w.alloc (.cells #[a, b] T)).ownsRow w.heap.size T 2 (.slice (some ⟨w.heap.size, 0, none⟩) 1 1) 1 [a, b] :=
  ⟨rfl, .inr ⟨w.heap.size, 1, #[a, b], rfl, Nat.le_refl _, heap_alloc_new _ _, Nat.le_refl _, by decide, rfl, rfl⟩⟩
theorem keepSet {w : World} {p q : Addr} {v u : Value} (h : w.cell? p = some v) (hq : q.block ≠ p.block) : (w.setCell q u).cell? p = some v :=
  (cell_set_other (fun e => hq (by rw [e]))).trans h

set_option maxRecDepth 100000 in
set_option maxHeartbeats 4000000 in
theorem l13Could_any (a0 a1 : Option Addr) (cap0 cap1 : Nat) (xs0 : List Ps) (xs1 : List Tm) (m : Wt) (w : World) (hA : isPeopleB xs0 xs1 = true) (hp : 0 ≤ personIx xs0 m.person) (hl0 : xs0.length ≤ 1048576) (hx0 : Rd encPs w a0 xs0) (hl1 : xs1.length ≤ 1048574) (hx1 : Rd encTm w a1 xs1) :
    Calls Tryz.prog 76 #[.agg #[.slice a0 xs0.length cap0, .slice a1 xs1.length cap1], .agg #[.string m.person, .string m.office]] w fun e w' => ∃ g c, e = .returned (.slice (some ⟨g, 0, none⟩) (witL xs0 xs1 m).length c) ∧ w'.ownsRow w.heap.size 99 2 (.slice (some ⟨g, 0, none⟩) (witL xs0 xs1 m).length c) (witL xs0 xs1 m).length ((witL xs0 xs1 m).flatMap encSp) ∧ Below w.heap.size w w' := by
  cases hz : (m.office.toList == [])
  · have hR : Hid (witL xs0 xs1 m = uni (tsp (isOP m.office m.person) xs1)) := witL_office hz
    have HO := Lib.hid (fun W (hAt : At w [.slice a0 xs0.length cap0, .slice a1 xs1.length cap1] W) => l13Office_any a0 a1 cap0 cap1 xs0 xs1 m.office m.person W hA hl1 (hx1.below hAt.below))
    have hz' : (m.office.toList != []) = true := by simp [bne, hz]
    clear hA hp
    go_enter Tryz.func76, Tryz.ntmps76
    go_wp2_with fail
    generalize hW : (w.alloc (.cells #[.slice a0 xs0.length cap0, .slice a1 xs1.length cap1] 66)).alloc (.cells #[.string m.person, .string m.office] 112) = W
    have hA0 : At w [.slice a0 xs0.length cap0, .slice a1 xs1.length cap1] W := hW ▸ (At.start _ _ _).step ((Below.refl _ _).alloc (Nat.le_refl _) _)
    have e0 : W.cell? ⟨w.heap.size + 1, 0, none⟩ = some (.string m.person) := by rw [← hW]; exact World.cell?_alloc_at _ _ _ _ (by simp)
    have e1 : W.cell? ⟨w.heap.size + 1, 1, none⟩ = some (.string m.office) := by rw [← hW]; exact World.cell?_alloc_at _ _ _ _ (by simp)
    have hs2 : w.heap.size + 1 < W.heap.size := by rw [← hW]; simp
    have b0 := hA0.cell 0 _ rfl
    have b1 := hA0.cell 1 _ rfl
    have hs := hA0.size
    clear hW
    refine (HO.out _ hA0).mono ?_
    rintro e w1 ⟨g, c, rfl, ho, hB1⟩
    go_wp2
    go_ret
    rw [hR.out]
    exact ⟨_, _, rfl, own_base ho hA0.below.size, (hA0.step hB1).below⟩
  · obtain ⟨k, x, hk, hkl, hx⟩ := person_at hp
    have hR : Hid (witL xs0 xs1 m = [⟨x.fr, x.to⟩]) := witL_own hz hk hx
    have hz' : (m.office.toList != []) = false := by simp [bne, hz]
    have HP := Lib.hid (fun W (hB : Below w.heap.size w W) => hk ▸ l13Person_any a0 a1 cap0 cap1 xs0 xs1 m.person W hl0 (hx0.below hB))
    have hk1 : (k : Int) < (xs0.length : Int) := by omega
    clear hA hp hk
    go_enter Tryz.func76, Tryz.ntmps76
    go_wp2_with fail
    generalize hW : (w.alloc (.cells #[.slice a0 xs0.length cap0, .slice a1 xs1.length cap1] 66)).alloc (.cells #[.string m.person, .string m.office] 112) = W
    have hA0 : At w [.slice a0 xs0.length cap0, .slice a1 xs1.length cap1] W := hW ▸ (At.start _ _ _).step ((Below.refl _ _).alloc (Nat.le_refl _) _)
    have e0 : W.cell? ⟨w.heap.size + 1, 0, none⟩ = some (.string m.person) := by rw [← hW]; exact World.cell?_alloc_at _ _ _ _ (by simp)
    have e1 : W.cell? ⟨w.heap.size + 1, 1, none⟩ = some (.string m.office) := by rw [← hW]; exact World.cell?_alloc_at _ _ _ _ (by simp)
    have hs2 : w.heap.size + 1 < W.heap.size := by rw [← hW]; simp
    have b0 := hA0.cell 0 _ rfl
    have b1 := hA0.cell 1 _ rfl
    have hs := hA0.size
    clear hW
    obtain ⟨b, off, rfl, hb, c0, c1, c2⟩ := (hx0.below hA0.below).ps hx
    go_upto_region 3 with (fail)
    go_cut [5] from 15 to 22 (fun s5 wx => ∃ q, s5 = .pointer (some ⟨q, 0, none⟩) ∧ wx.cell? ⟨q, 1, none⟩ = some (.int .i64 x.fr) ∧ wx.cell? ⟨q, 2, none⟩ = some (.int .i64 x.to) ∧ Below W.heap.size W wx)
    case first =>
      have hd : Below W.heap.size W W.drew := (Below.refl _ W).drew
      refine wp_region_held_drew (S := fun w' => w'.cell? ⟨w.heap.size, 0, none⟩ = some (.slice (some ⟨b, off, none⟩) xs0.length cap0) ∧ w'.cell? ⟨w.heap.size, 1, none⟩ = some (.slice a1 xs1.length cap1) ∧ w'.cell? ⟨w.heap.size + 1, 0, none⟩ = some (.string m.person) ∧ w'.cell? ⟨b, off + k * 3, none⟩ = some (.string x.name) ∧ w'.cell? ⟨b, off + k * 3 + 1, none⟩ = some (.int .i64 x.fr) ∧ w'.cell? ⟨b, off + k * 3 + 2, none⟩ = some (.int .i64 x.to)) (by kernel_rfl) ?_ (fun hHeld => ?_)
      · exact ⟨b0, b1, e0, c0, c1, c2⟩
      refine wpAnyH_take (i := 0) (v := ?_) rfl (by kernel_rfl) (by kernel_rfl) (by kernel_rfl) (fun _ _ _ h => h) (Or.inl ⟨by rfl, ?_⟩) (by assumption) ?_
      rotate_left
      · (intro w' hSw; (try dsimp only at hSw); go_simp; try (with_reducible rfl))
      try simp only [Act.put, List.setIfInBounds_toArray]
      refine wpAnyH_take (i := 1) (v := ?_) rfl (by kernel_rfl) (by kernel_rfl) (by kernel_rfl) (fun _ _ _ h => h) (Or.inl ⟨by rfl, ?_⟩) (by assumption) ?_
      rotate_left
      · (intro w' hSw; (try dsimp only at hSw); go_simp; try (with_reducible rfl))
      try simp only [Act.put]
      refine wpAnyH_take (i := 2) (v := ?_) rfl (by kernel_rfl) (by kernel_rfl) (by kernel_rfl) (fun _ _ _ h => h) (Or.inl ⟨by rfl, ?_⟩) (by assumption) ?_
      rotate_left
      · (intro w' hSw; (try dsimp only at hSw); go_simp; try (with_reducible rfl))
      try simp only [Act.put]
      refine wpAnyH_take (i := 3) (v := ?_) rfl (by kernel_rfl) (by kernel_rfl) (by kernel_rfl) (fun _ _ _ h => h) (Or.inl ⟨by rfl, ?_⟩) (by assumption) ?_
      rotate_left
      · (intro w' hSw; (try dsimp only at hSw); go_simp; try (with_reducible rfl))
      try simp only [Act.put]
      refine wpAnyH_take (i := 4) (v := ?_) rfl (by kernel_rfl) (by kernel_rfl) (by kernel_rfl) (fun _ _ _ h => h) (Or.inl ⟨by rfl, ?_⟩) (by assumption) ?_
      rotate_left
      · (intro w' hSw; (try dsimp only at hSw); go_simp; try (with_reducible rfl))
      try simp only [Act.put]
      refine wpAnyH_ready (rs := [5, 8]) (by kernel_rfl) (by simp) ?_
      refine AllReadyH.cons rfl (fun K hK => ?_) (AllReadyH.cons rfl (fun K hK => ?_) AllReadyH.nil)
      · go_simp
        go_wp2_with (go_at_call 115; refine (HP.out _ (hA0.step hd).below).mono ?_; rintro e w6 ⟨rfl, hB6⟩)
        refine hK.out _ _ ?_ (fun hHeld => ?_)
        · exact ⟨(hB6.cell (p := ⟨w.heap.size, 0, none⟩) hs).trans b0, (hB6.cell (p := ⟨w.heap.size, 1, none⟩) hs).trans b1, (hB6.cell (p := ⟨w.heap.size + 1, 0, none⟩) hs2).trans e0, (hB6.cell (p := ⟨b, off + k * 3, none⟩) hb).trans c0, (hB6.cell (p := ⟨b, off + k * 3 + 1, none⟩) hb).trans c1, (hB6.cell (p := ⟨b, off + k * 3 + 2, none⟩) hb).trans c2⟩
        clear hK K
        refine wpAnyH_take (i := 6) (v := ?_) rfl (by kernel_rfl) (by kernel_rfl) (by kernel_rfl) (fun _ _ _ h => h) (Or.inl ⟨by rfl, ?_⟩) (by assumption) ?_
        rotate_left
        · (intro w' hSw; (try dsimp only at hSw); go_simp; try (with_reducible rfl))
        try simp only [Act.put, List.setIfInBounds_toArray]
        refine wpAnyH_take (i := 7) (v := ?_) rfl (by kernel_rfl) (by kernel_rfl) (by kernel_rfl) (fun _ _ _ h => h) (Or.inl ⟨by rfl, ?_⟩) (by assumption) ?_
        rotate_left
        · (intro w' hSw; (try dsimp only at hSw); go_simp; try (with_reducible rfl))
        try simp only [Act.put]
        refine wpAnyH_ready (rs := [8]) (by kernel_rfl) (by simp) ?_
        refine AllReadyH.cons rfl (fun K hK => ?_) AllReadyH.nil
        go_simp
        refine hK.out _ _ ?_ (fun hHeld => ?_)
        · exact ⟨(((Below.refl _ w6).alloc (Nat.le_refl _) _).cell (p := ⟨w.heap.size, 0, none⟩) (Nat.lt_of_lt_of_le hs hB6.size)).trans ((hB6.cell (p := ⟨w.heap.size, 0, none⟩) hs).trans b0), (((Below.refl _ w6).alloc (Nat.le_refl _) _).cell (p := ⟨w.heap.size, 1, none⟩) (Nat.lt_of_lt_of_le hs hB6.size)).trans ((hB6.cell (p := ⟨w.heap.size, 1, none⟩) hs).trans b1), (((Below.refl _ w6).alloc (Nat.le_refl _) _).cell (p := ⟨w.heap.size + 1, 0, none⟩) (Nat.lt_of_lt_of_le hs2 hB6.size)).trans ((hB6.cell (p := ⟨w.heap.size + 1, 0, none⟩) hs2).trans e0), (((Below.refl _ w6).alloc (Nat.le_refl _) _).cell (p := ⟨b, off + k * 3, none⟩) (Nat.lt_of_lt_of_le hb hB6.size)).trans ((hB6.cell (p := ⟨b, off + k * 3, none⟩) hb).trans c0), (((Below.refl _ w6).alloc (Nat.le_refl _) _).cell (p := ⟨b, off + k * 3 + 1, none⟩) (Nat.lt_of_lt_of_le hb hB6.size)).trans ((hB6.cell (p := ⟨b, off + k * 3 + 1, none⟩) hb).trans c1), (((Below.refl _ w6).alloc (Nat.le_refl _) _).cell (p := ⟨b, off + k * 3 + 2, none⟩) (Nat.lt_of_lt_of_le hb hB6.size)).trans ((hB6.cell (p := ⟨b, off + k * 3 + 2, none⟩) hb).trans c2)⟩
        clear hK K
        refine wpAnyH_ready (rs := [9]) (by kernel_rfl) (by simp) ?_
        refine AllReadyH.cons rfl (fun K hK => ?_) AllReadyH.nil
        go_simp
        refine hK.out _ _ ?_ (fun hHeld => ?_)
        · exact ⟨(((Below.refl _ w6).alloc (Nat.le_refl _) _).cell (p := ⟨w.heap.size, 0, none⟩) (Nat.lt_of_lt_of_le hs hB6.size)).trans ((hB6.cell (p := ⟨w.heap.size, 0, none⟩) hs).trans b0), (((Below.refl _ w6).alloc (Nat.le_refl _) _).cell (p := ⟨w.heap.size, 1, none⟩) (Nat.lt_of_lt_of_le hs hB6.size)).trans ((hB6.cell (p := ⟨w.heap.size, 1, none⟩) hs).trans b1), (((Below.refl _ w6).alloc (Nat.le_refl _) _).cell (p := ⟨w.heap.size + 1, 0, none⟩) (Nat.lt_of_lt_of_le hs2 hB6.size)).trans ((hB6.cell (p := ⟨w.heap.size + 1, 0, none⟩) hs2).trans e0), (((Below.refl _ w6).alloc (Nat.le_refl _) _).cell (p := ⟨b, off + k * 3, none⟩) (Nat.lt_of_lt_of_le hb hB6.size)).trans ((hB6.cell (p := ⟨b, off + k * 3, none⟩) hb).trans c0), (((Below.refl _ w6).alloc (Nat.le_refl _) _).cell (p := ⟨b, off + k * 3 + 1, none⟩) (Nat.lt_of_lt_of_le hb hB6.size)).trans ((hB6.cell (p := ⟨b, off + k * 3 + 1, none⟩) hb).trans c1), (((Below.refl _ w6).alloc (Nat.le_refl _) _).cell (p := ⟨b, off + k * 3 + 2, none⟩) (Nat.lt_of_lt_of_le hb hB6.size)).trans ((hB6.cell (p := ⟨b, off + k * 3 + 2, none⟩) hb).trans c2)⟩
        clear hK K
        refine wpAnyH_done (by kernel_rfl) ?_ _
        try simp only [List.getElem_toArray, List.getElem_cons_succ, List.getElem_cons_zero]
        go_wp2_with fail
        go_meet
        exact ⟨w6.heap.size, rfl, World.cell?_alloc_at _ _ _ _ rfl, World.cell?_alloc_at _ _ _ _ rfl, (stepB hd hB6 (Nat.le_refl _)).alloc hB6.size _⟩
      · go_simp
        refine hK.out _ _ ?_ (fun hHeld => ?_)
        · exact ⟨((hd.alloc (Nat.le_refl _) _).cell (p := ⟨w.heap.size, 0, none⟩) hs).trans b0, ((hd.alloc (Nat.le_refl _) _).cell (p := ⟨w.heap.size, 1, none⟩) hs).trans b1, ((hd.alloc (Nat.le_refl _) _).cell (p := ⟨w.heap.size + 1, 0, none⟩) hs2).trans e0, ((hd.alloc (Nat.le_refl _) _).cell (p := ⟨b, off + k * 3, none⟩) hb).trans c0, ((hd.alloc (Nat.le_refl _) _).cell (p := ⟨b, off + k * 3 + 1, none⟩) hb).trans c1, ((hd.alloc (Nat.le_refl _) _).cell (p := ⟨b, off + k * 3 + 2, none⟩) hb).trans c2⟩
        clear hK K
        refine wpAnyH_ready (rs := [5]) (by kernel_rfl) (by simp) ?_
        refine AllReadyH.cons rfl (fun K hK => ?_) AllReadyH.nil
        go_simp
        go_wp2_with (go_at_call 115; refine (HP.out _ (stepB hA0.below (hd.alloc (Nat.le_refl _) _) hA0.below.size)).mono ?_; rintro e w6 ⟨rfl, hB6⟩)
        refine hK.out _ _ ?_ (fun hHeld => ?_)
        · exact ⟨(hB6.cell (p := ⟨w.heap.size, 0, none⟩) (Nat.lt_of_lt_of_le hs (by simp))).trans (((hd.alloc (Nat.le_refl _) _).cell (p := ⟨w.heap.size, 0, none⟩) hs).trans b0), (hB6.cell (p := ⟨w.heap.size, 1, none⟩) (Nat.lt_of_lt_of_le hs (by simp))).trans (((hd.alloc (Nat.le_refl _) _).cell (p := ⟨w.heap.size, 1, none⟩) hs).trans b1), (hB6.cell (p := ⟨w.heap.size + 1, 0, none⟩) (Nat.lt_of_lt_of_le hs2 (by simp))).trans (((hd.alloc (Nat.le_refl _) _).cell (p := ⟨w.heap.size + 1, 0, none⟩) hs2).trans e0), (hB6.cell (p := ⟨b, off + k * 3, none⟩) (Nat.lt_of_lt_of_le hb (by simp))).trans (((hd.alloc (Nat.le_refl _) _).cell (p := ⟨b, off + k * 3, none⟩) hb).trans c0), (hB6.cell (p := ⟨b, off + k * 3 + 1, none⟩) (Nat.lt_of_lt_of_le hb (by simp))).trans (((hd.alloc (Nat.le_refl _) _).cell (p := ⟨b, off + k * 3 + 1, none⟩) hb).trans c1), (hB6.cell (p := ⟨b, off + k * 3 + 2, none⟩) (Nat.lt_of_lt_of_le hb (by simp))).trans (((hd.alloc (Nat.le_refl _) _).cell (p := ⟨b, off + k * 3 + 2, none⟩) hb).trans c2)⟩
        clear hK K
        have z0 := (hB6.cell (p := ⟨W.heap.size, 0, none⟩) (by simp)).trans (World.cell?_alloc_at _ _ _ _ rfl)
        have y0 := (hB6.frozen (p := ⟨W.heap.size, 0, none⟩) (by simp)).trans (World.frozen?_alloc_at _ _ _ _ rfl)
        have z1 := (hB6.cell (p := ⟨W.heap.size, 1, none⟩) (by simp)).trans (World.cell?_alloc_at _ _ _ _ rfl)
        have y1 := (hB6.frozen (p := ⟨W.heap.size, 1, none⟩) (by simp)).trans (World.frozen?_alloc_at _ _ _ _ rfl)
        have z2 := (hB6.cell (p := ⟨W.heap.size, 2, none⟩) (by simp)).trans (World.cell?_alloc_at _ _ _ _ rfl)
        have y2 := (hB6.frozen (p := ⟨W.heap.size, 2, none⟩) (by simp)).trans (World.frozen?_alloc_at _ _ _ _ rfl)
        refine wpAnyH_take (i := 6) (v := ?_) rfl (by kernel_rfl) (by kernel_rfl) (by kernel_rfl) (fun _ _ _ h => h) (Or.inl ⟨by rfl, ?_⟩) (by assumption) ?_
        rotate_left
        · (intro w' hSw; (try dsimp only at hSw); go_simp; try (with_reducible rfl))
        try simp only [Act.put, List.setIfInBounds_toArray]
        refine wpAnyH_take (i := 7) (v := ?_) rfl (by kernel_rfl) (by kernel_rfl) (by kernel_rfl) (fun _ _ _ h => h) (Or.inl ⟨by rfl, ?_⟩) (by assumption) ?_
        rotate_left
        · (intro w' hSw; (try dsimp only at hSw); go_simp; try (with_reducible rfl))
        try simp only [Act.put]
        refine wpAnyH_ready (rs := [9]) (by kernel_rfl) (by simp) ?_
        refine AllReadyH.cons rfl (fun K hK => ?_) AllReadyH.nil
        go_simp
        refine hK.out _ _ ?_ (fun hHeld => ?_)
        · exact ⟨keepSet (keepSet (keepSet ((hB6.cell (p := ⟨w.heap.size, 0, none⟩) (Nat.lt_of_lt_of_le hs (by simp))).trans (((hd.alloc (Nat.le_refl _) _).cell (p := ⟨w.heap.size, 0, none⟩) hs).trans b0)) (Nat.ne_of_gt hs)) (Nat.ne_of_gt hs)) (Nat.ne_of_gt hs), keepSet (keepSet (keepSet ((hB6.cell (p := ⟨w.heap.size, 1, none⟩) (Nat.lt_of_lt_of_le hs (by simp))).trans (((hd.alloc (Nat.le_refl _) _).cell (p := ⟨w.heap.size, 1, none⟩) hs).trans b1)) (Nat.ne_of_gt hs)) (Nat.ne_of_gt hs)) (Nat.ne_of_gt hs), keepSet (keepSet (keepSet ((hB6.cell (p := ⟨w.heap.size + 1, 0, none⟩) (Nat.lt_of_lt_of_le hs2 (by simp))).trans (((hd.alloc (Nat.le_refl _) _).cell (p := ⟨w.heap.size + 1, 0, none⟩) hs2).trans e0)) (Nat.ne_of_gt hs2)) (Nat.ne_of_gt hs2)) (Nat.ne_of_gt hs2), keepSet (keepSet (keepSet ((hB6.cell (p := ⟨b, off + k * 3, none⟩) (Nat.lt_of_lt_of_le hb (by simp))).trans (((hd.alloc (Nat.le_refl _) _).cell (p := ⟨b, off + k * 3, none⟩) hb).trans c0)) (Nat.ne_of_gt hb)) (Nat.ne_of_gt hb)) (Nat.ne_of_gt hb), keepSet (keepSet (keepSet ((hB6.cell (p := ⟨b, off + k * 3 + 1, none⟩) (Nat.lt_of_lt_of_le hb (by simp))).trans (((hd.alloc (Nat.le_refl _) _).cell (p := ⟨b, off + k * 3 + 1, none⟩) hb).trans c1)) (Nat.ne_of_gt hb)) (Nat.ne_of_gt hb)) (Nat.ne_of_gt hb), keepSet (keepSet (keepSet ((hB6.cell (p := ⟨b, off + k * 3 + 2, none⟩) (Nat.lt_of_lt_of_le hb (by simp))).trans (((hd.alloc (Nat.le_refl _) _).cell (p := ⟨b, off + k * 3 + 2, none⟩) hb).trans c2)) (Nat.ne_of_gt hb)) (Nat.ne_of_gt hb)) (Nat.ne_of_gt hb)⟩
        clear hK K
        refine wpAnyH_done (by kernel_rfl) ?_ _
        try simp only [List.getElem_toArray, List.getElem_cons_succ, List.getElem_cons_zero]
        go_wp2_with fail
        go_meet
        exact ⟨W.heap.size, rfl, (cell_set_other (by simp)).trans (World.cell?_setCell_same _ _ _ ((cell_set_other (by simp)).trans z1)), World.cell?_setCell_same _ _ _ ((cell_set_other (by simp)).trans ((cell_set_other (by simp)).trans z2)), (((stepB (hd.alloc (Nat.le_refl _) _) hB6 (by simp)).setCell (Nat.le_refl _) _).setCell (Nat.le_refl _) _).setCell (Nat.le_refl _) _⟩
    case rest =>
      obtain ⟨q, rfl, q1, q2, hB⟩ := hcut
      have hAt := hA0.step hB
      clear hA0 hB b0 b1 e0 e1 c0 c1 c2 hb
      go_wp2
      go_ret
      rw [hR.out]
      exact ⟨_, _, rfl, own_base (own_one wc (.int .i64 x.fr) (.int .i64 x.to) _) hAt.below.size, stepB hAt.below ((Below.refl _ _).alloc (Nat.le_refl _) _) hAt.below.size⟩

set_option maxRecDepth 100000 in
set_option maxHeartbeats 4000000 in
theorem witnessDays_any (a0 a1 : Option Addr) (cap0 cap1 : Nat) (xs0 : List Ps) (xs1 : List Tm) (m : Wt) (w : World) (hA : isPeopleB xs0 xs1 = true) (hl0 : xs0.length ≤ 1048576) (hx0 : Rd encPs w a0 xs0) (hl1 : xs1.length ≤ 1048574) (hx1 : Rd encTm w a1 xs1) :
    Calls Tryz.prog 81 #[.agg #[.slice a0 xs0.length cap0, .slice a1 xs1.length cap1], .agg #[.string m.person, .string m.office]] w fun e w' => (0 ≤ personIx xs0 m.person → ∃ g c, e = .returned (.tuple #[.slice (some ⟨g, 0, none⟩) (witL xs0 xs1 m).length c, .bool true]) ∧ w'.ownsRow w.heap.size 99 2 (.slice (some ⟨g, 0, none⟩) (witL xs0 xs1 m).length c) (witL xs0 xs1 m).length ((witL xs0 xs1 m).flatMap encSp)) ∧ (personIx xs0 m.person < 0 → e = .returned (.tuple #[.slice none 0 0, .bool false])) ∧ Below w.heap.size w w' := by
  have HP := Lib.hid (fun W (hB : Below w.heap.size w W) => personIndex_any a0 a1 cap0 cap1 xs0 xs1 m.person W hl0 (hx0.below hB))
  by_cases hp : personIx xs0 m.person < 0
  · generalize personIx xs0 m.person = z at hp HP ⊢
    go_enter Tryz.func81, Tryz.ntmps81
    go_wp2_with fail
    generalize hW : (w.alloc (.cells #[.slice a0 xs0.length cap0, .slice a1 xs1.length cap1] 66)).alloc (.cells #[.string m.person, .string m.office] 112) = W
    have hA0 : At w [.slice a0 xs0.length cap0, .slice a1 xs1.length cap1] W := hW ▸ (At.start _ _ _).step ((Below.refl _ _).alloc (Nat.le_refl _) _)
    have e0 : W.cell? ⟨w.heap.size + 1, 0, none⟩ = some (.string m.person) := by rw [← hW]; exact World.cell?_alloc_at _ _ _ _ (by simp)
    have e1 : W.cell? ⟨w.heap.size + 1, 1, none⟩ = some (.string m.office) := by rw [← hW]; exact World.cell?_alloc_at _ _ _ _ (by simp)
    have hs2 : w.heap.size + 1 < W.heap.size := by rw [← hW]; simp
    have b0 := hA0.cell 0 _ rfl
    have b1 := hA0.cell 1 _ rfl
    have hs := hA0.size
    clear hW
    refine (HP.out _ hA0.below).mono ?_
    rintro e w1 ⟨rfl, hB1⟩
    go_wp2
    go_ret2
    exact ⟨fun h => by omega, fun _ => rfl, (hA0.step hB1).below⟩
  · have hp0 : 0 ≤ personIx xs0 m.person := by omega
    obtain ⟨k, x, hk, hkl, hx⟩ := person_at hp0
    have hnm := person_named hA hp0
    have hk1 : (k : Int) < (xs0.length : Int) := by omega
    have hk0 : ¬ (k : Int) < 0 := by omega
    have hok := tsp_ok hA (isT m.office m.person)
    have hln := tsp_len (isT m.office m.person) xs1
    have h60 := (people_bd hA).2
    have hW : Hid ((m.office.toList == []) = true → witL xs0 xs1 m = [⟨x.fr, x.to⟩]) := fun hz => witL_own hz hk hx
    have hW2 : Hid ((m.office.toList == []) = false → witL xs0 xs1 m = uni (tsp (isT m.office m.person) xs1)) := fun hz => by rw [witL_office hz, isT_some hnm]
    have HT := Lib.hid (fun W (hAt : At w [.slice a0 xs0.length cap0, .slice a1 xs1.length cap1] W) => termsOf_any a0 a1 cap0 cap1 xs0 xs1 m.office m.person W hl1 (hx1.below hAt.below))
    have HU := Lib.hid (fun g cap W (h : Rd encSp W (some ⟨g, 0, none⟩) (tsp (isT m.office m.person) xs1)) => united_any g 0 cap _ (tsp (isT m.office m.person) xs1) W rfl (by omega) h hok)
    rw [hk] at HP ⊢
    clear hA hp hp0 hk hnm hok hln h60
    generalize tsp (isT m.office m.person) xs1 = ts at HT HU hW2
    cases hz : (m.office.toList == [])
    · have hR := Lib.hid (hW2.out hz)
      go_enter Tryz.func81, Tryz.ntmps81
      go_wp2_with fail
      generalize hW : (w.alloc (.cells #[.slice a0 xs0.length cap0, .slice a1 xs1.length cap1] 66)).alloc (.cells #[.string m.person, .string m.office] 112) = W
      have hA0 : At w [.slice a0 xs0.length cap0, .slice a1 xs1.length cap1] W := hW ▸ (At.start _ _ _).step ((Below.refl _ _).alloc (Nat.le_refl _) _)
      have e0 : W.cell? ⟨w.heap.size + 1, 0, none⟩ = some (.string m.person) := by rw [← hW]; exact World.cell?_alloc_at _ _ _ _ (by simp)
      have e1 : W.cell? ⟨w.heap.size + 1, 1, none⟩ = some (.string m.office) := by rw [← hW]; exact World.cell?_alloc_at _ _ _ _ (by simp)
      have hs2 : w.heap.size + 1 < W.heap.size := by rw [← hW]; simp
      have b0 := hA0.cell 0 _ rfl
      have b1 := hA0.cell 1 _ rfl
      have hs := hA0.size
      clear hW
      refine (HP.out _ hA0.below).mono ?_
      rintro e w1 ⟨rfl, hB1⟩
      have hA1 := hA0.step hB1
      have e0 := (hB1.cell (p := ⟨w.heap.size + 1, 0, none⟩) hs2).trans e0
      have e1 := (hB1.cell (p := ⟨w.heap.size + 1, 1, none⟩) hs2).trans e1
      have b0 := hA1.cell 0 _ rfl
      have b1 := hA1.cell 1 _ rfl
      clear hA0 hB1 hs
      go_wp2_with fail
      refine (HT.out _ hA1).mono ?_
      rintro e w2 ⟨g2, c2, rfl, ho2, hB2⟩
      have hA2 := hA1.step hB2
      have hrd := Rd.of_own encSp_len (by decide) ho2
      go_wp2_with fail
      refine (HU.out _ _ _ hrd).mono ?_
      rintro e w3 ⟨g3, c3, rfl, ho3, hB3⟩
      go_wp2
      go_ret2
      rw [hR.out]
      exact ⟨fun _ => ⟨_, _, rfl, own_base ho3 hA2.below.size⟩, fun h => absurd h (by omega), (hA2.step hB3).below⟩
    · have hR := Lib.hid (hW.out hz)
      go_enter Tryz.func81, Tryz.ntmps81
      go_wp2_with fail
      generalize hW : (w.alloc (.cells #[.slice a0 xs0.length cap0, .slice a1 xs1.length cap1] 66)).alloc (.cells #[.string m.person, .string m.office] 112) = W
      have hA0 : At w [.slice a0 xs0.length cap0, .slice a1 xs1.length cap1] W := hW ▸ (At.start _ _ _).step ((Below.refl _ _).alloc (Nat.le_refl _) _)
      have e0 : W.cell? ⟨w.heap.size + 1, 0, none⟩ = some (.string m.person) := by rw [← hW]; exact World.cell?_alloc_at _ _ _ _ (by simp)
      have e1 : W.cell? ⟨w.heap.size + 1, 1, none⟩ = some (.string m.office) := by rw [← hW]; exact World.cell?_alloc_at _ _ _ _ (by simp)
      have hs2 : w.heap.size + 1 < W.heap.size := by rw [← hW]; simp
      have b0 := hA0.cell 0 _ rfl
      have b1 := hA0.cell 1 _ rfl
      have hs := hA0.size
      clear hW
      refine (HP.out _ hA0.below).mono ?_
      rintro e w1 ⟨rfl, hB1⟩
      have hA1 := hA0.step hB1
      have e0 := (hB1.cell (p := ⟨w.heap.size + 1, 0, none⟩) hs2).trans e0
      have e1 := (hB1.cell (p := ⟨w.heap.size + 1, 1, none⟩) hs2).trans e1
      have b0 := hA1.cell 0 _ rfl
      have b1 := hA1.cell 1 _ rfl
      have hs1 := hA1.size
      obtain ⟨b, off, rfl, hb, c0, c1, c2⟩ := (hx0.below hA1.below).ps hx
      clear hA0 hB1 hs
      go_wp2_with fail
      go_region_held_law (fun w' => w'.cell? ⟨w.heap.size, 0, none⟩ = some (.slice (some ⟨b, off, none⟩) xs0.length cap0) ∧ w'.cell? ⟨b, off + k * 3 + 1, none⟩ = some (.int .i64 x.fr) ∧ w'.cell? ⟨b, off + k * 3 + 2, none⟩ = some (.int .i64 x.to)) (first | exact ⟨b0, c1, c2⟩ | exact ⟨((((Below.refl _ w1).drew).alloc (Nat.le_refl _) _).cell (p := ⟨w.heap.size, 0, none⟩) hs1).trans b0, ((((Below.refl _ w1).drew).alloc (Nat.le_refl _) _).cell (p := ⟨b, off + k * 3 + 1, none⟩) hb).trans c1, ((((Below.refl _ w1).drew).alloc (Nat.le_refl _) _).cell (p := ⟨b, off + k * 3 + 2, none⟩) hb).trans c2⟩) (fail)
      go_wp2
      go_ret2
      rw [hR.out]
      exact ⟨fun _ => ⟨_, _, rfl, own_base (own_one w1.drew (.int .i64 x.fr) (.int .i64 x.to) _) hA1.below.size⟩, fun h => absurd h (by omega), stepB hA1.below (((Below.refl _ w1).drew).alloc (Nat.le_refl _) _) hA1.below.size⟩

set_option maxRecDepth 100000 in
set_option maxHeartbeats 4000000 in
theorem l13Code_any (a0 a1 : Option Addr) (cap0 cap1 : Nat) (xs0 : List Ps) (xs1 : List Tm) (a2 : Option Addr) (cap2 : Nat) (xs2 : List Wt) (q : Bool) (w : World) (hl0 : xs0.length ≤ 1048576) (hx0 : Rd encPs w a0 xs0) (hs0 : ∀ m ∈ xs0, szPs m ≤ 1048576) (hl1 : xs1.length ≤ 1048576) (hx1 : Rd encTm w a1 xs1) (hs1 : ∀ m ∈ xs1, szTm m ≤ 1048576) (hl2 : xs2.length ≤ 1048576) (hx2 : Rd encWt w a2 xs2) :
    Calls Tryz.prog 75 #[.agg #[.slice a0 xs0.length cap0, .slice a1 xs1.length cap1], .slice a2 xs2.length cap2, .bool q] w fun e w' => e = .returned (.int .i64 (codeW xs0 xs1 xs2 q)) ∧ Below w.heap.size w w' := by
  have hA0 : At w [.slice a0 xs0.length cap0, .slice a1 xs1.length cap1] (w.alloc (.cells #[.slice a0 xs0.length cap0, .slice a1 xs1.length cap1] 66)) := At.start _ _ _
  have HM := Lib.hid (fun W (hAt : At w [.slice a0 xs0.length cap0, .slice a1 xs1.length cap1] W) => specIsPeople_any a0 a1 cap0 cap1 xs0 xs1 W hl0 (hx0.below hAt.below) hs0 hl1 (hx1.below hAt.below) hs1)
  have HP := Lib.hid (fun s W (hB : Below w.heap.size w W) => l13Person_any a0 a1 cap0 cap1 xs0 xs1 s W hl0 (hx0.below hB))
  have hre : codeW xs0 xs1 xs2 q = if isPeopleB xs0 xs1 then (if q && decide (xs2.length ≤ 12) then (if xs2.all (okW xs0) then 0 else 4) else 2) else 1 := rfl
  have HOK : Hid (∀ m : Wt, okW xs0 m = decide (0 ≤ personIx xs0 m.person)) := fun _ => rfl
  generalize codeW xs0 xs1 xs2 q = C at hre ⊢
  cases hA : isPeopleB xs0 xs1
  · have HM := Lib.hid (fun W h => hA ▸ HM.out W h)
    have hR : Hid (C = 1) := by unfold Hid; rw [hre, hA]; rfl
    clear hA hre
    go_enter Tryz.func75, Tryz.ntmps75
    go_wp2_with fail
    refine (HM.out _ hA0).mono ?_
    rintro e w1 ⟨rfl, hB1⟩
    go_wp2
    go_ret
    exact ⟨ret_int hR.out.symm, (hA0.step hB1).below⟩
  · have HM := Lib.hid (fun W h => hA ▸ HM.out W h)
    rw [hA] at hre
    clear hA
    by_cases h12 : q = true ∧ xs2.length ≤ 12
    · obtain ⟨rfl, h12⟩ := h12
      have hR : Hid (C = if xs2.all (okW xs0) then 0 else 4) := by unfold Hid; rw [hre, decide_eq_true h12]; rfl
      have h12' : ¬ (12 : Int) < (xs2.length : Int) := by omega
      clear hre
      go_enter Tryz.func75, Tryz.ntmps75
      go_wp2_with fail
      refine (HM.out _ hA0).mono ?_
      rintro e w1 ⟨rfl, hB1⟩
      have hA1 := hA0.step hB1
      clear hA0 hB1 HM
      go_wp2
      go_loopw [7] (fun i wr => ∃ (k : Nat), k ≤ xs2.length ∧ i = .int .i64 k ∧ Hid (xs2.all (okW xs0) = (xs2.drop k).all (okW xs0)) ∧ At w [.slice a0 xs0.length cap0, .slice a1 xs1.length cap1] wr) (fun i _ => xs2.length - (intOf i).toNat)
      case atStart => exact ⟨0, Nat.zero_le _, rfl, rfl, hA1⟩
      case round =>
        clear hA1
        obtain ⟨k, hk, rfl, hH, hAt⟩ := hrel
        have b0 := hAt.cell 0 _ rfl
        have b1 := hAt.cell 1 _ rfl
        have hs := hAt.size
        by_cases hlt : k < xs2.length
        · have hk1 : (k : Int) < (xs2.length : Int) := by omega
          have hm := List.getElem?_eq_getElem hlt
          generalize xs2[k] = m at hm
          obtain ⟨b, off, rfl, hb, c0, _⟩ := (hx2.below hAt.below).wt hm
          have hd := Lib.hid (all_drop (okW xs0) hm)
          have hok := Lib.hid (HOK.out m)
          clear hm
          by_cases hp : personIx xs0 m.person < 0
          · have hok : Hid (okW xs0 m = false) := hok.out.trans (decide_eq_false (by omega))
            go_wp2_with fail
            go_region_held_law (fun w' => w'.cell? ⟨w.heap.size, 0, none⟩ = some (.slice a0 xs0.length cap0) ∧ w'.cell? ⟨w.heap.size, 1, none⟩ = some (.slice a1 xs1.length cap1) ∧ w'.cell? ⟨b, off + k * 2, none⟩ = some (.string m.person)) (first | exact ⟨b0, b1, c0⟩ | exact ⟨(hB6.cell (p := ⟨w.heap.size, 0, none⟩) hs).trans b0, (hB6.cell (p := ⟨w.heap.size, 1, none⟩) hs).trans b1, (hB6.cell (p := ⟨b, off + k * 2, none⟩) hb).trans c0⟩) ((go_at_call 115; refine (HP.out m.person _ (hAt.step (Below.refl _ wr).drew).below).mono ?_; rintro e w6 ⟨rfl, hB6⟩))
            have hz : Below wr.heap.size wr w6 := stepB (Below.refl _ wr).drew hB6 (Nat.le_refl _)
            have hAt := hAt.step hz
            clear hz hB6 b0 b1 c0 hb
            have hpd : decide (personIx xs0 m.person < 0) = true := decide_eq_true hp
            go_wp2
            go_ret
            exact ⟨ret_int (by rw [hR.out, hH.out, hd.out, hok.out]; rfl), hAt.below⟩
          · have hok : Hid (okW xs0 m = true) := hok.out.trans (decide_eq_true (by omega))
            go_wp2_with fail
            go_region_held_law (fun w' => w'.cell? ⟨w.heap.size, 0, none⟩ = some (.slice a0 xs0.length cap0) ∧ w'.cell? ⟨w.heap.size, 1, none⟩ = some (.slice a1 xs1.length cap1) ∧ w'.cell? ⟨b, off + k * 2, none⟩ = some (.string m.person)) (first | exact ⟨b0, b1, c0⟩ | exact ⟨(hB6.cell (p := ⟨w.heap.size, 0, none⟩) hs).trans b0, (hB6.cell (p := ⟨w.heap.size, 1, none⟩) hs).trans b1, (hB6.cell (p := ⟨b, off + k * 2, none⟩) hb).trans c0⟩) ((go_at_call 115; refine (HP.out m.person _ (hAt.step (Below.refl _ wr).drew).below).mono ?_; rintro e w6 ⟨rfl, hB6⟩))
            have hz : Below wr.heap.size wr w6 := stepB (Below.refl _ wr).drew hB6 (Nat.le_refl _)
            have hAt := hAt.step hz
            clear hz hB6 b0 b1 c0 hb
            have hpd : decide (personIx xs0 m.person < 0) = false := decide_eq_false (by omega)
            go_wp2
            go_roundw
            case rel => exact ⟨k + 1, by omega, by go_num, by unfold Hid; rw [hH.out, hd.out, hok.out]; rfl, hAt⟩
            case measure => simp [intOf]; omega
        · go_wp2
          go_ret
          exact ⟨ret_int (by rw [hR.out, hH.out, List.drop_eq_nil_of_le (by omega)]; rfl), hAt.below⟩
    · have hR : Hid (C = 2) := by
        unfold Hid
        rw [hre]
        cases q
        · rfl
        · rw [decide_eq_false (fun h => h12 ⟨rfl, h⟩)]; rfl
      clear hre
      go_enter Tryz.func75, Tryz.ntmps75
      go_wp2_with fail
      refine (HM.out _ hA0).mono ?_
      rintro e w1 ⟨rfl, hB1⟩
      have hA1 := hA0.step hB1
      clear hA0 hB1 HM
      cases q
      · go_wp2
        go_ret
        exact ⟨ret_int hR.out.symm, hA1.below⟩
      · have h12' : (12 : Int) < (xs2.length : Int) := by
          have : ¬ xs2.length ≤ 12 := fun h => h12 ⟨rfl, h⟩
          omega
        go_wp2
        go_ret
        exact ⟨ret_int hR.out.symm, hA1.below⟩
set_option maxHeartbeats 2000000 in
theorem checkPeopleW_any (a0 a1 a2 : Option Addr) (cap0 cap1 cap2 : Nat) (xs0 : List Ps) (xs1 : List Tm) (zs : List Int) (k : Nat) (w : World) (hl0 : xs0.length ≤ 1048576) (hx0 : Rd encPs w a0 xs0) (hs0 : ∀ m ∈ xs0, szPs m ≤ 1048576) (hl1 : xs1.length ≤ 1048576) (hx1 : Rd encTm w a1 xs1) (hs1 : ∀ m ∈ xs1, szTm m ≤ 1048576) (hl2 : zs.length ≤ 1048576) (hx2 : Rd encI w a2 zs) :
    Calls Tryz.prog 80 #[.agg #[.slice a0 xs0.length cap0, .slice a1 xs1.length cap1], .int .i64 k, .slice a2 zs.length cap2] w fun e w' => e = .returned (.int .i64 (if isPeopleB xs0 xs1 then (if decide (k ≤ 12) && zs.all dayB then 0 else 2) else 1)) ∧ Below w.heap.size w w' := by
  have hA0 : At w [.slice a0 xs0.length cap0, .slice a1 xs1.length cap1] (w.alloc (.cells #[.slice a0 xs0.length cap0, .slice a1 xs1.length cap1] 66)) := At.start _ _ _
  have HM := Lib.hid (fun W (hAt : At w [.slice a0 xs0.length cap0, .slice a1 xs1.length cap1] W) => implIsPeople_any a0 a1 cap0 cap1 xs0 xs1 W hl0 (hx0.below hAt.below) hs0 hl1 (hx1.below hAt.below) hs1)
  have hct := fun W (hAt : At w [.slice a0 xs0.length cap0, .slice a1 xs1.length cap1] W) => containsFunc_checkPeople_1 a2 cap2 zs (fun m => !dayB m) W hl2 (hx2.below hAt.below) (fun W' _ m _ => checkPeople1_any m W')
  rw [any_not_day] at hct
  have HCT := Lib.hid hct
  clear hct
  generalize hC : (if isPeopleB xs0 xs1 then (if decide (k ≤ 12) && zs.all dayB then (0 : Int) else 2) else 1) = C
  cases hA : isPeopleB xs0 xs1
  · have HM := Lib.hid (fun W h => hA ▸ HM.out W h)
    have hR : Hid (C = 1) := by unfold Hid; rw [← hC, hA]; rfl
    clear hA hC
    go_enter Tryz.func80, Tryz.ntmps80
    go_wp2_with fail
    refine (HM.out _ hA0).mono ?_
    rintro e w1 ⟨rfl, hB1⟩
    go_wp2
    go_ret
    exact ⟨ret_int hR.out.symm, (hA0.step hB1).below⟩
  · have HM := Lib.hid (fun W h => hA ▸ HM.out W h)
    rw [hA] at hC
    by_cases h12 : k ≤ 12
    · rw [decide_eq_true h12] at hC
      have h12' : ¬ (12 : Int) < (k : Int) := by omega
      cases hz : zs.all dayB
      · have hR : Hid (C = 2) := by unfold Hid; rw [← hC, hz]; rfl
        have HCT := Lib.hid (fun W h => hz ▸ HCT.out W h)
        clear hA hz hC
        go_enter Tryz.func80, Tryz.ntmps80
        go_wp2_with fail
        refine (HM.out _ hA0).mono ?_
        rintro e w1 ⟨rfl, hB1⟩
        have hA1 := hA0.step hB1
        go_wp2_with fail
        refine (HCT.out _ hA1).mono ?_
        rintro e w2 ⟨rfl, hB2⟩
        go_wp2
        go_ret
        exact ⟨ret_int hR.out.symm, (hA1.step hB2).below⟩
      · have hR : Hid (C = 0) := by unfold Hid; rw [← hC, hz]; rfl
        have HCT := Lib.hid (fun W h => hz ▸ HCT.out W h)
        clear hA hz hC
        go_enter Tryz.func80, Tryz.ntmps80
        go_wp2_with fail
        refine (HM.out _ hA0).mono ?_
        rintro e w1 ⟨rfl, hB1⟩
        have hA1 := hA0.step hB1
        go_wp2_with fail
        refine (HCT.out _ hA1).mono ?_
        rintro e w2 ⟨rfl, hB2⟩
        go_wp2
        go_ret
        exact ⟨ret_int hR.out.symm, (hA1.step hB2).below⟩
    · have hR : Hid (C = 2) := by unfold Hid; rw [← hC, decide_eq_false h12]; rfl
      have h12' : (12 : Int) < (k : Int) := by omega
      clear hA hC HCT
      go_enter Tryz.func80, Tryz.ntmps80
      go_wp2_with fail
      refine (HM.out _ hA0).mono ?_
      rintro e w1 ⟨rfl, hB1⟩
      go_wp2
      go_ret
      exact ⟨ret_int hR.out.symm, (hA0.step hB1).below⟩
end

section
open Go.ChangeShapes Go.WideShapes Go.ChangeAt Go.RowKit

def pA (ps : List Ps) (ts : List Tm) (l : List Wt) (n : Int) (i : Nat) : Bool := match l[i]? with
  | some m => !hasB (witL ps ts m) n
  | none => false
theorem pA_at {ps : List Ps} {ts : List Tm} {l : List Wt} {n : Int} {i : Nat} {m : Wt} (h : l[i]? = some m) : pA ps ts l n i = !hasB (witL ps ts m) n := by unfold pA; rw [h]
def absR (ps : List Ps) (ts : List Tm) (l : List Wt) (n c : Int) : List Int × Int := if c = 0 then (jxl (pA ps ts l n) l.length, 0) else ([], c)
theorem absR_len (ps : List Ps) (ts : List Tm) (l : List Wt) (n : Int) (c : Int) (h : l.length ≤ 1048576) : (absR ps ts l n c).1.length ≤ 1048576 := by
  unfold absR
  split
  · exact Nat.le_trans (jxl_len _ _) h
  · simp

set_option maxRecDepth 100000 in
set_option maxHeartbeats 4000000 in
theorem specAbsent_any (a0 a1 : Option Addr) (cap0 cap1 : Nat) (xs0 : List Ps) (xs1 : List Tm) (a2 : Option Addr) (cap2 : Nat) (xs2 : List Wt) (n : Int) (w : World) (hl0 : xs0.length ≤ 1048576) (hx0 : Rd encPs w a0 xs0) (hs0 : ∀ m ∈ xs0, szPs m ≤ 1048576) (hl1 : xs1.length ≤ 1048576) (hx1 : Rd encTm w a1 xs1) (hs1 : ∀ m ∈ xs1, szTm m ≤ 1048576) (hl2 : xs2.length ≤ 1048576) (hx2 : Rd encWt w a2 xs2) :
    Calls Tryz.prog 33 #[.agg #[.slice a0 xs0.length cap0, .slice a1 xs1.length cap1], .slice a2 xs2.length cap2, .int .i64 n] w fun e w' => ∃ b c, e = .returned (.tuple #[.slice b (absR xs0 xs1 xs2 n (codeW xs0 xs1 xs2 (dayB n))).1.length c, .int .i64 (absR xs0 xs1 xs2 n (codeW xs0 xs1 xs2 (dayB n))).2]) ∧
      w'.ownsRow w.heap.size 2 1 (.slice b (absR xs0 xs1 xs2 n (codeW xs0 xs1 xs2 (dayB n))).1.length c) (absR xs0 xs1 xs2 n (codeW xs0 xs1 xs2 (dayB n))).1.length ((absR xs0 xs1 xs2 n (codeW xs0 xs1 xs2 (dayB n))).1.flatMap encI) ∧ Below w.heap.size w w' := by
  obtain ⟨i0, hi, hz0, hz1, hz2⟩ := info_parts infoI
  have hA0 : At w [.slice a0 xs0.length cap0, .slice a1 xs1.length cap1] (w.alloc (.cells #[.slice a0 xs0.length cap0, .slice a1 xs1.length cap1] 66)) := At.start _ _ _
  have HC := Lib.hid (fun W (hB : Below w.heap.size w W) => l13Code_any a0 a1 cap0 cap1 xs0 xs1 a2 cap2 xs2 (dayB n) W hl0 (hx0.below hB) hs0 hl1 (hx1.below hB) hs1 hl2 (hx2.below hB))
  have HD := Lib.hid (fun W => l01Day_any n W)
  have hfacts := Lib.hid (codeW_zero (ps := xs0) (ts := xs1) (l := xs2) (b := dayB n))
  have hRz : Hid (codeW xs0 xs1 xs2 (dayB n) = 0 → absR xs0 xs1 xs2 n (codeW xs0 xs1 xs2 (dayB n)) = (jxl (pA xs0 xs1 xs2 n) xs2.length, 0)) := fun hc => by unfold absR; rw [if_pos hc]
  have hRn : Hid (codeW xs0 xs1 xs2 (dayB n) ≠ 0 → absR xs0 xs1 xs2 n (codeW xs0 xs1 xs2 (dayB n)) = ([], codeW xs0 xs1 xs2 (dayB n))) := fun hc => by unfold absR; rw [if_neg hc]
  generalize codeW xs0 xs1 xs2 (dayB n) = c at HC hfacts hRz hRn ⊢
  generalize dayB n = dn at HC HD hfacts
  go_enter Tryz.func33, Tryz.ntmps33
  go_wp2_with fail
  generalize hW : w.alloc (.cells #[.slice a0 xs0.length cap0, .slice a1 xs1.length cap1] 66) = W at hA0 ⊢
  have b0 := hA0.cell 0 _ rfl
  have b1 := hA0.cell 1 _ rfl
  have hs := hA0.size
  clear hW
  go_region_held_law (fun w' => w'.cell? ⟨w.heap.size, 0, none⟩ = some (.slice a0 xs0.length cap0) ∧ w'.cell? ⟨w.heap.size, 1, none⟩ = some (.slice a1 xs1.length cap1)) (first | exact ⟨b0, b1⟩ | exact ⟨(hB6.cell (p := ⟨w.heap.size, 0, none⟩) hs).trans b0, (hB6.cell (p := ⟨w.heap.size, 1, none⟩) hs).trans b1⟩) (first | (go_at_call 47; refine (HD.out _).mono ?_; rintro e w5 ⟨rfl, rfl⟩) | (go_at_call 75; refine (HC.out _ (hA0.step (Below.refl _ W).drew).below).mono ?_; rintro e w6 ⟨rfl, hB6⟩) | fail)
  have hA1 := hA0.step (stepB (Below.refl _ W).drew hB6 (Nat.le_refl _))
  clear hA0 hB6 b0 b1 hs HC HD
  generalize w6 = w1 at hA1 ⊢
  by_cases hc : c = 0
  · subst hc
    obtain ⟨h1, hdn, h2, hok⟩ := hfacts.out rfl
    subst hdn
    have hR := Lib.hid (hRz.out rfl)
    have hbd := people_bd h1
    have HPV := Lib.hid (fun i m (h : xs2[i]? = some m) => pA_at (ps := xs0) (ts := xs1) (n := n) h)
    have HW := Lib.hid (fun m W (hB : Below w.heap.size w W) (hp : 0 ≤ personIx xs0 m.person) => l13Could_any a0 a1 cap0 cap1 xs0 xs1 m W h1 hp hl0 (hx0.below hB) (by omega) (hx1.below hB))
    have HWL := Lib.hid (fun m => witL_len h1 m)
    have HOK := Lib.hid (fun m (h : m ∈ xs2) => of_decide_eq_true (List.all_eq_true.1 hok m h))
    generalize pA xs0 xs1 xs2 n = p at HPV hR
    clear hok h1 hbd hfacts hRz hRn
    have hBo : Below w1.heap.size w1 (w1.alloc (.cells #[] 2)) := (Below.refl _ w1).alloc (Nat.le_refl _) _
    have hA2 := hA1.step hBo
    have hown0 := World.ownsRow_made w1 #[] 0 (show w.heap.size + 1 ≤ w1.heap.size from hA1.size) (by decide) rfl (e := 2) (size := 1)
    clear hBo hA1
    go_wp2
    go_loopw [9, 10] (fun o i wr => ∃ (k g c : Nat), k ≤ xs2.length ∧ i = .int .i64 k ∧ o = .slice (some ⟨g, 0, none⟩) (jxl p k).length c ∧ wr.ownsRow (w.heap.size + 1) 2 1 (.slice (some ⟨g, 0, none⟩) (jxl p k).length c) (jxl p k).length ((jxl p k).flatMap encI) ∧ At w [.slice a0 xs0.length cap0, .slice a1 xs1.length cap1] wr) (fun _ i _ => xs2.length - (intOf i).toNat)
    case atStart => exact ⟨0, _, _, Nat.zero_le _, rfl, rfl, hown0, hA2⟩
    case round =>
      clear hown0 hA2
      obtain ⟨k, g, c, hk, rfl, rfl, hown, hAt⟩ := hrel
      have hlen := jxl_len p k
      have b0 := hAt.cell 0 _ rfl
      have b1 := hAt.cell 1 _ rfl
      have hs := hAt.size
      by_cases hlt : k < xs2.length
      · have hk1 : (k : Int) < (xs2.length : Int) := by omega
        have hm := List.getElem?_eq_getElem hlt
        generalize xs2[k] = m at hm
        obtain ⟨b, off, rfl, hb, c0, c1⟩ := (hx2.below hAt.below).wt hm
        have hp := HOK.out m (List.mem_of_getElem? hm)
        have hpk := HPV.out k m hm
        have hwl := HWL.out m
        have HWm := Lib.hid (fun W hB => HW.out m W hB hp)
        have HH := Lib.hid (fun a cap W h => l02Has_any a cap _ (witL xs0 xs1 m) n W rfl (by omega) h)
        have hz : Below wr.heap.size wr wr.drew := (Below.refl _ wr).drew
        clear hm hp
        cases hbb : hasB (witL xs0 xs1 m) n
        · have HH := Lib.hid (fun a cap W h => hbb ▸ HH.out a cap W h)
          rw [hbb] at hpk
          have hst := Lib.hid (jxl_yes hpk)
          clear hpk hbb
          generalize witL xs0 xs1 m = L at HWm HH hwl
          generalize jxl p k = out at hown hst hlen ⊢
          go_wp2_with fail
          go_region_held_law (fun w' => w'.cell? ⟨w.heap.size, 0, none⟩ = some (.slice a0 xs0.length cap0) ∧ w'.cell? ⟨w.heap.size, 1, none⟩ = some (.slice a1 xs1.length cap1) ∧ w'.cell? ⟨b, off + k * 2, none⟩ = some (.string m.person) ∧ w'.cell? ⟨b, off + k * 2 + 1, none⟩ = some (.string m.office)) (first | exact ⟨b0, b1, c0, c1⟩ | exact ⟨(hB6.cell (p := ⟨w.heap.size, 0, none⟩) hs).trans b0, (hB6.cell (p := ⟨w.heap.size, 1, none⟩) hs).trans b1, (hB6.cell (p := ⟨b, off + k * 2, none⟩) hb).trans c0, (hB6.cell (p := ⟨b, off + k * 2 + 1, none⟩) hb).trans c1⟩ | exact ⟨(hB7.cell (p := ⟨w.heap.size, 0, none⟩) (Nat.lt_of_lt_of_le hs hB6.size)).trans ((hB6.cell (p := ⟨w.heap.size, 0, none⟩) hs).trans b0), (hB7.cell (p := ⟨w.heap.size, 1, none⟩) (Nat.lt_of_lt_of_le hs hB6.size)).trans ((hB6.cell (p := ⟨w.heap.size, 1, none⟩) hs).trans b1), (hB7.cell (p := ⟨b, off + k * 2, none⟩) (Nat.lt_of_lt_of_le hb hB6.size)).trans ((hB6.cell (p := ⟨b, off + k * 2, none⟩) hb).trans c0), (hB7.cell (p := ⟨b, off + k * 2 + 1, none⟩) (Nat.lt_of_lt_of_le hb hB6.size)).trans ((hB6.cell (p := ⟨b, off + k * 2 + 1, none⟩) hb).trans c1)⟩) (first | (go_at_call 76; refine (HWm.out _ (hAt.step hz).below).mono ?_; rintro e w6 ⟨g6, c6, rfl, ho6, hB6⟩) | (go_at_call 48; refine (HH.out _ _ _ (Rd.of_own encSp_len (by decide) ho6)).mono ?_; rintro e w7 ⟨rfl, hB7⟩) | fail)
          have hz7 : Below wr.heap.size wr w7 := stepB (stepB hz hB6 (Nat.le_refl _)) hB7 hB6.size
          have hown := own_below hown hz7
          have hAt := hAt.step hz7
          have hs := hAt.size
          clear hz hz7 hB6 hB7 ho6 b0 b1 c0 c1 hb
          go_wp2_with (at_builtin; refine wpList_append_own _ rfl _ _ 48 rfl (w.heap.size + 1) 2 i0 (.int .i64 0) 1 8 Tryz.underlying48 hi hz0 hz1 hz2 rfl (by decide) _ _ _ rfl (hown.alloc _) ⟨w7.heap.size, 0, none⟩ 1 1 [.int .i64 k] rfl rfl (cell_one_new _ _ _) ?c2 ?c3 ?c4 ?c5 ?_)
          case c2 => intro u hu; simp at hu; subst hu; rfl
          case c3 => unfold maxLen; omega
          case c4 => omega
          case c5 => first | omega | (simp; omega)
          intro v' w5 hown' hgr _
          have hA5 := (hAt.step ((Below.refl _ w7).alloc (Nat.le_refl _) (.cells #[.int .i64 k] 2))).grown hgr (fun x hx => (hown.lt x hx).1)
          obtain ⟨g', c', rfl⟩ := formJ hown' (by omega)
          clear hgr hown hAt
          go_wp2
          go_roundw
          case rel => exact ⟨k + 1, g', c', by omega, by go_num, by rw [hst.out, List.length_append]; rfl, by rw [hst.out, List.length_append, List.flatMap_append]; exact hown', hA5⟩
          case measure => simp [intOf]; omega
        · have HH := Lib.hid (fun a cap W h => hbb ▸ HH.out a cap W h)
          rw [hbb] at hpk
          have hst := Lib.hid (jxl_no hpk)
          clear hpk hbb
          generalize witL xs0 xs1 m = L at HWm HH hwl
          go_wp2_with fail
          go_region_held_law (fun w' => w'.cell? ⟨w.heap.size, 0, none⟩ = some (.slice a0 xs0.length cap0) ∧ w'.cell? ⟨w.heap.size, 1, none⟩ = some (.slice a1 xs1.length cap1) ∧ w'.cell? ⟨b, off + k * 2, none⟩ = some (.string m.person) ∧ w'.cell? ⟨b, off + k * 2 + 1, none⟩ = some (.string m.office)) (first | exact ⟨b0, b1, c0, c1⟩ | exact ⟨(hB6.cell (p := ⟨w.heap.size, 0, none⟩) hs).trans b0, (hB6.cell (p := ⟨w.heap.size, 1, none⟩) hs).trans b1, (hB6.cell (p := ⟨b, off + k * 2, none⟩) hb).trans c0, (hB6.cell (p := ⟨b, off + k * 2 + 1, none⟩) hb).trans c1⟩ | exact ⟨(hB7.cell (p := ⟨w.heap.size, 0, none⟩) (Nat.lt_of_lt_of_le hs hB6.size)).trans ((hB6.cell (p := ⟨w.heap.size, 0, none⟩) hs).trans b0), (hB7.cell (p := ⟨w.heap.size, 1, none⟩) (Nat.lt_of_lt_of_le hs hB6.size)).trans ((hB6.cell (p := ⟨w.heap.size, 1, none⟩) hs).trans b1), (hB7.cell (p := ⟨b, off + k * 2, none⟩) (Nat.lt_of_lt_of_le hb hB6.size)).trans ((hB6.cell (p := ⟨b, off + k * 2, none⟩) hb).trans c0), (hB7.cell (p := ⟨b, off + k * 2 + 1, none⟩) (Nat.lt_of_lt_of_le hb hB6.size)).trans ((hB6.cell (p := ⟨b, off + k * 2 + 1, none⟩) hb).trans c1)⟩) (first | (go_at_call 76; refine (HWm.out _ (hAt.step hz).below).mono ?_; rintro e w6 ⟨g6, c6, rfl, ho6, hB6⟩) | (go_at_call 48; refine (HH.out _ _ _ (Rd.of_own encSp_len (by decide) ho6)).mono ?_; rintro e w7 ⟨rfl, hB7⟩) | fail)
          have hz7 : Below wr.heap.size wr w7 := stepB (stepB hz hB6 (Nat.le_refl _)) hB7 hB6.size
          have hown := own_below hown hz7
          have hAt := hAt.step hz7
          have hs := hAt.size
          clear hz hz7 hB6 hB7 ho6 b0 b1 c0 c1 hb
          go_wp2
          go_roundw
          case rel => exact ⟨k + 1, g, c, by omega, by go_num, by rw [hst.out], by rw [hst.out]; exact hown, hAt⟩
          case measure => simp [intOf]; omega
      · obtain rfl : k = xs2.length := by omega
        go_wp2
        go_ret2
        rw [hR.out]
        exact ⟨_, _, rfl, own_base hown (by omega), hAt.below⟩
  · have hR := Lib.hid (hRn.out hc)
    have hc2 : (c != 0) = true := by simpa using hc
    clear hfacts hRz hRn
    go_wp2
    go_ret2
    rw [hR.out]
    exact ⟨none, 0, rfl, World.ownsRow_nil _ _ _ _, hA1.below⟩

set_option maxRecDepth 100000 in
set_option maxHeartbeats 4000000 in
theorem implAbsent_any (a0 a1 : Option Addr) (cap0 cap1 : Nat) (xs0 : List Ps) (xs1 : List Tm) (a2 : Option Addr) (cap2 : Nat) (xs2 : List Wt) (n : Int) (w : World) (hl0 : xs0.length ≤ 1048576) (hx0 : Rd encPs w a0 xs0) (hs0 : ∀ m ∈ xs0, szPs m ≤ 1048576) (hl1 : xs1.length ≤ 1048576) (hx1 : Rd encTm w a1 xs1) (hs1 : ∀ m ∈ xs1, szTm m ≤ 1048576) (hl2 : xs2.length ≤ 1048576) (hx2 : Rd encWt w a2 xs2) :
    Calls Tryz.prog 36 #[.agg #[.slice a0 xs0.length cap0, .slice a1 xs1.length cap1], .slice a2 xs2.length cap2, .int .i64 n] w fun e w' => ∃ b c, e = .returned (.tuple #[.slice b (absR xs0 xs1 xs2 n (codeW xs0 xs1 xs2 (dayB n))).1.length c, .int .i64 (absR xs0 xs1 xs2 n (codeW xs0 xs1 xs2 (dayB n))).2]) ∧
      w'.ownsRow w.heap.size 2 1 (.slice b (absR xs0 xs1 xs2 n (codeW xs0 xs1 xs2 (dayB n))).1.length c) (absR xs0 xs1 xs2 n (codeW xs0 xs1 xs2 (dayB n))).1.length ((absR xs0 xs1 xs2 n (codeW xs0 xs1 xs2 (dayB n))).1.flatMap encI) ∧ Below w.heap.size w w' := by
  obtain ⟨i0, hi, hz0, hz1, hz2⟩ := info_parts infoI
  have hA0 : At w [.slice a0 xs0.length cap0, .slice a1 xs1.length cap1] ((w.alloc (.cells #[.slice a0 xs0.length cap0, .slice a1 xs1.length cap1] 66)).alloc (.cells #[.int .i64 n] 2)) := (At.start w _ _).step ((Below.refl _ _).alloc (Nat.le_refl _) _)
  have hrd : Rd encI ((w.alloc (.cells #[.slice a0 xs0.length cap0, .slice a1 xs1.length cap1] 66)).alloc (.cells #[.int .i64 n] 2)) (some ⟨w.heap.size + 1, 0, none⟩) [n] := by
    intro i x hi
    refine ⟨w.heap.size + 1, 0, rfl, by simp, fun j v hv => ?_⟩
    rw [World.cell?_alloc_at _ _ _ _ (by simp)]
    match i, hi with
    | 0, hi => cases hi; match j, hv with | 0, hv => cases hv; rfl
  have HRD := Lib.hid hrd
  have HC := Lib.hid (fun W (hB : Below w.heap.size w W) (hr : Rd encI W (some ⟨w.heap.size + 1, 0, none⟩) [n]) => checkPeopleW_any a0 a1 (some ⟨w.heap.size + 1, 0, none⟩) cap0 cap1 1 xs0 xs1 [n] xs2.length W hl0 (hx0.below hB) hs0 hl1 (hx1.below hB) hs1 (by simp) hr)
  have hcw : codeW xs0 xs1 xs2 (dayB n) = if isPeopleB xs0 xs1 then (if decide (xs2.length ≤ 12) && ([n] : List Int).all dayB then (if xs2.all (okW xs0) then 0 else 4) else 2) else 1 := by unfold codeW; simp [Bool.and_comm]
  clear hrd
  generalize hC : (if isPeopleB xs0 xs1 then (if decide (xs2.length ≤ 12) && ([n] : List Int).all dayB then (0 : Int) else 2) else 1) = C at HC
  by_cases hc : C = 0
  · subst hc
    have h1 : isPeopleB xs0 xs1 = true := by
      cases h : isPeopleB xs0 xs1
      · rw [h] at hC; simp at hC
      · rfl
    have h3 : (decide (xs2.length ≤ 12) && ([n] : List Int).all dayB) = true := by
      rw [h1] at hC
      cases h : (decide (xs2.length ≤ 12) && ([n] : List Int).all dayB)
      · rw [h] at hC; simp at hC
      · rfl
    have h2 : xs2.length ≤ 12 := by
      simp only [Bool.and_eq_true, decide_eq_true_eq] at h3
      exact h3.1
    have hR : Hid (absR xs0 xs1 xs2 n (codeW xs0 xs1 xs2 (dayB n)) = if xs2.all (okW xs0) then (jxl (pA xs0 xs1 xs2 n) xs2.length, 0) else ([], 4)) := by
      unfold Hid
      rw [hcw, h1, h3]
      cases xs2.all (okW xs0) <;> rfl
    have hbd := people_bd h1
    have HPV := Lib.hid (fun i m (h : xs2[i]? = some m) => pA_at (ps := xs0) (ts := xs1) (n := n) h)
    have HW := Lib.hid (fun m W (hB : Below w.heap.size w W) => witnessDays_any a0 a1 cap0 cap1 xs0 xs1 m W h1 hl0 (hx0.below hB) (by omega) (hx1.below hB))
    have HWL := Lib.hid (fun m => witL_len h1 m)
    have HOK : Hid (∀ m : Wt, okW xs0 m = decide (0 ≤ personIx xs0 m.person)) := fun _ => rfl
    clear hC hcw h1 h3 hbd
    generalize absR xs0 xs1 xs2 n _ = Q at hR ⊢
    generalize pA xs0 xs1 xs2 n = p at HPV hR
    go_enter Tryz.func36, Tryz.ntmps36
    go_wp2_with fail
    refine (HC.out _ hA0.below HRD.out).mono ?_
    rintro e w1 ⟨rfl, hB1⟩
    have hA1 := hA0.step hB1
    have hBo : Below w1.heap.size w1 (w1.alloc (.cells #[] 2)) := (Below.refl _ w1).alloc (Nat.le_refl _) _
    have hA2 := hA1.step hBo
    have hown0 := World.ownsRow_made w1 #[] 0 (show w.heap.size + 1 ≤ w1.heap.size from hA1.size) (by decide) rfl (e := 2) (size := 1)
    clear hA0 hB1 HC hA1 hBo HRD
    go_wp2
    go_loopw [9, 26] (fun o i wr => ∃ (k g c : Nat), k ≤ xs2.length ∧ i = .int .i64 k ∧ o = .slice (some ⟨g, 0, none⟩) (jxl p k).length c ∧ wr.ownsRow (w.heap.size + 1) 2 1 (.slice (some ⟨g, 0, none⟩) (jxl p k).length c) (jxl p k).length ((jxl p k).flatMap encI) ∧ At w [.slice a0 xs0.length cap0, .slice a1 xs1.length cap1] wr ∧ Hid (xs2.all (okW xs0) = (xs2.drop k).all (okW xs0))) (fun _ i _ => xs2.length - (intOf i).toNat)
    case atStart => exact ⟨0, _, _, Nat.zero_le _, rfl, rfl, hown0, hA2, rfl⟩
    case round =>
      clear hown0 hA2
      obtain ⟨k, g, c, hk, rfl, rfl, hown, hAt, hH⟩ := hrel
      have hlen := jxl_len p k
      by_cases hlt : k < xs2.length
      · have hk1 : (k : Int) < (xs2.length : Int) := by omega
        have hm := List.getElem?_eq_getElem hlt
        generalize xs2[k] = m at hm
        obtain ⟨b, off, rfl, hb, c0, c1⟩ := (hx2.below hAt.below).wt hm
        have hpk := HPV.out k m hm
        have hwl := HWL.out m
        have hd := Lib.hid (all_drop (okW xs0) hm)
        have hok := Lib.hid (HOK.out m)
        have HWm := Lib.hid (fun W hB => HW.out m W hB)
        have HH := Lib.hid (fun a cap W h => hasDay_any a cap _ (witL xs0 xs1 m) n W rfl (by omega) h)
        clear hm
        go_upto_region 8 with (fail)
        generalize hW : wr.alloc (.cells #[.string m.person, .string m.office] 112) = W
        have hBW : Below wr.heap.size wr W := by rw [← hW]; go_grown
        have D0 : W.cell? ⟨wr.heap.size, 0, none⟩ = some (.string m.person) := by rw [← hW]; exact World.cell?_alloc_at _ _ _ _ rfl
        have D1 : W.cell? ⟨wr.heap.size, 1, none⟩ = some (.string m.office) := by rw [← hW]; exact World.cell?_alloc_at _ _ _ _ rfl
        have hown := own_below hown hBW
        have hAt := hAt.step hBW
        have b0 := hAt.cell 0 _ rfl
        have b1 := hAt.cell 1 _ rfl
        clear hW c0 c1 hb hBW
        by_cases hp : personIx xs0 m.person < 0
        · have hok : Hid (okW xs0 m = false) := hok.out.trans (decide_eq_false (by omega))
          go_wp2_with fail
          refine (HWm.out _ hAt.below).mono ?_
          rintro e w3 ⟨_, h3, hB3⟩
          obtain rfl := h3 hp
          go_wp2
          go_ret2
          rw [hR.out, hH.out, hd.out, hok.out]
          exact ⟨none, 0, rfl, World.ownsRow_nil _ _ _ _, (hAt.step hB3).below⟩
        · have hok : Hid (okW xs0 m = true) := hok.out.trans (decide_eq_true (by omega))
          have hH' : Hid (xs2.all (okW xs0) = (xs2.drop (k + 1)).all (okW xs0)) := by unfold Hid; rw [hH.out, hd.out, hok.out]; rfl
          clear hH hd hok
          go_wp2_with fail
          refine (HWm.out _ hAt.below).mono ?_
          rintro e w3 ⟨h3, _, hB3⟩
          obtain ⟨g3, c3, rfl, ho3⟩ := h3 (by omega)
          have hown := own_below hown hB3
          have hAt := hAt.step hB3
          have hrd3 := Rd.of_own encSp_len (by decide) ho3
          clear h3 hB3 D0 D1 b0 b1 hp
          cases hbb : hasB (witL xs0 xs1 m) n
          · have HH := Lib.hid (fun a cap W h => hbb ▸ HH.out a cap W h)
            rw [hbb] at hpk
            have hst := Lib.hid (jxl_yes hpk)
            clear hpk hbb
            generalize witL xs0 xs1 m = L at HH hwl hrd3 ⊢
            generalize jxl p k = out at hown hst hlen ⊢
            go_wp2_with fail
            refine (HH.out _ _ _ hrd3).mono ?_
            rintro e w4 ⟨rfl, hB4⟩
            have hown := own_below hown hB4
            have hAt := hAt.step hB4
            have hs := hAt.size
            clear hB4 hrd3 ho3
            go_wp2_with (at_builtin; refine wpList_append_own _ rfl _ _ 48 rfl (w.heap.size + 1) 2 i0 (.int .i64 0) 1 8 Tryz.underlying48 hi hz0 hz1 hz2 rfl (by decide) _ _ _ rfl (hown.alloc _) ⟨w4.heap.size, 0, none⟩ 1 1 [.int .i64 k] rfl rfl (cell_one_new _ _ _) ?c2 ?c3 ?c4 ?c5 ?_)
            case c2 => intro u hu; simp at hu; subst hu; rfl
            case c3 => unfold maxLen; omega
            case c4 => omega
            case c5 => first | omega | (simp; omega)
            intro v' w5 hown' hgr _
            have hA5 := (hAt.step ((Below.refl _ w4).alloc (Nat.le_refl _) (.cells #[.int .i64 k] 2))).grown hgr (fun x hx => (hown.lt x hx).1)
            obtain ⟨g', c', rfl⟩ := formJ hown' (by omega)
            clear hgr hown hAt
            go_wp2
            go_roundw
            case rel => exact ⟨k + 1, g', c', by omega, by go_num, by rw [hst.out, List.length_append]; rfl, by rw [hst.out, List.length_append, List.flatMap_append]; exact hown', hA5, hH'⟩
            case measure => simp [intOf]; omega
          · have HH := Lib.hid (fun a cap W h => hbb ▸ HH.out a cap W h)
            rw [hbb] at hpk
            have hst := Lib.hid (jxl_no hpk)
            clear hpk hbb
            generalize witL xs0 xs1 m = L at HH hwl hrd3 ⊢
            go_wp2_with fail
            refine (HH.out _ _ _ hrd3).mono ?_
            rintro e w4 ⟨rfl, hB4⟩
            have hown := own_below hown hB4
            have hAt := hAt.step hB4
            clear hB4 hrd3 ho3
            go_wp2
            go_roundw
            case rel => exact ⟨k + 1, g, c, by omega, by go_num, by rw [hst.out], by rw [hst.out]; exact hown, hAt, hH'⟩
            case measure => simp [intOf]; omega
      · obtain rfl : k = xs2.length := by omega
        have hH : Hid (xs2.all (okW xs0) = true) := by unfold Hid; rw [hH.out, List.drop_eq_nil_of_le (by omega)]; rfl
        go_wp2
        go_ret2
        rw [hR.out, hH.out]
        exact ⟨_, _, rfl, own_base hown (by omega), hAt.below⟩
  · have hR : Hid (absR xs0 xs1 xs2 n (codeW xs0 xs1 xs2 (dayB n)) = ([], C)) := by
      unfold Hid
      rw [hcw]
      rw [← hC] at hc ⊢
      cases h1 : isPeopleB xs0 xs1
      · rfl
      · rw [h1] at hc
        cases h2 : (decide (xs2.length ≤ 12) && ([n] : List Int).all dayB)
        · rfl
        · rw [h2] at hc; simp at hc
    have hc2 : (C != 0) = true := by simpa using hc
    clear hC hcw
    go_enter Tryz.func36, Tryz.ntmps36
    go_wp2_with fail
    refine (HC.out _ hA0.below HRD.out).mono ?_
    rintro e w1 ⟨rfl, hB1⟩
    go_wp2
    go_ret2
    rw [hR.out]
    exact ⟨none, 0, rfl, World.ownsRow_nil _ _ _ _, (hA0.step hB1).below⟩
end

section
open Go.ChangeShapes Go.WideShapes Go.ChangeAt Go.RowKit

set_option maxRecDepth 100000 in
set_option maxHeartbeats 4000000 in
theorem lawAbsent_any (a0 : Option Addr) (cap0 : Nat) (xs0 : List Ps) (a1 : Option Addr) (cap1 : Nat) (xs1 : List Tm) (aX1 : Option Addr) (capX1 : Nat) (xsX1 : List Wt) (y2 : Int) (w : World) (hl0 : xs0.length ≤ maxLen) (hx0 : Rd encPs w a0 xs0) (hs0 : ∀ m ∈ xs0, goodPs m) (hl1 : xs1.length ≤ maxLen) (hx1 : Rd encTm w a1 xs1) (hs1 : ∀ m ∈ xs1, goodTm m) (hlX1 : xsX1.length ≤ maxLen) (hxX1 : Rd encWt w aX1 xsX1) (hsX1 : ∀ m ∈ xsX1, goodWt m) (_hy2 : -9223372036854775808 ≤ y2 ∧ y2 ≤ 9223372036854775807) :
    Calls Tryz.prog 7 #[.agg #[.slice a0 xs0.length cap0, .slice a1 xs1.length cap1], .slice aX1 xsX1.length capX1, .int .i64 y2] w fun e w' => e = .returned (.bool true) ∧ Below w.heap.size w w' := by
  have hsz := fun W (h0 : Rd encPs W a0 xs0) (h1 : Rd encTm W a1 xs1) => szPeople_any a0 cap0 xs0 a1 cap1 xs1 1048576 W (by omega) (by omega) hl0 h0 hs0 hl1 h1 hs1
  have HSZ := Lib.hid hsz
  clear hsz
  by_cases hq : szPeople xs0 xs1 1048576 < 0
  · have hq1 := hq
    go_enter Tryz.func7, Tryz.ntmps7
    go_wp2_with fail
    generalize hW : w.alloc (.cells #[.slice a0 xs0.length cap0, .slice a1 xs1.length cap1] 58) = W0
    have hB : Below w.heap.size w W0 := by rw [← hW]; go_grown
    have hn0 : w.heap.size < W0.heap.size := by rw [← hW]; simp
    have A0 : W0.cell? ⟨w.heap.size, 0, none⟩ = some (.slice a0 xs0.length cap0) := by rw [← hW]; exact World.cell?_alloc_at _ _ _ _ rfl
    have A1 : W0.cell? ⟨w.heap.size, 1, none⟩ = some (.slice a1 xs1.length cap1) := by rw [← hW]; exact World.cell?_alloc_at _ _ _ _ rfl
    clear hW
    refine (HSZ.out _ (hx0.below hB) (hx1.below hB)).mono ?_
    rintro e w1 ⟨rfl, hB1⟩
    go_wp2
    go_ret
    exact ⟨rfl, stepB hB hB1 hB.size⟩
  have hok := szPeople_ok hq
  have hq0 : ¬ szS szPs xs0 1048576 < 0 := hok.1
  obtain ⟨ho0, hn0⟩ := szS_ok (Int.not_lt.1 hq0)
  have hlen0 : xs0.length ≤ 1048576 := by omega
  have hsm0 : ∀ m ∈ xs0, szPs m ≤ 1048576 := fun m hm => by have h1 := le_sumS szPs hm; omega
  have hq1 : ¬ szS szTm xs1 (szS szPs xs0 1048576) < 0 := hok.2
  obtain ⟨ho1, hn1⟩ := szS_ok (Int.not_lt.1 hq1)
  have hlen1 : xs1.length ≤ 1048576 := by omega
  have hsm1 : ∀ m ∈ xs1, szTm m ≤ 1048576 := fun m hm => by have h1 := le_sumS szTm hm; omega
  have hle : szPeople xs0 xs1 1048576 ≤ 1048576 := by unfold szPeople; rw [if_neg hq0, if_neg hq1]; omega
  have hge : 0 ≤ szPeople xs0 xs1 1048576 := Int.not_lt.1 hq
  have hszX1 := fun W (h : Rd encWt W aX1 xsX1) => szWitnessS_any aX1 capX1 xsX1 (szPeople xs0 xs1 1048576) W (by omega) (by omega) hlX1 h hsX1
  have HSZX1 := Lib.hid hszX1
  clear hszX1
  by_cases hqX1 : szS szWt xsX1 (szPeople xs0 xs1 1048576) < 0
  · have hq1' : 0 ≤ szPeople xs0 xs1 1048576 := hge
    go_enter Tryz.func7, Tryz.ntmps7
    go_wp2_with fail
    generalize hW : w.alloc (.cells #[.slice a0 xs0.length cap0, .slice a1 xs1.length cap1] 58) = W0
    have hB : Below w.heap.size w W0 := by rw [← hW]; go_grown
    have hn0 : w.heap.size < W0.heap.size := by rw [← hW]; simp
    have A0 : W0.cell? ⟨w.heap.size, 0, none⟩ = some (.slice a0 xs0.length cap0) := by rw [← hW]; exact World.cell?_alloc_at _ _ _ _ rfl
    have A1 : W0.cell? ⟨w.heap.size, 1, none⟩ = some (.slice a1 xs1.length cap1) := by rw [← hW]; exact World.cell?_alloc_at _ _ _ _ rfl
    clear hW
    refine (HSZ.out _ (hx0.below hB) (hx1.below hB)).mono ?_
    rintro e w1 ⟨rfl, hB1⟩
    have hB := stepB hB hB1 hB.size
    go_wp2_with fail
    refine (HSZX1.out _ (hxX1.below hB)).mono ?_
    rintro e w2 ⟨rfl, hB2⟩
    have hB := stepB hB hB2 hB.size
    go_wp2
    go_ret
    exact ⟨rfl, hB⟩
  obtain ⟨hoX1, hnX1⟩ := szS_ok (Int.not_lt.1 hqX1)
  have hlenX1 : xsX1.length ≤ 1048576 := by omega
  have hsmX1 : ∀ m ∈ xsX1, szWt m ≤ 1048576 := fun m hm => by have h1 := le_sumS szWt hm; omega
  have hleX1 : szS szWt xsX1 (szPeople xs0 xs1 1048576) ≤ 1048576 := by omega
  clear hoX1 hnX1
  have hqX1 : 0 ≤ szS szWt xsX1 (szPeople xs0 xs1 1048576) := Int.not_lt.1 hqX1
  clear hleX1
  clear ho0 hn0 ho1 hn1 hok hq0 hq1
  have hq1 : 0 ≤ szPeople xs0 xs1 1048576 := Int.not_lt.1 hq
  have HSP := Lib.hid (fun (A0 : Option Addr) (A1 : Option Addr) (AX1 : Option Addr) W (h0 : Rd encPs W A0 xs0) (h1 : Rd encTm W A1 xs1) (hX1 : Rd encWt W AX1 xsX1) => specAbsent_any A0 A1 xs0.length xs1.length xs0 xs1 AX1 xsX1.length xsX1 y2 W hlen0 h0 hsm0 hlen1 h1 hsm1 hlenX1 hX1)
  have HIM := Lib.hid (fun (A0 : Option Addr) (A1 : Option Addr) (AX1 : Option Addr) W (h0 : Rd encPs W A0 xs0) (h1 : Rd encTm W A1 xs1) (hX1 : Rd encWt W AX1 xsX1) => implAbsent_any A0 A1 xs0.length xs1.length xs0 xs1 AX1 xsX1.length xsX1 y2 W hlen0 h0 hsm0 hlen1 h1 hsm1 hlenX1 hX1)
  have hlR : (absR xs0 xs1 xsX1 y2 (codeW xs0 xs1 xsX1 (dayB y2))).1.length ≤ 1048576 := absR_len xs0 xs1 xsX1 y2 _ hlenX1
  generalize absR xs0 xs1 xsX1 y2 (codeW xs0 xs1 xsX1 (dayB y2)) = R at HSP HIM hlR
  obtain ⟨ys, q⟩ := R
  simp only at HSP HIM hlR
  have HE := Lib.hid (fun (A B : Option Addr) (C D : Nat) W (h1 : Rd encI W A ys) (h2 : Rd encI W B ys) => eqInt64S_self A B C D ys W (by omega) h1 h2)
  have hqq : (q != q) = false := by simp
  go_enter Tryz.func7, Tryz.ntmps7
  go_wp2_with fail
  generalize hW : w.alloc (.cells #[.slice a0 xs0.length cap0, .slice a1 xs1.length cap1] 58) = W0
  have hB : Below w.heap.size w W0 := by rw [← hW]; go_grown
  have hn0 : w.heap.size < W0.heap.size := by rw [← hW]; simp
  have A0 : W0.cell? ⟨w.heap.size, 0, none⟩ = some (.slice a0 xs0.length cap0) := by rw [← hW]; exact World.cell?_alloc_at _ _ _ _ rfl
  have A1 : W0.cell? ⟨w.heap.size, 1, none⟩ = some (.slice a1 xs1.length cap1) := by rw [← hW]; exact World.cell?_alloc_at _ _ _ _ rfl
  clear hW
  refine (HSZ.out _ (hx0.below hB) (hx1.below hB)).mono ?_
  rintro e W1 ⟨rfl, hB1⟩
  have A0 := (hB1.cell (p := ⟨w.heap.size, 0, none⟩) hn0).trans A0
  have A1 := (hB1.cell (p := ⟨w.heap.size, 1, none⟩) hn0).trans A1
  have hn0 := Nat.lt_of_lt_of_le hn0 hB1.size
  have hB := stepB hB hB1 hB.size
  clear hB1
  go_wp2_with fail
  refine (HSZX1.out _ (hxX1.below hB)).mono ?_
  rintro e W2 ⟨rfl, hB1⟩
  have A0 := (hB1.cell (p := ⟨w.heap.size, 0, none⟩) hn0).trans A0
  have A1 := (hB1.cell (p := ⟨w.heap.size, 1, none⟩) hn0).trans A1
  have hn0 := Nat.lt_of_lt_of_le hn0 hB1.size
  have hB := stepB hB hB1 hB.size
  clear hB1
  clear hle hge
  go_wp2_with fail
  refine (toPeople_any a0 cap0 xs0 a1 cap1 xs1 _ hlen0 (hx0.below hB) hlen1 (hx1.below hB)).mono ?_
  rintro e W3 ⟨ga0, ga1, rfl, oa0, oa1, hB1⟩
  have A0 := (hB1.cell (p := ⟨w.heap.size, 0, none⟩) hn0).trans A0
  have A1 := (hB1.cell (p := ⟨w.heap.size, 1, none⟩) hn0).trans A1
  have hn0 := Nat.lt_of_lt_of_le hn0 hB1.size
  have hB := stepB hB hB1 hB.size
  clear hB1
  go_wp2_with fail
  refine (toWitnessS_any aX1 capX1 xsX1 _ hlenX1 (hxX1.below hB)).mono ?_
  rintro e W4 ⟨gaX1, rfl, oaX1, hB1⟩
  have A0 := (hB1.cell (p := ⟨w.heap.size, 0, none⟩) hn0).trans A0
  have A1 := (hB1.cell (p := ⟨w.heap.size, 1, none⟩) hn0).trans A1
  have hn0 := Nat.lt_of_lt_of_le hn0 hB1.size
  have oa0 := own_below oa0 hB1
  have oa1 := own_below oa1 hB1
  have hB := stepB hB hB1 hB.size
  clear hB1
  go_wp2_with fail
  refine (HSP.out _ _ _ _ (Rd.of_own encPs_len (by decide) oa0) (Rd.of_own encTm_len (by decide) oa1) (Rd.of_own encWt_len (by decide) oaX1)).mono ?_
  rintro e W5 ⟨bw, cw, rfl, ow0, hB1⟩
  have owb := hn0
  have A0 := (hB1.cell (p := ⟨w.heap.size, 0, none⟩) hn0).trans A0
  have A1 := (hB1.cell (p := ⟨w.heap.size, 1, none⟩) hn0).trans A1
  have hn0 := Nat.lt_of_lt_of_le hn0 hB1.size
  have oa0 := own_below oa0 hB1
  have oa1 := own_below oa1 hB1
  have oaX1 := own_below oaX1 hB1
  have hB := stepB hB hB1 hB.size
  clear hB1
  have ow := Own.of ow0
  have owc := Nat.le_refl W5.heap.size
  clear ow0
  clear oa0 oa1 oaX1
  go_wp2_with fail
  refine (toPeople_any a0 cap0 xs0 a1 cap1 xs1 _ hlen0 (hx0.below hB) hlen1 (hx1.below hB)).mono ?_
  rintro e W6 ⟨gb0, gb1, rfl, ob0, ob1, hB1⟩
  have lo0 := Nat.le_trans owc (own_lt ob0).1
  have hi0 := (own_lt ob0).2
  have lb0 := Nat.lt_of_lt_of_le hn0 (own_lt ob0).1
  have lo1 := Nat.le_trans owc (own_lt ob1).1
  have hi1 := (own_lt ob1).2
  have lb1 := Nat.lt_of_lt_of_le hn0 (own_lt ob1).1
  have A0 := (hB1.cell (p := ⟨w.heap.size, 0, none⟩) hn0).trans A0
  have A1 := (hB1.cell (p := ⟨w.heap.size, 1, none⟩) hn0).trans A1
  have hn0 := Nat.lt_of_lt_of_le hn0 hB1.size
  have ow := ow.below hB1
  have owc := Nat.le_trans owc hB1.size
  have hB := stepB hB hB1 hB.size
  clear hB1
  have hxx := Nat.le_refl W6.heap.size
  go_wp2_with fail
  generalize hW : W6.alloc (.cells #[.slice (some ⟨gb0, 0, none⟩) xs0.length xs0.length, .slice (some ⟨gb1, 0, none⟩) xs1.length xs1.length] 66) = WB
  have hB1 : Below W6.heap.size W6 WB := by rw [← hW]; go_grown
  have hn2 : W6.heap.size < WB.heap.size := by rw [← hW]; simp
  have X0 : WB.cell? ⟨W6.heap.size, 0, none⟩ = some (.slice (some ⟨gb0, 0, none⟩) xs0.length xs0.length) := by rw [← hW]; exact World.cell?_alloc_at _ _ _ _ rfl
  have X1 : WB.cell? ⟨W6.heap.size, 1, none⟩ = some (.slice (some ⟨gb1, 0, none⟩) xs1.length xs1.length) := by rw [← hW]; exact World.cell?_alloc_at _ _ _ _ rfl
  clear hW
  have A0 := (hB1.cell (p := ⟨w.heap.size, 0, none⟩) hn0).trans A0
  have A1 := (hB1.cell (p := ⟨w.heap.size, 1, none⟩) hn0).trans A1
  have hn0 := Nat.lt_of_lt_of_le hn0 hB1.size
  have ob0 := own_below ob0 hB1
  have ob1 := own_below ob1 hB1
  have ow := ow.below hB1
  have owc := Nat.le_trans owc hB1.size
  have hxx := Nat.le_trans hxx hB1.size
  have hB := stepB hB hB1 hB.size
  clear hB1
  refine (toWitnessS_any aX1 capX1 xsX1 _ hlenX1 (hxX1.below hB)).mono ?_
  rintro e W7 ⟨gbX1, rfl, obX1, hB1⟩
  have loX1 := Nat.le_trans owc (own_lt obX1).1
  have hiX1 := (own_lt obX1).2
  have lbX1 := Nat.lt_of_lt_of_le hn0 (own_lt obX1).1
  have apX1_0 := Nat.lt_of_lt_of_le hi0 (Nat.le_trans hxx (own_lt obX1).1)
  have apX1_1 := Nat.lt_of_lt_of_le hi1 (Nat.le_trans hxx (own_lt obX1).1)
  have A0 := (hB1.cell (p := ⟨w.heap.size, 0, none⟩) hn0).trans A0
  have A1 := (hB1.cell (p := ⟨w.heap.size, 1, none⟩) hn0).trans A1
  have X0 := (hB1.cell (p := ⟨W6.heap.size, 0, none⟩) hn2).trans X0
  have X1 := (hB1.cell (p := ⟨W6.heap.size, 1, none⟩) hn2).trans X1
  have hn0 := Nat.lt_of_lt_of_le hn0 hB1.size
  have hn2 := Nat.lt_of_lt_of_le hn2 hB1.size
  have ob0 := own_below ob0 hB1
  have ob1 := own_below ob1 hB1
  have ow := ow.below hB1
  have owc := Nat.le_trans owc hB1.size
  have hxx := Nat.le_trans hxx hB1.size
  have hB := stepB hB hB1 hB.size
  clear hB1
  have hxxX1 := Nat.le_refl W7.heap.size
  go_wp2_with fail
  have xg := hxx
  have wg := owc
  have xgX1 := hxxX1
  refine (HIM.out _ _ _ _ (Rd.of_own encPs_len (by decide) ob0) (Rd.of_own encTm_len (by decide) ob1) (Rd.of_own encWt_len (by decide) obX1)).mono ?_
  rintro e W8 ⟨bg, cg, rfl, og0, hB1⟩
  have ogb := hn0
  have A0 := (hB1.cell (p := ⟨w.heap.size, 0, none⟩) hn0).trans A0
  have A1 := (hB1.cell (p := ⟨w.heap.size, 1, none⟩) hn0).trans A1
  have X0 := (hB1.cell (p := ⟨W6.heap.size, 0, none⟩) hn2).trans X0
  have X1 := (hB1.cell (p := ⟨W6.heap.size, 1, none⟩) hn2).trans X1
  have hn0 := Nat.lt_of_lt_of_le hn0 hB1.size
  have hn2 := Nat.lt_of_lt_of_le hn2 hB1.size
  have ob0 := own_below ob0 hB1
  have ob1 := own_below ob1 hB1
  have obX1 := own_below obX1 hB1
  have ow := ow.below hB1
  have owc := Nat.le_trans owc hB1.size
  have hxx := Nat.le_trans hxx hB1.size
  have hxxX1 := Nat.le_trans hxxX1 hB1.size
  have hB := stepB hB hB1 hB.size
  clear hB1
  have og := Own.of og0
  have ogc := Nat.le_refl W8.heap.size
  clear og0
  go_wp2_with fail
  refine (HE.out _ _ _ _ _ ((Rd.of_own encI_len (by decide) og.row)) ((Rd.of_own encI_len (by decide) ow.row))).mono ?_
  rintro e W9 ⟨rfl, hB1⟩
  have A0 := (hB1.cell (p := ⟨w.heap.size, 0, none⟩) hn0).trans A0
  have A1 := (hB1.cell (p := ⟨w.heap.size, 1, none⟩) hn0).trans A1
  have X0 := (hB1.cell (p := ⟨W6.heap.size, 0, none⟩) hn2).trans X0
  have X1 := (hB1.cell (p := ⟨W6.heap.size, 1, none⟩) hn2).trans X1
  have hn0 := Nat.lt_of_lt_of_le hn0 hB1.size
  have hn2 := Nat.lt_of_lt_of_le hn2 hB1.size
  have ob0 := own_below ob0 hB1
  have ob1 := own_below ob1 hB1
  have obX1 := own_below obX1 hB1
  have ow := ow.below hB1
  have owc := Nat.le_trans owc hB1.size
  have og := og.below hB1
  have ogc := Nat.le_trans ogc hB1.size
  have hxx := Nat.le_trans hxx hB1.size
  have hxxX1 := Nat.le_trans hxxX1 hB1.size
  have hB := stepB hB hB1 hB.size
  clear hB1
  go_wp2_with fail
  have hBd : Below w.heap.size w W9.drew := hB.drew
  have od0 : W9.drew.ownsRow _ _ _ _ _ _ := ob0.drew
  have od1 : W9.drew.ownsRow _ _ _ _ _ _ := ob1.drew
  go_region_held3 (fun w' => w'.cell? ⟨w.heap.size, 0, none⟩ = some (.slice a0 xs0.length cap0) ∧ w'.cell? ⟨w.heap.size, 1, none⟩ = some (.slice a1 xs1.length cap1) ∧ w'.cell? ⟨W6.heap.size, 0, none⟩ = some (.slice (some ⟨gb0, 0, none⟩) xs0.length xs0.length) ∧ w'.cell? ⟨W6.heap.size, 1, none⟩ = some (.slice (some ⟨gb1, 0, none⟩) xs1.length xs1.length))
    (first | go_keep | (exact ⟨(hBc.cell (p := ⟨w.heap.size, 0, none⟩) hn0).trans A0, (hBc.cell (p := ⟨w.heap.size, 1, none⟩) hn0).trans A1, (hBc.cell (p := ⟨W6.heap.size, 0, none⟩) hn2).trans X0, (hBc.cell (p := ⟨W6.heap.size, 1, none⟩) hn2).trans X1⟩) | (exact ⟨(hBe.cell (p := ⟨w.heap.size, 0, none⟩) (Nat.lt_of_lt_of_le hn0 hBc.size)).trans ((hBc.cell (p := ⟨w.heap.size, 0, none⟩) hn0).trans A0), (hBe.cell (p := ⟨w.heap.size, 1, none⟩) (Nat.lt_of_lt_of_le hn0 hBc.size)).trans ((hBc.cell (p := ⟨w.heap.size, 1, none⟩) hn0).trans A1), (hBe.cell (p := ⟨W6.heap.size, 0, none⟩) (Nat.lt_of_lt_of_le hn2 hBc.size)).trans ((hBc.cell (p := ⟨W6.heap.size, 0, none⟩) hn2).trans X0), (hBe.cell (p := ⟨W6.heap.size, 1, none⟩) (Nat.lt_of_lt_of_le hn2 hBc.size)).trans ((hBc.cell (p := ⟨W6.heap.size, 1, none⟩) hn2).trans X1)⟩))
    (first | (go_at_call 34; refine (toPeople_any a0 cap0 xs0 a1 cap1 xs1 _ hlen0 (hx0.below hBd) hlen1 (hx1.below hBd)).mono ?_; rintro e w3 ⟨gc0, gc1, rfl, oc0, oc1, hBc⟩) | (go_at_call 37; refine (eqPeople_self _ _ _ _ xs0 _ _ _ _ xs1 _ hlen0 (Rd.of_own encPs_len (by decide) (own_below od0 hBc)) (Rd.of_own encPs_len (by decide) oc0) hlen1 (Rd.of_own encTm_len (by decide) (own_below od1 hBc)) (Rd.of_own encTm_len (by decide) oc1)).mono ?_; rintro e w4 ⟨rfl, hBe⟩))
  have hB1 : Below W9.heap.size W9 w4 := stepB (stepB (Below.refl _ W9).drew hBc (Nat.le_refl _)) hBe hBc.size
  clear hBd hBc hBe od0 oc0 od1 oc1
  have A0 := (hB1.cell (p := ⟨w.heap.size, 0, none⟩) hn0).trans A0
  have A1 := (hB1.cell (p := ⟨w.heap.size, 1, none⟩) hn0).trans A1
  have X0 := (hB1.cell (p := ⟨W6.heap.size, 0, none⟩) hn2).trans X0
  have X1 := (hB1.cell (p := ⟨W6.heap.size, 1, none⟩) hn2).trans X1
  have hn0 := Nat.lt_of_lt_of_le hn0 hB1.size
  have hn2 := Nat.lt_of_lt_of_le hn2 hB1.size
  have ob0 := own_below ob0 hB1
  have ob1 := own_below ob1 hB1
  have obX1 := own_below obX1 hB1
  have ow := ow.below hB1
  have owc := Nat.le_trans owc hB1.size
  have og := og.below hB1
  have ogc := Nat.le_trans ogc hB1.size
  have hxx := Nat.le_trans hxx hB1.size
  have hxxX1 := Nat.le_trans hxxX1 hB1.size
  have hB := stepB hB hB1 hB.size
  clear hB1
  go_wp2_with fail
  refine (toWitnessS_any aX1 capX1 xsX1 _ hlenX1 (hxX1.below hB)).mono ?_
  rintro e W10 ⟨gcX1, rfl, ocX1, hB1⟩
  have A0 := (hB1.cell (p := ⟨w.heap.size, 0, none⟩) hn0).trans A0
  have A1 := (hB1.cell (p := ⟨w.heap.size, 1, none⟩) hn0).trans A1
  have X0 := (hB1.cell (p := ⟨W6.heap.size, 0, none⟩) hn2).trans X0
  have X1 := (hB1.cell (p := ⟨W6.heap.size, 1, none⟩) hn2).trans X1
  have hn0 := Nat.lt_of_lt_of_le hn0 hB1.size
  have hn2 := Nat.lt_of_lt_of_le hn2 hB1.size
  have ob0 := own_below ob0 hB1
  have ob1 := own_below ob1 hB1
  have obX1 := own_below obX1 hB1
  have ow := ow.below hB1
  have owc := Nat.le_trans owc hB1.size
  have og := og.below hB1
  have ogc := Nat.le_trans ogc hB1.size
  have hxx := Nat.le_trans hxx hB1.size
  have hxxX1 := Nat.le_trans hxxX1 hB1.size
  have hB := stepB hB hB1 hB.size
  clear hB1
  go_wp2_with fail
  refine (eqWitnessS_self _ _ _ _ xsX1 _ (by omega) (Rd.of_own encWt_len (by decide) obX1) (Rd.of_own encWt_len (by decide) ocX1)).mono ?_
  rintro e W11 ⟨rfl, hB1⟩
  have A0 := (hB1.cell (p := ⟨w.heap.size, 0, none⟩) hn0).trans A0
  have A1 := (hB1.cell (p := ⟨w.heap.size, 1, none⟩) hn0).trans A1
  have X0 := (hB1.cell (p := ⟨W6.heap.size, 0, none⟩) hn2).trans X0
  have X1 := (hB1.cell (p := ⟨W6.heap.size, 1, none⟩) hn2).trans X1
  have hn0 := Nat.lt_of_lt_of_le hn0 hB1.size
  have hn2 := Nat.lt_of_lt_of_le hn2 hB1.size
  have ob0 := own_below ob0 hB1
  have ob1 := own_below ob1 hB1
  have obX1 := own_below obX1 hB1
  have ocX1 := own_below ocX1 hB1
  have ow := ow.below hB1
  have owc := Nat.le_trans owc hB1.size
  have og := og.below hB1
  have ogc := Nat.le_trans ogc hB1.size
  have hxx := Nat.le_trans hxx hB1.size
  have hxxX1 := Nat.le_trans hxxX1 hB1.size
  have hB := stepB hB hB1 hB.size
  clear hB1
  clear ocX1
  go_wp2_with fail
  refine (markPeople_any _ _ _ _ _ _ _ _ _ _ 1 _ ob0 ob1 (by omega) (by omega) (by omega) (by omega)).mono ?_
  rintro e W12 ⟨rfl, Wm, hG0, hG1⟩
  have ow := (ow.kept hG0 (fun g e => .inr (by cases e; exact lo0))).kept hG1 (fun g e => .inr (by cases e; exact lo1))
  have og := (og.kept hG0 (fun g e => .inl (by cases e; exact Nat.lt_of_lt_of_le hi0 xg))).kept hG1 (fun g e => .inl (by cases e; exact Nat.lt_of_lt_of_le hi1 xg))
  have A0 := (gcell hG0 (p := ⟨w.heap.size, 0, none⟩) hn0 (fun g e => by cases e; simp; omega)).trans A0
  have A0 := (gcell hG1 (p := ⟨w.heap.size, 0, none⟩) (Nat.lt_of_lt_of_le hn0 hG0.size) (fun g e => by cases e; simp; omega)).trans A0
  have A1 := (gcell hG0 (p := ⟨w.heap.size, 1, none⟩) hn0 (fun g e => by cases e; simp; omega)).trans A1
  have A1 := (gcell hG1 (p := ⟨w.heap.size, 1, none⟩) (Nat.lt_of_lt_of_le hn0 hG0.size) (fun g e => by cases e; simp; omega)).trans A1
  have hB := (hB.grown hG0 hB.size (fun g e => by cases e; exact Nat.le_of_lt lb0)).grown hG1 (Nat.le_trans hB.size hG0.size) (fun g e => by cases e; exact Nat.le_of_lt lb1)
  have hle := Nat.le_trans hG0.size hG1.size
  have obX1 := own_keepOther (own_keepOther obX1 hG0 (Nat.ne_of_gt apX1_0)) hG1 (Nat.ne_of_gt apX1_1)
  have hn0 := Nat.lt_of_lt_of_le hn0 hle
  have owc := Nat.le_trans owc hle
  have ogc := Nat.le_trans ogc hle
  clear hG0 hG1 hle hn2 hxx X0 X1 ob0 lo0 hi0 lb0 ob1 lo1 hi1 lb1
  clear hxxX1
  go_wp2_with fail
  refine (markWitnessS_any _ _ _ _ _ (1 + (xs0.length : Nat) * 3 + (xs1.length : Nat) * 4) _ obX1 (by omega) (by omega) (by omega)).mono ?_
  rintro e W13 ⟨rfl, hr, hG⟩
  have ow := ow.kept hG (fun g e => .inr (by cases e; exact loX1))
  have og := og.kept hG (fun g e => .inl (by cases e; exact Nat.lt_of_lt_of_le hiX1 xgX1))
  have A0 := (gcell hG (p := ⟨w.heap.size, 0, none⟩) hn0 (fun g e => by cases e; simp; omega)).trans A0
  have A1 := (gcell hG (p := ⟨w.heap.size, 1, none⟩) hn0 (fun g e => by cases e; simp; omega)).trans A1
  have hB := hB.grown hG hB.size (fun g e => by cases e; exact Nat.le_of_lt lbX1)
  have hn0 := Nat.lt_of_lt_of_le hn0 hG.size
  have owc := Nat.le_trans owc hG.size
  have ogc := Nat.le_trans ogc hG.size
  clear hr hG obX1
  go_wp2_with fail
  refine (HE.out _ _ _ _ _ ((Rd.of_own encI_len (by decide) og.row)) ((Rd.of_own encI_len (by decide) ow.row))).mono ?_
  rintro e W14 ⟨rfl, hB1⟩
  have A0 := (hB1.cell (p := ⟨w.heap.size, 0, none⟩) hn0).trans A0
  have A1 := (hB1.cell (p := ⟨w.heap.size, 1, none⟩) hn0).trans A1
  have hn0 := Nat.lt_of_lt_of_le hn0 hB1.size
  have ow := ow.below hB1
  have owc := Nat.le_trans owc hB1.size
  have og := og.below hB1
  have ogc := Nat.le_trans ogc hB1.size
  have hB := stepB hB hB1 hB.size
  clear hB1
  go_wp2_with fail
  refine (markInt64S_any _ _ _ _ _ 1 _ og.row (by omega) (by omega) (by omega)).mono ?_
  rintro e W15 ⟨rfl, hr, hG⟩
  have ow := ow.kept hG (fun g e => .inr (Nat.le_trans wg (og.row.lt g e).1))
  have A0 := (gcell hG (p := ⟨w.heap.size, 0, none⟩) hn0 (fun g e => Nat.ne_of_lt (Nat.lt_of_lt_of_le ogb (og.row.lt g e).1))).trans A0
  have A1 := (gcell hG (p := ⟨w.heap.size, 1, none⟩) hn0 (fun g e => Nat.ne_of_lt (Nat.lt_of_lt_of_le ogb (og.row.lt g e).1))).trans A1
  have hB := hB.grown hG hB.size (fun g e => Nat.le_of_lt (Nat.lt_of_lt_of_le ogb (og.row.lt g e).1))
  have og := og.new hr
  have hn0 := Nat.lt_of_lt_of_le hn0 hG.size
  have owc := Nat.le_trans owc hG.size
  have ogc := Nat.le_trans ogc hG.size
  clear hr hG
  go_wp2_with fail
  refine (heldInt64S_any _ _ _ 1 _ ((Rd.of_own encI_len (by decide) og.row)) (by omega) (by omega) (by omega)).mono ?_
  rintro e W16 ⟨rfl, hB1⟩
  have A0 := (hB1.cell (p := ⟨w.heap.size, 0, none⟩) hn0).trans A0
  have A1 := (hB1.cell (p := ⟨w.heap.size, 1, none⟩) hn0).trans A1
  have hn0 := Nat.lt_of_lt_of_le hn0 hB1.size
  have ow := ow.below hB1
  have owc := Nat.le_trans owc hB1.size
  have og := og.below hB1
  have ogc := Nat.le_trans ogc hB1.size
  have hB := stepB hB hB1 hB.size
  clear hB1
  go_wp2_with fail
  refine (toPeople_any a0 cap0 xs0 a1 cap1 xs1 _ hlen0 (hx0.below hB) hlen1 (hx1.below hB)).mono ?_
  rintro e W17 ⟨gd0, gd1, rfl, od0, od1, hB1⟩
  have A0 := (hB1.cell (p := ⟨w.heap.size, 0, none⟩) hn0).trans A0
  have A1 := (hB1.cell (p := ⟨w.heap.size, 1, none⟩) hn0).trans A1
  have hn0 := Nat.lt_of_lt_of_le hn0 hB1.size
  have ow := ow.below hB1
  have owc := Nat.le_trans owc hB1.size
  have og := og.below hB1
  have ogc := Nat.le_trans ogc hB1.size
  have hB := stepB hB hB1 hB.size
  clear hB1
  go_wp2_with fail
  refine (toWitnessS_any aX1 capX1 xsX1 _ hlenX1 (hxX1.below hB)).mono ?_
  rintro e W18 ⟨gdX1, rfl, odX1, hB1⟩
  have A0 := (hB1.cell (p := ⟨w.heap.size, 0, none⟩) hn0).trans A0
  have A1 := (hB1.cell (p := ⟨w.heap.size, 1, none⟩) hn0).trans A1
  have hn0 := Nat.lt_of_lt_of_le hn0 hB1.size
  have od0 := own_below od0 hB1
  have od1 := own_below od1 hB1
  have ow := ow.below hB1
  have owc := Nat.le_trans owc hB1.size
  have og := og.below hB1
  have ogc := Nat.le_trans ogc hB1.size
  have hB := stepB hB hB1 hB.size
  clear hB1
  go_wp2_with fail
  refine (HIM.out _ _ _ _ (Rd.of_own encPs_len (by decide) od0) (Rd.of_own encTm_len (by decide) od1) (Rd.of_own encWt_len (by decide) odX1)).mono ?_
  rintro e W19 ⟨bh, ch, rfl, oh0, hB1⟩
  have ohb := hn0
  have A0 := (hB1.cell (p := ⟨w.heap.size, 0, none⟩) hn0).trans A0
  have A1 := (hB1.cell (p := ⟨w.heap.size, 1, none⟩) hn0).trans A1
  have hn0 := Nat.lt_of_lt_of_le hn0 hB1.size
  have od0 := own_below od0 hB1
  have od1 := own_below od1 hB1
  have odX1 := own_below odX1 hB1
  have ow := ow.below hB1
  have owc := Nat.le_trans owc hB1.size
  have og := og.below hB1
  have ogc := Nat.le_trans ogc hB1.size
  have hB := stepB hB hB1 hB.size
  clear hB1
  have oh := Own.of oh0
  have ohc := Nat.le_refl W19.heap.size
  clear oh0
  clear od0 od1 odX1
  go_wp2_with fail
  refine (HE.out _ _ _ _ _ ((Rd.of_own encI_len (by decide) oh.row)) ((Rd.of_own encI_len (by decide) ow.row))).mono ?_
  rintro e W20 ⟨rfl, hB1⟩
  have A0 := (hB1.cell (p := ⟨w.heap.size, 0, none⟩) hn0).trans A0
  have A1 := (hB1.cell (p := ⟨w.heap.size, 1, none⟩) hn0).trans A1
  have hn0 := Nat.lt_of_lt_of_le hn0 hB1.size
  have ow := ow.below hB1
  have owc := Nat.le_trans owc hB1.size
  have og := og.below hB1
  have ogc := Nat.le_trans ogc hB1.size
  have oh := oh.below hB1
  have ohc := Nat.le_trans ohc hB1.size
  have hB := stepB hB hB1 hB.size
  clear hB1
  go_wp2_with fail
  refine (heldInt64S_any _ _ _ 1 _ ((Rd.of_own encI_len (by decide) og.row)) (by omega) (by omega) (by omega)).mono ?_
  rintro e W21 ⟨rfl, hB1⟩
  have A0 := (hB1.cell (p := ⟨w.heap.size, 0, none⟩) hn0).trans A0
  have A1 := (hB1.cell (p := ⟨w.heap.size, 1, none⟩) hn0).trans A1
  have hn0 := Nat.lt_of_lt_of_le hn0 hB1.size
  have ow := ow.below hB1
  have owc := Nat.le_trans owc hB1.size
  have og := og.below hB1
  have ogc := Nat.le_trans ogc hB1.size
  have oh := oh.below hB1
  have ohc := Nat.le_trans ohc hB1.size
  have hB := stepB hB hB1 hB.size
  clear hB1
  go_wp2
  go_ret
  exact ⟨rfl, hB⟩
end
end Go.Proofs.YtddjedbnikhjkaaGreatDoor
