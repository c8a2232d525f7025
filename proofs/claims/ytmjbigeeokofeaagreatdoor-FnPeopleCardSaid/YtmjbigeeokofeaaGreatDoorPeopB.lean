/- What makes people valid, in plain words. Printed by gen_people.py. -/
import Derived.Test.YtmjbigeeokofeaaGreatDoorTPs
import Derived.Test.YtmjbigeeokofeaaGreatDoorFix
import Derived.Test.YtmjbigeeokofeaaGreatDoorCPeople
namespace Go.Proofs.YtmjbigeeokofeaaGreatDoor
section
open Go.ChangeShapes Go.WideShapes Go.ChangeAt Go.RowKit

set_option maxHeartbeats 400000 in
theorem indexFunc_personIndex_1 (q : Addr) (a : Option Addr) (cap : Nat) (xs : List Ps) (p : Ps → Bool) (w : World) (hl : xs.length ≤ 1048576) (hx : Rd encPs w a xs)
    (hf : ∀ W, Below w.heap.size w W → ∀ m ∈ xs, Calls Tryz.prog 130 #[.agg #[.string m.name, .int .i64 m.fr, .int .i64 m.to], .pointer (some q)] W fun e w' => e = .returned (.bool (p m)) ∧ Below W.heap.size W w') :
    Calls Tryz.prog 129 #[.slice a xs.length cap, .func (.func 130) #[] #[.pointer (some q)]] w fun e w' => e = .returned (.int .i64 (fidx p xs 0)) ∧ Below w.heap.size w w' := by
  have HF := Lib.hid hf
  clear hf
  go_enter Tryz.func129, Tryz.ntmps129
  go_wp2
  go_loopw [8] (fun i wr => ∃ (k : Nat), k ≤ xs.length ∧ i = .int .i64 k ∧ Hid (fidx p xs 0 = fidx p (xs.drop k) k) ∧ Below w.heap.size w wr) (fun i _ => xs.length - (intOf i).toNat)
  case atStart => exact ⟨0, Nat.zero_le _, rfl, rfl, Below.refl _ _⟩
  case round =>
    obtain ⟨k, hk, rfl, hH, hB⟩ := hrel
    by_cases hlt : k < xs.length
    · have hm := List.getElem?_eq_getElem hlt
      generalize xs[k] = m at hm
      obtain ⟨b, off, rfl, hb, c0, c1, c2⟩ := (hx.below hB).ps hm
      have hd := Lib.hid (fidx_drop p k k hm)
      have hc := HF.out wr hB m (List.mem_of_getElem? hm)
      have hk1 : (k : Int) < (xs.length : Int) := by omega
      clear hm
      cases hp : p m
      · rw [hp] at hc
        have HC := Lib.hid hc
        clear hc
        go_wp2_with fail
        refine HC.out.mono ?_
        rintro e w1 ⟨rfl, hB1⟩
        go_wp2
        go_roundw
        case rel => exact ⟨k + 1, by omega, by go_num, by unfold Hid; rw [hH.out, hd.out, hp]; rfl, stepB hB hB1 hB.size⟩
        case measure => simp [intOf]; omega
      · rw [hp] at hc
        have HC := Lib.hid hc
        clear hc
        go_wp2_with fail
        refine HC.out.mono ?_
        rintro e w1 ⟨rfl, hB1⟩
        go_wp2
        go_ret
        exact ⟨ret_int (by rw [hH.out, hd.out, hp]; rfl), stepB hB hB1 hB.size⟩
    · go_wp2
      go_ret
      exact ⟨ret_int (by rw [hH.out, List.drop_eq_nil_of_le (by omega)]; rfl), hB⟩
end

section
open Go.ChangeShapes Go.WideShapes Go.ChangeAt Go.RowKit

def isNm (s : ByteArray) (m : Ps) : Bool := m.name.toList == s.toList
def personIx (ps : List Ps) (s : ByteArray) : Int := fidx (isNm s) ps 0
theorem personIndex1_any (q : Addr) (hq : q.spot = none) (m : Ps) (s : ByteArray) (w : World) (hc : w.cell? q = some (.string s)) :
    Calls Tryz.prog 130 #[.agg #[.string m.name, .int .i64 m.fr, .int .i64 m.to], .pointer (some q)] w fun e w' => e = .returned (.bool (isNm s m)) ∧ Below w.heap.size w w' := by
  obtain ⟨qb, qo, qs⟩ := q
  simp only at hq
  subst hq
  have hlt := World.block_lt_of_cell? w _ hc
  simp only at hlt
  unfold isNm
  go_enter Tryz.func130, Tryz.ntmps130
  go_wp2
  go_ret
  exact ⟨rfl, by go_grown⟩
set_option maxHeartbeats 400000 in
theorem personIndex_any (a0 a1 : Option Addr) (cap0 cap1 : Nat) (xs0 : List Ps) (xs1 : List Tm) (s : ByteArray) (w : World) (hl : xs0.length ≤ 1048576) (hx : Rd encPs w a0 xs0) :
    Calls Tryz.prog 93 #[.agg #[.slice a0 xs0.length cap0, .slice a1 xs1.length cap1], .string s] w fun e w' => e = .returned (.int .i64 (personIx xs0 s)) ∧ Below w.heap.size w w' := by
  go_enter Tryz.func93, Tryz.ntmps93
  have hmf : ∀ (fn : Fn) (first cap : Array Value) (w : World), (Instr.makeFunc fn first cap).run Tryz.prog w = .ok (.func fn first cap) w := fun _ _ _ _ => rfl
  go_wp2_with fail
  generalize hW : (w.alloc (.cells #[.slice a0 xs0.length cap0, .slice a1 xs1.length cap1] 48)).alloc (.cells #[.string s] 9) = W
  have hB : Below w.heap.size w W := by rw [← hW]; go_grown
  have hc : W.cell? ⟨w.heap.size + 1, 0, none⟩ = some (.string s) := by rw [← hW]; simp [go_sem]
  have hn : w.heap.size + 1 < W.heap.size := by rw [← hW]; simp
  refine (indexFunc_personIndex_1 ⟨w.heap.size + 1, 0, none⟩ a0 cap0 xs0 (isNm s) W hl (hx.below hB) (fun W' hW' m _ => personIndex1_any _ rfl m s W' ((hW'.cell (p := ⟨w.heap.size + 1, 0, none⟩) hn).trans hc))).mono ?_
  rintro e w1 ⟨rfl, hB1⟩
  go_wp2
  go_ret
  exact ⟨rfl, stepB hB hB1 hB.size⟩
set_option maxHeartbeats 400000 in
theorem l13Person_any (a0 a1 : Option Addr) (cap0 cap1 : Nat) (xs0 : List Ps) (xs1 : List Tm) (s : ByteArray) (w : World) (hl : xs0.length ≤ 1048576) (hx : Rd encPs w a0 xs0) :
    Calls Tryz.prog 94 #[.agg #[.slice a0 xs0.length cap0, .slice a1 xs1.length cap1], .string s] w fun e w' => e = .returned (.int .i64 (personIx xs0 s)) ∧ Below w.heap.size w w' := by
  go_enter Tryz.func94, Tryz.ntmps94
  go_wp2
  generalize hW : w.alloc (.cells #[.slice a0 xs0.length cap0, .slice a1 xs1.length cap1] 48) = W
  have hB : Below w.heap.size w W := by rw [← hW]; go_grown
  have b0 : W.cell? ⟨w.heap.size, 0, none⟩ = some (.slice a0 xs0.length cap0) := by rw [← hW]; exact World.cell?_alloc_at _ _ _ _ rfl
  have hx' := hx.below hB
  clear hW hx
  go_loop [5] (fun i => ∃ (k : Nat), k ≤ xs0.length ∧ i = .int .i64 k ∧ Hid (personIx xs0 s = fidx (isNm s) (xs0.drop k) k)) (fun i => xs0.length - (intOf i).toNat)
  case atStart => exact ⟨0, Nat.zero_le _, rfl, rfl⟩
  case round =>
    obtain ⟨k, hk, rfl, hH⟩ := hrel
    by_cases hlt : k < xs0.length
    · have hm := List.getElem?_eq_getElem hlt
      generalize xs0[k] = m at hm
      obtain ⟨b, off, rfl, hb, c0, c1, c2⟩ := hx'.ps hm
      have hd := Lib.hid (fidx_drop (isNm s) k k hm)
      have hk1 : (k : Int) < (xs0.length : Int) := by omega
      clear hm
      cases hp : (m.name.toList == s.toList)
      · have hp' : Hid (isNm s m = false) := hp
        go_wp2
        go_round
        case rel => exact ⟨k + 1, by omega, by go_num, by unfold Hid; rw [hH.out, hd.out, hp'.out]; rfl⟩
        case measure => simp [intOf]; omega
      · have hp' : Hid (isNm s m = true) := hp
        go_wp2
        go_ret
        exact ⟨ret_int (by rw [hH.out, hd.out, hp'.out]; rfl), hB⟩
    · go_wp2
      go_ret
      exact ⟨ret_int (by rw [hH.out, List.drop_eq_nil_of_le (by omega)]; rfl), hB⟩
end

section
open Go.ChangeShapes Go.WideShapes Go.ChangeAt Go.RowKit
def okPs (m : Ps) : Bool := nameB m.name.data.toList 12 && spanB m.fr m.to
def ltPs (p m : Ps) : Bool := Op.bytesLess p.name.toList m.name.toList
def okTm (ps : List Ps) (t : Tm) : Bool := nameB t.office.data.toList 12 && (match ps[(personIx ps t.person).toNat]? with | some x => decide (0 ≤ personIx ps t.person) && spanB t.fr t.to && decide (x.fr ≤ t.fr) && decide (t.to ≤ x.to) | none => false)
def isPeopleB (ps : List Ps) (ts : List Tm) : Bool := upGo okPs ltPs none ps && ts.all (okTm ps) && decide (ps.length ≤ 40) && decide (ts.length ≤ 60)
theorem badPs (p m : Ps) : (Op.bytesLess m.name.toList p.name.toList || m.name.toList == p.name.toList) = !ltPs p m := by
  unfold ltPs
  rcases bl_tri p.name.toList m.name.toList with ⟨h1, h2, h3, h4⟩ | ⟨h1, h2, h3, h4⟩ | ⟨h1, h2, h3, h4⟩ <;> simp [h1, h2, h4]
theorem okTm_neg {ps : List Ps} {t : Tm} (h : personIx ps t.person < 0) : okTm ps t = false := by
  unfold okTm
  have : decide (0 ≤ personIx ps t.person) = false := by simp; omega
  rw [this]
  split <;> simp
theorem okTm_at {ps : List Ps} {t : Tm} {j : Nat} {x : Ps} (h : personIx ps t.person = (j : Nat)) (hx : ps[j]? = some x) : okTm ps t = (nameB t.office.data.toList 12 && (spanB t.fr t.to && decide (x.fr ≤ t.fr) && decide (t.to ≤ x.to))) := by
  unfold okTm
  rw [h, Int.toNat_natCast, hx]
  simp
theorem ixOf {ps : List Ps} {s : ByteArray} (h : ¬ personIx ps s < 0) : ∃ k x, personIx ps s = (k : Nat) ∧ k < ps.length ∧ ps[k]? = some x := by
  rcases fidx_bd (isNm s) ps 0 with e | ⟨k, x, e, hk, hx, _⟩
  · unfold personIx at h; omega
  · exact ⟨k, x, by unfold personIx; rw [e]; simp, hk, hx⟩
end
end Go.Proofs.YtmjbigeeokofeaaGreatDoor
