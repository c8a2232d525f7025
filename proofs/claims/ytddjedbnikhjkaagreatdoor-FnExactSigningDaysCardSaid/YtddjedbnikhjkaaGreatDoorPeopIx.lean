/- Walks: the index of a person, the reference's and the program's. Printed by gen_people.py. -/
import Derived.Test.YtddjedbnikhjkaaGreatDoorFpersonIndex1
import Derived.Test.YtddjedbnikhjkaaGreatDoorCPeople
namespace Go.Proofs.YtddjedbnikhjkaaGreatDoor
open Go.ChangeShapes Go.WideShapes Go.ChangeAt Go.RowKit

def isNm (s : ByteArray) (m : Ps) : Bool := m.name.toList == s.toList
def personIx (ps : List Ps) (s : ByteArray) : Int := fidx (isNm s) ps 0
theorem personIndex1_any (q : Addr) (hq : q.spot = none) (m : Ps) (s : ByteArray) (w : World) (hc : w.cell? q = some (.string s)) :
    Calls Tryz.prog 142 #[.agg #[.string m.name, .int .i64 m.fr, .int .i64 m.to], .pointer (some q)] w fun e w' => e = .returned (.bool (isNm s m)) ∧ Below w.heap.size w w' := by
  obtain ⟨qb, qo, qs⟩ := q
  simp only at hq
  subst hq
  have hlt := World.block_lt_of_cell? w _ hc
  simp only at hlt
  unfold isNm
  go_enter Tryz.func142, Tryz.ntmps142
  go_wp2
  go_ret
  exact ⟨rfl, by go_grown⟩
set_option maxHeartbeats 400000 in
theorem personIndex_any (a0 a1 : Option Addr) (cap0 cap1 : Nat) (xs0 : List Ps) (xs1 : List Tm) (s : ByteArray) (w : World) (hl : xs0.length ≤ 1048576) (hx : Rd encPs w a0 xs0) :
    Calls Tryz.prog 121 #[.agg #[.slice a0 xs0.length cap0, .slice a1 xs1.length cap1], .string s] w fun e w' => e = .returned (.int .i64 (personIx xs0 s)) ∧ Below w.heap.size w w' := by
  go_enter Tryz.func121, Tryz.ntmps121
  have hmf : ∀ (fn : Fn) (first cap : Array Value) (w : World), (Instr.makeFunc fn first cap).run Tryz.prog w = .ok (.func fn first cap) w := fun _ _ _ _ => rfl
  go_wp2_with fail
  generalize hW : (w.alloc (.cells #[.slice a0 xs0.length cap0, .slice a1 xs1.length cap1] 66)).alloc (.cells #[.string s] 9) = W
  have hB : Below w.heap.size w W := by rw [← hW]; go_grown
  have hc : W.cell? ⟨w.heap.size + 1, 0, none⟩ = some (.string s) := by rw [← hW]; simp [go_sem]
  have hn : w.heap.size + 1 < W.heap.size := by rw [← hW]; simp
  refine (indexFunc_personIndex_1 ⟨w.heap.size + 1, 0, none⟩ a0 cap0 xs0 (isNm s) W hl (hx.below hB) (fun W' hW' m _ => personIndex1_any _ rfl m s W' ((hW'.cell (p := ⟨w.heap.size + 1, 0, none⟩) hn).trans hc))).mono ?_
  rintro e w1 ⟨rfl, hB1⟩
  go_wp2
  go_ret
  exact ⟨rfl, stepB hB hB1 hB.size⟩
set_option maxHeartbeats 400000 in
theorem l13Person_any (a0 a1 : Option Addr) (cap0 cap1 : Nat) (xs0 : List Ps) (xs1 : List Tm) (s : ByteArray) (w : World) (hl : xs0.length ≤ 1048576) (hx : Rd encPs w a0 xs0) :
    Calls Tryz.prog 115 #[.agg #[.slice a0 xs0.length cap0, .slice a1 xs1.length cap1], .string s] w fun e w' => e = .returned (.int .i64 (personIx xs0 s)) ∧ Below w.heap.size w w' := by
  go_enter Tryz.func115, Tryz.ntmps115
  go_wp2
  generalize hW : w.alloc (.cells #[.slice a0 xs0.length cap0, .slice a1 xs1.length cap1] 66) = W
  have hB : Below w.heap.size w W := by rw [← hW]; go_grown
  have b0 : W.cell? ⟨w.heap.size, 0, none⟩ = some (.slice a0 xs0.length cap0) := by rw [← hW]; exact World.cell?_alloc_at _ _ _ _ rfl
  have hx' := hx.below hB
  clear hW hx
  go_loop [5] (fun i => ∃ (k : Nat), k ≤ xs0.length ∧ i = .int .i64 k ∧ Hid (personIx xs0 s = fidx (isNm s) (xs0.drop k) k)) (fun i => xs0.length - (intOf i).toNat)
  case atStart => exact ⟨0, Nat.zero_le _, rfl, rfl⟩
  case round =>
    obtain ⟨k, hk, rfl, hH⟩ := hrel
    by_cases hlt : k < xs0.length
    · have hm := List.getElem?_eq_getElem hlt
      generalize xs0[k] = m at hm
      obtain ⟨b, off, rfl, hb, c0, c1, c2⟩ := hx'.ps hm
      have hd := Lib.hid (fidx_drop (isNm s) k k hm)
      have hk1 : (k : Int) < (xs0.length : Int) := by omega
      clear hm
      cases hp : (m.name.toList == s.toList)
      · have hp' : Hid (isNm s m = false) := hp
        go_wp2
        go_round
        case rel => exact ⟨k + 1, by omega, by go_num, by unfold Hid; rw [hH.out, hd.out, hp'.out]; rfl⟩
        case measure => simp [intOf]; omega
      · have hp' : Hid (isNm s m = true) := hp
        go_wp2
        go_ret
        exact ⟨ret_int (by rw [hH.out, hd.out, hp'.out]; rfl), hB⟩
    · go_wp2
      go_ret
      exact ⟨ret_int (by rw [hH.out, List.drop_eq_nil_of_le (by omega)]; rfl), hB⟩
end Go.Proofs.YtddjedbnikhjkaaGreatDoor
