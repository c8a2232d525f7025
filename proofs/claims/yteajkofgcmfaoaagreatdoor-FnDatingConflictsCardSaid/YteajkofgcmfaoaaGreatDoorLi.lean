/- Walks: the index of a string in a list. Printed by gen_land.py. -/
import Derived.Test.YteajkofgcmfaoaaGreatDoorRi
import Derived.Test.YteajkofgcmfaoaaGreatDoorTt
import Derived.Test.YteajkofgcmfaoaaGreatDoorBB
namespace Go.Proofs.YteajkofgcmfaoaaGreatDoor
section
open Go.ChangeShapes Go.WideShapes Go.ChangeAt Go.RowKit

theorem formJ {w : World} {base : Nat} {e : TypeId} {k n : Nat} {v : Value} {xs : List Value} (h : w.ownsRow base e k v n xs) (hn : 0 < n) : ∃ g c, v = .slice (some ⟨g, 0, none⟩) n c := by
  rcases h.2 with ⟨h1, h2⟩ | ⟨g, c, _, e, _⟩
  · omega
  · exact ⟨_, c, e⟩
end

section
open Go.ChangeShapes Go.WideShapes Go.ChangeAt Go.RowKit

def isS (s m : ByteArray) : Bool := m.toList == s.toList
set_option maxHeartbeats 400000 in
theorem l01Text_any (a : Option Addr) (cap n : Nat) (xs : List ByteArray) (s : ByteArray) (w : World) (hn : xs.length = n) (hl : n ≤ 1048576) (hx : Rd encS w a xs) :
    Calls Tryz.prog 113 #[.slice a n cap, .string s] w fun e w' => e = .returned (.int .i64 (fidx (isS s) xs 0)) ∧ w = w' := by
  subst hn
  go_enter Tryz.func113, Tryz.ntmps113
  go_wp2
  go_loop [5] (fun i => ∃ (k : Nat), k ≤ xs.length ∧ i = .int .i64 k ∧ Hid (fidx (isS s) xs 0 = fidx (isS s) (xs.drop k) k)) (fun i => xs.length - (intOf i).toNat)
  case atStart => exact ⟨0, Nat.zero_le _, rfl, rfl⟩
  case round =>
    obtain ⟨k, hk, rfl, hH⟩ := hrel
    by_cases hlt : k < xs.length
    · have hm := List.getElem?_eq_getElem hlt
      generalize xs[k] = m at hm
      obtain ⟨b, off, rfl, hb, c0⟩ := hx.s hm
      have hd := Lib.hid (fidx_drop (isS s) k k hm)
      have hk1 : (k : Int) < (xs.length : Int) := by omega
      clear hm
      cases hp : (m.toList == s.toList)
      · have hp' : Hid (isS s m = false) := by unfold Hid isS; exact hp
        go_wp2
        go_round
        case rel => exact ⟨k + 1, by omega, by go_num, by unfold Hid; rw [hH.out, hd.out, hp'.out]; rfl⟩
        case measure => simp [intOf]; omega
      · have hp' : Hid (isS s m = true) := by unfold Hid isS; exact hp
        go_wp2
        go_ret
        exact ⟨ret_int (by rw [hH.out, hd.out, hp'.out]; rfl), rfl⟩
    · go_wp2
      go_ret
      exact ⟨ret_int (by rw [hH.out, List.drop_eq_nil_of_le (by omega)]; rfl), rfl⟩
end
end Go.Proofs.YteajkofgcmfaoaaGreatDoor
