/- Texts joined: plain, and the reference's join. Out of MarksText's walks. -/
import Derived.Test.YteajkofgcmfaoaaGreatDoorTS
import Derived.Lib.Join
import Derived.Lib.Hide
namespace Go.Proofs.YteajkofgcmfaoaaGreatDoor
open Go.ChangeShapes Go.WideShapes Go.ChangeAt Go.RowKit Go.IntWalk

/-! ### Plain: texts joined -/
theorem joinTail_snoc (sep : List UInt8) (r : List (List UInt8)) (x : List UInt8) : Lib.joinTail sep (r ++ [x]) = Lib.joinTail sep r ++ (sep ++ x) := by
  unfold Lib.joinTail; simp
theorem join_snoc {l : List (List UInt8)} (x sep : List UInt8) (h : l ≠ []) : Lib.join (l ++ [x]) sep = Lib.join l sep ++ (sep ++ x) := by
  cases l with
  | nil => exact absurd rfl h
  | cons y r => rw [List.cons_append, Lib.join_cons, Lib.join_cons, joinTail_snoc, List.append_assoc]
def jnB (xs : List ByteArray) : ByteArray := ⟨(Lib.join (xs.map (·.data.toList)) [44]).toArray⟩
theorem jnB_take0 {xs : List ByteArray} {x : ByteArray} (h : xs[0]? = some x) : jnB (xs.take 1) = x := by
  cases xs with
  | nil => cases h
  | cons y ys =>
    obtain rfl : y = x := by simpa using h
    unfold jnB
    simp [Lib.join_one]
theorem jnB_take {xs : List ByteArray} {k : Nat} {x : ByteArray} (h : xs[k]? = some x) (hk : 0 < k) : jnB (xs.take (k + 1)) = (jnB (xs.take k) ++ ⟨#[44]⟩) ++ x := by
  obtain ⟨hl, rfl⟩ := List.getElem?_eq_some_iff.1 h
  unfold jnB
  rw [List.take_succ_eq_append_getElem hl, List.map_append, List.map_cons, List.map_nil, join_snoc _ _ (fun e => by rw [List.map_eq_nil_iff] at e; have := congrArg List.length e; rw [List.length_take] at this; simp only [List.length_nil] at this; omega)]
  have e : xs[k] = ⟨xs[k].data.toList.toArray⟩ := by simp
  rw [e, show (#[44] : Array UInt8) = [44].toArray from rfl, ByteArray.mk_append_mk, ByteArray.mk_append_mk]
  simp
theorem joinTail_len (sep : List UInt8) : ∀ r : List (List UInt8), (Lib.joinTail sep r).length = (r.map fun l => sep.length + l.length).sum
  | [] => rfl
  | x :: r => by
    have ih := joinTail_len sep r
    unfold Lib.joinTail at *
    simp only [List.map_cons, List.flatten_cons, List.length_append, List.sum_cons]
    omega
theorem sum_le (f : List UInt8 → Nat) (b : Nat) : ∀ r : List (List UInt8), (∀ l ∈ r, f l ≤ b) → (r.map f).sum ≤ r.length * b
  | [], _ => by simp
  | x :: r, h => by
    have ih := sum_le f b r (fun l hl => h l (by simp [hl]))
    have := h x (by simp)
    simp only [List.map_cons, List.sum_cons, List.length_cons, Nat.add_mul]
    omega
theorem jnB_size {xs : List ByteArray} {b : Nat} (h : ∀ x ∈ xs, x.size ≤ b) : (jnB xs).size ≤ xs.length * (b + 1) := by
  have e : (jnB xs).size = (Lib.join (xs.map (·.data.toList)) [44]).length := by
    show ((Lib.join (xs.map (·.data.toList)) [44]).toArray).size = _
    simp
  rw [e]
  cases xs with
  | nil => simp [Lib.join_nil]
  | cons y ys =>
    rw [List.map_cons, Lib.join_cons, List.length_append, joinTail_len]
    have h1 := h y (by simp)
    have h2 := sum_le (fun l => [44].length + l.length) (b + 1) (ys.map (·.data.toList)) (fun l hl => by
      obtain ⟨z, hz, rfl⟩ := List.mem_map.1 hl
      have := h z (by simp [hz])
      have e2 : z.size = z.data.toList.length := by rw [Array.length_toList]; rfl
      simp only [List.length_cons, List.length_nil]
      omega)
    rw [List.length_map] at h2
    have e3 : y.size = y.data.toList.length := by rw [Array.length_toList]; rfl
    simp only [List.length_cons, List.length_nil, Nat.add_mul] at h2 ⊢
    omega
set_option maxRecDepth 100000 in
set_option maxHeartbeats 1000000 in
theorem l01Join_any (a : Option Addr) (cap : Nat) (xs : List ByteArray) (w : World) (hl : xs.length ≤ 1000) (hx : Rd encS w a xs) (hs : ∀ x ∈ xs, x.size ≤ 2000000) :
    Calls Tryz.prog 49 #[.slice a xs.length cap, .string ⟨#[44]⟩] w fun e w' => e = .returned (.string (jnB xs)) ∧ Below w.heap.size w w' := by
  go_enter Tryz.func49, Tryz.ntmps49
  go_wp2
  go_loopw [5, 6] (fun o i wr => ∃ k : Nat, k ≤ xs.length ∧ i = .int .i64 k ∧ o = .string (jnB (xs.take k)) ∧ Below w.heap.size w wr) (fun _ i _ => xs.length - (intOf i).toNat)
  case atStart => exact ⟨0, Nat.zero_le _, rfl, rfl, Below.refl _ _⟩
  case round =>
    obtain ⟨k, hk, rfl, rfl, hB⟩ := hrel
    by_cases hlt : k < xs.length
    · have hm := List.getElem?_eq_getElem hlt
      generalize xs[k] = x at hm
      have hsx := hs x (List.mem_of_getElem? hm)
      have hsj := jnB_size (xs := xs.take k) (b := 2000000) (fun y hy => hs y (List.mem_of_mem_take hy))
      have hlk : (xs.take k).length ≤ 1000 := by rw [List.length_take]; omega
      have hsj2 : (jnB (xs.take k)).size ≤ 2100000000 := by
        have := Nat.mul_le_mul_right (2000000 + 1) hlk
        omega
      obtain ⟨b, off, rfl, hb, c0⟩ := (hx.below hB).s hm
      have hk1 : (k : Int) < (xs.length : Int) := by omega
      clear hsj hlk
      by_cases hk0 : 0 < k
      · have hk2 : (0 : Int) < (k : Int) := by omega
        have hst := Lib.hid (jnB_take hm hk0)
        have e1 : (9223372036854775807 < (jnB (xs.take k)).size + 1) = False := eq_false (by omega)
        have e2 : (9223372036854775807 < (jnB (xs.take k)).size + 1 + x.size) = False := eq_false (by omega)
        clear hm
        generalize jnB (xs.take k) = J at hst e1 e2 hsj2 ⊢
        go_wp2
        go_roundw
        case rel => exact ⟨k + 1, by omega, by go_num, by rw [hst.out], hB⟩
        case measure => simp [intOf]; omega
      · obtain rfl : k = 0 := by omega
        have hst := Lib.hid (jnB_take0 hm)
        have e0 : jnB (xs.take 0) = ⟨#[]⟩ := rfl
        rw [e0]
        simp only [Nat.add_zero] at c0
        clear hm e0 hsj2
        go_wp2
        go_roundw
        case rel => exact ⟨1, by omega, by go_num, by rw [hst.out]; exact congrArg Value.string (by show ByteArray.empty ++ x = x; simp), hB⟩
        case measure => simp [intOf]; omega
    · obtain rfl : k = xs.length := by omega
      go_wp2
      go_ret
      rw [List.take_length]
      exact ⟨rfl, hB⟩

end Go.Proofs.YteajkofgcmfaoaaGreatDoor
