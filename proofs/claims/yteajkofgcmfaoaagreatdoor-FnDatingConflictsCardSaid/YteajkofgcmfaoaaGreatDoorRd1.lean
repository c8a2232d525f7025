/- Walks: l09Plain; ReadNumeral and ReadNumber of the reference. -/
import Derived.Test.YteajkofgcmfaoaaGreatDoorRs
import Derived.Test.YteajkofgcmfaoaaGreatDoorRdV
import Derived.Lib.ConvBytes
import Derived.Lib.AtoiErrMem
namespace Go.Proofs.YteajkofgcmfaoaaGreatDoor
section
open Go.ChangeShapes Go.WideShapes Go.ChangeAt Go.RowKit Go.IntWalk

theorem lv_nat (b : UInt8) : lv b = if (b.toNat : Int) = 105 then 1 else if (b.toNat : Int) = 118 then 5 else if (b.toNat : Int) = 120 then 10 else if (b.toNat : Int) = 108 then 50 else if (b.toNat : Int) = 99 then 100 else if (b.toNat : Int) = 100 then 500 else if (b.toNat : Int) = 109 then 1000 else 0 := by
  have e : ∀ k : UInt8, (b = k) = ((b.toNat : Int) = (k.toNat : Int)) := fun k => propext ⟨fun h => by rw [h], fun h => UInt8.toNat_inj.1 (by omega)⟩
  unfold lv
  simp only [e]
  rfl
set_option maxRecDepth 100000 in
set_option maxHeartbeats 2000000 in
theorem l09Value_any (b : UInt8) (w : World) :
    Calls Tryz.prog 205 #[.int .u8 (b.toNat : Int)] w fun e w' => e = .returned (.int .i64 (lv b)) ∧ w' = w := by
  have HL := Lib.hid (lv_nat b)
  generalize hx : (b.toNat : Int) = x at HL ⊢
  clear hx
  go_enter Tryz.func205, Tryz.ntmps205
  go_wp2
  all_goals (go_ret; refine ⟨?_, rfl⟩; rw [HL.out]; simp_all)

set_option maxRecDepth 100000 in
set_option maxHeartbeats 2000000 in
theorem l09Dig0t (a b c : UInt8) (w : World) :
    Calls Tryz.prog 157 #[.int .i64 0, .string ⟨#[a]⟩, .string ⟨#[b]⟩, .string ⟨#[c]⟩, .bool true] w fun e w' => e = .returned (.string ⟨(digL 0 a b c true).toArray⟩) ∧ w' = w := by
  go_enter Tryz.func157, Tryz.ntmps157
  go_wp2
  go_ret
  exact ⟨rfl, rfl⟩

set_option maxRecDepth 100000 in
set_option maxHeartbeats 2000000 in
theorem l09Dig1t (a b c : UInt8) (w : World) :
    Calls Tryz.prog 157 #[.int .i64 1, .string ⟨#[a]⟩, .string ⟨#[b]⟩, .string ⟨#[c]⟩, .bool true] w fun e w' => e = .returned (.string ⟨(digL 1 a b c true).toArray⟩) ∧ w' = w := by
  have HI := Lib.hid (fun W => l09Dig0t a b c W)
  have HR := Lib.hid (show (⟨#[a]⟩ : ByteArray) ++ ⟨(digL 0 a b c true).toArray⟩ = ⟨(digL 1 a b c true).toArray⟩ by rw [ByteArray.mk_append_mk]; rfl)
  have hz : (digL 0 a b c true).length ≤ 20 := Nat.le_of_ble_eq_true rfl
  generalize digL 0 a b c true = D at HI HR hz
  go_enter Tryz.func157, Tryz.ntmps157
  go_wp2_with (go_at_call 157; refine (HI.out _).mono ?_; rintro e w' ⟨rfl, rfl⟩)
  go_ret
  exact ⟨by rw [HR.out]; rfl, rfl⟩

set_option maxRecDepth 100000 in
set_option maxHeartbeats 2000000 in
theorem l09Dig2t (a b c : UInt8) (w : World) :
    Calls Tryz.prog 157 #[.int .i64 2, .string ⟨#[a]⟩, .string ⟨#[b]⟩, .string ⟨#[c]⟩, .bool true] w fun e w' => e = .returned (.string ⟨(digL 2 a b c true).toArray⟩) ∧ w' = w := by
  have HI := Lib.hid (fun W => l09Dig1t a b c W)
  have HR := Lib.hid (show (⟨#[a]⟩ : ByteArray) ++ ⟨(digL 1 a b c true).toArray⟩ = ⟨(digL 2 a b c true).toArray⟩ by rw [ByteArray.mk_append_mk]; rfl)
  have hz : (digL 1 a b c true).length ≤ 20 := Nat.le_of_ble_eq_true rfl
  generalize digL 1 a b c true = D at HI HR hz
  go_enter Tryz.func157, Tryz.ntmps157
  go_wp2_with (go_at_call 157; refine (HI.out _).mono ?_; rintro e w' ⟨rfl, rfl⟩)
  go_ret
  exact ⟨by rw [HR.out]; rfl, rfl⟩

set_option maxRecDepth 100000 in
set_option maxHeartbeats 2000000 in
theorem l09Dig3t (a b c : UInt8) (w : World) :
    Calls Tryz.prog 157 #[.int .i64 3, .string ⟨#[a]⟩, .string ⟨#[b]⟩, .string ⟨#[c]⟩, .bool true] w fun e w' => e = .returned (.string ⟨(digL 3 a b c true).toArray⟩) ∧ w' = w := by
  have HI := Lib.hid (fun W => l09Dig2t a b c W)
  have HR := Lib.hid (show (⟨#[a]⟩ : ByteArray) ++ ⟨(digL 2 a b c true).toArray⟩ = ⟨(digL 3 a b c true).toArray⟩ by rw [ByteArray.mk_append_mk]; rfl)
  have hz : (digL 2 a b c true).length ≤ 20 := Nat.le_of_ble_eq_true rfl
  generalize digL 2 a b c true = D at HI HR hz
  go_enter Tryz.func157, Tryz.ntmps157
  go_wp2_with (go_at_call 157; refine (HI.out _).mono ?_; rintro e w' ⟨rfl, rfl⟩)
  go_ret
  exact ⟨by rw [HR.out]; rfl, rfl⟩

set_option maxRecDepth 100000 in
set_option maxHeartbeats 2000000 in
theorem l09Dig4t (a b c : UInt8) (w : World) :
    Calls Tryz.prog 157 #[.int .i64 4, .string ⟨#[a]⟩, .string ⟨#[b]⟩, .string ⟨#[c]⟩, .bool true] w fun e w' => e = .returned (.string ⟨(digL 4 a b c true).toArray⟩) ∧ w' = w := by
  have HI := Lib.hid (fun W => l09Dig3t a b c W)
  have HR := Lib.hid (show (⟨#[a]⟩ : ByteArray) ++ ⟨(digL 3 a b c true).toArray⟩ = ⟨(digL 4 a b c true).toArray⟩ by rw [ByteArray.mk_append_mk]; rfl)
  have hz : (digL 3 a b c true).length ≤ 20 := Nat.le_of_ble_eq_true rfl
  generalize digL 3 a b c true = D at HI HR hz
  go_enter Tryz.func157, Tryz.ntmps157
  go_wp2_with (go_at_call 157; refine (HI.out _).mono ?_; rintro e w' ⟨rfl, rfl⟩)
  go_ret
  exact ⟨by rw [HR.out]; rfl, rfl⟩

set_option maxRecDepth 100000 in
set_option maxHeartbeats 2000000 in
theorem l09Dig5t (a b c : UInt8) (w : World) :
    Calls Tryz.prog 157 #[.int .i64 5, .string ⟨#[a]⟩, .string ⟨#[b]⟩, .string ⟨#[c]⟩, .bool true] w fun e w' => e = .returned (.string ⟨(digL 5 a b c true).toArray⟩) ∧ w' = w := by
  have HI := Lib.hid (fun W => l09Dig0t a b c W)
  have HR := Lib.hid (show (⟨#[b]⟩ : ByteArray) ++ ⟨(digL 0 a b c true).toArray⟩ = ⟨(digL 5 a b c true).toArray⟩ by rw [ByteArray.mk_append_mk]; rfl)
  have hz : (digL 0 a b c true).length ≤ 20 := Nat.le_of_ble_eq_true rfl
  generalize digL 0 a b c true = D at HI HR hz
  go_enter Tryz.func157, Tryz.ntmps157
  go_wp2_with (go_at_call 157; refine (HI.out _).mono ?_; rintro e w' ⟨rfl, rfl⟩)
  go_ret
  exact ⟨by rw [HR.out]; rfl, rfl⟩

set_option maxRecDepth 100000 in
set_option maxHeartbeats 2000000 in
theorem l09Dig6t (a b c : UInt8) (w : World) :
    Calls Tryz.prog 157 #[.int .i64 6, .string ⟨#[a]⟩, .string ⟨#[b]⟩, .string ⟨#[c]⟩, .bool true] w fun e w' => e = .returned (.string ⟨(digL 6 a b c true).toArray⟩) ∧ w' = w := by
  have HI := Lib.hid (fun W => l09Dig1t a b c W)
  have HR := Lib.hid (show (⟨#[b]⟩ : ByteArray) ++ ⟨(digL 1 a b c true).toArray⟩ = ⟨(digL 6 a b c true).toArray⟩ by rw [ByteArray.mk_append_mk]; rfl)
  have hz : (digL 1 a b c true).length ≤ 20 := Nat.le_of_ble_eq_true rfl
  generalize digL 1 a b c true = D at HI HR hz
  go_enter Tryz.func157, Tryz.ntmps157
  go_wp2_with (go_at_call 157; refine (HI.out _).mono ?_; rintro e w' ⟨rfl, rfl⟩)
  go_ret
  exact ⟨by rw [HR.out]; rfl, rfl⟩

set_option maxRecDepth 100000 in
set_option maxHeartbeats 2000000 in
theorem l09Dig7t (a b c : UInt8) (w : World) :
    Calls Tryz.prog 157 #[.int .i64 7, .string ⟨#[a]⟩, .string ⟨#[b]⟩, .string ⟨#[c]⟩, .bool true] w fun e w' => e = .returned (.string ⟨(digL 7 a b c true).toArray⟩) ∧ w' = w := by
  have HI := Lib.hid (fun W => l09Dig2t a b c W)
  have HR := Lib.hid (show (⟨#[b]⟩ : ByteArray) ++ ⟨(digL 2 a b c true).toArray⟩ = ⟨(digL 7 a b c true).toArray⟩ by rw [ByteArray.mk_append_mk]; rfl)
  have hz : (digL 2 a b c true).length ≤ 20 := Nat.le_of_ble_eq_true rfl
  generalize digL 2 a b c true = D at HI HR hz
  go_enter Tryz.func157, Tryz.ntmps157
  go_wp2_with (go_at_call 157; refine (HI.out _).mono ?_; rintro e w' ⟨rfl, rfl⟩)
  go_ret
  exact ⟨by rw [HR.out]; rfl, rfl⟩

set_option maxRecDepth 100000 in
set_option maxHeartbeats 2000000 in
theorem l09Dig8t (a b c : UInt8) (w : World) :
    Calls Tryz.prog 157 #[.int .i64 8, .string ⟨#[a]⟩, .string ⟨#[b]⟩, .string ⟨#[c]⟩, .bool true] w fun e w' => e = .returned (.string ⟨(digL 8 a b c true).toArray⟩) ∧ w' = w := by
  have HI := Lib.hid (fun W => l09Dig3t a b c W)
  have HR := Lib.hid (show (⟨#[b]⟩ : ByteArray) ++ ⟨(digL 3 a b c true).toArray⟩ = ⟨(digL 8 a b c true).toArray⟩ by rw [ByteArray.mk_append_mk]; rfl)
  have hz : (digL 3 a b c true).length ≤ 20 := Nat.le_of_ble_eq_true rfl
  generalize digL 3 a b c true = D at HI HR hz
  go_enter Tryz.func157, Tryz.ntmps157
  go_wp2_with (go_at_call 157; refine (HI.out _).mono ?_; rintro e w' ⟨rfl, rfl⟩)
  go_ret
  exact ⟨by rw [HR.out]; rfl, rfl⟩

set_option maxRecDepth 100000 in
set_option maxHeartbeats 2000000 in
theorem l09Dig9t (a b c : UInt8) (w : World) :
    Calls Tryz.prog 157 #[.int .i64 9, .string ⟨#[a]⟩, .string ⟨#[b]⟩, .string ⟨#[c]⟩, .bool true] w fun e w' => e = .returned (.string ⟨(digL 9 a b c true).toArray⟩) ∧ w' = w := by
  have HI := Lib.hid (fun W => l09Dig4t a b c W)
  have HR := Lib.hid (show (⟨#[b]⟩ : ByteArray) ++ ⟨(digL 4 a b c true).toArray⟩ = ⟨(digL 9 a b c true).toArray⟩ by rw [ByteArray.mk_append_mk]; rfl)
  have hz : (digL 4 a b c true).length ≤ 20 := Nat.le_of_ble_eq_true rfl
  generalize digL 4 a b c true = D at HI HR hz
  go_enter Tryz.func157, Tryz.ntmps157
  go_wp2_with (go_at_call 157; refine (HI.out _).mono ?_; rintro e w' ⟨rfl, rfl⟩)
  go_ret
  exact ⟨by rw [HR.out]; rfl, rfl⟩

set_option maxRecDepth 100000 in
set_option maxHeartbeats 2000000 in
theorem l09Dig0f (a b c : UInt8) (w : World) :
    Calls Tryz.prog 157 #[.int .i64 0, .string ⟨#[a]⟩, .string ⟨#[b]⟩, .string ⟨#[c]⟩, .bool false] w fun e w' => e = .returned (.string ⟨(digL 0 a b c false).toArray⟩) ∧ w' = w := by
  go_enter Tryz.func157, Tryz.ntmps157
  go_wp2
  go_ret
  exact ⟨rfl, rfl⟩

set_option maxRecDepth 100000 in
set_option maxHeartbeats 2000000 in
theorem l09Dig1f (a b c : UInt8) (w : World) :
    Calls Tryz.prog 157 #[.int .i64 1, .string ⟨#[a]⟩, .string ⟨#[b]⟩, .string ⟨#[c]⟩, .bool false] w fun e w' => e = .returned (.string ⟨(digL 1 a b c false).toArray⟩) ∧ w' = w := by
  have HI := Lib.hid (fun W => l09Dig0t a b c W)
  have HR := Lib.hid (show (⟨#[a]⟩ : ByteArray) ++ ⟨(digL 0 a b c true).toArray⟩ = ⟨(digL 1 a b c false).toArray⟩ by rw [ByteArray.mk_append_mk]; rfl)
  have hz : (digL 0 a b c true).length ≤ 20 := Nat.le_of_ble_eq_true rfl
  generalize digL 0 a b c true = D at HI HR hz
  go_enter Tryz.func157, Tryz.ntmps157
  go_wp2_with (go_at_call 157; refine (HI.out _).mono ?_; rintro e w' ⟨rfl, rfl⟩)
  go_ret
  exact ⟨by rw [HR.out]; rfl, rfl⟩

set_option maxRecDepth 100000 in
set_option maxHeartbeats 2000000 in
theorem l09Dig2f (a b c : UInt8) (w : World) :
    Calls Tryz.prog 157 #[.int .i64 2, .string ⟨#[a]⟩, .string ⟨#[b]⟩, .string ⟨#[c]⟩, .bool false] w fun e w' => e = .returned (.string ⟨(digL 2 a b c false).toArray⟩) ∧ w' = w := by
  have HI := Lib.hid (fun W => l09Dig1t a b c W)
  have HR := Lib.hid (show (⟨#[a]⟩ : ByteArray) ++ ⟨(digL 1 a b c true).toArray⟩ = ⟨(digL 2 a b c false).toArray⟩ by rw [ByteArray.mk_append_mk]; rfl)
  have hz : (digL 1 a b c true).length ≤ 20 := Nat.le_of_ble_eq_true rfl
  generalize digL 1 a b c true = D at HI HR hz
  go_enter Tryz.func157, Tryz.ntmps157
  go_wp2_with (go_at_call 157; refine (HI.out _).mono ?_; rintro e w' ⟨rfl, rfl⟩)
  go_ret
  exact ⟨by rw [HR.out]; rfl, rfl⟩

set_option maxRecDepth 100000 in
set_option maxHeartbeats 2000000 in
theorem l09Dig3f (a b c : UInt8) (w : World) :
    Calls Tryz.prog 157 #[.int .i64 3, .string ⟨#[a]⟩, .string ⟨#[b]⟩, .string ⟨#[c]⟩, .bool false] w fun e w' => e = .returned (.string ⟨(digL 3 a b c false).toArray⟩) ∧ w' = w := by
  have HI := Lib.hid (fun W => l09Dig2t a b c W)
  have HR := Lib.hid (show (⟨#[a]⟩ : ByteArray) ++ ⟨(digL 2 a b c true).toArray⟩ = ⟨(digL 3 a b c false).toArray⟩ by rw [ByteArray.mk_append_mk]; rfl)
  have hz : (digL 2 a b c true).length ≤ 20 := Nat.le_of_ble_eq_true rfl
  generalize digL 2 a b c true = D at HI HR hz
  go_enter Tryz.func157, Tryz.ntmps157
  go_wp2_with (go_at_call 157; refine (HI.out _).mono ?_; rintro e w' ⟨rfl, rfl⟩)
  go_ret
  exact ⟨by rw [HR.out]; rfl, rfl⟩

set_option maxRecDepth 100000 in
set_option maxHeartbeats 2000000 in
theorem l09Dig4f (a b c : UInt8) (w : World) :
    Calls Tryz.prog 157 #[.int .i64 4, .string ⟨#[a]⟩, .string ⟨#[b]⟩, .string ⟨#[c]⟩, .bool false] w fun e w' => e = .returned (.string ⟨(digL 4 a b c false).toArray⟩) ∧ w' = w := by
  go_enter Tryz.func157, Tryz.ntmps157
  go_wp2
  go_ret
  exact ⟨rfl, rfl⟩

set_option maxRecDepth 100000 in
set_option maxHeartbeats 2000000 in
theorem l09Dig5f (a b c : UInt8) (w : World) :
    Calls Tryz.prog 157 #[.int .i64 5, .string ⟨#[a]⟩, .string ⟨#[b]⟩, .string ⟨#[c]⟩, .bool false] w fun e w' => e = .returned (.string ⟨(digL 5 a b c false).toArray⟩) ∧ w' = w := by
  have HI := Lib.hid (fun W => l09Dig0t a b c W)
  have HR := Lib.hid (show (⟨#[b]⟩ : ByteArray) ++ ⟨(digL 0 a b c true).toArray⟩ = ⟨(digL 5 a b c false).toArray⟩ by rw [ByteArray.mk_append_mk]; rfl)
  have hz : (digL 0 a b c true).length ≤ 20 := Nat.le_of_ble_eq_true rfl
  generalize digL 0 a b c true = D at HI HR hz
  go_enter Tryz.func157, Tryz.ntmps157
  go_wp2_with (go_at_call 157; refine (HI.out _).mono ?_; rintro e w' ⟨rfl, rfl⟩)
  go_ret
  exact ⟨by rw [HR.out]; rfl, rfl⟩

set_option maxRecDepth 100000 in
set_option maxHeartbeats 2000000 in
theorem l09Dig6f (a b c : UInt8) (w : World) :
    Calls Tryz.prog 157 #[.int .i64 6, .string ⟨#[a]⟩, .string ⟨#[b]⟩, .string ⟨#[c]⟩, .bool false] w fun e w' => e = .returned (.string ⟨(digL 6 a b c false).toArray⟩) ∧ w' = w := by
  have HI := Lib.hid (fun W => l09Dig1t a b c W)
  have HR := Lib.hid (show (⟨#[b]⟩ : ByteArray) ++ ⟨(digL 1 a b c true).toArray⟩ = ⟨(digL 6 a b c false).toArray⟩ by rw [ByteArray.mk_append_mk]; rfl)
  have hz : (digL 1 a b c true).length ≤ 20 := Nat.le_of_ble_eq_true rfl
  generalize digL 1 a b c true = D at HI HR hz
  go_enter Tryz.func157, Tryz.ntmps157
  go_wp2_with (go_at_call 157; refine (HI.out _).mono ?_; rintro e w' ⟨rfl, rfl⟩)
  go_ret
  exact ⟨by rw [HR.out]; rfl, rfl⟩

set_option maxRecDepth 100000 in
set_option maxHeartbeats 2000000 in
theorem l09Dig7f (a b c : UInt8) (w : World) :
    Calls Tryz.prog 157 #[.int .i64 7, .string ⟨#[a]⟩, .string ⟨#[b]⟩, .string ⟨#[c]⟩, .bool false] w fun e w' => e = .returned (.string ⟨(digL 7 a b c false).toArray⟩) ∧ w' = w := by
  have HI := Lib.hid (fun W => l09Dig2t a b c W)
  have HR := Lib.hid (show (⟨#[b]⟩ : ByteArray) ++ ⟨(digL 2 a b c true).toArray⟩ = ⟨(digL 7 a b c false).toArray⟩ by rw [ByteArray.mk_append_mk]; rfl)
  have hz : (digL 2 a b c true).length ≤ 20 := Nat.le_of_ble_eq_true rfl
  generalize digL 2 a b c true = D at HI HR hz
  go_enter Tryz.func157, Tryz.ntmps157
  go_wp2_with (go_at_call 157; refine (HI.out _).mono ?_; rintro e w' ⟨rfl, rfl⟩)
  go_ret
  exact ⟨by rw [HR.out]; rfl, rfl⟩

set_option maxRecDepth 100000 in
set_option maxHeartbeats 2000000 in
theorem l09Dig8f (a b c : UInt8) (w : World) :
    Calls Tryz.prog 157 #[.int .i64 8, .string ⟨#[a]⟩, .string ⟨#[b]⟩, .string ⟨#[c]⟩, .bool false] w fun e w' => e = .returned (.string ⟨(digL 8 a b c false).toArray⟩) ∧ w' = w := by
  have HI := Lib.hid (fun W => l09Dig3t a b c W)
  have HR := Lib.hid (show (⟨#[b]⟩ : ByteArray) ++ ⟨(digL 3 a b c true).toArray⟩ = ⟨(digL 8 a b c false).toArray⟩ by rw [ByteArray.mk_append_mk]; rfl)
  have hz : (digL 3 a b c true).length ≤ 20 := Nat.le_of_ble_eq_true rfl
  generalize digL 3 a b c true = D at HI HR hz
  go_enter Tryz.func157, Tryz.ntmps157
  go_wp2_with (go_at_call 157; refine (HI.out _).mono ?_; rintro e w' ⟨rfl, rfl⟩)
  go_ret
  exact ⟨by rw [HR.out]; rfl, rfl⟩

set_option maxRecDepth 100000 in
set_option maxHeartbeats 2000000 in
theorem l09Dig9f (a b c : UInt8) (w : World) :
    Calls Tryz.prog 157 #[.int .i64 9, .string ⟨#[a]⟩, .string ⟨#[b]⟩, .string ⟨#[c]⟩, .bool false] w fun e w' => e = .returned (.string ⟨(digL 9 a b c false).toArray⟩) ∧ w' = w := by
  go_enter Tryz.func157, Tryz.ntmps157
  go_wp2
  go_ret
  exact ⟨rfl, rfl⟩

theorem l09Digit_any (a b c : UInt8) (d : Nat) (hd : d < 10) (old : Bool) (w : World) :
    Calls Tryz.prog 157 #[.int .i64 (d : Int), .string ⟨#[a]⟩, .string ⟨#[b]⟩, .string ⟨#[c]⟩, .bool old] w fun e w' => e = .returned (.string ⟨(digL d a b c old).toArray⟩) ∧ w' = w := by
  have h : d = 0 ∨ d = 1 ∨ d = 2 ∨ d = 3 ∨ d = 4 ∨ d = 5 ∨ d = 6 ∨ d = 7 ∨ d = 8 ∨ d = 9 := by omega
  cases old
  · rcases h with rfl | rfl | rfl | rfl | rfl | rfl | rfl | rfl | rfl | rfl
    · exact l09Dig0f a b c w
    · exact l09Dig1f a b c w
    · exact l09Dig2f a b c w
    · exact l09Dig3f a b c w
    · exact l09Dig4f a b c w
    · exact l09Dig5f a b c w
    · exact l09Dig6f a b c w
    · exact l09Dig7f a b c w
    · exact l09Dig8f a b c w
    · exact l09Dig9f a b c w
  · rcases h with rfl | rfl | rfl | rfl | rfl | rfl | rfl | rfl | rfl | rfl
    · exact l09Dig0t a b c w
    · exact l09Dig1t a b c w
    · exact l09Dig2t a b c w
    · exact l09Dig3t a b c w
    · exact l09Dig4t a b c w
    · exact l09Dig5t a b c w
    · exact l09Dig6t a b c w
    · exact l09Dig7t a b c w
    · exact l09Dig8t a b c w
    · exact l09Dig9t a b c w
end

section
open Go.ChangeShapes Go.WideShapes Go.ChangeAt Go.RowKit Go.IntWalk

theorem digL_len {d : Nat} (a b c : UInt8) (old : Bool) (h : d < 10) : (digL d a b c old).length ≤ 9 := by
  unfold digL
  split
  · simp
  · split
    · simp
    · split
      · simp; omega
      · simp; omega
def repB (k : Nat) : ByteArray := ⟨(List.replicate k (109 : UInt8)).toArray⟩
theorem rep_size (k : Nat) : (repB k).size = k := by
  show ((List.replicate k (109 : UInt8)).toArray).size = k
  simp
theorem dig_size {d : Nat} (a b c : UInt8) (old : Bool) (h : d < 10) : (⟨(digL d a b c old).toArray⟩ : ByteArray).size ≤ 9 := by
  have := digL_len a b c old h
  show ((digL d a b c old).toArray).size ≤ 9
  simpa using this
theorem form_join (n : Nat) (old : Bool) : ((repB (n / 1000) ++ ⟨(digL (n / 100 % 10) 99 100 109 old).toArray⟩) ++ ⟨(digL (n / 10 % 10) 120 108 99 old).toArray⟩) ++ ⟨(digL (n % 10) 105 118 120 old).toArray⟩ = ⟨(formL n old).toArray⟩ := by
  unfold repB
  rw [ByteArray.mk_append_mk, ByteArray.mk_append_mk, ByteArray.mk_append_mk]
  rfl
theorem rep_join (k : Nat) : repB k ++ ⟨#[109]⟩ = repB (k + 1) := by
  unfold repB
  rw [show (#[109] : Array UInt8) = [109].toArray from rfl, ByteArray.mk_append_mk, List.replicate_succ']
set_option maxRecDepth 100000 in
set_option maxHeartbeats 2000000 in
theorem l09Form_any (n : Nat) (hn : n ≤ 3999) (old : Bool) (w : World) :
    Calls Tryz.prog 111 #[.int .i64 (n : Int), .bool old] w fun e w' => e = .returned (.string ⟨(formL n old).toArray⟩) ∧ w' = w := by
  have HJ := Lib.hid (form_join n old)
  obtain ⟨q, hq⟩ : ∃ q : Nat, n / 1000 = q := ⟨_, rfl⟩
  obtain ⟨p1, hp1⟩ : ∃ p : Nat, n / 100 = p := ⟨_, rfl⟩
  obtain ⟨p2, hp2⟩ : ∃ p : Nat, n / 10 = p := ⟨_, rfl⟩
  obtain ⟨d1, hd1⟩ : ∃ d : Nat, p1 % 10 = d := ⟨_, rfl⟩
  obtain ⟨d2, hd2⟩ : ∃ d : Nat, p2 % 10 = d := ⟨_, rfl⟩
  obtain ⟨d3, hd3⟩ : ∃ d : Nat, n % 10 = d := ⟨_, rfl⟩
  rw [hq, hp1, hp2, hd1, hd2, hd3] at HJ
  have v1 : IntKind.i64.wrap ((n : Int) / 1000) = (q : Int) := by rw [IntKind.wrap_i64]; omega
  have v2 : IntKind.i64.wrap ((n : Int) / 100) = (p1 : Int) := by rw [IntKind.wrap_i64]; omega
  have v3 : IntKind.i64.wrap ((n : Int) / 10) = (p2 : Int) := by rw [IntKind.wrap_i64]; omega
  have v4 : (p1 : Int).tmod 10 = (d1 : Int) := by rw [Int.tmod_eq_emod_of_nonneg (by omega)]; omega
  have v5 : (p2 : Int).tmod 10 = (d2 : Int) := by rw [Int.tmod_eq_emod_of_nonneg (by omega)]; omega
  have v6 : (n : Int).tmod 10 = (d3 : Int) := by rw [Int.tmod_eq_emod_of_nonneg (by omega)]; omega
  have hq3 : q ≤ 3 := by omega
  have D1 := Lib.hid (fun W => l09Digit_any 99 100 109 d1 (by omega) old W)
  have D2 := Lib.hid (fun W => l09Digit_any 120 108 99 d2 (by omega) old W)
  have D3 := Lib.hid (fun W => l09Digit_any 105 118 120 d3 (by omega) old W)
  have S1 := dig_size (d := d1) 99 100 109 old (by omega)
  generalize (⟨(digL d1 99 100 109 old).toArray⟩ : ByteArray) = L1 at D1 HJ S1
  have S2 := dig_size (d := d2) 120 108 99 old (by omega)
  generalize (⟨(digL d2 120 108 99 old).toArray⟩ : ByteArray) = L2 at D2 HJ S2
  have S3 := dig_size (d := d3) 105 118 120 old (by omega)
  generalize (⟨(digL d3 105 118 120 old).toArray⟩ : ByteArray) = L3 at D3 HJ S3
  clear hq hp1 hp2 hd1 hd2 hd3 hn
  generalize (⟨(formL n old).toArray⟩ : ByteArray) = F at HJ ⊢
  go_enter Tryz.func111, Tryz.ntmps111
  go_wp2
  go_loopw [5, 6] (fun o i wr => ∃ k : Nat, k ≤ q ∧ i = .int .i64 k ∧ o = .string (repB k) ∧ wr = w) (fun _ i _ => q - (intOf i).toNat)
  case atStart => exact ⟨0, Nat.zero_le _, rfl, rfl, rfl⟩
  case round =>
    obtain ⟨k, hk, rfl, rfl, rfl⟩ := hrel
    by_cases hlt : k < q
    · have hk1 : (k : Int) < (q : Int) := by omega
      have v0 : IntKind.i64.wrap ((k : Int) + 1) = ((k + 1 : Nat) : Int) := by rw [IntKind.wrap_i64]; omega
      have HR := Lib.hid (rep_join k)
      have hs := rep_size k
      go_wp2
      go_roundw
      case rel => exact ⟨k + 1, by omega, rfl, by rw [HR.out], (by first | rfl | trivial)⟩
      case measure => simp only [intOf]; omega
    · have hk1 : ¬ (k : Int) < (q : Int) := by omega
      obtain rfl : k = q := by omega
      have hs := rep_size k
      have e0 : (9223372036854775807 < (repB k).size + L1.size) = False := eq_false (by omega)
      have e1 : (9223372036854775807 < (repB k).size + L1.size + L2.size) = False := eq_false (by omega)
      have e2 : (9223372036854775807 < (repB k).size + L1.size + L2.size + L3.size) = False := eq_false (by omega)
      clear hs
      go_wp2_with fail
      refine (D1.out _).mono ?_
      rintro e w' ⟨rfl, rfl⟩
      go_wp2_with fail
      refine (D2.out _).mono ?_
      rintro e w' ⟨rfl, rfl⟩
      go_wp2_with fail
      refine (D3.out _).mono ?_
      rintro e w' ⟨rfl, rfl⟩
      go_wp2
      go_ret
      exact ⟨by rw [← HJ.out]; rfl, rfl⟩
end

section
open Go.ChangeShapes Go.WideShapes Go.ChangeAt Go.RowKit Go.IntWalk

theorem dgv_take {s : ByteArray} {k : Nat} (h : k < s.size) : dgv 0 (s.data.toList.take (k + 1)) = dgv 0 (s.data.toList.take k) * 10 + (s[k].toNat - 48) := by
  have hl : k < s.data.toList.length := by simpa using h
  rw [List.take_succ_eq_append_getElem hl, dgv_snoc]
  simp only [Array.getElem_toList]
  rfl
theorem dgs_take {s : ByteArray} {k : Nat} (h : k < s.size) (ha : ∀ c ∈ s.data.toList.take k, isDg c) (hc : isDg s[k]) : ∀ c ∈ s.data.toList.take (k + 1), isDg c := by
  have hl : k < s.data.toList.length := by simpa using h
  rw [List.take_succ_eq_append_getElem hl]
  intro c hh
  rcases List.mem_append.1 hh with hh | hh
  · exact ha c hh
  · rw [List.mem_singleton.1 hh]; exact hc
theorem not_dec {s : ByteArray} {k : Nat} (h : k < s.size) (hc : ¬ isDg s[k]) : ¬ (dgv 0 s.data.toList ≤ 3999 ∧ decB ((dgv 0 s.data.toList : Nat) : Int) = s) := by
  rintro ⟨h1, h2⟩
  exact hc ((dec_shape h1 h2).2 _ (by rw [show s[k] = s.data.toList[k]'(by simpa using h) from rfl]; exact List.getElem_mem _))
theorem not_len {s : ByteArray} (h : s.size < 1 ∨ 9 < s.size) : ¬ (dgv 0 s.data.toList ≤ 3999 ∧ decB ((dgv 0 s.data.toList : Nat) : Int) = s) := by
  rintro ⟨h1, h2⟩
  have := (dec_shape h1 h2).1
  omega
theorem eqL (a b : ByteArray) : ((a.toList == b.toList) = true) ↔ a = b := by
  rw [Lib.toList_data, Lib.toList_data, beq_iff_eq]
  exact ⟨fun h => ByteArray.ext (Array.toList_inj.1 h), fun h => by rw [h]⟩
/-- What is read of a text's digits. -/
def DgOut (s : ByteArray) (v : Int) (ok : Bool) : Prop := (0 ≤ v ∧ v ≤ 1000000000) ∧ (ok = true → v = ((dgv 0 s.data.toList : Nat) : Int) ∧ decB v = s) ∧ (ok = false → ¬ (dgv 0 s.data.toList ≤ 3999 ∧ decB ((dgv 0 s.data.toList : Nat) : Int) = s))
/-- The two results. -/
def DgRes (s : ByteArray) (e : Ending) : Prop := ∃ v ok, e = .returned (.tuple #[.int .i64 v, .bool ok]) ∧ DgOut s v ok
theorem dgOut_no {s : ByteArray} (h : ¬ (dgv 0 s.data.toList ≤ 3999 ∧ decB ((dgv 0 s.data.toList : Nat) : Int) = s)) : DgOut s 0 false := ⟨by decide, (fun h => by cases h), fun _ => h⟩
set_option maxRecDepth 100000 in
set_option maxHeartbeats 2000000 in
theorem l01Digits_any (s : ByteArray) (w : World) :
    Calls Tryz.prog 158 #[.string s] w fun e w' => DgRes s e ∧ Below w.heap.size w w' := by
  by_cases h1 : s.size < 1
  · have hO := Lib.hid (dgOut_no (not_len (Or.inl h1)))
    have hz : (s.size : Int) < 1 := by omega
    go_enter Tryz.func158, Tryz.ntmps158
    go_wp2
    go_ret2
    exact ⟨⟨0, false, rfl, hO.out⟩, Below.refl _ _⟩
  by_cases h9 : 9 < s.size
  · have hO := Lib.hid (dgOut_no (not_len (Or.inr h9)))
    have hz : ¬ (s.size : Int) < 1 := by omega
    have hz2 : 9 < (s.size : Int) := by omega
    go_enter Tryz.func158, Tryz.ntmps158
    go_wp2
    go_ret2
    exact ⟨⟨0, false, rfl, hO.out⟩, Below.refl _ _⟩
  have hz : ¬ (s.size : Int) < 1 := by omega
  have hz2 : ¬ 9 < (s.size : Int) := by omega
  go_enter Tryz.func158, Tryz.ntmps158
  go_wp2
  go_loopw [4, 5] (fun m i wr => ∃ k : Nat, k ≤ s.size ∧ i = .int .i64 k ∧ m = .int .i64 ((dgv 0 (s.data.toList.take k) : Nat) : Int) ∧ Hid (∀ c ∈ s.data.toList.take k, isDg c) ∧ wr = w) (fun _ i _ => s.size - (intOf i).toNat)
  case atStart => exact ⟨0, Nat.zero_le _, rfl, rfl, Lib.hid (by simp), rfl⟩
  case round =>
    obtain ⟨k, hk, rfl, rfl, hA, rfl⟩ := hrel
    have hlt9 : dgv 0 (s.data.toList.take k) < 1000000000 := by
      have := dgv_lt 0 _ hA.out
      have h2 : (s.data.toList.take k).length ≤ 9 := by rw [List.length_take]; omega
      have h3 := Nat.pow_le_pow_right (show 0 < 10 by decide) h2
      omega
    by_cases hlt : k < s.size
    · have hk1 : (k : Int) < (s.size : Int) := by omega
      have hT := Lib.hid (dgv_take hlt)
      have hN := Lib.hid (fun h => not_dec hlt h)
      have hY := Lib.hid (fun h => dgs_take hlt hA.out h)
      have v0 : IntKind.i64.wrap ((k : Int) + 1) = ((k + 1 : Nat) : Int) := by rw [IntKind.wrap_i64]; omega
      generalize dgv 0 (s.data.toList.take k) = m at hT hlt9 ⊢
      by_cases hd : isDg s[k]
      · have hdd := hd
        unfold isDg at hdd
        have c1 : ¬ (s[k].toNat : Int) < 48 := by omega
        have c2 : ¬ 57 < (s[k].toNat : Int) := by omega
        have v1 : IntKind.i64.wrap (10 * (m : Int)) = 10 * (m : Int) := by rw [IntKind.wrap_i64]; omega
        have v2 : IntKind.u8.wrap ((s[k].toNat : Int) - 48) = (s[k].toNat : Int) - 48 := by rw [IntKind.wrap_u8]; omega
        have v4 : IntKind.i64.wrap ((s[k].toNat : Int) - 48) = (s[k].toNat : Int) - 48 := by rw [IntKind.wrap_i64]; omega
        have v3 : IntKind.i64.wrap (10 * (m : Int) + ((s[k].toNat : Int) - 48)) = ((m * 10 + (s[k].toNat - 48) : Nat) : Int) := by rw [IntKind.wrap_i64]; omega
        have hY2 := Lib.hid (hY.out hd)
        clear hY hN hd hdd hA
        go_wp2
        go_roundw
        case rel => exact ⟨k + 1, by omega, rfl, (by rw [hT.out]; first | rfl | (congr 1; omega)), hY2, (by first | rfl | trivial)⟩
        case measure => simp only [intOf]; omega
      · have hO := Lib.hid (dgOut_no (hN.out hd))
        have hdd := hd
        unfold isDg at hdd
        clear hY hN hd hA
        by_cases c1 : (s[k].toNat : Int) < 48
        · go_wp2
          go_ret2
          exact ⟨⟨0, false, rfl, hO.out⟩, Below.refl _ _⟩
        · have c2 : 57 < (s[k].toNat : Int) := by omega
          go_wp2
          go_ret2
          exact ⟨⟨0, false, rfl, hO.out⟩, Below.refl _ _⟩
    · have hk1 : ¬ (k : Int) < (s.size : Int) := by omega
      have hT : s.data.toList.take k = s.data.toList := List.take_of_length_le (by rw [Array.length_toList]; show s.size ≤ k; omega)
      rw [hT] at hlt9
      simp only [hT]
      have HO : ∀ b : Bool, (b = true ↔ decB ((dgv 0 s.data.toList : Nat) : Int) = s) → DgOut s ((dgv 0 s.data.toList : Nat) : Int) b := by
        intro b hb
        refine ⟨by omega, fun h => ⟨rfl, hb.1 h⟩, fun h hh => ?_⟩
        rw [hb.2 hh.2] at h
        cases h
      replace HO := Lib.hid HO
      clear hA hT
      generalize dgv 0 s.data.toList = m at HO hlt9 ⊢
      have HD := Lib.hid (fun W => l01Dec_any m (by omega) W)
      go_wp2_with fail
      refine (HD.out _).mono ?_
      rintro e w' ⟨rfl, hB⟩
      go_wp2
      go_ret2
      exact ⟨⟨(m : Int), ((decB (m : Int)).toList == s.toList), rfl, HO.out _ (eqL _ _)⟩, hB⟩
end

section
open Go.ChangeShapes Go.WideShapes Go.ChangeAt Go.RowKit Go.IntWalk

set_option maxRecDepth 100000 in
set_option maxHeartbeats 2000000 in
theorem l09Number_any (n : Int) (w : World) :
    Calls Tryz.prog 110 #[.int .i64 n] w fun e w' => e = .returned (.bool (inB n 1 3999)) ∧ w' = w := by
  have HI := Lib.hid (fun W => l01In_any n 1 3999 W)
  go_enter Tryz.func110, Tryz.ntmps110
  go_wp2_with fail
  refine (HI.out _).mono ?_
  rintro e w' ⟨rfl, rfl⟩
  go_wp2
  go_ret
  exact ⟨rfl, rfl⟩
theorem eqF (a : ByteArray) (l : List UInt8) : ((a.toList == (⟨l.toArray⟩ : ByteArray).toList) = true) ↔ a.data.toList = l := by
  rw [Lib.toList_data, Lib.toList_data, beq_iff_eq]
theorem lsum_at {p : ByteArray} {k : Nat} (h : k < p.size) :
    lsum (p.data.toList.drop k) = (if lv p[k] < hdv (p.data.toList.drop (k + 1)) then - lv p[k] else lv p[k]) + lsum (p.data.toList.drop (k + 1)) :=
  lsum_drop p.data.toList k (by simpa using h)
theorem hdv_at {p : ByteArray} {k : Nat} (h : k < p.size) : hdv (p.data.toList.drop k) = lv p[k] := hdv_drop p.data.toList k (by simpa using h)
theorem hdv_past {p : ByteArray} {k : Nat} (h : ¬ k < p.size) : hdv (p.data.toList.drop k) = 0 := hdv_end _ _ (by rw [Array.length_toList]; show p.size ≤ k; omega)
theorem lsum_past {p : ByteArray} : lsum (p.data.toList.drop p.size) = 0 := by
  rw [List.drop_eq_nil_of_le (by rw [Array.length_toList]; exact Nat.le_refl _)]; rfl
set_option maxRecDepth 100000 in
set_option maxHeartbeats 2000000 in
/-- The sum of a word's letters, as the loop of ReadNumeral builds it. -/
theorem specReadNumeral_of (s p : ByteArray) (hs : ¬ 20 < s.size) (hp : p.size = s.size) (hpl : p = ⟨(plL s.data.toList).toArray⟩)
    (HP : ∀ w : World, Calls Tryz.prog 204 #[.string s] w fun e w' => e = .returned (.string p) ∧ Below w.heap.size w w') (w : World) :
    Calls Tryz.prog 159 #[.string s] w fun e w' => e = .returned (.tuple #[.int .i64 (numL s.data.toList), .bool (decide (1 ≤ numL s.data.toList))]) ∧ Below w.heap.size w w' := by
  have hz : ¬ 20 < (s.size : Int) := by omega
  have hp20 : p.size ≤ 20 := by omega
  have hd : p.data.toList = plL s.data.toList := by rw [hpl]
  have hN := Lib.hid (show numL s.data.toList = if s.data.toList.length ≤ 20 ∧ (1 ≤ lsum p.data.toList ∧ lsum p.data.toList ≤ 3999) ∧ (p.data.toList = formL (lsum p.data.toList).toNat false ∨ p.data.toList = formL (lsum p.data.toList).toNat true) then lsum p.data.toList else 0 by rw [hd]; rfl)
  have hl20 : s.data.toList.length ≤ 20 := by rw [Array.length_toList]; show s.size ≤ 20; omega
  replace HP := Lib.hid HP
  clear hd hpl hp hs
  go_enter Tryz.func159, Tryz.ntmps159
  go_wp2_with fail
  refine (HP.out _).mono ?_
  rintro e w1 ⟨rfl, hB1⟩
  go_wp2
  go_loopw [5, 6] (fun m i wr => ∃ (k : Nat) (n : Int), k ≤ p.size ∧ i = .int .i64 k ∧ m = .int .i64 n ∧ Hid (n + lsum (p.data.toList.drop k) = lsum p.data.toList) ∧ (- (1000 * (k : Int)) ≤ n ∧ n ≤ 1000 * (k : Int)) ∧ wr = w1) (fun _ i _ => p.size - (intOf i).toNat)
  case atStart => exact ⟨0, 0, Nat.zero_le _, rfl, rfl, Lib.hid (by simp), by decide, rfl⟩
  case round =>
    obtain ⟨k, n, hk, rfl, rfl, hE, hn, rfl⟩ := hrel
    by_cases hlt : k < p.size
    · have hk1 : (k : Int) < (p.size : Int) := by omega
      have hA := Lib.hid (lsum_at hlt)
      have hb := lv_bd p[k]
      have HV := Lib.hid (fun W => l09Value_any p[k] W)
      have v0 : IntKind.i64.wrap ((k : Int) + 1) = ((k + 1 : Nat) : Int) := by rw [IntKind.wrap_i64]; omega
      by_cases hl2 : k + 1 < p.size
      · have hk2 : ((k + 1 : Nat) : Int) < (p.size : Int) := by omega
        have HV2 := Lib.hid (fun W => l09Value_any p[k + 1] W)
        have hb2 := lv_bd p[k + 1]
        have hh := hdv_at hl2
        rw [hh] at hA
        clear hh
        generalize lv p[k + 1] = y at hA HV2 hb2
        generalize lv p[k] = x at hA HV hb
        have v3 : IntKind.i64.wrap (-x) = -x := by rw [IntKind.wrap_i64]; omega
        have v4 : IntKind.i64.wrap (n + -x) = n - x := by rw [IntKind.wrap_i64]; omega
        have v5 : IntKind.i64.wrap (n + x) = n + x := by rw [IntKind.wrap_i64]; omega
        go_wp2_with fail
        refine (HV.out _).mono ?_
        rintro e w' ⟨rfl, rfl⟩
        go_wp2_with fail
        refine (HV2.out _).mono ?_
        rintro e w' ⟨rfl, rfl⟩
        by_cases hxy : x < y
        · go_wp2
          go_roundw
          case rel => exact ⟨k + 1, n - x, by omega, rfl, rfl, Lib.hid (by have h1 := hE.out; have h2 := hA.out; rw [if_pos hxy] at h2; omega), by omega, (by first | rfl | trivial)⟩
          case measure => simp only [intOf]; omega
        · go_wp2
          go_roundw
          case rel => exact ⟨k + 1, n + x, by omega, rfl, rfl, Lib.hid (by have h1 := hE.out; have h2 := hA.out; rw [if_neg (by omega)] at h2; omega), by omega, (by first | rfl | trivial)⟩
          case measure => simp only [intOf]; omega
      · have hk2 : ¬ ((k + 1 : Nat) : Int) < (p.size : Int) := by omega
        have hh := hdv_past hl2
        rw [hh] at hA
        clear hh
        generalize lv p[k] = x at hA HV hb
        have v5 : IntKind.i64.wrap (n + x) = n + x := by rw [IntKind.wrap_i64]; omega
        have hxy : ¬ x < 0 := by omega
        go_wp2_with fail
        refine (HV.out _).mono ?_
        rintro e w' ⟨rfl, rfl⟩
        go_wp2
        go_roundw
        case rel => exact ⟨k + 1, n + x, by omega, rfl, rfl, Lib.hid (by have h1 := hE.out; have h2 := hA.out; rw [if_neg (by omega)] at h2; omega), by omega, (by first | rfl | trivial)⟩
        case measure => simp only [intOf]; omega
    · have hk1 : ¬ (k : Int) < (p.size : Int) := by omega
      obtain rfl : k = p.size := by omega
      have h1 := hE.out
      rw [lsum_past] at h1
      have hn' : n = lsum p.data.toList := by omega
      rw [← hn'] at hN
      clear h1 hn' hE
      have HB := Lib.hid (fun W => l09Number_any n W)
      by_cases hin : 1 ≤ n ∧ n ≤ 3999
      · obtain ⟨m, rfl⟩ := Int.eq_ofNat_of_zero_le (show 0 ≤ n by omega)
        have hi : inB (m : Int) 1 3999 = true := by unfold inB; simp; omega
        have HF0 := Lib.hid (fun W => l09Form_any m (by omega) false W)
        have HF1 := Lib.hid (fun W => l09Form_any m (by omega) true W)
        have hd1 : decide (1 ≤ (m : Int)) = true := by simp; omega
        rw [hi] at HB
        by_cases e0 : p.data.toList = formL m false
        · have hq : numL s.data.toList = (m : Int) := by rw [hN.out, if_pos ⟨hl20, hin, Or.inl e0⟩]
          have hc := (eqF p (formL m false)).2 e0
          replace hq := Lib.hid hq
          generalize (⟨(formL m false).toArray⟩ : ByteArray) = F0 at hc HF0
          clear hN e0 HF1
          go_wp2_with fail
          refine (HB.out _).mono ?_
          rintro e w' ⟨rfl, rfl⟩
          go_wp2_with fail
          refine (HF0.out _).mono ?_
          rintro e w' ⟨rfl, rfl⟩
          go_wp2
          go_ret2
          exact ⟨by rw [hq.out, hd1]; rfl, hB1⟩
        · have hc := Bool.eq_false_iff.2 (fun h => e0 ((eqF p (formL m false)).1 h))
          by_cases e1 : p.data.toList = formL m true
          · have hq : numL s.data.toList = (m : Int) := by rw [hN.out, if_pos ⟨hl20, hin, Or.inr e1⟩]
            have hc1 := (eqF p (formL m true)).2 e1
            replace hq := Lib.hid hq
            generalize (⟨(formL m false).toArray⟩ : ByteArray) = F0 at hc HF0
            generalize (⟨(formL m true).toArray⟩ : ByteArray) = F1 at hc1 HF1
            clear hN e0 e1
            go_wp2_with fail
            refine (HB.out _).mono ?_
            rintro e w' ⟨rfl, rfl⟩
            go_wp2_with fail
            refine (HF0.out _).mono ?_
            rintro e w' ⟨rfl, rfl⟩
            go_wp2_with fail
            refine (HF1.out _).mono ?_
            rintro e w' ⟨rfl, rfl⟩
            go_wp2
            go_ret2
            exact ⟨by rw [hq.out, hd1]; rfl, hB1⟩
          · have hq : numL s.data.toList = 0 := by rw [hN.out, if_neg (fun h => h.2.2.elim e0 e1)]
            have hc1 := Bool.eq_false_iff.2 (fun h => e1 ((eqF p (formL m true)).1 h))
            replace hq := Lib.hid hq
            generalize (⟨(formL m false).toArray⟩ : ByteArray) = F0 at hc HF0
            generalize (⟨(formL m true).toArray⟩ : ByteArray) = F1 at hc1 HF1
            clear hN e0 e1 hd1
            go_wp2_with fail
            refine (HB.out _).mono ?_
            rintro e w' ⟨rfl, rfl⟩
            go_wp2_with fail
            refine (HF0.out _).mono ?_
            rintro e w' ⟨rfl, rfl⟩
            go_wp2_with fail
            refine (HF1.out _).mono ?_
            rintro e w' ⟨rfl, rfl⟩
            go_wp2
            go_ret2
            exact ⟨by rw [hq.out]; rfl, hB1⟩
      · have hi : inB n 1 3999 = false := by unfold inB; simp; omega
        have hq : numL s.data.toList = 0 := by rw [hN.out, if_neg (fun h => hin h.2.1)]
        rw [hi] at HB
        replace hq := Lib.hid hq
        clear hN hin
        go_wp2_with fail
        refine (HB.out _).mono ?_
        rintro e w' ⟨rfl, rfl⟩
        go_wp2
        go_ret2
        exact ⟨by rw [hq.out]; rfl, hB1⟩
set_option maxRecDepth 100000 in
theorem specReadNumeral_long (s : ByteArray) (hs : 20 < s.size) (w : World) :
    Calls Tryz.prog 159 #[.string s] w fun e w' => e = .returned (.tuple #[.int .i64 (numL s.data.toList), .bool (decide (1 ≤ numL s.data.toList))]) ∧ Below w.heap.size w w' := by
  have hz : 20 < (s.size : Int) := by omega
  have hq : numL s.data.toList = 0 := by
    unfold numL
    exact if_neg (fun h => by have := h.1; rw [Array.length_toList] at this; exact absurd hs (Nat.not_lt.2 this))
  replace hq := Lib.hid hq
  go_enter Tryz.func159, Tryz.ntmps159
  go_wp2
  go_ret2
  exact ⟨by rw [hq.out]; rfl, Below.refl _ _⟩
end

section
open Go.ChangeShapes Go.WideShapes Go.ChangeAt Go.RowKit Go.IntWalk

set_option maxRecDepth 100000 in
set_option maxHeartbeats 2000000 in
theorem specReadNumber_of (s : ByteArray)
    (HR : ∀ w : World, Calls Tryz.prog 159 #[.string s] w fun e w' => e = .returned (.tuple #[.int .i64 (numL s.data.toList), .bool (decide (1 ≤ numL s.data.toList))]) ∧ Below w.heap.size w w') (w : World) :
    Calls Tryz.prog 115 #[.string s] w fun e w' => e = .returned (.tuple #[.int .i64 (rnB s), .bool (decide (1 ≤ rnB s))]) ∧ Below w.heap.size w w' := by
  have HD := Lib.hid (fun W => l01Digits_any s W)
  replace HR := Lib.hid HR
  have hparse := Lib.hid (fun (v : Int) (h0 : 1 ≤ v) (h1 : v ≤ 3999) (h : decB v = s) => rnB_parsed h0 h1 h)
  have hdig := Lib.hid (rnB_digits (s := s))
  go_enter Tryz.func115, Tryz.ntmps115
  go_wp2_with fail
  refine (HD.out _).mono ?_
  rintro e w1 ⟨⟨v, ok, rfl, hO⟩, hB1⟩
  cases ok with
  | false =>
    have hq : rnB s = numL s.data.toList := hdig.out (fun h => hO.2.2 rfl ⟨h.1.2, h.2⟩)
    replace hq := Lib.hid hq
    clear hO hparse hdig
    go_wp2_with fail
    refine (HR.out _).mono ?_
    rintro e w2 ⟨rfl, hB2⟩
    go_wp2
    go_ret2
    exact ⟨by rw [hq.out]; rfl, stepB hB1 hB2 hB1.size⟩
  | true =>
    obtain ⟨hv, hs⟩ := hO.2.1 rfl
    have HB := Lib.hid (fun W => l09Number_any v W)
    by_cases hin : 1 ≤ v ∧ v ≤ 3999
    · have hi : inB v 1 3999 = true := by unfold inB; simp; omega
      have hq : rnB s = v := hparse.out v hin.1 hin.2 hs
      have hd1 : decide (1 ≤ v) = true := by simp; omega
      replace hq := Lib.hid hq
      rw [hi] at HB
      clear hO hparse hdig hv hs
      go_wp2_with fail
      refine (HB.out _).mono ?_
      rintro e w' ⟨rfl, rfl⟩
      go_wp2
      go_ret2
      exact ⟨by rw [hq.out, hd1]; rfl, hB1⟩
    · have hi : inB v 1 3999 = false := by unfold inB; simp; omega
      have hq : rnB s = numL s.data.toList := hdig.out (fun h => by omega)
      replace hq := Lib.hid hq
      rw [hi] at HB
      clear hO hparse hdig hv hs hin
      go_wp2_with fail
      refine (HB.out _).mono ?_
      rintro e w' ⟨rfl, rfl⟩
      go_wp2_with fail
      refine (HR.out _).mono ?_
      rintro e w2 ⟨rfl, hB2⟩
      go_wp2
      go_ret2
      exact ⟨by rw [hq.out]; rfl, stepB hB1 hB2 hB1.size⟩
end

section
open Go.ChangeShapes Go.WideShapes Go.ChangeAt Go.RowKit Go.IntWalk

/-- A row of bytes that may be written. -/
def OB (w : World) (g : Nat) (L : List UInt8) : Prop := ∀ k c, L[k]? = some c → w.cell? ⟨g, k, none⟩ = some (.int .u8 (c.toNat : Int)) ∧ w.frozen? ⟨g, k, none⟩ = false
theorem ob_set {w : World} {g : Nat} {L : List UInt8} (h : OB w g L) (k : Nat) (b : UInt8) (v : Int) (hv : v = (b.toNat : Int)) (hk : k < L.length) : OB (w.setCell ⟨g, k, none⟩ (.int .u8 v)) g (L.set k b) := by
  subst hv
  intro j c hj
  rw [List.getElem?_set] at hj
  rw [World.frozen?_setCell]
  by_cases e : k = j
  · subst e
    rw [if_pos rfl, if_pos hk, Option.some.injEq] at hj
    subst hj
    have := h k L[k] (List.getElem?_eq_getElem hk)
    exact ⟨World.cell?_setCell_same _ _ _ this.1, this.2⟩
  · rw [if_neg e] at hj
    have := h j c hj
    exact ⟨by rw [World.cell?_setCell_other _ _ _ _ (fun ee => e (by cases ee; rfl))]; exact this.1, this.2⟩
theorem ob_new (w : World) (e : TypeId) (s : ByteArray) : OB (Lib.bytesWorld w e s) w.heap.size s.data.toList := by
  intro k c h
  obtain ⟨hl, rfl⟩ := List.getElem?_eq_some_iff.1 h
  have hk : k < s.size := by simpa using hl
  refine ⟨by rw [Lib.bytesWorld_cell w e s k hk, List.getD_eq_getElem?_getD, h]; rfl, ?_⟩
  unfold World.frozen?
  rw [Lib.bytesWorld_at_new]
  have : s.size ≤ (Lib.bytesCells w e s).size := by
    unfold Lib.bytesCells
    simp
  simp
  omega
/-- The bytes when the first k are done. -/
def PL (s : ByteArray) (k : Nat) (L : List UInt8) : Prop := L.length = s.size ∧ (∀ j, j < k → L[j]? = (plL s.data.toList)[j]?) ∧ (∀ j, k ≤ j → L[j]? = s.data.toList[j]?)
theorem pl_step {s : ByteArray} {k : Nat} {L : List UInt8} (h : PL s k L) (hk : k < s.size) (c : UInt8) (hc : (plL s.data.toList)[k]? = some c) : PL s (k + 1) (L.set k c) := by
  refine ⟨by rw [List.length_set]; exact h.1, fun j hj => ?_, fun j hj => ?_⟩
  · rw [List.getElem?_set]
    by_cases e : k = j
    · subst e; rw [if_pos rfl, if_pos (by rw [h.1]; exact hk), hc]
    · rw [if_neg e]; exact h.2.1 j (by omega)
  · rw [List.getElem?_set, if_neg (by omega)]
    exact h.2.2 j (by omega)
theorem pl_keep {s : ByteArray} {k : Nat} {L : List UInt8} (h : PL s k L) (c : UInt8) (h0 : L[k]? = some c) (hc : (plL s.data.toList)[k]? = some c) : PL s (k + 1) L := by
  refine ⟨h.1, fun j hj => ?_, fun j hj => h.2.2 j (by omega)⟩
  by_cases e : k = j
  · subst e; rw [h0, hc]
  · exact h.2.1 j (by omega)
theorem pl_end {s : ByteArray} {L : List UInt8} (h : PL s s.size L) : L = plL s.data.toList := by
  refine List.ext_getElem? (fun j => ?_)
  by_cases hj : j < s.size
  · exact h.2.1 j hj
  · rw [List.getElem?_eq_none (by rw [h.1]; omega), List.getElem?_eq_none (by rw [plL_length, Array.length_toList]; show s.size ≤ j; omega)]
theorem plL_get? {s : ByteArray} {k : Nat} {c : UInt8} (h : s.data.toList[k]? = some c) : (plL s.data.toList)[k]? = some (if c = 106 ∧ k + 1 = s.size then 105 else uv c) := by
  obtain ⟨hl, rfl⟩ := List.getElem?_eq_some_iff.1 h
  rw [List.getElem?_eq_getElem (by rw [plL_length]; exact hl), plL_get _ _ hl]
  rw [Array.length_toList]
  rfl
theorem below_set {g : Nat} {w W : World} (h : Below g w W) (k : Nat) (v : Value) : Below g w (W.setCell ⟨g, k, none⟩ v) :=
  ⟨h.os, h.tape, h.output, by show w.heap.size ≤ (W.heap.modify _ _).size; rw [Array.size_modify]; exact h.size, fun j hj => by
    show (W.heap.modify g _)[j]? = _
    rw [Array.getElem?_modify, if_neg (by omega)]
    exact h.block j hj⟩
set_option maxRecDepth 100000 in
set_option maxHeartbeats 2000000 in
theorem l09Plain_any (s : ByteArray) (hs : s.size ≤ 20) (w : World) :
    Calls Tryz.prog 204 #[.string s] w fun e w' => e = .returned (.string ⟨(plL s.data.toList).toArray⟩) ∧ Below w.heap.size w w' := by
  have hcv := Lib.run_convert_string_bytes (P := Tryz.prog) w 9 28 5 s Tryz.underlying9 Tryz.underlying28 Tryz.underlying5
  have hO := ob_new w 5 s
  have hB := Lib.bytesWorld_below w 5 s
  generalize grownCap w s.size 0 5 = cp at hcv
  generalize Lib.bytesWorld w 5 s = w1 at hcv hO hB
  go_enter Tryz.func204, Tryz.ntmps204
  go_wp2
  clear hcv
  go_loopw [4] (fun i wr => ∃ (k : Nat) (L : List UInt8), k ≤ s.size ∧ i = .int .i64 k ∧ Hid (PL s k L) ∧ Hid (OB wr w.heap.size L) ∧ Below w.heap.size w wr) (fun i _ => s.size - (intOf i).toNat)
  case atStart => exact ⟨0, s.data.toList, Nat.zero_le _, rfl, Lib.hid ⟨by rw [Array.length_toList]; rfl, fun j hj => absurd hj (Nat.not_lt_zero j), fun j _ => rfl⟩, Lib.hid hO, hB⟩
  case round =>
    clear hO hB
    obtain ⟨k, L, hk, rfl, hP, hO, hB⟩ := hrel
    generalize hg : w.heap.size = g at hO hB ⊢
    by_cases hlt : k < s.size
    · have hk1 : (k : Int) < (s.size : Int) := by omega
      have v0 : IntKind.i64.wrap ((k : Int) + 1) = ((k + 1 : Nat) : Int) := by rw [IntKind.wrap_i64]; omega
      have hL : k < L.length := by rw [hP.out.1]; exact hlt
      have hc := List.getElem?_eq_getElem hL
      generalize L[k] = c at hc
      have hpl := plL_get? (by rw [← hP.out.2.2 k (Nat.le_refl _)]; exact hc)
      obtain ⟨c0, f0⟩ := hO.out k c hc
      by_cases h1 : c = 117
      · subst h1
        have hq : PL s (k + 1) (L.set k 118) := pl_step hP.out hlt 118 hpl
        have hN := ob_set hO.out k 118 118 rfl hL
        have hB2 := below_set hB k (.int .u8 118)
        replace c0 : wr.cell? ⟨g, k, none⟩ = some (.int .u8 117) := c0
        replace hq := Lib.hid hq
        replace hN := Lib.hid hN
        clear hpl hc hP hO
        go_wp2
        go_roundw
        case rel => exact ⟨k + 1, L.set k 118, by omega, rfl, hq, hN, hB2⟩
        case measure => simp only [intOf]; omega
      · have n1 : ¬ (c.toNat : Int) = 117 := fun h => h1 (UInt8.toNat_inj.1 (by show c.toNat = 117; omega))
        by_cases h2 : c = 106 ∧ k + 1 = s.size
        · obtain ⟨rfl, hk2⟩ := h2
          have hq : PL s (k + 1) (L.set k 105) := pl_step hP.out hlt 105 (by rw [hpl, if_pos ⟨rfl, hk2⟩])
          have hN := ob_set hO.out k 105 105 rfl hL
          have hB2 := below_set hB k (.int .u8 105)
          have v6 : IntKind.i64.wrap ((s.size : Int) - 1) = (k : Int) := by rw [IntKind.wrap_i64]; omega
          replace c0 : wr.cell? ⟨g, k, none⟩ = some (.int .u8 106) := c0
          replace hq := Lib.hid hq
          replace hN := Lib.hid hN
          replace hk2 := Lib.hid hk2
          clear hpl hc hP hO h1 n1
          go_wp2
          go_roundw
          case rel => exact ⟨k + 1, L.set k 105, by omega, rfl, hq, hN, hB2⟩
          case measure => simp only [intOf]; omega
        · have hq : PL s (k + 1) L := pl_keep hP.out c hc (by rw [hpl, if_neg h2]; unfold uv; rw [if_neg h1])
          have v6 : IntKind.i64.wrap ((s.size : Int) - 1) = (s.size : Int) - 1 := by rw [IntKind.wrap_i64]; omega
          replace hq := Lib.hid hq
          by_cases h3 : c = 106
          · subst h3
            have hne : ((k : Int) == (s.size : Int) - 1) = false := by simp; intro h; exact h2 ⟨rfl, by omega⟩
            replace c0 : wr.cell? ⟨g, k, none⟩ = some (.int .u8 106) := c0
            clear hpl hc hP h1 h2 n1
            go_wp2
            go_roundw
            case rel => exact ⟨k + 1, L, by omega, rfl, hq, hO, hB⟩
            case measure => simp only [intOf]; omega
          · have n2 : ¬ (c.toNat : Int) = 106 := fun h => h3 (UInt8.toNat_inj.1 (by show c.toNat = 106; omega))
            clear hpl hc hP h1 h2 h3
            go_wp2
            go_roundw
            case rel => exact ⟨k + 1, L, by omega, rfl, hq, hO, hB⟩
            case measure => simp only [intOf]; omega
    · have hk1 : ¬ (k : Int) < (s.size : Int) := by omega
      obtain rfl : k = s.size := by omega
      have hcv2 := run_convert_bytes_back (P := Tryz.prog) wr 28 9 5 ⟨g, 0, none⟩ cp L Tryz.underlying28 Tryz.underlying5 Tryz.underlying9 (fun j hj => by
        have := (hO.out j L[j] (List.getElem?_eq_getElem hj)).1
        by_cases e : j = 0
        · subst e; simpa [Addr.add] using this
        · simpa [Addr.add, e] using this)
      have hL := pl_end hP.out
      rw [hP.out.1, hL] at hcv2
      clear hP hO hL
      generalize hR : (⟨(plL s.data.toList).toArray⟩ : ByteArray) = R at hcv2
      replace hR := Lib.hid hR
      go_wp2
      go_ret
      exact ⟨by rw [hR.out]; rfl, hB⟩
theorem specReadNumeral_any (s : ByteArray) (w : World) :
    Calls Tryz.prog 159 #[.string s] w fun e w' => e = .returned (.tuple #[.int .i64 (numL s.data.toList), .bool (decide (1 ≤ numL s.data.toList))]) ∧ Below w.heap.size w w' := by
  by_cases h : 20 < s.size
  · exact specReadNumeral_long s h w
  · refine specReadNumeral_of s ⟨(plL s.data.toList).toArray⟩ h ?_ rfl (fun W => l09Plain_any s (by omega) W) w
    show ((plL s.data.toList).toArray).size = s.size
    rw [List.size_toArray, plL_length, Array.length_toList]
    rfl
theorem specReadNumber_any (s : ByteArray) (w : World) :
    Calls Tryz.prog 115 #[.string s] w fun e w' => e = .returned (.tuple #[.int .i64 (rnB s), .bool (decide (1 ≤ rnB s))]) ∧ Below w.heap.size w w' :=
  specReadNumber_of s (specReadNumeral_any s) w
end
end Go.Proofs.YteajkofgcmfaoaaGreatDoor
