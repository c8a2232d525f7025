/- Walk: the text that the laws write into a string. -/
import Derived.Test.YtipdcgfdejmjfaaGreatDoorDays
namespace Go.Proofs.YtipdcgfdejmjfaaGreatDoor
open Go.ChangeShapes Go.WideShapes Go.ChangeAt Go.RowKit
def digB (n : Nat) : UInt8 := UInt8.ofNat (48 + n % 10)
def digsF : Nat → Nat → List UInt8 → List UInt8
  | 0, _, acc => acc
  | f + 1, n, acc => if n = 0 then acc else digsF f (n / 10) (digB n :: acc)
def mtxt (k : Int) : ByteArray := if k ≤ 0 then ⟨#[109, 48]⟩ else ⟨((109 : UInt8) :: digsF (k.toNat + 1) k.toNat []).toArray⟩
theorem digsF_step (f n : Nat) (acc : List UInt8) (h : 0 < n) : digsF (f + 1) n acc = digsF f (n / 10) (digB n :: acc) := if_neg (by omega)
theorem byte_text {P : Program} (src dst e : TypeId) (hs : P.underlying src = some (.slice e)) (he : P.underlying e = some (.int .u8)) (hd : P.underlying dst = some .string) (W : World) (v : Int) :
    (convert src dst (.slice (some ⟨W.heap.size, 0, none⟩) 1 1)).run P (W.alloc (.cells #[.int .u8 v] e)) = .ok (.string ⟨#[UInt8.ofNat v.toNat]⟩) (W.alloc (.cells #[.int .u8 v] e)) := by
  rw [run_convert_bytes_string _ src dst e _ _ _ hs he hd]
  have := run_bytesToString (P := P) (W.alloc (.cells #[.int .u8 v] e)) ⟨W.heap.size, 0, none⟩ 1 1 [v] (by simp [go_sem, loadCells, loadCellsFrom])
  rw [this]
  rfl
theorem text_cons (b : UInt8) (l : List UInt8) : (⟨#[b]⟩ : ByteArray) ++ ⟨l.toArray⟩ = ⟨(b :: l).toArray⟩ := by
  rw [show (#[b] : Array UInt8) = [b].toArray from rfl, ByteArray.mk_append_mk]
  simp














































end Go.Proofs.YtipdcgfdejmjfaaGreatDoor
