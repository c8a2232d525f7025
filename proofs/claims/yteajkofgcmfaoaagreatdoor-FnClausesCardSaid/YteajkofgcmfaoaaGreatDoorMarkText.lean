/- Walk: the text that the laws write into a string. -/
import Derived.Test.YteajkofgcmfaoaaGreatDoorDays
namespace Go.Proofs.YteajkofgcmfaoaaGreatDoor
open Go.ChangeShapes Go.WideShapes Go.ChangeAt Go.RowKit
def digB (n : Nat) : UInt8 := UInt8.ofNat (48 + n % 10)
def digsF : Nat → Nat → List UInt8 → List UInt8
  | 0, _, acc => acc
  | f + 1, n, acc => if n = 0 then acc else digsF f (n / 10) (digB n :: acc)
def mtxt (k : Int) : ByteArray := if k ≤ 0 then ⟨#[109, 48]⟩ else ⟨((109 : UInt8) :: digsF (k.toNat + 1) k.toNat []).toArray⟩
theorem digsF_step (f n : Nat) (acc : List UInt8) (h : 0 < n) : digsF (f + 1) n acc = digsF f (n / 10) (digB n :: acc) := if_neg (by omega)
theorem byte_text {P : Program} (src dst e : TypeId) (hs : P.underlying src = some (.slice e)) (he : P.underlying e = some (.int .u8)) (hd : P.underlying dst = some .string) (W : World) (v : Int) :
    (convert src dst (.slice (some ⟨W.heap.size, 0, none⟩) 1 1)).run P (W.alloc (.cells #[.int .u8 v] e)) = .ok (.string ⟨#[UInt8.ofNat v.toNat]⟩) (W.alloc (.cells #[.int .u8 v] e)) := by
  rw [run_convert_bytes_string _ src dst e _ _ _ hs he hd]
  have := run_bytesToString (P := P) (W.alloc (.cells #[.int .u8 v] e)) ⟨W.heap.size, 0, none⟩ 1 1 [v] (by simp [go_sem, loadCells, loadCellsFrom])
  rw [this]
  rfl
theorem text_cons (b : UInt8) (l : List UInt8) : (⟨#[b]⟩ : ByteArray) ++ ⟨l.toArray⟩ = ⟨(b :: l).toArray⟩ := by
  rw [show (#[b] : Array UInt8) = [b].toArray from rfl, ByteArray.mk_append_mk]
  simp
set_option maxRecDepth 100000 in
set_option maxHeartbeats 400000 in
theorem markText_any (k : Int) (w : World) (h : k ≤ 2147483647) :
    Calls Tryz.prog 41 #[.int .i64 k] w fun e w' => e = .returned (.string (mtxt k)) ∧ Below w.heap.size w w' := by
  by_cases h0 : k ≤ 0
  · go_enter Tryz.func41, Tryz.ntmps41
    go_wp2
    go_ret
    exact ⟨by simp [mtxt, h0], Below.refl _ _⟩
  · obtain ⟨n, rfl⟩ := Int.eq_ofNat_of_zero_le (show 0 ≤ k by omega)
    go_enter Tryz.func41, Tryz.ntmps41
    go_wp2
    go_loopw [0, 3] (fun q o wr => ∃ (m : Nat) (acc : List UInt8), q = .int .i64 m ∧ o = .string ⟨acc.toArray⟩ ∧ acc.length + m ≤ n ∧ Hid (∀ f, n < f → digsF f n [] = digsF (f - acc.length) m acc) ∧ Below w.heap.size w wr) (fun q _ _ => (intOf q).toNat)
    case atStart => exact ⟨n, [], rfl, rfl, by simp, fun f _ => rfl, Below.refl _ _⟩
    case round =>
      obtain ⟨m, acc, rfl, rfl, hm, hH, hB⟩ := hrel
      by_cases hlt : 0 < m
      · have hcv := byte_text (P := Tryz.prog) 28 9 5 Tryz.underlying28 Tryz.underlying5 Tryz.underlying9 wr (48 + (m : Int) % 10)
        have hsz : ((⟨#[UInt8.ofNat (48 + (m : Int) % 10).toNat]⟩ : ByteArray) ++ ⟨acc.toArray⟩) = ⟨(digB m :: acc).toArray⟩ := by
          rw [text_cons]; congr 3
        have hal : acc.length ≤ 2147483647 := by omega
        have HS := Lib.hid hsz
        clear hsz
        go_wp2
        go_roundw
        case rel =>
          refine ⟨m / 10, digB m :: acc, rfl, ?_, by simp; omega, fun f hf => ?_, hB.alloc hB.size _⟩
          · rw [← HS.out]
            congr 4
            rw [show (48 + (m : Int) % 10).toNat = 48 + m % 10 from by omega, UInt8.ofNat_add]
            rfl
          · rw [hH.out f hf]
            obtain ⟨g, hg⟩ : ∃ g, f - acc.length = g + 1 := ⟨f - acc.length - 1, by omega⟩
            rw [hg, digsF_step g m acc hlt]
            congr 1
            simp; omega
        case measure => simp [intOf]; omega
      · obtain rfl : m = 0 := by omega
        go_wp2
        go_ret
        refine ⟨?_, hB⟩
        have hk : digsF (n + 1) n [] = acc := by
          rw [hH.out (n + 1) (by omega)]
          cases n + 1 - acc.length <;> rfl
        show Ending.returned (.string (⟨#[109]⟩ ++ ⟨acc.toArray⟩)) = _
        rw [text_cons, mtxt, if_neg (by omega), Int.toNat_natCast, hk]
end Go.Proofs.YteajkofgcmfaoaaGreatDoor
