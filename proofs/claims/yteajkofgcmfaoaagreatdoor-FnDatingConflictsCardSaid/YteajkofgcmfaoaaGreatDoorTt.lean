/- Walks: Stay: rows, sizes, copies, a comparison with itself. Printed by gen_types.py. -/
import Derived.Test.YteajkofgcmfaoaaGreatDoorDk
namespace Go.Proofs.YteajkofgcmfaoaaGreatDoor
section
open Go.ChangeShapes Go.WideShapes Go.ChangeAt Go.RowKit

def encS (m : ByteArray) : List Value := [.string m]
theorem encS_len (m : ByteArray) : (encS m).length = 1 := rfl
theorem Rd.s {w : World} {a : Option Addr} {xs : List ByteArray} (h : Rd encS w a xs) {i : Nat} {m : ByteArray} (hi : xs[i]? = some m) :
    ∃ b off, a = some ⟨b, off, none⟩ ∧ b < w.heap.size ∧ w.cell? ⟨b, off + i, none⟩ = some (.string m) := by
  obtain ⟨b, off, ha, hb, hc⟩ := h i m hi
  have h0 := hc 0 _ rfl
  rw [encS_len, Nat.mul_one, Nat.add_zero] at h0
  exact ⟨b, off, ha, hb, h0⟩

theorem infoS : (Tryz.prog.info? 9).map (fun i => (i.zero, i.size, i.bytes)) = some (some (.string ⟨#[]⟩), 1, 16) := by kernel_rfl
end

section
open Go.ChangeShapes Go.WideShapes Go.ChangeAt Go.RowKit

structure Cl where
  kind : Int
  number : Int
  month : Int
  feast : Int
  relation : Int
  weekday : Int
  style : Int
  king : ByteArray
def encCl (m : Cl) : List Value := [.int .i64 m.kind, .int .i64 m.number, .int .i64 m.month, .int .i64 m.feast, .int .i64 m.relation, .int .i64 m.weekday, .int .i64 m.style, .string m.king]
theorem encCl_len (m : Cl) : (encCl m).length = 8 := rfl
theorem Rd.cl {w : World} {a : Option Addr} {xs : List Cl} (h : Rd encCl w a xs) {i : Nat} {m : Cl} (hi : xs[i]? = some m) :
    ∃ b off, a = some ⟨b, off, none⟩ ∧ b < w.heap.size ∧ w.cell? ⟨b, off + i * 8, none⟩ = some (.int .i64 m.kind) ∧ w.cell? ⟨b, off + i * 8 + 1, none⟩ = some (.int .i64 m.number) ∧ w.cell? ⟨b, off + i * 8 + 2, none⟩ = some (.int .i64 m.month) ∧ w.cell? ⟨b, off + i * 8 + 3, none⟩ = some (.int .i64 m.feast) ∧ w.cell? ⟨b, off + i * 8 + 4, none⟩ = some (.int .i64 m.relation) ∧ w.cell? ⟨b, off + i * 8 + 5, none⟩ = some (.int .i64 m.weekday) ∧ w.cell? ⟨b, off + i * 8 + 6, none⟩ = some (.int .i64 m.style) ∧ w.cell? ⟨b, off + i * 8 + 7, none⟩ = some (.string m.king) := by
  obtain ⟨b, off, ha, hb, hc⟩ := h i m hi
  exact ⟨b, off, ha, hb, hc 0 _ rfl, hc 1 _ rfl, hc 2 _ rfl, hc 3 _ rfl, hc 4 _ rfl, hc 5 _ rfl, hc 6 _ rfl, hc 7 _ rfl⟩
def szCl (m : Cl) : Nat := m.king.size

theorem infoCl : (Tryz.prog.info? 31).map (fun i => (i.zero, i.size, i.bytes)) = some (some (.agg #[.int .i64 0, .int .i64 0, .int .i64 0, .int .i64 0, .int .i64 0, .int .i64 0, .int .i64 0, .string ⟨#[]⟩]), 8, 72) := by kernel_rfl
end

section
open Go.ChangeShapes Go.WideShapes Go.ChangeAt Go.RowKit

structure Sp where
  fr : Int
  to : Int
def encSp (m : Sp) : List Value := [.int .i64 m.fr, .int .i64 m.to]
theorem encSp_len (m : Sp) : (encSp m).length = 2 := rfl
theorem Rd.sp {w : World} {a : Option Addr} {xs : List Sp} (h : Rd encSp w a xs) {i : Nat} {m : Sp} (hi : xs[i]? = some m) :
    ∃ b off, a = some ⟨b, off, none⟩ ∧ b < w.heap.size ∧ w.cell? ⟨b, off + i * 2, none⟩ = some (.int .i64 m.fr) ∧ w.cell? ⟨b, off + i * 2 + 1, none⟩ = some (.int .i64 m.to) := by
  obtain ⟨b, off, ha, hb, hc⟩ := h i m hi
  exact ⟨b, off, ha, hb, hc 0 _ rfl, hc 1 _ rfl⟩
theorem infoSp : (Tryz.prog.info? 126).map (fun i => (i.zero, i.size, i.bytes)) = some (some (.agg #[.int .i64 0, .int .i64 0]), 2, 16) := by kernel_rfl
end

section
open Go.ChangeShapes Go.WideShapes Go.ChangeAt Go.RowKit

def encI (m : Int) : List Value := [.int .i64 m]
theorem encI_len (m : Int) : (encI m).length = 1 := rfl
theorem Rd.i {w : World} {a : Option Addr} {xs : List Int} (h : Rd encI w a xs) {i : Nat} {m : Int} (hi : xs[i]? = some m) :
    ∃ b off, a = some ⟨b, off, none⟩ ∧ b < w.heap.size ∧ w.cell? ⟨b, off + i, none⟩ = some (.int .i64 m) := by
  obtain ⟨b, off, ha, hb, hc⟩ := h i m hi
  have h0 := hc 0 _ rfl
  rw [encI_len, Nat.mul_one, Nat.add_zero] at h0
  exact ⟨b, off, ha, hb, h0⟩
end

section
open Go.ChangeShapes Go.WideShapes Go.ChangeAt Go.RowKit

structure Wy where
  a : Int
  b : Int
  days : Int
end

section
open Go.ChangeShapes Go.WideShapes Go.ChangeAt Go.RowKit

structure St where
  place : Int
  fr : Int
  to : Int
def encSt (m : St) : List Value := [.int .i64 m.place, .int .i64 m.fr, .int .i64 m.to]
theorem Rd.st {w : World} {a : Option Addr} {xs : List St} (h : Rd encSt w a xs) {i : Nat} {m : St} (hi : xs[i]? = some m) :
    ∃ b off, a = some ⟨b, off, none⟩ ∧ b < w.heap.size ∧ w.cell? ⟨b, off + i * 3, none⟩ = some (.int .i64 m.place) ∧ w.cell? ⟨b, off + i * 3 + 1, none⟩ = some (.int .i64 m.fr) ∧ w.cell? ⟨b, off + i * 3 + 2, none⟩ = some (.int .i64 m.to) := by
  obtain ⟨b, off, ha, hb, hc⟩ := h i m hi
  exact ⟨b, off, ha, hb, hc 0 _ rfl, hc 1 _ rfl, hc 2 _ rfl⟩
end
end Go.Proofs.YteajkofgcmfaoaaGreatDoor
