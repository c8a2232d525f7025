/- Walks: LongestUse, the reference's and the program's. -/
import Derived.Test.YtdocebblppijmaaDoorMarkSpec
import Derived.Test.YtdocebblppijmaaDoorMarkImpl
namespace Go.Proofs.YtdocebblppijmaaDoor
open Go.ChangeShapes Go.WideShapes Go.ChangeAt Go.RowKit

theorem upGo_all {α : Type} {ok : α → Bool} {lt : α → α → Bool} : ∀ {xs : List α} {p : Option α}, upGo ok lt p xs = true → ∀ x ∈ xs, ok x = true
  | [], _, _, _, hx => by cases hx
  | y :: ys, p, h, x, hx => by
    have h' : ok y = true ∧ upGo ok lt (some y) ys = true := by
      cases p <;> simp [upGo] at h <;> simp [h]
    rcases List.mem_cons.1 hx with rfl | hx
    · exact h'.1
    · exact upGo_all h'.2 x hx
theorem areMarks_bd {xs : List Mk} (h : areMarksB xs = true) : ∀ m ∈ xs, 0 ≤ m.fr ∧ m.fr ≤ m.to ∧ m.to ≤ 730499 := fun m hm => by
  unfold areMarksB at h
  rw [Bool.and_eq_true] at h
  have h1 := upGo_all h.1 m hm
  unfold okMk at h1
  rw [Bool.and_eq_true] at h1
  exact spanB_bd h1.2
/-- The index of the longest among the first k. -/
def bestU (xs : List Mk) : Nat → Nat
  | 0 => 0
  | k + 1 => match xs[k]?, xs[bestU xs k]? with
    | some m, some p => if p.to - p.fr < m.to - m.fr then k else bestU xs k
    | _, _ => bestU xs k
theorem bestU_le (xs : List Mk) (k : Nat) : bestU xs k ≤ k := by
  induction k with
  | zero => exact Nat.le_refl _
  | succ k ih =>
    unfold bestU
    split
    · split <;> omega
    · omega
theorem bestU_lt (xs : List Mk) (k : Nat) (h : 0 < xs.length) (hk : k ≤ xs.length) : bestU xs k < xs.length := by
  induction k with
  | zero => exact h
  | succ k ih =>
    unfold bestU
    split
    · split
      · omega
      · exact ih (by omega)
    · exact ih (by omega)
theorem bestU_succ {xs : List Mk} {k : Nat} {m p : Mk} (hm : xs[k]? = some m) (hp : xs[bestU xs k]? = some p) : bestU xs (k + 1) = if p.to - p.fr < m.to - m.fr then k else bestU xs k := by
  show (match xs[k]?, xs[bestU xs k]? with | some m, some p => if p.to - p.fr < m.to - m.fr then k else bestU xs k | _, _ => bestU xs k) = _
  rw [hm, hp]
def longestR (xs : List Mk) : Int × Int := if areMarksB xs = true then if xs.length = 0 then (0, 4) else (((bestU xs xs.length : Nat) : Int), 0) else (0, 1)

set_option maxHeartbeats 1000000 in
theorem specLongest_any (a : Option Addr) (cap : Nat) (xs : List Mk) (w : World) (hl : xs.length ≤ 1048576) (hx : Rd encMk w a xs) (hs : ∀ m ∈ xs, m.name.size ≤ 1048576) :
    Calls Tryd.prog 25 #[.slice a xs.length cap] w fun e w' => e = .returned (.tuple #[.int .i64 (longestR xs).1, .int .i64 (longestR xs).2]) ∧ Below w.heap.size w w' := by
  have HL : Hid (longestR xs = if areMarksB xs = true then if xs.length = 0 then (0, 4) else (((bestU xs xs.length : Nat) : Int), 0) else (0, 1)) := rfl
  generalize longestR xs = R at HL ⊢
  cases hA : areMarksB xs
  · go_enter Tryd.func25, Tryd.ntmps25
    go_wp2_with (go_at_call 21; refine (specAreMarks_any _ _ _ _ hl hx hs).mono ?_; rintro e w1 ⟨rfl, hB1⟩)
    go_ret2
    exact ⟨ret_two (by rw [HL.out, hA]; rfl) (by rw [HL.out, hA]; rfl), by assumption⟩
  · by_cases hn : xs.length = 0
    · have hn' : (((xs.length : Nat) : Int) == 0) = true := by rw [hn]; rfl
      have HN := Lib.hid hn
      clear hn
      go_enter Tryd.func25, Tryd.ntmps25
      go_wp2_with (go_at_call 21; refine (specAreMarks_any _ _ _ _ hl hx hs).mono ?_; rintro e w1 ⟨rfl, hB1⟩)
      go_ret2
      exact ⟨ret_two (by rw [HL.out, hA, if_pos rfl, if_pos HN.out]) (by rw [HL.out, hA, if_pos rfl, if_pos HN.out]), by assumption⟩
    · have hn' : (((xs.length : Nat) : Int) == 0) = false := by simp; intro h; exact hn (by simp [h])
      have hbd := areMarks_bd hA
      go_enter Tryd.func25, Tryd.ntmps25
      go_wp2_with fail
      refine (specAreMarks_any _ _ _ _ hl hx hs).mono ?_
      rintro e w1 ⟨rfl, hB1⟩
      go_wp2
      go_loopw [4, 5] (fun b i wr => ∃ (k : Nat), k ≤ xs.length ∧ i = .int .i64 k ∧ b = .int .i64 (bestU xs k : Nat) ∧ Below w.heap.size w wr) (fun _ i _ => xs.length - (intOf i).toNat)
      case atStart => exact ⟨0, Nat.zero_le _, rfl, rfl, hB1⟩
      case round =>
        obtain ⟨k, hk, rfl, rfl, hB⟩ := hrel
        by_cases hlt : k < xs.length
        · have hm := List.getElem?_eq_getElem hlt
          generalize xs[k] = m at hm
          have hbl := bestU_lt xs k (by omega) hk
          have hp := List.getElem?_eq_getElem hbl
          generalize xs[bestU xs k] = p at hp
          have HS := Lib.hid (bestU_succ hm hp)
          have hbm := hbd m (List.mem_of_getElem? hm)
          have hbp := hbd p (List.mem_of_getElem? hp)
          obtain ⟨b, off, rfl, hb, c0, c1, c2⟩ := (hx.below hB).mk hm
          obtain ⟨_, _, e', _, p0, p1, p2⟩ := (hx.below hB).mk hp
          simp only [Option.some.injEq, Addr.mk.injEq, and_true] at e'
          obtain ⟨rfl, rfl⟩ := e'
          clear hm hp hA hn
          generalize bestU xs k = q at *
          have hq0 : (0 : Int) ≤ (q : Int) := by omega
          have hq1 : (q : Int) < (xs.length : Int) := by omega
          have hk1 : (k : Int) < (xs.length : Int) := by omega
          by_cases hc : p.to - p.fr < m.to - m.fr
          · go_wp2_with fail
            go_quiet (fail)
            go_wp2
            go_roundw
            case rel => exact ⟨k + 1, by omega, by go_num, by rw [HS.out, if_pos hc], drewB hB _⟩
            case measure => simp [intOf]; omega
          · have hc' : decide (p.to - p.fr < m.to - m.fr) = false := by simpa using hc
            go_wp2_with fail
            go_quiet (fail)
            go_wp2
            go_roundw
            case rel => exact ⟨k + 1, by omega, by go_num, by rw [HS.out, if_neg (by omega)], drewB hB _⟩
            case measure => simp [intOf]; omega
        · obtain rfl : k = xs.length := by omega
          go_wp2
          go_ret2
          exact ⟨ret_two (by rw [HL.out, if_pos hA, if_neg hn]) (by rw [HL.out, if_pos hA, if_neg hn]), hB⟩
set_option maxHeartbeats 1000000 in
theorem implLongest_any (a : Option Addr) (cap : Nat) (xs : List Mk) (w : World) (hl : xs.length ≤ 1048576) (hx : Rd encMk w a xs) (hs : ∀ m ∈ xs, m.name.size ≤ 1048576) :
    Calls Tryd.prog 26 #[.slice a xs.length cap] w fun e w' => e = .returned (.tuple #[.int .i64 (longestR xs).1, .int .i64 (longestR xs).2]) ∧ Below w.heap.size w w' := by
  have HL : Hid (longestR xs = if areMarksB xs = true then if xs.length = 0 then (0, 4) else (((bestU xs xs.length : Nat) : Int), 0) else (0, 1)) := rfl
  generalize longestR xs = R at HL ⊢
  cases hA : areMarksB xs
  · go_enter Tryd.func26, Tryd.ntmps26
    go_wp2_with (go_at_call 23; refine (implAreMarks_any _ _ _ _ hl hx hs).mono ?_; rintro e w1 ⟨rfl, hB1⟩)
    go_ret2
    exact ⟨ret_two (by rw [HL.out, hA]; rfl) (by rw [HL.out, hA]; rfl), by assumption⟩
  · by_cases hn : xs.length = 0
    · have hn' : (((xs.length : Nat) : Int) == 0) = true := by rw [hn]; rfl
      have HN := Lib.hid hn
      clear hn
      go_enter Tryd.func26, Tryd.ntmps26
      go_wp2_with (go_at_call 23; refine (implAreMarks_any _ _ _ _ hl hx hs).mono ?_; rintro e w1 ⟨rfl, hB1⟩)
      go_ret2
      exact ⟨ret_two (by rw [HL.out, hA, if_pos rfl, if_pos HN.out]) (by rw [HL.out, hA, if_pos rfl, if_pos HN.out]), by assumption⟩
    · have hn' : (((xs.length : Nat) : Int) == 0) = false := by simp; intro h; exact hn (by simp [h])
      have hbd := areMarks_bd hA
      go_enter Tryd.func26, Tryd.ntmps26
      go_wp2_with fail
      refine (implAreMarks_any _ _ _ _ hl hx hs).mono ?_
      rintro e w1 ⟨rfl, hB1⟩
      go_wp2
      go_loopw [4, 17] (fun b i wr => ∃ (k : Nat), k ≤ xs.length ∧ i = .int .i64 k ∧ b = .int .i64 (bestU xs k : Nat) ∧ Below w.heap.size w wr) (fun _ i _ => xs.length - (intOf i).toNat)
      case atStart => exact ⟨0, Nat.zero_le _, rfl, rfl, hB1⟩
      case round =>
        obtain ⟨k, hk, rfl, rfl, hB⟩ := hrel
        by_cases hlt : k < xs.length
        · have hm := List.getElem?_eq_getElem hlt
          generalize xs[k] = m at hm
          have hbl := bestU_lt xs k (by omega) hk
          have hp := List.getElem?_eq_getElem hbl
          generalize xs[bestU xs k] = p at hp
          have HS := Lib.hid (bestU_succ hm hp)
          have hbm := hbd m (List.mem_of_getElem? hm)
          have hbp := hbd p (List.mem_of_getElem? hp)
          obtain ⟨b, off, rfl, hb, c0, c1, c2⟩ := (hx.below hB).mk hm
          obtain ⟨_, _, e', _, p0, p1, p2⟩ := (hx.below hB).mk hp
          simp only [Option.some.injEq, Addr.mk.injEq, and_true] at e'
          obtain ⟨rfl, rfl⟩ := e'
          clear hm hp hA hn
          generalize bestU xs k = q at *
          have hq0 : (0 : Int) ≤ (q : Int) := by omega
          have hq1 : (q : Int) < (xs.length : Int) := by omega
          have hk1 : (k : Int) < (xs.length : Int) := by omega
          by_cases hc : p.to - p.fr < m.to - m.fr
          · go_wp2_with fail
            generalize hW : wr.alloc (.cells #[.string m.name, .int .i64 m.fr, .int .i64 m.to] 105) = W
            have hBW : Below w.heap.size w W := hW ▸ hB.alloc hB.size _
            have d1 : W.cell? ⟨wr.heap.size, 1, none⟩ = some (.int .i64 m.fr) := by rw [← hW]; exact World.cell?_alloc_at _ _ _ _ rfl
            have d2 : W.cell? ⟨wr.heap.size, 2, none⟩ = some (.int .i64 m.to) := by rw [← hW]; exact World.cell?_alloc_at _ _ _ _ rfl
            have q1 := (hW ▸ World.cell?_alloc_past _ _ _ hb : W.cell? _ = _).trans p1
            have q2 := (hW ▸ World.cell?_alloc_past _ _ _ hb : W.cell? _ = _).trans p2
            clear c0 c1 c2 p0 p1 p2 hW
            go_quiet (fail)
            go_wp2
            go_roundw
            case rel => exact ⟨k + 1, by omega, by go_num, by rw [HS.out, if_pos hc], drewB hBW _⟩
            case measure => simp [intOf]; omega
          · have hc' : decide (p.to - p.fr < m.to - m.fr) = false := by simpa using hc
            go_wp2_with fail
            generalize hW : wr.alloc (.cells #[.string m.name, .int .i64 m.fr, .int .i64 m.to] 105) = W
            have hBW : Below w.heap.size w W := hW ▸ hB.alloc hB.size _
            have d1 : W.cell? ⟨wr.heap.size, 1, none⟩ = some (.int .i64 m.fr) := by rw [← hW]; exact World.cell?_alloc_at _ _ _ _ rfl
            have d2 : W.cell? ⟨wr.heap.size, 2, none⟩ = some (.int .i64 m.to) := by rw [← hW]; exact World.cell?_alloc_at _ _ _ _ rfl
            have q1 := (hW ▸ World.cell?_alloc_past _ _ _ hb : W.cell? _ = _).trans p1
            have q2 := (hW ▸ World.cell?_alloc_past _ _ _ hb : W.cell? _ = _).trans p2
            clear c0 c1 c2 p0 p1 p2 hW
            go_quiet (fail)
            go_wp2
            go_roundw
            case rel => exact ⟨k + 1, by omega, by go_num, by rw [HS.out, if_neg (by omega)], drewB hBW _⟩
            case measure => simp [intOf]; omega
        · obtain rfl : k = xs.length := by omega
          go_wp2
          go_ret2
          exact ⟨ret_two (by rw [HL.out, if_pos hA, if_neg hn]) (by rw [HL.out, if_pos hA, if_neg hn]), hB⟩
end Go.Proofs.YtdocebblppijmaaDoor
