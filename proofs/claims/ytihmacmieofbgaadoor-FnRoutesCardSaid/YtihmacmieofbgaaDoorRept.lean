/- Walk: slices.Repeat of one number. -/
import Derived.Test.YtihmacmieofbgaaDoorRowI
import Derived.Test.YtihmacmieofbgaaDoorShelf
import Derived.Laws.CopyOwn
import Derived.Deep.RegionHeldLaw
namespace Go.Proofs.YtihmacmieofbgaaDoor
open Go.ChangeShapes Go.WideShapes Go.ChangeAt Go.RowKit

theorem own_full {B : Nat} {E : TypeId} {g n : Nat} {xs : List Value} {w : World} (h : w.ownsRow B E 1 (.slice (some ⟨g, 0, none⟩) n n) n xs) : w.heap[g]? = some (.cells xs.toArray E (0, 0)) := by
  rcases h.2 with ⟨h1, _⟩ | ⟨g', c', cur, e, hb, hh, hn, hc, hs, ht⟩
  · simp at h1
  · injection e with e1 e2 e3
    obtain rfl : g = g' := by simpa using e1
    subst e3
    rw [List.take_of_length_le (by rw [Array.length_toList]; omega)] at ht
    rw [hh, ← ht]
theorem full_own {B : Nat} {E : TypeId} {g n : Nat} {xs : List Value} {w : World} (h : w.heap[g]? = some (.cells xs.toArray E (0, 0))) (hl : xs.length = n) (hB : B ≤ g) (hn : n ≤ maxLen) : w.ownsRow B E 1 (.slice (some ⟨g, 0, none⟩) n n) n xs :=
  ⟨by omega, .inr ⟨g, n, xs.toArray, rfl, hB, h, Nat.le_refl _, hn, by simp [hl], List.take_of_length_le (by simp [hl])⟩⟩
theorem rowI_splice {n off m : Nat} (f : Nat → Int) (z : Int) (h : off + m ≤ n) : splice (rowI n f) off (List.replicate m (.int .i64 z)) = rowI n (fun j => if off ≤ j ∧ j < off + m then z else f j) := by
  apply List.ext_getElem?
  intro i
  unfold splice
  by_cases c1 : i < off
  · rw [List.getElem?_append_left (by rw [List.length_take, rowI_len]; omega), List.getElem?_take_of_lt c1, rowI_at _ (by omega), rowI_at _ (by omega), if_neg (by omega)]
  · rw [List.getElem?_append_right (by rw [List.length_take, rowI_len]; omega), List.length_take, rowI_len, Nat.min_eq_left (by omega)]
    by_cases c2 : i < off + m
    · rw [List.getElem?_append_left (by rw [List.length_replicate]; omega), List.getElem?_replicate, if_pos (by omega), rowI_at _ (by omega), if_pos (by omega)]
    · rw [List.getElem?_append_right (by rw [List.length_replicate]; omega), List.length_replicate, List.getElem?_drop]
      have e : off + m + (i - off - m) = i := by omega
      rw [e]
      by_cases c3 : i < n
      · rw [rowI_at _ c3, rowI_at _ c3, if_neg (by omega)]
      · rw [List.getElem?_eq_none (by rw [rowI_len]; omega), List.getElem?_eq_none (by rw [rowI_len]; omega)]
theorem step_copy_dst {P : Program} {ops : Array Oper} {o : Oper} {a : Act} {w : World} {K : Act → World → Prop} {Q : Exit → Act → World → Prop} {E : Prop} (dd : Tmp) (hdd : o.dst = some dd) (hgd : o.guard = none) (d s : Operand) (dT sT : TypeId)
    (ho : o.op = .call { callee := .builtin .copy, args := #[d, s], argTypes := #[dT, sT] }) (elem : TypeId) (hu : P.underlying dT = some (.slice elem)) (hsz : (P.info? elem).map (·.size) = some 1)
    (dp sp : Option Addr) (dLen dCap sLen sCap : Nat) (hd : a.eval d = .slice dp dLen dCap) (hs : a.eval s = .slice sp sLen sCap)
    (g off : Nat) (cur : List Value) (t : TypeId) (hg : w.heap[g]? = some (.cells cur.toArray t (0, 0))) (cs : List Value) (hn : cs.length = Nat.min sLen dLen)
    (hpos : 0 < cs.length → dp = some ⟨g, off, none⟩ ∧ ∃ ad, sp = some ad ∧ ∀ j v, cs[j]? = some v → w.cell? (ad.add j) = some v)
    (hfit : off + cs.length ≤ cur.length) (h1 : ∀ v ∈ cs, v.oneCell' = true) (B : Nat) (w0 : World) (hb : RowKit.Below B w0 w) (hBg : B ≤ g)
    (h : ∀ w', RowKit.Hid (w'.heap[g]? = some (.cells (splice cur off cs).toArray t (0, 0))) → RowKit.Below B w0 w' → K (a.put (some dd) (goInt cs.length)) w') :
    if Region.wanted o (yielded ops a.tmps) = true then Oper.wp P o a w K Q else E :=
  step_copy_splice hgd d s dT sT ho elem hu hsz dp sp dLen dCap sLen sCap hd hs g off cur t hg cs hn hpos hfit h1 B w0 hb hBg (by rw [hdd]; exact h)
set_option maxRecDepth 100000 in
set_option maxHeartbeats 4000000 in
theorem repeatI_any (g n : Nat) (z : Int) (w : World) (hn1 : 1 ≤ n) (hn : n ≤ 12) (hc : w.cell? ⟨g, 0, none⟩ = some (.int .i64 z)) :
    Calls Tryd.prog 67 #[.slice (some ⟨g, 0, none⟩) 1 1, .int .i64 n] w fun e w' =>
      ∃ h, e = .returned (.slice (some ⟨h, 0, none⟩) n n) ∧ w'.ownsRow w.heap.size 2 1 (.slice (some ⟨h, 0, none⟩) n n) n (rowI n (fun _ => z)) ∧ Below w.heap.size w w' := by
  obtain ⟨i0, hi, hz0, hz1, hz2⟩ := info_parts infoI
  have hgl := World.block_lt_of_cell? w _ hc
  simp only at hgl
  have hm : ∀ W, Calls Tryd.prog 77 #[.int .u64 1, .int .u64 n] W fun e w' => e = .returned (.tuple #[.int .u64 0, .int .u64 n]) ∧ W = w' := fun W => by
    refine (Tryd.bits_Mul 1 n (by omega) (by omega) W).mono ?_
    rintro e w' ⟨rfl, rfl⟩
    have e1 : 1 * n / 18446744073709551616 = 0 := by omega
    have e2 : 1 * n % 18446744073709551616 = n := by omega
    rw [e1, e2]
    exact ⟨rfl, rfl⟩
  have HM := Lib.hid hm
  clear hm
  go_enter Tryd.func67, Tryd.ntmps67
  go_wp2_with fail
  refine (HM.out _).mono ?_
  rintro e w1 ⟨rfl, rfl⟩
  go_upto_region 7 with (at_make; refine wpList_make_full _ rfl _ _ 30 rfl w.heap.size 2 i0 _ 1 Tryd.underlying30 hi hz0 hz1 _ _ _ _ n rfl rfl rfl rfl (by rw [hz2]; omega) (by unfold maxLen; omega) (Nat.le_refl _) ?_; intro w1 hown hgr)
  rw [madeI] at hown
  have hB1 : Below w.heap.size w w1 := (Below.refl _ w).grown hgr (Nat.le_refl _) (fun k h => by cases h)
  have c1 := (hB1.cell (p := ⟨g, 0, none⟩) hgl).trans hc
  have hf := own_full hown
  have hHl := (hown.lt _ rfl).2
  clear hown hgr
  obtain ⟨X, hX⟩ : ∃ X, X = List.replicate 1 (Value.int .i64 z) := ⟨_, rfl⟩
  have k1 : X.length = Nat.min 1 n := by rw [hX]; show 1 = min 1 n; omega
  have k2 : ∀ j v, X[j]? = some v → w1.cell? ((⟨g, 0, none⟩ : Addr).add j) = some v := by
    intro j v hv
    have hj : j = 0 := by
      have := (List.getElem?_eq_some_iff.1 hv).1
      rw [hX] at this
      simp at this; omega
    subst hj
    rw [hX] at hv
    simp at hv
    subst hv
    simpa [Addr.add] using c1
  have k3 : 0 + X.length ≤ (rowI n fun _ => 0).length := by rw [rowI_len, hX]; simp; omega
  have k4 : ∀ v ∈ X, v.oneCell' = true := by intro v hv; rw [hX] at hv; rw [List.eq_of_mem_replicate hv]; rfl
  have HX := Lib.hid hX
  clear hX
  go_wp2_with (refine wpList_copy_splice rfl (.tmp 31) (.tmp 32) 30 30 rfl 2 Tryd.underlying30 (by kernel_rfl) (some ⟨w.heap.size, 0, none⟩) (some ⟨g, 0, none⟩) n n 1 1 rfl rfl w.heap.size 0 (rowI n fun _ => 0) 2 hf X k1 (fun _ => ⟨rfl, ⟨g, 0, none⟩, rfl, k2⟩) k3 k4 w.heap.size w hB1 (Nat.le_refl _) ?_)
  intro w2 hf2 hB2
  have hf2 := hf2.out
  rw [HX.out] at hf2
  rw [rowI_splice (m := 1) _ _ (by omega), rowI_congr (g := fun j => if j < 1 then z else 0) (fun j _ => by simp)] at hf2
  have hf2 := Lib.hid hf2
  clear hf hB1 c1 hHl k1 k2 k3 k4 HX
  go_wp2
  go_loopw [8] (fun i wr => ∃ k : Nat, 1 ≤ k ∧ k ≤ n ∧ i = .int .i64 k ∧ Hid (wr.heap[w.heap.size]? = some (.cells (rowI n (fun j => if j < k then z else 0)).toArray 2 (0, 0))) ∧ Below w.heap.size w wr) (fun i _ => n - (intOf i).toNat)
  case atStart => exact ⟨1, Nat.le_refl _, hn1, rfl, hf2, hB2⟩
  case round =>
    clear hf2 hB2
    obtain ⟨k, hk1, hk, rfl, hf, hB⟩ := hrel
    by_cases hlt : k < n
    · have h1 : (k : Int) < (n : Int) := by omega
      have h2 : (k : Int) ≤ (n : Int) := by omega
      have h3 : (0 : Int) ≤ (k : Int) := by omega
      have hnk : ¬ n = k := by omega
      obtain ⟨m, hm⟩ : ∃ m, m = min k (n - k) := ⟨_, rfl⟩
      obtain ⟨X, hX⟩ : ∃ X, X = List.replicate m (Value.int .i64 z) := ⟨_, rfl⟩
      have hXl : X.length = m := by rw [hX, List.length_replicate]
      have k1 : X.length = Nat.min k (n - k) := by rw [hXl]; exact hm
      have k2 : ∀ j v, X[j]? = some v → wr.cell? ((⟨w.heap.size, 0, none⟩ : Addr).add j) = some v := by
        intro j v hv
        have hj := (List.getElem?_eq_some_iff.1 hv).1
        rw [hXl] at hj
        rw [hX, List.getElem?_replicate, if_pos hj] at hv
        cases hv
        have ho := full_own (B := w.heap.size) (n := n) hf.out (rowI_len _ _) (Nat.le_refl _) (by unfold maxLen; omega)
        have := own_rowI ho (show j < n by omega)
        rw [if_pos (by omega)] at this
        simp only [Addr.add]
        split
        · rename_i e
          have e : j = 0 := by simpa using e
          subst e
          exact this
        · simpa using this
      have k3 : k + X.length ≤ (rowI n fun j => if j < k then z else 0).length := by rw [rowI_len, hXl]; omega
      have k4 : ∀ v ∈ X, v.oneCell' = true := by intro v hv; rw [hX] at hv; rw [List.eq_of_mem_replicate hv]; rfl
      have hk2 : ((k : Int) + (X.length : Nat)) = ((k + m : Nat) : Int) := by rw [hXl]; omega
      have HX := Lib.hid hX
      have HM := Lib.hid hm
      clear hX hm
      go_wp2_with fail
      go_region_held_law (fun _ => True) (trivial) (first | (refine step_copy_dst 45 rfl rfl (.tmp 41) (.tmp 44) 30 30 rfl 2 Tryd.underlying30 (by kernel_rfl) (some ⟨w.heap.size, k, none⟩) (some ⟨w.heap.size, 0, none⟩) (n - k) (n - k) k n rfl rfl w.heap.size k (rowI n fun j => if j < k then z else 0) 2 hf.out X k1 (fun _ => ⟨rfl, ⟨w.heap.size, 0, none⟩, rfl, k2⟩) k3 k4 w.heap.size w hB.drew (Nat.le_refl _) ?_; intro w2 hf2 hB2) | fail)
      have hf3 := hf2.out
      rw [HX.out, rowI_splice _ _ (by rw [hXl] at k3; rw [rowI_len] at k3; exact k3), rowI_congr (g := fun j => if j < k + m then z else 0) (fun j _ => by
        by_cases h : k ≤ j ∧ j < k + m
        · rw [if_pos h, if_pos h.2]
        · rw [if_neg h]
          by_cases h' : j < k
          · rw [if_pos h', if_pos (by omega)]
          · rw [if_neg h', if_neg (by omega)])] at hf3
      have hf3 := Lib.hid hf3
      clear hf2 hf k1 k2 k4 HX
      rw [rowI_len, hXl] at k3
      have hm1 : 1 ≤ m := by rw [HM.out]; omega
      have hw : IntKind.i64.wrap ((k : Int) + (m : Int)) = ((k + m : Nat) : Int) := by rw [IntKind.wrap_i64]; omega
      go_wp2
      go_roundw
      case rel => exact ⟨k + m, by omega, k3, by go_num, hf3, hB2⟩
      case measure => simp [intOf]; omega
    · obtain rfl : k = n := by omega
      have ho := full_own (B := w.heap.size) (n := k) hf.out (rowI_len _ _) (Nat.le_refl _) (by unfold maxLen; omega)
      rw [rowI_congr (g := fun _ => z) (fun j h => if_pos h)] at ho
      go_wp2
      go_ret
      exact ⟨_, rfl, ho, hB⟩
end Go.Proofs.YtihmacmieofbgaaDoor
