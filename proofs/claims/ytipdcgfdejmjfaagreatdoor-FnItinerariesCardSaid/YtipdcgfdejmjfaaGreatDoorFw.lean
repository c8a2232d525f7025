/- Walk: travels: for each two places, the travel between them. -/
import Derived.Test.YtipdcgfdejmjfaaGreatDoorRowI
import Derived.Test.YtipdcgfdejmjfaaGreatDoorShelf
import Derived.Laws.CopyOwn
import Derived.Deep.RegionHeldLaw
import Derived.Test.YtipdcgfdejmjfaaGreatDoorLandB
namespace Go.Proofs.YtipdcgfdejmjfaaGreatDoor
section
open Go.ChangeShapes Go.WideShapes Go.ChangeAt Go.RowKit

def hdrI (n m : Nat) (g : Nat → Nat) : List Value := (List.range m).map fun i => .slice (some ⟨g i, 0, none⟩) n n
structure Mat (B : Nat) (w : World) (H c n m : Nat) (g : Nat → Nat) (M : Nat → Nat → Int) : Prop where
  hdr : w.ownsRow B 45 1 (.slice (some ⟨H, 0, none⟩) m c) m (hdrI n m g)
  row : ∀ i, i < m → w.ownsRow B 2 1 (.slice (some ⟨g i, 0, none⟩) n n) n (rowI n (M i))
  inj : ∀ i j, i < m → j < m → g i = g j → i = j
theorem Mat.below {B : Nat} {w w' : World} {H c n m : Nat} {g : Nat → Nat} {M : Nat → Nat → Int} (h : Mat B w H c n m g M) (hB : Below w.heap.size w w') : Mat B w' H c n m g M :=
  ⟨own_below h.hdr hB, fun i hi => own_below (h.row i hi) hB, h.inj⟩
theorem Mat.base {B B' : Nat} {w : World} {H c n m : Nat} {g : Nat → Nat} {M : Nat → Nat → Int} (h : Mat B w H c n m g M) (hb : B' ≤ B) : Mat B' w H c n m g M :=
  ⟨own_base h.hdr hb, fun i hi => own_base (h.row i hi) hb, h.inj⟩
theorem Mat.congr {B : Nat} {w : World} {H c n m : Nat} {g : Nat → Nat} {M M' : Nat → Nat → Int} (h : Mat B w H c n m g M) (he : ∀ i j, i < m → j < n → M i j = M' i j) : Mat B w H c n m g M' :=
  ⟨h.hdr, fun i hi => by rw [← rowI_congr (fun j hj => he i j hi hj)]; exact h.row i hi, h.inj⟩
theorem Mat.ne {B : Nat} {w : World} {H c n m : Nat} {g : Nat → Nat} {M : Nat → Nat → Int} (h : Mat B w H c n m g M) {i : Nat} (hi : i < m) : H ≠ g i := own_apart h.hdr (h.row i hi) (by decide)
theorem Mat.hcell {B : Nat} {w : World} {H c n m : Nat} {g : Nat → Nat} {M : Nat → Nat → Int} (h : Mat B w H c n m g M) {i : Nat} (hi : i < m) : w.cell? ⟨H, i, none⟩ = some (.slice (some ⟨g i, 0, none⟩) n n) :=
  (h.hdr.cellAt i (by omega)).trans (by simp [hdrI, hi])
theorem Mat.cell {B : Nat} {w : World} {H c n m : Nat} {g : Nat → Nat} {M : Nat → Nat → Int} (h : Mat B w H c n m g M) {i j : Nat} (hi : i < m) (hj : j < n) : w.cell? ⟨g i, j, none⟩ = some (.int .i64 (M i j)) := own_rowI (h.row i hi) hj
theorem Mat.frozen {B : Nat} {w : World} {H c n m : Nat} {g : Nat → Nat} {M : Nat → Nat → Int} (h : Mat B w H c n m g M) {i j : Nat} (hi : i < m) : w.frozen? ⟨g i, j, none⟩ = false := (h.row i hi).frozenAt j
theorem Mat.lt {B : Nat} {w : World} {H c n m : Nat} {g : Nat → Nat} {M : Nat → Nat → Int} (h : Mat B w H c n m g M) {i : Nat} (hi : i < m) : B ≤ g i ∧ g i < w.heap.size := own_lt (h.row i hi)
theorem Mat.hlt {B : Nat} {w : World} {H c n m : Nat} {g : Nat → Nat} {M : Nat → Nat → Int} (h : Mat B w H c n m g M) : B ≤ H ∧ H < w.heap.size := own_lt h.hdr
theorem Mat.put {B : Nat} {w : World} {H c n m : Nat} {g : Nat → Nat} {M : Nat → Nat → Int} (h : Mat B w H c n m g M) {i : Nat} (hi : i < m) (j : Nat) (v : Int) :
    Mat B (w.setCell ⟨g i, j, none⟩ (.int .i64 v)) H c n m g (upd2 M i j v) ∧ w.grownBy (w.setCell ⟨g i, j, none⟩ (.int .i64 v)) (some (g i)) := by
  obtain ⟨h1, h2⟩ := own_putI (h.row i hi) j v
  refine ⟨⟨h.hdr.kept h2 (.inr ?_), fun x hx => ?_, h.inj⟩, h2⟩
  · simp [Value.ownBlock]; exact h.ne hi
  · by_cases e : x = i
    · subst e
      have e2 : upd2 M x j v x = upd (M x) j v := by funext y; simp [upd2, upd]
      rw [e2]; exact h1
    · have e2 : upd2 M i j v x = M x := by funext y; simp [upd2, e]
      rw [e2]
      refine (h.row x hx).kept h2 (.inr ?_)
      simp [Value.ownBlock]
      exact fun e3 => e (h.inj x i hx hi e3)
theorem Mat.kept {B : Nat} {w w' : World} {H c n m x : Nat} {g : Nat → Nat} {M : Nat → Nat → Int} (h : Mat B w H c n m g M) (hg : w.grownBy w' (some x)) (hH : H ≠ x) (hr : ∀ i, i < m → g i ≠ x) : Mat B w' H c n m g M := by
  refine ⟨h.hdr.kept hg (.inr ?_), fun i hi => (h.row i hi).kept hg (.inr ?_), h.inj⟩
  · simp [Value.ownBlock]; exact hH
  · simp [Value.ownBlock]; exact hr i hi
/-- A row more. -/
theorem Mat.add {B : Nat} {w w' : World} {H H' c c' n k h : Nat} {g : Nat → Nat} {M : Nat → Nat → Int} (hm : Mat B w H c n k g M) (hg : w.grownBy w' (some H)) (hh : w.ownsRow B 2 1 (.slice (some ⟨h, 0, none⟩) n n) n (rowI n (M k)))
    (hnew : ∀ i, i < k → g i ≠ h) (ho : w'.ownsRow B 45 1 (.slice (some ⟨H', 0, none⟩) (k + 1) c') (k + 1) (hdrI n k g ++ [.slice (some ⟨h, 0, none⟩) n n])) :
    Mat B w' H' c' n (k + 1) (fun i => if i < k then g i else h) M := by
  refine ⟨?_, fun i hi => ?_, fun i j hi hj e => ?_⟩
  · have e : hdrI n (k + 1) (fun i => if i < k then g i else h) = hdrI n k g ++ [.slice (some ⟨h, 0, none⟩) n n] := by
      unfold hdrI
      rw [List.range_succ, List.map_append]
      congr 1
      · apply List.map_congr_left
        intro i hi
        have := List.mem_range.1 hi
        simp only [this, if_true]
      · simp
    rw [e]; exact ho
  · by_cases e : i < k
    · simp only [e, if_true]
      refine (hm.row i e).kept hg (.inr ?_)
      simp [Value.ownBlock]
      exact fun e3 => hm.ne e e3.symm
    · obtain rfl : i = k := by omega
      simp only [e, if_false]
      refine hh.kept hg (.inr ?_)
      simp [Value.ownBlock]
      exact fun e3 => own_apart hm.hdr hh (by decide) e3.symm
  · by_cases e1 : i < k <;> by_cases e2 : j < k <;> simp only [e1, e2, if_true, if_false] at e
    · exact hm.inj i j e1 e2 e
    · exact absurd e (hnew i e1)
    · exact absurd e.symm (hnew j e2)
    · omega
theorem infoSI : (Tryz.prog.info? 45).map (fun i => (i.zero, i.size, i.bytes)) = some (some (.slice none 0 0), 1, 24) := by kernel_rfl
end

section
open Go.ChangeShapes Go.WideShapes Go.ChangeAt Go.RowKit

theorem own_full {B : Nat} {E : TypeId} {g n : Nat} {xs : List Value} {w : World} (h : w.ownsRow B E 1 (.slice (some ⟨g, 0, none⟩) n n) n xs) : w.heap[g]? = some (.cells xs.toArray E (0, 0)) := by
  rcases h.2 with ⟨h1, _⟩ | ⟨g', c', cur, e, hb, hh, hn, hc, hs, ht⟩
  · simp at h1
  · injection e with e1 e2 e3
    obtain rfl : g = g' := by simpa using e1
    subst e3
    rw [List.take_of_length_le (by rw [Array.length_toList]; omega)] at ht
    rw [hh, ← ht]
theorem full_own {B : Nat} {E : TypeId} {g n : Nat} {xs : List Value} {w : World} (h : w.heap[g]? = some (.cells xs.toArray E (0, 0))) (hl : xs.length = n) (hB : B ≤ g) (hn : n ≤ maxLen) : w.ownsRow B E 1 (.slice (some ⟨g, 0, none⟩) n n) n xs :=
  ⟨by omega, .inr ⟨g, n, xs.toArray, rfl, hB, h, Nat.le_refl _, hn, by simp [hl], List.take_of_length_le (by simp [hl])⟩⟩
theorem rowI_splice {n off m : Nat} (f : Nat → Int) (z : Int) (h : off + m ≤ n) : splice (rowI n f) off (List.replicate m (.int .i64 z)) = rowI n (fun j => if off ≤ j ∧ j < off + m then z else f j) := by
  apply List.ext_getElem?
  intro i
  unfold splice
  by_cases c1 : i < off
  · rw [List.getElem?_append_left (by rw [List.length_take, rowI_len]; omega), List.getElem?_take_of_lt c1, rowI_at _ (by omega), rowI_at _ (by omega), if_neg (by omega)]
  · rw [List.getElem?_append_right (by rw [List.length_take, rowI_len]; omega), List.length_take, rowI_len, Nat.min_eq_left (by omega)]
    by_cases c2 : i < off + m
    · rw [List.getElem?_append_left (by rw [List.length_replicate]; omega), List.getElem?_replicate, if_pos (by omega), rowI_at _ (by omega), if_pos (by omega)]
    · rw [List.getElem?_append_right (by rw [List.length_replicate]; omega), List.length_replicate, List.getElem?_drop]
      have e : off + m + (i - off - m) = i := by omega
      rw [e]
      by_cases c3 : i < n
      · rw [rowI_at _ c3, rowI_at _ c3, if_neg (by omega)]
      · rw [List.getElem?_eq_none (by rw [rowI_len]; omega), List.getElem?_eq_none (by rw [rowI_len]; omega)]
theorem step_copy_dst {P : Program} {ops : Array Oper} {o : Oper} {a : Act} {w : World} {K : Act → World → Prop} {Q : Exit → Act → World → Prop} {E : Prop} (dd : Tmp) (hdd : o.dst = some dd) (hgd : o.guard = none) (d s : Operand) (dT sT : TypeId)
    (ho : o.op = .call { callee := .builtin .copy, args := #[d, s], argTypes := #[dT, sT] }) (elem : TypeId) (hu : P.underlying dT = some (.slice elem)) (hsz : (P.info? elem).map (·.size) = some 1)
    (dp sp : Option Addr) (dLen dCap sLen sCap : Nat) (hd : a.eval d = .slice dp dLen dCap) (hs : a.eval s = .slice sp sLen sCap)
    (g off : Nat) (cur : List Value) (t : TypeId) (hg : w.heap[g]? = some (.cells cur.toArray t (0, 0))) (cs : List Value) (hn : cs.length = Nat.min sLen dLen)
    (hpos : 0 < cs.length → dp = some ⟨g, off, none⟩ ∧ ∃ ad, sp = some ad ∧ ∀ j v, cs[j]? = some v → w.cell? (ad.add j) = some v)
    (hfit : off + cs.length ≤ cur.length) (h1 : ∀ v ∈ cs, v.oneCell' = true) (B : Nat) (w0 : World) (hb : RowKit.Below B w0 w) (hBg : B ≤ g)
    (h : ∀ w', RowKit.Hid (w'.heap[g]? = some (.cells (splice cur off cs).toArray t (0, 0))) → RowKit.Below B w0 w' → K (a.put (some dd) (goInt cs.length)) w') :
    if Region.wanted o (yielded ops a.tmps) = true then Oper.wp P o a w K Q else E :=
  step_copy_splice hgd d s dT sT ho elem hu hsz dp sp dLen dCap sLen sCap hd hs g off cur t hg cs hn hpos hfit h1 B w0 hb hBg (by rw [hdd]; exact h)
set_option maxRecDepth 100000 in
set_option maxHeartbeats 4000000 in
theorem repeatI_any (g n : Nat) (z : Int) (w : World) (hn1 : 1 ≤ n) (hn : n ≤ 12) (hc : w.cell? ⟨g, 0, none⟩ = some (.int .i64 z)) :
    Calls Tryz.prog 137 #[.slice (some ⟨g, 0, none⟩) 1 1, .int .i64 n] w fun e w' =>
      ∃ h, e = .returned (.slice (some ⟨h, 0, none⟩) n n) ∧ w'.ownsRow w.heap.size 2 1 (.slice (some ⟨h, 0, none⟩) n n) n (rowI n (fun _ => z)) ∧ Below w.heap.size w w' := by
  obtain ⟨i0, hi, hz0, hz1, hz2⟩ := info_parts infoI
  have hgl := World.block_lt_of_cell? w _ hc
  simp only at hgl
  have hm : ∀ W, Calls Tryz.prog 158 #[.int .u64 1, .int .u64 n] W fun e w' => e = .returned (.tuple #[.int .u64 0, .int .u64 n]) ∧ W = w' := fun W => by
    refine (Tryz.bits_Mul 1 n (by omega) (by omega) W).mono ?_
    rintro e w' ⟨rfl, rfl⟩
    have e1 : 1 * n / 18446744073709551616 = 0 := by omega
    have e2 : 1 * n % 18446744073709551616 = n := by omega
    rw [e1, e2]
    exact ⟨rfl, rfl⟩
  have HM := Lib.hid hm
  clear hm
  go_enter Tryz.func137, Tryz.ntmps137
  go_wp2_with fail
  refine (HM.out _).mono ?_
  rintro e w1 ⟨rfl, rfl⟩
  go_upto_region 7 with (at_make; refine wpList_make_full _ rfl _ _ 45 rfl w.heap.size 2 i0 _ 1 Tryz.underlying45 hi hz0 hz1 _ _ _ _ n rfl rfl rfl rfl (by rw [hz2]; omega) (by unfold maxLen; omega) (Nat.le_refl _) ?_; intro w1 hown hgr)
  rw [madeI] at hown
  have hB1 : Below w.heap.size w w1 := (Below.refl _ w).grown hgr (Nat.le_refl _) (fun k h => by cases h)
  have c1 := (hB1.cell (p := ⟨g, 0, none⟩) hgl).trans hc
  have hf := own_full hown
  have hHl := (hown.lt _ rfl).2
  clear hown hgr
  obtain ⟨X, hX⟩ : ∃ X, X = List.replicate 1 (Value.int .i64 z) := ⟨_, rfl⟩
  have k1 : X.length = Nat.min 1 n := by rw [hX]; show 1 = min 1 n; omega
  have k2 : ∀ j v, X[j]? = some v → w1.cell? ((⟨g, 0, none⟩ : Addr).add j) = some v := by
    intro j v hv
    have hj : j = 0 := by
      have := (List.getElem?_eq_some_iff.1 hv).1
      rw [hX] at this
      simp at this; omega
    subst hj
    rw [hX] at hv
    simp at hv
    subst hv
    simpa [Addr.add] using c1
  have k3 : 0 + X.length ≤ (rowI n fun _ => 0).length := by rw [rowI_len, hX]; simp; omega
  have k4 : ∀ v ∈ X, v.oneCell' = true := by intro v hv; rw [hX] at hv; rw [List.eq_of_mem_replicate hv]; rfl
  have HX := Lib.hid hX
  clear hX
  go_wp2_with (refine wpList_copy_splice rfl (.tmp 31) (.tmp 32) 45 45 rfl 2 Tryz.underlying45 (by kernel_rfl) (some ⟨w.heap.size, 0, none⟩) (some ⟨g, 0, none⟩) n n 1 1 rfl rfl w.heap.size 0 (rowI n fun _ => 0) 2 hf X k1 (fun _ => ⟨rfl, ⟨g, 0, none⟩, rfl, k2⟩) k3 k4 w.heap.size w hB1 (Nat.le_refl _) ?_)
  intro w2 hf2 hB2
  have hf2 := hf2.out
  rw [HX.out] at hf2
  rw [rowI_splice (m := 1) _ _ (by omega), rowI_congr (g := fun j => if j < 1 then z else 0) (fun j _ => by simp)] at hf2
  have hf2 := Lib.hid hf2
  clear hf hB1 c1 hHl k1 k2 k3 k4 HX
  go_wp2
  go_loopw [8] (fun i wr => ∃ k : Nat, 1 ≤ k ∧ k ≤ n ∧ i = .int .i64 k ∧ Hid (wr.heap[w.heap.size]? = some (.cells (rowI n (fun j => if j < k then z else 0)).toArray 2 (0, 0))) ∧ Below w.heap.size w wr) (fun i _ => n - (intOf i).toNat)
  case atStart => exact ⟨1, Nat.le_refl _, hn1, rfl, hf2, hB2⟩
  case round =>
    clear hf2 hB2
    obtain ⟨k, hk1, hk, rfl, hf, hB⟩ := hrel
    by_cases hlt : k < n
    · have h1 : (k : Int) < (n : Int) := by omega
      have h2 : (k : Int) ≤ (n : Int) := by omega
      have h3 : (0 : Int) ≤ (k : Int) := by omega
      have hnk : ¬ n = k := by omega
      obtain ⟨m, hm⟩ : ∃ m, m = min k (n - k) := ⟨_, rfl⟩
      obtain ⟨X, hX⟩ : ∃ X, X = List.replicate m (Value.int .i64 z) := ⟨_, rfl⟩
      have hXl : X.length = m := by rw [hX, List.length_replicate]
      have k1 : X.length = Nat.min k (n - k) := by rw [hXl]; exact hm
      have k2 : ∀ j v, X[j]? = some v → wr.cell? ((⟨w.heap.size, 0, none⟩ : Addr).add j) = some v := by
        intro j v hv
        have hj := (List.getElem?_eq_some_iff.1 hv).1
        rw [hXl] at hj
        rw [hX, List.getElem?_replicate, if_pos hj] at hv
        cases hv
        have ho := full_own (B := w.heap.size) (n := n) hf.out (rowI_len _ _) (Nat.le_refl _) (by unfold maxLen; omega)
        have := own_rowI ho (show j < n by omega)
        rw [if_pos (by omega)] at this
        simp only [Addr.add]
        split
        · rename_i e
          have e : j = 0 := by simpa using e
          subst e
          exact this
        · simpa using this
      have k3 : k + X.length ≤ (rowI n fun j => if j < k then z else 0).length := by rw [rowI_len, hXl]; omega
      have k4 : ∀ v ∈ X, v.oneCell' = true := by intro v hv; rw [hX] at hv; rw [List.eq_of_mem_replicate hv]; rfl
      have hk2 : ((k : Int) + (X.length : Nat)) = ((k + m : Nat) : Int) := by rw [hXl]; omega
      have HX := Lib.hid hX
      have HM := Lib.hid hm
      clear hX hm
      go_wp2_with fail
      go_region_held_law (fun _ => True) (trivial) (first | (refine step_copy_dst 45 rfl rfl (.tmp 41) (.tmp 44) 45 45 rfl 2 Tryz.underlying45 (by kernel_rfl) (some ⟨w.heap.size, k, none⟩) (some ⟨w.heap.size, 0, none⟩) (n - k) (n - k) k n rfl rfl w.heap.size k (rowI n fun j => if j < k then z else 0) 2 hf.out X k1 (fun _ => ⟨rfl, ⟨w.heap.size, 0, none⟩, rfl, k2⟩) k3 k4 w.heap.size w hB.drew (Nat.le_refl _) ?_; intro w2 hf2 hB2) | fail)
      have hf3 := hf2.out
      rw [HX.out, rowI_splice _ _ (by rw [hXl] at k3; rw [rowI_len] at k3; exact k3), rowI_congr (g := fun j => if j < k + m then z else 0) (fun j _ => by
        by_cases h : k ≤ j ∧ j < k + m
        · rw [if_pos h, if_pos h.2]
        · rw [if_neg h]
          by_cases h' : j < k
          · rw [if_pos h', if_pos (by omega)]
          · rw [if_neg h', if_neg (by omega)])] at hf3
      have hf3 := Lib.hid hf3
      clear hf2 hf k1 k2 k4 HX
      rw [rowI_len, hXl] at k3
      have hm1 : 1 ≤ m := by rw [HM.out]; omega
      have hw : IntKind.i64.wrap ((k : Int) + (m : Int)) = ((k + m : Nat) : Int) := by rw [IntKind.wrap_i64]; omega
      go_wp2
      go_roundw
      case rel => exact ⟨k + m, by omega, k3, by go_num, hf3, hB2⟩
      case measure => simp [intOf]; omega
    · obtain rfl : k = n := by omega
      have ho := full_own (B := w.heap.size) (n := k) hf.out (rowI_len _ _) (Nat.le_refl _) (by unfold maxLen; omega)
      rw [rowI_congr (g := fun _ => z) (fun j h => if_pos h)] at ho
      go_wp2
      go_ret
      exact ⟨_, rfl, ho, hB⟩
end

section
open Go.ChangeShapes Go.WideShapes Go.ChangeAt Go.RowKit

theorem form1 {w : World} {base : Nat} {e : TypeId} {k n : Nat} {v : Value} {xs : List Value} (h : w.ownsRow base e k v n xs) (hn : 0 < n) : ∃ g c, v = .slice (some ⟨g, 0, none⟩) n c := by
  rcases h.2 with ⟨h1, h2⟩ | ⟨g, c, _, e, _⟩
  · omega
  · exact ⟨_, c, e⟩
theorem waysM_take {ws : List Wy} {q : Nat} {m : Wy} (h : ws[q]? = some m) : (ws.take (q + 1)).foldl wayStep wayStart = wayStep ((ws.take q).foldl wayStep wayStart) m := by
  obtain ⟨hk, rfl⟩ := List.getElem?_eq_some_iff.1 h
  rw [List.take_succ_eq_append_getElem hk, List.foldl_append]
  rfl
set_option maxRecDepth 100000 in
set_option maxHeartbeats 4000000 in
theorem waysOf_any (a0 a1 : Option Addr) (cap0 cap1 n : Nat) (ws : List Wy) (w : World) (hn1 : 1 ≤ n) (hn : n ≤ 12) (hl1 : ws.length ≤ 40) (ho : OkWs n ws) (hx1 : Rd encWy w a1 ws) :
    Calls Tryz.prog 91 #[.agg #[.slice a0 n cap0, .slice a1 ws.length cap1]] w fun e w' =>
      ∃ H c g, e = .returned (.slice (some ⟨H, 0, none⟩) n c) ∧ Mat w.heap.size w' H c n n g (waysM ws) ∧ Below w.heap.size w w' := by
  obtain ⟨i0, hi, hz0, hz1, hz2⟩ := info_parts infoSI
  go_enter Tryz.func91, Tryz.ntmps91
  go_wp2
  go_loopw [3, 12] (fun o i wr => ∃ (k H c : Nat) (g : Nat → Nat), k ≤ n ∧ i = .int .i64 k ∧ o = .slice (some ⟨H, 0, none⟩) k c ∧ Mat (w.heap.size + 1) wr H c n k g wayStart ∧ At w [.slice a0 n cap0, .slice a1 ws.length cap1] wr) (fun _ i _ => n - (intOf i).toNat)
  case atStart =>
    refine ⟨0, w.heap.size + 1, 0, fun _ => 0, Nat.zero_le _, rfl, rfl, ⟨?_, fun i hi => by omega, fun i j hi => by omega⟩, (At.start w _ _).step ((Below.refl _ _).alloc (Nat.le_refl _) _)⟩
    have := World.ownsRow_made (base := w.heap.size + 1) (w.alloc (.cells #[.slice a0 n cap0, .slice a1 ws.length cap1] 35)) #[] 0 (e := 45) (size := 1) (by simp) (by decide) rfl
    simpa [hdrI] using this
  case round =>
    obtain ⟨k, H, c, g, hk, rfl, rfl, hM, hA⟩ := hrel
    have b0 := hA.cell 0 _ rfl
    by_cases hlt : k < n
    · have hk1 : (k : Int) < (n : Int) := by omega
      have hB3 : Below wr.heap.size wr (wr.alloc (.cells #[.int .i64 1000000] 2)) := (Below.refl _ wr).alloc (Nat.le_refl _) _
      have hs3 : (wr.alloc (.cells #[.int .i64 1000000] 2)).heap.size = wr.heap.size + 1 := by simp
      have b0' := (hB3.cell (p := ⟨w.heap.size, 0, none⟩) hA.size).trans b0
      have c3 : (wr.alloc (.cells #[.int .i64 1000000] 2)).cell? ⟨wr.heap.size, 0, none⟩ = some (.int .i64 1000000) := World.cell?_alloc_at _ _ _ _ rfl
      have HR := Lib.hid (repeatI_any wr.heap.size n 1000000 _ hn1 hn c3)
      have hbr : w.heap.size + 1 ≤ wr.heap.size := hA.size
      have hA := hA.step hB3
      have hM3 := hM.below hB3
      have hgl : ∀ i, i < k → g i < wr.heap.size := fun i hi => (hM.lt hi).2
      clear c3 b0 hM
      go_wp2_with fail
      refine HR.out.mono ?_
      rintro e w2 ⟨h, rfl, ho, hB2⟩
      rw [hs3] at ho
      have hM := hM3.below hB2
      have hA := hA.step hB2
      have hhl := own_lt ho
      have c0 := own_rowI ho hlt
      have f0 := ho.frozenAt k
      have hp := own_putI ho k 0
      rw [rowI_congr (g := wayStart k) (fun j _ => by
        unfold upd wayStart
        by_cases e : j = k
        · rw [if_pos e, if_pos e.symm]
        · rw [if_neg e, if_neg (fun e' => e e'.symm)])] at hp
      have HP := Lib.hid hp.1
      have HG := Lib.hid hp.2
      have hne : ∀ i, i < k → g i ≠ h := fun i hi e => by have := hgl i hi; omega
      have hHh : H ≠ h := own_apart hM.hdr ho (by decide)
      have hA' := hA.grown HG.out (fun g e => by cases e; omega)
      have hM' := hM.kept HG.out hHh hne
      have hs4 := HG.out.size
      clear hp ho HR hM3 hB3 b0' hM hA
      go_upto_region 7 with (fail)
      generalize w2.setCell ⟨h, k, none⟩ (.int .i64 0) = W3 at HP HG hA' hM' hs4 ⊢
      clear c0 f0 HG
      have hBz := hA'.size
      go_wp2_with (at_builtin; refine wpList_append_own _ rfl _ _ 80 rfl (w.heap.size + 1) 45 i0 (.slice none 0 0) 1 24 Tryz.underlying80 hi hz0 hz1 hz2 rfl (by decide) _ _ _ rfl (hM'.hdr.alloc _) ⟨W3.heap.size, 0, none⟩ 1 1 [.slice (some ⟨h, 0, none⟩) n n] rfl rfl (cell_one_new _ _ _) ?c2 ?c3 ?c4 ?c5 ?_)
      case c2 => intro u hu; simp at hu; subst hu; rfl
      case c3 => unfold maxLen; omega
      case c4 => omega
      case c5 => simp; omega
      intro v' w4 hown' hgr _
      have hs5 : W3.heap.size < (W3.alloc (.cells #[.slice (some ⟨h, 0, none⟩) n n] 45)).heap.size := by simp
      obtain ⟨H', c', rfl⟩ := form1 hown' (by omega)
      have hB5 : Below W3.heap.size W3 (W3.alloc (.cells #[.slice (some ⟨h, 0, none⟩) n n] 45)) := (Below.refl _ W3).alloc (Nat.le_refl _) _
      have hM5 := (hM'.below hB5).add hgr (own_base (own_below HP.out hB5) (by omega)) hne hown'
      have hHb := hM'.hlt.1
      have hA5 := (hA'.step hB5).grown hgr (fun g e => by cases e; simp; omega)
      clear hgr hown' hM' HP hB5
      go_wp2
      go_roundw
      case rel => exact ⟨k + 1, H', c', _, by omega, by go_num, rfl, hM5, hA5⟩
      case measure => simp [intOf]; omega
    · obtain rfl : n = k := by omega
      have b1 := hA.cell 1 _ rfl
      go_wp2
      go_loopw [31] (fun i wr => ∃ (q : Nat), q ≤ ws.length ∧ i = .int .i64 q ∧ Mat (w.heap.size + 1) wr H c n n g ((ws.take q).foldl wayStep wayStart) ∧ At w [.slice a0 n cap0, .slice a1 ws.length cap1] wr) (fun i _ => ws.length - (intOf i).toNat)
      case atStart => exact ⟨0, Nat.zero_le _, rfl, hM, hA⟩
      case round =>
        clear hM hA b0 b1
        obtain ⟨q, hq, rfl, hM, hA⟩ := hrel
        by_cases hlt2 : q < ws.length
        · have hm := List.getElem?_eq_getElem hlt2
          generalize ws[q] = m at hm
          obtain ⟨b, off, rfl, hb, c0, c1, c2⟩ := (hx1.below hA.below).wy hm
          have hst := waysM_take hm
          obtain ⟨A, B, hmA, hmB, hA1, hB1, hAB, hd1, hd2⟩ := ho m (List.mem_of_getElem? hm)
          obtain ⟨_, _, d⟩ := m
          simp only at hmA hmB hd1 hd2 c0 c1 c2
          subst hmA hmB
          have hst : Hid ((ws.take (q + 1)).foldl wayStep wayStart = wayHalf (wayHalf ((ws.take q).foldl wayStep wayStart) A B d) B A d) := hst
          have hk2 : (q : Int) < (ws.length : Int) := by omega
          have hA2 : (A : Int) < (n : Int) := by omega
          have hB2 : (B : Int) < (n : Int) := by omega
          clear hm
          go_upto_region 12 with (fail)
          -- WAY
          generalize hW : wr.alloc (.cells #[.int .i64 A, .int .i64 B, .int .i64 d] 125) = W
          have hBW : Below wr.heap.size wr W := by rw [← hW]; go_grown
          have hD : wr.heap.size < W.heap.size := by rw [← hW]; simp
          have D0 : W.cell? ⟨wr.heap.size, 0, none⟩ = some (.int .i64 A) := by rw [← hW]; exact World.cell?_alloc_at _ _ _ _ rfl
          have D1 : W.cell? ⟨wr.heap.size, 1, none⟩ = some (.int .i64 B) := by rw [← hW]; exact World.cell?_alloc_at _ _ _ _ rfl
          have D2 : W.cell? ⟨wr.heap.size, 2, none⟩ = some (.int .i64 d) := by rw [← hW]; exact World.cell?_alloc_at _ _ _ _ rfl
          have hgl : ∀ i, i < n → g i < wr.heap.size := fun i hi => (hM.lt hi).2
          have hgb : ∀ i, i < n → w.heap.size + 1 ≤ g i := fun i hi => (hM.lt hi).1
          have hM := hM.below hBW
          have hA := hA.step hBW
          clear hW c0 c1 c2 hBW
          generalize wr.heap.size = bw at hD D0 D1 D2 hgl ⊢
          generalize (ws.take q).foldl wayStep wayStart = M at hM hst
          have q0 := hM.hcell hA1
          have q1 := hM.hcell hB1
          have q2 := hM.cell hA1 hB1
          go_still_tail 20, (by kernel_rfl)
          clear q0 q1 q2
          change wpList _ _ _ _ _ W.drew
          have hzz : Below W.heap.size W W.drew := (Below.refl _ W).drew
          generalize W.drew = V at hzz ⊢
          have D0 := (hzz.cell (p := ⟨bw, 0, none⟩) hD).trans D0
          have D1 := (hzz.cell (p := ⟨bw, 1, none⟩) hD).trans D1
          have D2 := (hzz.cell (p := ⟨bw, 2, none⟩) hD).trans D2
          have hD := Nat.lt_of_lt_of_le hD hzz.size
          have hM := hM.below hzz
          have hA := hA.step hzz
          clear hzz
          have q2 := hM.cell hA1 hB1
          have q3 := hM.frozen (j := B) hA1
          have hp := hM.put hA1 B (min (M A B) d)
          have HP := Lib.hid hp.1
          have HG := Lib.hid hp.2
          clear hp
          have hgi := hgl A hA1
          have hbi := hgb A hA1
          go_upto_region 13 with (fail)
          have D0 := (gcell HG.out (p := ⟨bw, 0, none⟩) hD (fun g e => by cases e; simp; omega)).trans D0
          have D1 := (gcell HG.out (p := ⟨bw, 1, none⟩) hD (fun g e => by cases e; simp; omega)).trans D1
          have D2 := (gcell HG.out (p := ⟨bw, 2, none⟩) hD (fun g e => by cases e; simp; omega)).trans D2
          have hD := Nat.lt_of_lt_of_le hD HG.out.size
          have hA := hA.grown HG.out (fun g e => by cases e; omega)
          have hM : Mat (w.heap.size + 1) _ H c n n g (wayHalf M A B d) := HP.out
          clear HP HG q2 q3 hgi hbi
          generalize V.setCell ⟨g A, B, none⟩ (.int .i64 (min (M A B) d)) = W1 at hM hA D0 D1 D2 hD ⊢
          generalize wayHalf M A B d = M1 at hM hst
          have q0 := hM.hcell hA1
          have q1 := hM.hcell hB1
          have q2 := hM.cell hB1 hA1
          go_still_tail 20, (by kernel_rfl)
          clear q0 q1 q2
          change wpList _ _ _ _ _ W1.drew
          have hzz : Below W1.heap.size W1 W1.drew := (Below.refl _ W1).drew
          generalize W1.drew = V1 at hzz ⊢
          have D0 := (hzz.cell (p := ⟨bw, 0, none⟩) hD).trans D0
          have D1 := (hzz.cell (p := ⟨bw, 1, none⟩) hD).trans D1
          have D2 := (hzz.cell (p := ⟨bw, 2, none⟩) hD).trans D2
          have hD := Nat.lt_of_lt_of_le hD hzz.size
          have hM := hM.below hzz
          have hA := hA.step hzz
          clear hzz
          have q2 := hM.cell hB1 hA1
          have q3 := hM.frozen (j := A) hB1
          have hp := hM.put hB1 A (min (M1 B A) d)
          have HP := Lib.hid hp.1
          have HG := Lib.hid hp.2
          clear hp
          have hgi := hgl B hB1
          have hbi := hgb B hB1
          go_wp2
          go_roundw
          case rel => exact ⟨q + 1, by omega, by go_num, by rw [hst.out]; exact HP.out, hA.grown HG.out (fun g e => by cases e; omega)⟩
          case measure => simp [intOf]; omega
        · obtain rfl : q = ws.length := by omega
          rw [List.take_length] at hM
          go_wp2
          go_ret
          exact ⟨_, _, _, rfl, hM.base (by omega), hA.below⟩
end

section
open Go.ChangeShapes Go.WideShapes Go.ChangeAt Go.RowKit

theorem fwAll_take (n : Nat) (M : Nat → Nat → Int) (k : Nat) : (List.range (k + 1)).foldl (fwAll n) M = fwAll n ((List.range k).foldl (fwAll n) M) k := by rw [List.range_succ, List.foldl_append]; rfl
theorem fwRow_take (n k : Nat) (M : Nat → Nat → Int) (i : Nat) : (List.range (i + 1)).foldl (fwRow n k) M = fwRow n k ((List.range i).foldl (fwRow n k) M) i := by rw [List.range_succ, List.foldl_append]; rfl
theorem fwStep_take (k i : Nat) (M : Nat → Nat → Int) (j : Nat) : (List.range (j + 1)).foldl (fwStep k i) M = fwStep k i ((List.range j).foldl (fwStep k i) M) j := by rw [List.range_succ, List.foldl_append]; rfl

set_option maxRecDepth 100000 in
set_option maxHeartbeats 4000000 in
theorem travels_any (a0 a1 : Option Addr) (cap0 cap1 n : Nat) (ws : List Wy) (w : World) (hn1 : 1 ≤ n) (hn : n ≤ 12) (hl1 : ws.length ≤ 40) (ho : OkWs n ws) (hx1 : Rd encWy w a1 ws) :
    Calls Tryz.prog 42 #[.agg #[.slice a0 n cap0, .slice a1 ws.length cap1]] w fun e w' =>
      ∃ H c g, e = .returned (.slice (some ⟨H, 0, none⟩) n c) ∧ Mat w.heap.size w' H c n n g (travM n ws) ∧ Below w.heap.size w w' := by
  go_enter Tryz.func42, Tryz.ntmps42
  go_wp2_with fail
  have hB0 : Below w.heap.size w (w.alloc (.cells #[.slice a0 n cap0, .slice a1 ws.length cap1] 35)) := (Below.refl _ w).alloc (Nat.le_refl _) _
  have hs0 : (w.alloc (.cells #[.slice a0 n cap0, .slice a1 ws.length cap1] 35)).heap.size = w.heap.size + 1 := by simp
  refine (waysOf_any a0 a1 cap0 cap1 n ws _ hn1 hn hl1 ho (hx1.below hB0)).mono ?_
  rintro e w1 ⟨H, c, g, rfl, hM, hB1⟩
  have hB := stepB hB0 hB1 hB0.size
  have hM := hM.base (B' := w.heap.size) (by omega)
  have hgb : ∀ i, i < n → w.heap.size ≤ g i := fun i hi => (hM.lt hi).1
  have hS := waysM_snd (n := n) ho.ok
  clear hB0 hB1 hs0
  go_wp2
  go_loopw [11] (fun i wr => ∃ (k : Nat), k ≤ n ∧ i = .int .i64 k ∧ Mat w.heap.size wr H c n n g ((List.range k).foldl (fwAll n) (waysM ws)) ∧ Snd n ws ((List.range k).foldl (fwAll n) (waysM ws)) ∧ Below w.heap.size w wr) (fun i _ => n - (intOf i).toNat)
  case atStart => exact ⟨0, Nat.zero_le _, rfl, hM, hS, hB⟩
  case round =>
    clear hM hB hS
    obtain ⟨k, hk, rfl, hM, hS, hB⟩ := hrel
    by_cases hlt : k < n
    · have hk1 : (k : Int) < (n : Int) := by omega
      have hsk := Lib.hid (fwAll_take n (waysM ws) k)
      generalize (List.range k).foldl (fwAll n) (waysM ws) = Mk at hM hS hsk
      go_wp2
      go_loopw [16] (fun i wr => ∃ (i' : Nat), i' ≤ n ∧ i = .int .i64 i' ∧ Mat w.heap.size wr H c n n g ((List.range i').foldl (fwRow n k) Mk) ∧ Snd n ws ((List.range i').foldl (fwRow n k) Mk) ∧ Below w.heap.size w wr) (fun i _ => n - (intOf i).toNat)
      case atStart => exact ⟨0, Nat.zero_le _, rfl, hM, hS, hB⟩
      case round =>
        clear hM hB hS
        obtain ⟨i, hi, rfl, hM, hS, hB⟩ := hrel
        by_cases hlti : i < n
        · have hi1 : (i : Int) < (n : Int) := by omega
          have hsi := Lib.hid (fwRow_take n k Mk i)
          generalize (List.range i).foldl (fwRow n k) Mk = Mi at hM hS hsi
          go_wp2
          go_loopw [21] (fun i' wr => ∃ (j : Nat), j ≤ n ∧ i' = .int .i64 j ∧ Mat w.heap.size wr H c n n g ((List.range j).foldl (fwStep k i) Mi) ∧ Snd n ws ((List.range j).foldl (fwStep k i) Mi) ∧ Below w.heap.size w wr) (fun i _ => n - (intOf i).toNat)
          case atStart => exact ⟨0, Nat.zero_le _, rfl, hM, hS, hB⟩
          case round =>
            clear hM hB hS
            obtain ⟨j, hj, rfl, hM, hS, hB⟩ := hrel
            by_cases hltj : j < n
            · have hj1 : (j : Int) < (n : Int) := by omega
              have hsj := fwStep_take k i Mi j
              generalize (List.range j).foldl (fwStep k i) Mi = M at hM hS hsj
              have hS' := fwStep_snd hS k i j hlt hlti hltj
              rw [← hsj] at hS'
              have hsj : Hid ((List.range (j + 1)).foldl (fwStep k i) Mi = upd2 M i j (min (M i j) (M i k + M k j))) := hsj
              have s1 := hS i k hlti hlt
              have s2 := hS k j hlt hltj
              have s3 : 0 ≤ M i k + M k j ∧ M i k + M k j ≤ 2000000 := by omega
              have q0 := hM.hcell hlti
              have q1 := hM.hcell hlt
              have q2 := hM.cell hlti hltj
              have q3 := hM.cell hlti hlt
              have q4 := hM.cell hlt hltj
              go_wp2_with fail
              go_still_tail 29, (by kernel_rfl)
              clear q0 q1 q2 q3 q4
              change wpList _ _ _ _ _ wr.drew
              have hzz : Below wr.heap.size wr wr.drew := (Below.refl _ wr).drew
              generalize wr.drew = V at hzz ⊢
              have hM := hM.below hzz
              have hB := stepB hB hzz hB.size
              clear hzz
              have q2 := hM.cell hlti hltj
              have q3 := hM.frozen (j := j) hlti
              have hp := hM.put hlti j (min (M i j) (M i k + M k j))
              have HP := Lib.hid hp.1
              have HG := Lib.hid hp.2
              clear hp
              have hbi := hgb i hlti
              have HS := Lib.hid hS'
              clear hS'
              go_wp2
              go_roundw
              case rel => exact ⟨j + 1, by omega, by go_num, by rw [hsj.out]; exact HP.out, HS.out, hB.grown HG.out hB.size (fun g e => by cases e; omega)⟩
              case measure => simp [intOf]; omega
            · obtain rfl : j = n := by omega
              go_wp2
              go_roundw
              case rel => exact ⟨i + 1, by omega, by go_num, by rw [hsi.out]; exact hM, by rw [hsi.out]; exact hS, hB⟩
              case measure => simp [intOf]; omega
        · obtain rfl : i = n := by omega
          go_wp2
          go_roundw
          case rel => exact ⟨k + 1, by omega, by go_num, by rw [hsk.out]; exact hM, by rw [hsk.out]; exact hS, hB⟩
          case measure => simp [intOf]; omega
    · obtain rfl : k = n := by omega
      go_wp2
      go_ret
      exact ⟨_, _, _, rfl, hM, hB⟩
end
end Go.Proofs.YtipdcgfdejmjfaaGreatDoor
