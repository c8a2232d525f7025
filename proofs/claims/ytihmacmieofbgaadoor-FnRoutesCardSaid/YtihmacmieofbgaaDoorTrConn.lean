/- Walks: IsConnected. -/
import Derived.Test.YtihmacmieofbgaaDoorTrDays
namespace Go.Proofs.YtihmacmieofbgaaDoor
open Go.ChangeShapes Go.WideShapes Go.ChangeAt Go.RowKit

def isZ (z m : Int) : Bool := m == z
set_option maxHeartbeats 400000 in
theorem l01Has_any (a : Option Addr) (cap n : Nat) (xs : List Int) (z : Int) (w : World) (hn : xs.length = n) (hl : n ≤ 1048576) (hx : Rd encI w a xs) :
    Calls Tryd.prog 53 #[.slice a n cap, .int .i64 z] w fun e w' => e = .returned (.bool (xs.any (isZ z))) ∧ w = w' := by
  subst hn
  go_enter Tryd.func53, Tryd.ntmps53
  go_wp2
  go_loop [5] (fun i => ∃ (k : Nat), k ≤ xs.length ∧ i = .int .i64 k ∧ Hid (xs.any (isZ z) = (xs.drop k).any (isZ z))) (fun i => xs.length - (intOf i).toNat)
  case atStart => exact ⟨0, Nat.zero_le _, rfl, rfl⟩
  case round =>
    obtain ⟨k, hk, rfl, hH⟩ := hrel
    by_cases hlt : k < xs.length
    · have hm := List.getElem?_eq_getElem hlt
      have hd : (xs.drop k).any (isZ z) = (isZ z xs[k] || (xs.drop (k + 1)).any (isZ z)) := by rw [List.drop_eq_getElem_cons hlt]; rfl
      generalize xs[k] = m at hm hd
      obtain ⟨b, off, rfl, hb, c0⟩ := hx.i hm
      have HD := Lib.hid hd
      have hk1 : (k : Int) < (xs.length : Int) := by omega
      clear hm hd
      cases hp : (m == z)
      · have hp' : Hid (isZ z m = false) := hp
        go_wp2
        go_round
        case rel => exact ⟨k + 1, by omega, by go_num, by unfold Hid; rw [hH.out, HD.out, hp'.out]; rfl⟩
        case measure => simp [intOf]; omega
      · have hp' : Hid (isZ z m = true) := hp
        go_wp2
        go_ret
        exact ⟨ret_bool (by rw [hH.out, HD.out, hp'.out]; rfl), rfl⟩
    · go_wp2
      go_ret
      exact ⟨ret_bool (by rw [hH.out, List.drop_eq_nil_of_le (by omega)]; rfl), rfl⟩

def maxZ : Int → List Int → Int
  | b, [] => b
  | b, x :: xs => maxZ (max b x) xs
theorem maxZ_snoc : ∀ (xs : List Int) (b x : Int), maxZ b (xs ++ [x]) = max (maxZ b xs) x
  | [], _, _ => rfl
  | y :: ys, b, x => maxZ_snoc ys (max b y) x
theorem maxZ_lt : ∀ (xs : List Int) (b N : Int), maxZ b xs < N ↔ b < N ∧ ∀ x ∈ xs, x < N
  | [], b, N => by simp [maxZ]
  | y :: ys, b, N => by
    rw [maxZ, maxZ_lt ys]
    constructor
    · rintro ⟨h1, h2⟩
      refine ⟨by omega, fun x hx => ?_⟩
      rcases List.mem_cons.1 hx with rfl | hx
      · omega
      · exact h2 x hx
    · rintro ⟨h1, h2⟩
      have := h2 y (List.mem_cons_self ..)
      exact ⟨by omega, fun x hx => h2 x (List.mem_cons_of_mem _ hx)⟩
set_option maxHeartbeats 400000 in
theorem maxI_any (a : Option Addr) (cap : Nat) (y : Int) (ys : List Int) (w : World) (hl : (y :: ys).length ≤ 1048576) (hx : Rd encI w a (y :: ys)) :
    Calls Tryd.prog 52 #[.slice a (y :: ys).length cap] w fun e w' => e = .returned (.int .i64 (maxZ y ys)) ∧ w = w' := by
  obtain ⟨xs, hxs⟩ : ∃ xs, xs = y :: ys := ⟨_, rfl⟩
  have hlen : xs.length = ys.length + 1 := by rw [hxs]; rfl
  rw [← hxs] at hl hx ⊢
  obtain ⟨b, off, rfl, hb, c0⟩ := hx.i (i := 0) (m := y) (by rw [hxs]; rfl)
  have h1 : (1 : Int) ≤ (xs.length : Int) := by omega
  have h0 : ¬ (xs.length : Int) < 1 := by omega
  have h2 : (0 : Int) < (xs.length : Int) := by omega
  rw [Nat.add_zero] at c0
  go_enter Tryd.func52, Tryd.ntmps52
  go_wp2
  go_loop [3, 4] (fun m i => ∃ (k : Nat), 1 ≤ k ∧ k ≤ xs.length ∧ i = .int .i64 k ∧ m = .int .i64 (maxZ y (ys.take (k - 1)))) (fun _ i => xs.length - (intOf i).toNat)
  case atStart => exact ⟨1, Nat.le_refl _, by omega, rfl, rfl⟩
  case round =>
    obtain ⟨k, hk1, hk, rfl, rfl⟩ := hrel
    by_cases hlt : k < xs.length
    · have hlt' : k - 1 < ys.length := by omega
      have hm : xs[k]? = some ys[k - 1] := by
        subst hxs
        obtain ⟨j, rfl⟩ : ∃ j, k = j + 1 := ⟨k - 1, by omega⟩
        rw [List.getElem?_cons_succ]
        exact List.getElem?_eq_getElem hlt'
      have hst : maxZ y (ys.take (k + 1 - 1)) = max (maxZ y (ys.take (k - 1))) ys[k - 1] := by
        rw [← maxZ_snoc, ← List.take_succ_eq_append_getElem hlt']
        congr 2
        omega
      generalize ys[k - 1] = m at hm hst
      obtain ⟨b', off', e, hb', c1⟩ := hx.i hm
      obtain ⟨rfl, rfl⟩ : b = b' ∧ off = off' := by simpa using e
      have HS := Lib.hid hst
      have hk2 : (k : Int) < (xs.length : Int) := by omega
      clear hm hst hxs c0 e
      go_wp2
      go_round
      case rel => exact ⟨k + 1, by omega, by omega, by go_num, by rw [HS.out]⟩
      case measure => simp [intOf]; omega
    · obtain rfl : k = xs.length := by omega
      have e : ys.take (xs.length - 1) = ys := List.take_of_length_le (by omega)
      rw [e]
      go_wp2
      go_ret
      exact ⟨rfl, rfl⟩

def connR (ps : List ByteArray) (ws : List Wy) : Bool × Int :=
  if isLandB ps ws then ((List.range ps.length).all fun v => decide (travM ps.length ws 0 v < 1000000), 0) else (false, 1)
theorem any_dist (n : Nat) (ws : List Wy) (h : ∀ v, v < n → 0 ≤ travM n ws 0 v) : (!((List.range n).map (distF n ws 0)).any (isZ (-1))) = (List.range n).all fun v => decide (travM n ws 0 v < 1000000) := by
  rw [List.any_map, List.not_any_eq_all_not]
  have : ∀ (l : List Nat), (∀ v ∈ l, v < n) → (l.all fun x => !((isZ (-1) ∘ distF n ws 0) x)) = l.all fun v => decide (travM n ws 0 v < 1000000) := by
    intro l
    induction l with
    | nil => intro _; rfl
    | cons x l ih =>
      intro hl
      simp only [List.all_cons, ih (fun v hv => hl v (List.mem_cons_of_mem _ hv))]
      congr 1
      have hx := h x (hl x (List.mem_cons_self ..))
      simp only [Function.comp, isZ, distF]
      by_cases hlt : travM n ws 0 x < 1000000
      · rw [if_pos hlt]; simp [hlt]; omega
      · rw [if_neg hlt]; simp [hlt]
  exact this _ (fun v hv => List.mem_range.1 hv)
theorem max_dist (n : Nat) (ws : List Wy) (y : Int) (ys : List Int) (h : (List.range n).map (travM n ws 0) = y :: ys) : decide (maxZ y ys < 1000000) = (List.range n).all fun v => decide (travM n ws 0 v < 1000000) := by
  have e : (maxZ y ys < 1000000) ↔ ∀ x ∈ (List.range n).map (travM n ws 0), x < 1000000 := by rw [h, maxZ_lt]; simp
  cases hb : (List.range n).all fun v => decide (travM n ws 0 v < 1000000)
  · apply decide_eq_false
    intro h2
    have h3 := e.1 h2
    rw [List.all_eq_false] at hb
    obtain ⟨v, hv, h4⟩ := hb
    exact h4 (by simpa using h3 _ (List.mem_map_of_mem hv))
  · apply decide_eq_true
    apply e.2
    intro x hx
    obtain ⟨v, hv, rfl⟩ := List.mem_map.1 hx
    have := List.all_eq_true.1 hb v hv
    simpa using this

set_option maxHeartbeats 2000000 in
theorem specIsConnected_any (a0 a1 : Option Addr) (cap0 cap1 : Nat) (xs0 : List ByteArray) (xs1 : List Wy) (w : World) (hc0 : xs0.length ≤ cap0) (hc1 : cap0 ≤ 9223372036854775807) (hl0 : xs0.length ≤ 1048576) (hx0 : Rd encS w a0 xs0) (hs0 : ∀ m ∈ xs0, m.size ≤ 1048576) (hl1 : xs1.length ≤ 1048576) (hx1 : Rd encWy w a1 xs1) :
    Calls Tryd.prog 26 #[.agg #[.slice a0 xs0.length cap0, .slice a1 xs1.length cap1]] w fun e w' => e = .returned (.tuple #[.bool (connR xs0 xs1).1, .int .i64 (connR xs0 xs1).2]) ∧ Below w.heap.size w w' := by
  have hB0 : Below w.heap.size w (w.alloc (.cells #[.slice a0 xs0.length cap0, .slice a1 xs1.length cap1] 27)) := (Below.refl _ w).alloc (Nat.le_refl _) _
  have hA0 : At w [.slice a0 xs0.length cap0, .slice a1 xs1.length cap1] (w.alloc (.cells #[.slice a0 xs0.length cap0, .slice a1 xs1.length cap1] 27)) := At.start _ _ _
  cases hA : isLandB xs0 xs1
  · have HM := Lib.hid (fun W (h0 : Rd encS W a0 xs0) (h1 : Rd encWy W a1 xs1) => hA ▸ specIsLand_any a0 a1 cap0 cap1 xs0 xs1 W hc0 hc1 hl0 h0 hs0 hl1 h1)
    have hR : Hid (connR xs0 xs1 = (false, 1)) := by unfold Hid connR; rw [hA]; rfl
    clear hA hA0
    go_enter Tryd.func26, Tryd.ntmps26
    go_wp2_with fail
    refine (HM.out _ (hx0.below hB0) (hx1.below hB0)).mono ?_
    rintro e w1 ⟨rfl, hB1⟩
    go_wp2
    go_ret2
    rw [hR.out]
    exact ⟨rfl, stepB hB0 hB1 hB0.size⟩
  · obtain ⟨_, hn1, _, _⟩ := landOk hA
    have HM := Lib.hid (fun W (h0 : Rd encS W a0 xs0) (h1 : Rd encWy W a1 xs1) => hA ▸ specIsLand_any a0 a1 cap0 cap1 xs0 xs1 W hc0 hc1 hl0 h0 hs0 hl1 h1)
    have HF := Lib.hid (fun W (h1 : Rd encWy W a1 xs1) => fromDist_any a0 a1 cap0 cap1 0 xs0 xs1 W hA hn1 h1)
    have hR : Hid (connR xs0 xs1 = (!((List.range xs0.length).map (distF xs0.length xs1 0)).any (isZ (-1)), 0)) := by
      unfold Hid connR
      rw [any_dist _ _ (fun v hv => (trav_bd hA hn1 hv).1), if_pos hA]
    clear hA
    go_enter Tryd.func26, Tryd.ntmps26
    go_wp2_with fail
    refine (HM.out _ (hx0.below hB0) (hx1.below hB0)).mono ?_
    rintro e w1 ⟨rfl, hB1⟩
    have hA1 := hA0.step hB1
    have b0 := hA1.cell 0 _ rfl
    have b1 := hA1.cell 1 _ rfl
    clear hA0 hB0 hB1
    go_wp2_with fail
    refine (HF.out _ (hx1.below hA1.below)).mono ?_
    rintro e w2 ⟨g, rfl, ho, hB2⟩
    have hB := stepB hA1.below hB2 hA1.below.size
    rw [← rowI_flat] at ho
    have hr := Rd.of_own encI_len (by decide) ho
    clear b0 b1 hA1 hB2 ho
    generalize hys : (List.range xs0.length).map (distF xs0.length xs1 0) = ys at hr hR
    have hyl : ys.length = xs0.length := by rw [← hys]; simp
    clear hys
    go_wp2_with fail
    refine (l01Has_any _ _ _ ys (-1) _ hyl (by omega) hr).mono ?_
    rintro e w3 ⟨rfl, rfl⟩
    go_wp2
    go_ret2
    rw [hR.out]
    exact ⟨rfl, hB⟩

set_option maxHeartbeats 2000000 in
theorem implIsConnected_any (a0 a1 : Option Addr) (cap0 cap1 : Nat) (xs0 : List ByteArray) (xs1 : List Wy) (w : World) (hc0 : xs0.length ≤ cap0) (hc1 : cap0 ≤ 9223372036854775807) (hl0 : xs0.length ≤ 1048576) (hx0 : Rd encS w a0 xs0) (hs0 : ∀ m ∈ xs0, m.size ≤ 1048576) (hl1 : xs1.length ≤ 1048576) (hx1 : Rd encWy w a1 xs1) :
    Calls Tryd.prog 25 #[.agg #[.slice a0 xs0.length cap0, .slice a1 xs1.length cap1]] w fun e w' => e = .returned (.tuple #[.bool (connR xs0 xs1).1, .int .i64 (connR xs0 xs1).2]) ∧ Below w.heap.size w w' := by
  have hB0 : Below w.heap.size w (w.alloc (.cells #[.slice a0 xs0.length cap0, .slice a1 xs1.length cap1] 27)) := (Below.refl _ w).alloc (Nat.le_refl _) _
  have hA0 : At w [.slice a0 xs0.length cap0, .slice a1 xs1.length cap1] (w.alloc (.cells #[.slice a0 xs0.length cap0, .slice a1 xs1.length cap1] 27)) := At.start _ _ _
  cases hA : isLandB xs0 xs1
  · have HM := Lib.hid (fun W (h0 : Rd encS W a0 xs0) (h1 : Rd encWy W a1 xs1) => hA ▸ implIsLand_any a0 a1 cap0 cap1 xs0 xs1 W hc0 hc1 hl0 h0 hs0 hl1 h1)
    have hR : Hid (connR xs0 xs1 = (false, 1)) := by unfold Hid connR; rw [hA]; rfl
    clear hA hA0
    go_enter Tryd.func25, Tryd.ntmps25
    go_wp2_with fail
    refine (HM.out _ (hx0.below hB0) (hx1.below hB0)).mono ?_
    rintro e w1 ⟨rfl, hB1⟩
    go_wp2
    go_ret2
    rw [hR.out]
    exact ⟨rfl, stepB hB0 hB1 hB0.size⟩
  · obtain ⟨_, hn1, _, _⟩ := landOk hA
    have HM := Lib.hid (fun W (h0 : Rd encS W a0 xs0) (h1 : Rd encWy W a1 xs1) => hA ▸ implIsLand_any a0 a1 cap0 cap1 xs0 xs1 W hc0 hc1 hl0 h0 hs0 hl1 h1)
    have HF := Lib.hid (fun W (h1 : Rd encWy W a1 xs1) => trav_any a0 a1 cap0 cap1 xs0 xs1 W hA h1)
    have hR0 : connR xs0 xs1 = ((List.range xs0.length).all fun v => decide (travM xs0.length xs1 0 v < 1000000), 0) := by unfold connR; rw [if_pos hA]
    have hn2 : (0 : Int) < (xs0.length : Int) := by omega
    clear hA
    go_enter Tryd.func25, Tryd.ntmps25
    go_wp2_with fail
    refine (HM.out _ (hx0.below hB0) (hx1.below hB0)).mono ?_
    rintro e w1 ⟨rfl, hB1⟩
    have hA1 := hA0.step hB1
    have b0 := hA1.cell 0 _ rfl
    have b1 := hA1.cell 1 _ rfl
    clear hA0 hB0 hB1
    go_wp2_with fail
    refine (HF.out _ (hx1.below hA1.below)).mono ?_
    rintro e w2 ⟨H, c, g, rfl, hM, hB2⟩
    have hB := stepB hA1.below hB2 hA1.below.size
    have c1 := hM.hcell hn1
    have ho := hM.row 0 hn1
    rw [← rowI_flat] at ho
    have hr := Rd.of_own encI_len (by decide) ho
    clear b0 b1 hA1 hB2 hM ho
    obtain ⟨y, ys, hys⟩ : ∃ y ys, (List.range xs0.length).map (travM xs0.length xs1 0) = y :: ys := by
      cases h : (List.range xs0.length).map (travM xs0.length xs1 0) with
      | nil =>
        have h2 := congrArg List.length h
        rw [List.length_map, List.length_range] at h2
        exact absurd h2 (by show ¬ xs0.length = 0; omega)
      | cons y ys => exact ⟨y, ys, rfl⟩
    have hyl : (y :: ys).length = xs0.length := by rw [← hys]; simp
    rw [← max_dist _ _ _ _ hys] at hR0
    have hR := Lib.hid hR0
    rw [hys] at hr
    have hyl2 : (y :: ys).length ≤ 1048576 := by rw [hyl]; exact hl0
    have hc := Lib.hid (fun cap => maxI_any _ cap y ys w2 hyl2 hr)
    rw [hyl] at hc
    clear hys hR0 hr
    go_wp2_with fail
    refine (hc.out _).mono ?_
    rintro e w3 ⟨rfl, rfl⟩
    go_wp2
    go_ret2
    rw [hR.out]
    exact ⟨rfl, hB⟩
end Go.Proofs.YtihmacmieofbgaaDoor
