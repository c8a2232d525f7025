/- Walks: the old date of a day, by the program. -/
import Derived.Test.YtjklileooiepmaaGreatDoorCal
import Derived.Test.YtjklileooiepmaaGreatDoorFix
import Derived.BigRegion
import Derived.BigQuiet
import Derived.StillTailTactics
import Derived.Deep.LoopGhost
namespace Go.Proofs.YtjklileooiepmaaGreatDoor
section
open Go.ChangeShapes Go.WideShapes Go.ChangeAt Go.RowKit Go.IntWalk

theorem isLeap_any (y : Int) (w : World) (h0 : 0 ≤ y) (h1 : y ≤ 5000) : Calls Tryz.prog 113 #[.int .i64 y, .bool false] w fun e w' => e = .returned (.bool (decide (y % 4 = 0))) ∧ w = w' := by
  by_cases hy : y % 4 = 0
  · go_enter Tryz.func113, Tryz.ntmps113
    go_wp2
    go_ret
    exact ⟨ret_bool (by simp [hy]), rfl⟩
  · go_enter Tryz.func113, Tryz.ntmps113
    go_wp2
    go_ret
    exact ⟨ret_bool (by simp [hy]), rfl⟩
theorem lengthOfMonth_any (y m : Int) (w : World) (h0 : 0 ≤ y) (h1 : y ≤ 5000) : Calls Tryz.prog 99 #[.int .i64 y, .int .i64 m, .bool false] w fun e w' => e = .returned (.int .i64 (mlO y m)) ∧ w = w' := by
  have HL := Lib.hid (fun W => isLeap_any y W h0 h1)
  have hl : Hid (mlO y m = if m = 2 then (if y % 4 = 0 then 29 else 28) else if m = 4 ∨ m = 6 ∨ m = 9 ∨ m = 11 then 30 else 31) := rfl
  generalize mlO y m = V at hl ⊢
  by_cases hy : y % 4 = 0
  all_goals
    have hy' := Lib.hid hy
    go_enter Tryz.func99, Tryz.ntmps99
    go_wp2_with (go_at_call 113; refine (HL.out _).mono ?_; rintro e w' ⟨rfl, rfl⟩)
    all_goals go_ret
    all_goals exact ⟨ret_int (by rw [hl.out]; have := hy'.out; clear hl hy'; simp_all), rfl⟩
theorem newYear_any (y : Int) (w : World) (h0 : 1 ≤ y) (h1 : y ≤ 5000) : Calls Tryz.prog 98 #[.int .i64 y, .bool false] w fun e w' => e = .returned (.int .i64 (nyO y)) ∧ w = w' := by
  have v1 := i64_in (y - 1) (by omega)
  have v2 := i64_in (365 * (y - 1)) (by omega)
  have v3 := i64_in ((y - 1) / 4) (by omega)
  have v4 := i64_in (365 * (y - 1) + (y - 1) / 4) (by omega)
  go_enter Tryz.func98, Tryz.ntmps98
  go_wp2
  go_ret
  exact ⟨rfl, rfl⟩
theorem weekdayOf_any (n : Int) (w : World) (h0 : -5 ≤ n) (h1 : n ≤ 2000000) : Calls Tryz.prog 69 #[.int .i64 n] w fun e w' => e = .returned (.int .i64 ((n + 5) % 7)) ∧ w = w' := by
  have v1 := i64_in (n + 5) (by omega)
  have v2 := i64_in ((n + 5) % 7) (by omega)
  go_enter Tryz.func69, Tryz.ntmps69
  go_wp2
  go_ret
  exact ⟨rfl, rfl⟩
set_option maxRecDepth 100000 in
set_option maxHeartbeats 1000000 in
theorem dayOf_any (y : Int) (m : Nat) (d : Int) (w : World) (h0 : 1 ≤ y) (h1 : y ≤ 5000) (hm : m ≤ 20) (hm1 : 1 ≤ m) (hd0 : -100 ≤ d) (hd : d ≤ 100) :
    Calls Tryz.prog 104 #[.agg #[.int .i64 y, .int .i64 m, .int .i64 d], .bool false] w fun e w' => e = .returned (.int .i64 (numO y m d)) ∧ Below w.heap.size w w' := by
  have HN := Lib.hid (fun W => newYear_any y W h0 h1)
  have HM := Lib.hid (fun m W => lengthOfMonth_any y m W (by omega) h1)
  have hA0 : At w [.int .i64 y, .int .i64 m, .int .i64 d] (w.alloc (.cells #[.int .i64 y, .int .i64 m, .int .i64 d] 83)) := At.start _ _ _
  have hR : Hid (numO y m d = nyO y + d - 1 + cumO y (m - 1)) := rfl
  have hny : -100 ≤ nyO y ∧ nyO y ≤ 2000000 := by unfold nyO; omega
  generalize numO y m d = R at hR ⊢
  have HC := Lib.hid (cumO_succ y)
  have HB := Lib.hid (cumO_bd y)
  generalize nyO y = N at HN hR hny ⊢
  generalize cumO y = C at HC HB hR
  generalize mlO y = L at HM HC
  have v1 := i64_in (N + d) (by omega)
  have v2 := i64_in (N + d - 1) (by omega)
  have E0 := Later.cell (hA0.cell 0 _ rfl) hA0.size
  have E2 := Later.cell (hA0.cell 2 _ rfl) hA0.size
  go_enter Tryz.func104, Tryz.ntmps104
  go_wp2_with fail
  refine wp_region_later _ (by kernel_rfl) (by kernel_rfl) ?_
  repeat (go_big_quiet_step ((go_at_call 98; exact Later.same (HN.out _))))
  refine wpQuiet_nil ?_
  intro z
  have hz := z.prop
  generalize z.val = w2 at hz
  clear E0 E2
  have hA := hA0.step hz
  clear hz hA0
  go_wp2
  go_loopw [5, 6] (fun s i wr => ∃ k : Nat, k + 1 ≤ m ∧ i = .int .i64 ((k : Int) + 1) ∧ s = .int .i64 (N + d - 1 + C k) ∧ At w [.int .i64 y, .int .i64 m, .int .i64 d] wr) (fun _ i _ => m - (intOf i).toNat)
  case atStart => exact ⟨0, hm1, rfl, by rw [show C 0 = 0 by have := HB.out 0; omega]; simp, hA⟩
  case round =>
    clear hA
    obtain ⟨k, hk, rfl, rfl, hA⟩ := hrel
    have b0 := hA.cell 0 _ rfl
    have b1 := hA.cell 1 _ rfl
    have hb := HB.out k
    by_cases hlt : k + 1 < m
    · have hlt' : (k : Int) + 1 < (m : Int) := by omega
      have hs := HC.out k
      have hb2 := HB.out (k + 1)
      have v3 := i64_in (N + d - 1 + C k + L ((k : Int) + 1)) (by omega)
      go_wp2_with (go_at_call 99; refine (HM.out _ _).mono ?_; rintro e w' ⟨rfl, rfl⟩)
      go_roundw
      case rel => exact ⟨k + 1, by omega, by go_num, by rw [hs]; congr 1; omega, hA⟩
      case measure => simp [intOf]; omega
    · have hlt' : decide ((k : Int) + 1 < (m : Int)) = false := by simp; omega
      go_wp2
      go_ret
      exact ⟨ret_int (by rw [hR.out]; congr 2; omega), hA.below⟩
end

section
open Go.ChangeShapes Go.WideShapes Go.ChangeAt Go.RowKit Go.IntWalk

set_option maxRecDepth 100000 in
set_option maxHeartbeats 1000000 in
theorem dateOf1_any (p3 p2 : Nat) (n i : Int) (w : World) (h0 : 0 ≤ i) (h1 : i ≤ 2000) (c3 : w.cell? ⟨p3, 0, none⟩ = some (.bool false)) (c2 : w.cell? ⟨p2, 0, none⟩ = some (.int .i64 n)) (s3 : p3 < w.heap.size) (s2 : p2 < w.heap.size) :
    Calls Tryz.prog 97 #[.int .i64 i, .pointer (some ⟨p3, 0, none⟩), .pointer (some ⟨p2, 0, none⟩)] w fun e w' => e = .returned (.bool (decide (yrO n - 1 ≤ i))) ∧ Below w.heap.size w w' := by
  have HN := Lib.hid (fun W => newYear_any (i + 2) W (by omega) (by omega))
  have hd : decide (n < nyO (i + 2)) = decide (yrO n - 1 ≤ i) := by
    have := yrO_iff (n := n) (y := i + 2)
    by_cases c : yrO n - 1 ≤ i
    · rw [decide_eq_true c, decide_eq_true]
      refine Int.not_le.1 fun h => ?_
      have := this.1 h
      omega
    · rw [decide_eq_false c, decide_eq_false]
      refine Int.not_lt.2 (this.2 (by omega))
  rw [← hd]
  clear hd
  generalize nyO (i + 2) = N at HN ⊢
  have v1 := i64_in (i + 2) (by omega)
  have E2 := Later.cell c2 s2
  have E3 := Later.cell c3 s3
  go_enter Tryz.func97, Tryz.ntmps97
  go_wp2_with fail
  refine wp_region_later _ (by kernel_rfl) (by kernel_rfl) ?_
  repeat (go_big_quiet_step ((go_at_call 98; exact Later.same (HN.out _))))
  refine wpQuiet_nil ?_
  intro z
  have hz := z.prop
  generalize z.val = w2 at hz
  clear E2 E3
  go_wp2
  go_ret
  exact ⟨rfl, hz⟩
set_option maxRecDepth 100000 in
set_option maxHeartbeats 1000000 in
theorem searchDate_any (p3 p2 : Nat) (n : Int) (w : World) (hn0 : 0 ≤ n) (hn : n ≤ 730499) (c3 : w.cell? ⟨p3, 0, none⟩ = some (.bool false)) (c2 : w.cell? ⟨p2, 0, none⟩ = some (.int .i64 n)) (s3 : p3 < w.heap.size) (s2 : p2 < w.heap.size) :
    Calls Tryz.prog 96 #[.int .i64 2000, .func (.func 97) #[] #[.pointer (some ⟨p3, 0, none⟩), .pointer (some ⟨p2, 0, none⟩)]] w fun e w' => e = .returned (.int .i64 (yrO n - 1)) ∧ Below w.heap.size w w' := by
  have HF := Lib.hid (fun (i : Nat) W (hi : i ≤ 2000) (h : Below w.heap.size w W) => dateOf1_any p3 p2 n i W (by omega) (by omega) ((h.cell (p := ⟨p3, 0, none⟩) s3).trans c3) ((h.cell (p := ⟨p2, 0, none⟩) s2).trans c2) (Nat.lt_of_lt_of_le s3 h.size) (Nat.lt_of_lt_of_le s2 h.size))
  clear c3 c2 s3 s2
  have hy := yrO_bd hn0 hn
  obtain ⟨Y, hY⟩ : ∃ Y : Nat, yrO n - 1 = (Y : Int) := ⟨(yrO n - 1).toNat, by omega⟩
  rw [hY] at HF ⊢
  have hY2 : Y ≤ 1999 := by omega
  clear hy hY
  go_enter Tryz.func96, Tryz.ntmps96
  go_wp2
  go_loopg [5, 6] 2000 (fun kx s5 s6 wr => ∃ (lo hi : Nat), s5 = .int .i64 lo ∧ s6 = .int .i64 hi ∧ lo ≤ Y ∧ Y ≤ hi ∧ hi ≤ 2000 ∧ hi - lo ≤ kx ∧ Below w.heap.size w wr)
  case atStart => exact ⟨0, 2000, rfl, rfl, by omega, by omega, by omega, by omega, Below.refl _ _⟩
  case round =>
    obtain ⟨lo, hi, rfl, rfl, hl, hh, hi2, hg, hB⟩ := hrel
    by_cases hlt : lo < hi
    · have hlt' : (lo : Int) < (hi : Int) := by omega
      have hc := Lib.hid (HF.out ((lo + hi) / 2) wr (by omega) hB)
      have he : (((lo + hi) / 2 : Nat) : Int) = ((lo : Int) + (hi : Int)) / 2 := by omega
      rw [he] at hc
      have v1 := i64_in ((lo : Int) + hi) (by omega)
      have v2 := u64_in ((lo : Int) + hi) (by omega)
      have v3 := i64_in (((lo : Int) + hi) / 2) (by omega)
      have v4 := i64_in (((lo : Int) + hi) / 2 + 1) (by omega)
      by_cases hp : (Y : Int) ≤ ((lo : Int) + hi) / 2
      · have hc := Lib.hid (decide_eq_true hp ▸ hc.out)
        go_wp2_with fail
        refine hc.out.mono ?_
        rintro e w1 ⟨rfl, hB1⟩
        go_wp2
        go_roundg ((lo + hi) / 2 - lo)
        case measure => omega
        case rel => exact ⟨lo, (lo + hi) / 2, rfl, by rw [he], hl, by omega, by omega, Nat.le_refl _, stepB hB hB1 hB.size⟩
      · have hc := Lib.hid (decide_eq_false hp ▸ hc.out)
        go_wp2_with fail
        refine hc.out.mono ?_
        rintro e w1 ⟨rfl, hB1⟩
        go_wp2
        go_roundg (hi - ((lo + hi) / 2 + 1))
        case measure => omega
        case rel => exact ⟨(lo + hi) / 2 + 1, hi, by rw [← he]; rfl, rfl, by omega, hh, hi2, Nat.le_refl _, stepB hB hB1 hB.size⟩
    · have hlt' : decide ((lo : Int) < (hi : Int)) = false := by simp; omega
      go_wp2
      go_ret
      exact ⟨ret_int (by omega), hB⟩

theorem dts_start (w : World) (v : Int) : Box w.heap.size (((w.alloc (.cells #[.int .i64 v] 2)).alloc (.cells #[.bool false] 4)).alloc (.cells #[.int .i64 0, .int .i64 0, .int .i64 0] 83)) 2 w.heap.size [.int .i64 v] ∧
    Box w.heap.size (((w.alloc (.cells #[.int .i64 v] 2)).alloc (.cells #[.bool false] 4)).alloc (.cells #[.int .i64 0, .int .i64 0, .int .i64 0] 83)) 4 (w.heap.size + 1) [.bool false] ∧
    Box w.heap.size (((w.alloc (.cells #[.int .i64 v] 2)).alloc (.cells #[.bool false] 4)).alloc (.cells #[.int .i64 0, .int .i64 0, .int .i64 0] 83)) 83 (w.heap.size + 1 + 1) [.int .i64 0, .int .i64 0, .int .i64 0] ∧
    Below w.heap.size w (((w.alloc (.cells #[.int .i64 v] 2)).alloc (.cells #[.bool false] 4)).alloc (.cells #[.int .i64 0, .int .i64 0, .int .i64 0] 83)) := by
  have s1 : (w.alloc (.cells #[.int .i64 v] 2)).heap.size = w.heap.size + 1 := by simp
  have s2 : ((w.alloc (.cells #[.int .i64 v] 2)).alloc (.cells #[.bool false] 4)).heap.size = w.heap.size + 1 + 1 := by simp
  have b1 := (Below.refl _ (w.alloc (.cells #[.int .i64 v] 2))).alloc (Nat.le_refl _) (.cells #[.bool false] 4)
  have b2 := (Below.refl _ ((w.alloc (.cells #[.int .i64 v] 2)).alloc (.cells #[.bool false] 4))).alloc (Nat.le_refl _) (.cells #[.int .i64 0, .int .i64 0, .int .i64 0] 83)
  have h1 := Box.new w 2 [.int .i64 v] w.heap.size (Nat.le_refl _) (by simp)
  have h2 := Box.new (w.alloc (.cells #[.int .i64 v] 2)) 4 [.bool false] w.heap.size (by simp) (by simp)
  have h3 := Box.new ((w.alloc (.cells #[.int .i64 v] 2)).alloc (.cells #[.bool false] 4)) 83 [.int .i64 0, .int .i64 0, .int .i64 0] w.heap.size (by simp; omega) (by simp)
  rw [s1] at h2
  rw [s2] at h3
  exact ⟨(h1.below b1).below b2, h2.below b2, h3, by go_grown⟩
/-- The boxes of dateOf. -/
structure DtS (w0 : World) (v y m d : Int) (q : Nat) (w : World) : Prop where
  below : Below w0.heap.size w0 w
  n : Box w0.heap.size w 2 w0.heap.size [.int .i64 v]
  f : Box w0.heap.size w 4 (w0.heap.size + 1) [.bool false]
  r : Box w0.heap.size w 83 (w0.heap.size + 1 + 1) [.int .i64 0, .int .i64 0, .int .i64 0]
  d : Box w0.heap.size w 83 q [.int .i64 y, .int .i64 m, .int .i64 d]
  hq : w0.heap.size + 2 < q
theorem DtS.step {w0 w w' : World} {v y m d : Int} {q : Nat} (h : DtS w0 v y m d q w) (hB : Below w.heap.size w w') : DtS w0 v y m d q w' :=
  ⟨stepB h.below hB h.below.size, h.n.below hB, h.f.below hB, h.r.below hB, h.d.below hB, h.hq⟩
theorem DtS.putN {w0 w : World} {v y m d : Int} {q : Nat} (h : DtS w0 v y m d q w) (x : Int) : DtS w0 x y m d q (w.setCell ⟨w0.heap.size, 0, none⟩ (.int .i64 x)) := by
  have hp := Box.put (pre := []) (post := []) h.n rfl (.int .i64 x)
  have := h.hq
  exact ⟨h.below.grown hp.2 h.below.size (fun g e => by cases e; exact Nat.le_refl _), hp.1, h.f.keep hp.2 (by omega), h.r.keep hp.2 (by omega), h.d.keep hp.2 (by omega), h.hq⟩
theorem DtS.putM {w0 w : World} {v y m d : Int} {q : Nat} (h : DtS w0 v y m d q w) (x : Int) : DtS w0 v y x d q (w.setCell ⟨q, 1, none⟩ (.int .i64 x)) := by
  have hp := Box.put (i := 1) (pre := [.int .i64 y]) (post := [.int .i64 d]) h.d rfl (.int .i64 x)
  have := h.hq
  exact ⟨h.below.grown hp.2 h.below.size (fun g e => by cases e; omega), h.n.keep hp.2 (by omega), h.f.keep hp.2 (by omega), h.r.keep hp.2 (by omega), hp.1, h.hq⟩
theorem DtS.putD {w0 w : World} {v y m d : Int} {q : Nat} (h : DtS w0 v y m d q w) (x : Int) : DtS w0 v y m x q (w.setCell ⟨q, 2, none⟩ (.int .i64 x)) := by
  have hp := Box.put (i := 2) (pre := [.int .i64 y, .int .i64 m]) (post := []) h.d rfl (.int .i64 x)
  have := h.hq
  exact ⟨h.below.grown hp.2 h.below.size (fun g e => by cases e; omega), h.n.keep hp.2 (by omega), h.f.keep hp.2 (by omega), h.r.keep hp.2 (by omega), hp.1, h.hq⟩

set_option maxRecDepth 100000 in
set_option maxHeartbeats 2000000 in
theorem dateOf_any (n : Int) (w : World) (hn0 : 0 ≤ n) (hn : n ≤ 730499) :
    Calls Tryz.prog 61 #[.int .i64 n, .bool false] w fun e w' => e = .returned (.agg #[.int .i64 (yrO n), .int .i64 (mnO n : Nat), .int .i64 (dyO n)]) ∧ Below w.heap.size w w' := by
  have hy := yrO_bd hn0 hn
  have HS := Lib.hid (fun p3 p2 W c3 c2 s3 s2 => searchDate_any p3 p2 n W hn0 hn c3 c2 s3 s2)
  have HN := Lib.hid (fun W => newYear_any (yrO n) W (by omega) (by omega))
  have HM := Lib.hid (fun m W => lengthOfMonth_any (yrO n) m W (by omega) (by omega))
  have hm := Lib.hid (mnO_at n)
  have hD0 : Hid (dyO n = n - nyO (yrO n) - cumO (yrO n) (mnO n - 1) + 1) := rfl
  have hle := yrO_le n
  have hgt := yrO_gt n
  rw [nyO_next] at hgt
  have HC := Lib.hid (cumO_succ (yrO n))
  have HB := Lib.hid (cumO_bd (yrO n))
  have HU := Lib.hid (fun (a b : Nat) (h : a ≤ b) => cumO_mono (yrO n) h)
  generalize hM : mnO n = M at hm hD0 ⊢
  clear hM
  generalize dyO n = D at hD0 ⊢
  generalize yrO n = Y at *
  generalize nyO Y = N at *
  generalize cumO Y = C at *
  generalize mlO Y = L at *
  have v0 := i64_in (Y - 1 + 1) (by omega)
  go_enter Tryz.func61, Tryz.ntmps61
  go_wp2_with fail
  obtain ⟨hN, hF, hR, hB⟩ := dts_start w n
  generalize ((w.alloc (.cells #[.int .i64 n] 2)).alloc (.cells #[.bool false] 4)).alloc (.cells #[.int .i64 0, .int .i64 0, .int .i64 0] 83) = W3 at hN hF hR hB ⊢
  refine (HS.out _ _ W3 (hF.cell 0 _ rfl) (hN.cell 0 _ rfl) hF.lt.2 hN.lt.2).mono ?_
  rintro e W4 ⟨rfl, hB1⟩
  have hN := hN.below hB1
  have hF := hF.below hB1
  have hR := hR.below hB1
  have hB := stepB hB hB1 hB.size
  clear hB1
  go_wp2_with fail
  have hDz : DtS w n Y 1 0 W4.heap.size (W4.alloc (.cells #[.int .i64 Y, .int .i64 1, .int .i64 0] 83)) := by
    have b1 := (Below.refl _ W4).alloc (Nat.le_refl _) (.cells #[.int .i64 Y, .int .i64 1, .int .i64 0] 83)
    have hl := hR.lt
    exact ⟨stepB hB b1 hB.size, hN.below b1, hF.below b1, hR.below b1, Box.new W4 _ [_, _, _] _ hB.size (by simp), by omega⟩
  clear hN hF hR hB HS
  generalize W4.alloc (.cells #[.int .i64 Y, .int .i64 1, .int .i64 0] 83) = W5 at hDz ⊢
  generalize W4.heap.size = q at hDz ⊢
  have c2 := hDz.n.cell 0 _ rfl
  have c3 := hDz.f.cell 0 _ rfl
  have hC0 : C 0 = 0 := by have := HB.out 0; omega
  have hN0 : 0 ≤ n - N ∧ n - N ≤ 372 := by have := HB.out 12; omega
  have v1 := i64_in (n - N) (by omega)
  go_still_tail 5, (by kernel_rfl)
  still_call ((HN.out _).mono fun _ _ h => ⟨h.1, h.2.symm⟩)
  repeat still_step
  refine wpStill_nil ?_
  clear c2 c3
  change wpList _ _ _ _ _ W5.drew
  have hD1 := hDz.step (Below.refl _ W5).drew
  clear hDz
  generalize W5.drew = V at hD1 ⊢
  have f2 := World.ownsRow.frozenAt hD1.n 0
  have hD2 := Lib.hid (hD1.putN (n - N))
  have c2 := hD1.n.cell 0 _ rfl
  go_wp2
  clear c2 f2 hD1
  have hm := hm.out
  have hCM := Lib.hid (fun k (h : k < M) => HU.out k (M - 1) (by omega))
  go_loopg [] 13 (fun kx wr => ∃ k : Nat, k + 1 ≤ M ∧ 13 - k ≤ kx ∧ DtS w (n - N - C k) Y ((k : Int) + 1) 0 q wr)
  case atStart => exact ⟨0, hm.1, by omega, by rw [hC0]; simpa using hD2.out⟩
  case round =>
    clear hD2
    obtain ⟨k, hk, hg, hD⟩ := hrel
    have c2 := hD.n.cell 0 _ rfl
    have c3 := hD.f.cell 0 _ rfl
    have c4 := hD.d.cell 1 _ rfl
    have E2 := Later.cell c2 hD.n.lt.2
    have E3 := Later.cell c3 hD.f.lt.2
    have E4 := Later.cell c4 hD.d.lt.2
    have hs := HC.out k
    have HMk := Lib.hid (HM.out ((k : Int) + 1))
    generalize L ((k : Int) + 1) = l at hs HMk
    by_cases hlt : k + 1 < M
    · have h1 := HU.out (k + 1) (M - 1) (by omega)
      have hge : decide (l ≤ n - N - C k) = true := by simp; omega
      have hb := HB.out (k + 1)
      go_wp2_with fail
      refine wp_region_later _ (by kernel_rfl) (by kernel_rfl) ?_
      repeat (go_big_quiet_step ((go_at_call 99; exact Later.same (HMk.out _))))
      refine wpQuiet_nil ?_
      intro z
      have hz := z.prop
      generalize z.val = w2 at hz
      clear E2 E3 E4 c2 c3 c4
      have hD := hD.step hz
      clear hz
      have c2 := hD.n.cell 0 _ rfl
      have c3 := hD.f.cell 0 _ rfl
      have c4 := hD.d.cell 1 _ rfl
      have v2 := i64_in (n - N - C k - l) (by omega)
      go_wp2_with fail
      go_still_tail 7, (by kernel_rfl)
      still_call ((HMk.out _).mono fun _ _ h => ⟨h.1, h.2.symm⟩)
      repeat still_step
      refine wpStill_nil ?_
      clear c2 c3 c4
      change wpList _ _ _ _ _ w2.drew
      have hD := hD.step (Below.refl _ w2).drew
      generalize w2.drew = V at hD ⊢
      have f2 := World.ownsRow.frozenAt hD.n 0
      have c2 := hD.n.cell 0 _ rfl
      have hD' := Lib.hid (hD.putN (n - N - C k - l))
      go_upto_region 6 with (fail)
      clear f2 c2 hD
      have hD := hD'.out
      clear hD'
      generalize V.setCell ⟨w.heap.size, 0, none⟩ (.int .i64 (n - N - C k - l)) = V2 at hD ⊢
      have f4 := World.ownsRow.frozenAt hD.d 1
      have c4 := hD.d.cell 1 _ rfl
      have v3 := i64_in ((k : Int) + 1 + 1) (by omega)
      have hD' := Lib.hid (hD.putM ((k : Int) + 1 + 1))
      go_wp2
      go_roundg (12 - k)
      case measure => omega
      case rel => exact ⟨k + 1, by omega, by omega, by rw [hs, ← Int.sub_sub]; exact hD'.out⟩
    · have he : Hid (k = M - 1) := by unfold Hid; omega
      have hge : decide (l ≤ n - N - C k) = false := by
        have e : k + 1 = M := by omega
        rw [e] at hs
        simp; omega
      go_wp2_with fail
      refine wp_region_later _ (by kernel_rfl) (by kernel_rfl) ?_
      repeat (go_big_quiet_step ((go_at_call 99; exact Later.same (HMk.out _))))
      refine wpQuiet_nil ?_
      intro z
      have hz := z.prop
      generalize z.val = w2 at hz
      clear E2 E3 E4 c2 c3 c4
      have hD := hD.step hz
      clear hz
      have c2 := hD.n.cell 0 _ rfl
      have f4 := World.ownsRow.frozenAt hD.d 2
      have hd : n - N - C k + 1 = D := by rw [hD0.out, he.out]
      have hck : C k ≤ n - N := by rw [he.out]; exact hm.2.2.1
      have hcb := (HB.out k).1
      have v2 := i64_in (n - N - C k + 1) (by omega)
      have c5 := hD.d.cell 2 _ rfl
      rw [hd] at v2
      have hk1 : (k : Int) + 1 = (M : Int) := by have := he.out; omega
      rw [hk1] at hD
      clear he hk1
      have hD' := Lib.hid (hD.putD D)
      go_upto_region 8 with (fail)
      clear c2 f4 c5 hD
      have hD := hD'.out
      clear hD'
      generalize w2.setCell ⟨q, 2, none⟩ (.int .i64 D) = V at hD ⊢
      have d0 := hD.d.cell 0 _ rfl
      have d1 := hD.d.cell 1 _ rfl
      have d2 := hD.d.cell 2 _ rfl
      have r0 := hD.r.cell 0 _ rfl
      have r1 := hD.r.cell 1 _ rfl
      have r2 := hD.r.cell 2 _ rfl
      have f0 := World.ownsRow.frozenAt hD.r 0
      have f1 := World.ownsRow.frozenAt hD.r 1
      have f2 := World.ownsRow.frozenAt hD.r 2
      have hp := hD.r.put3 (.int .i64 Y) (.int .i64 (M : Nat)) (.int .i64 D)
      have HP := Lib.hid hp
      clear hp
      go_wp2
      have hp := HP.out
      have hBe := hD.below.grown hp.2 hD.below.size (fun g e => by cases e; omega)
      generalize ((V.setCell ⟨w.heap.size + 1 + 1, 0, none⟩ (.int .i64 Y)).setCell ⟨w.heap.size + 1 + 1, 1, none⟩ (.int .i64 (M : Nat))).setCell ⟨w.heap.size + 1 + 1, 2, none⟩ (.int .i64 D) = Wf at hp hBe ⊢
      have z0 := hp.1.cell 0 _ rfl
      have z1 := hp.1.cell 1 _ rfl
      have z2 := hp.1.cell 2 _ rfl
      refine bodyPost_ret_by (v := .agg #[.int .i64 Y, .int .i64 (M : Nat), .int .i64 D]) ?_ rfl ⟨rfl, hBe⟩
      simp [results, go_sem, z0, z1, z2]
end
end Go.Proofs.YtjklileooiepmaaGreatDoor
