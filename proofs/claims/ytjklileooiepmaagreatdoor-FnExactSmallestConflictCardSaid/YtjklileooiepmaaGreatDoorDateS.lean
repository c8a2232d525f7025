/- Walks: the old calendar of the reference. -/
import Derived.Test.YtjklileooiepmaaGreatDoorCal
import Derived.Test.YtjklileooiepmaaGreatDoorFix
import Derived.Deep.LoopGhost
import Derived.Deep.CutRange
import Derived.Deep.CutBlock
namespace Go.Proofs.YtjklileooiepmaaGreatDoor
open Go.ChangeShapes Go.WideShapes Go.ChangeAt Go.RowKit Go.IntWalk

theorem l01Leap_any (y : Int) (w : World) (h0 : 0 ≤ y) (h1 : y ≤ 5000) : Calls Tryz.prog 108 #[.int .i64 y, .bool false] w fun e w' => e = .returned (.bool (decide (y % 4 = 0))) ∧ w = w' := by
  by_cases hy : y % 4 = 0
  · go_enter Tryz.func108, Tryz.ntmps108
    go_wp2
    go_ret
    exact ⟨ret_bool (by simp [hy]), rfl⟩
  · go_enter Tryz.func108, Tryz.ntmps108
    go_wp2
    go_ret
    exact ⟨ret_bool (by simp [hy]), rfl⟩
theorem l01Length_any (y m : Int) (w : World) (h0 : 0 ≤ y) (h1 : y ≤ 5000) : Calls Tryz.prog 109 #[.int .i64 y, .int .i64 m, .bool false] w fun e w' => e = .returned (.int .i64 (mlO y m)) ∧ w = w' := by
  have HL := Lib.hid (fun W => l01Leap_any y W h0 h1)
  have hl : Hid (mlO y m = if m = 2 then (if y % 4 = 0 then 29 else 28) else if m = 4 ∨ m = 6 ∨ m = 9 ∨ m = 11 then 30 else 31) := rfl
  generalize mlO y m = V at hl ⊢
  by_cases hy : y % 4 = 0
  all_goals
    have hy' := Lib.hid hy
    go_enter Tryz.func109, Tryz.ntmps109
    go_wp2_with (go_at_call 108; refine (HL.out _).mono ?_; rintro e w' ⟨rfl, rfl⟩)
    all_goals go_ret
    all_goals exact ⟨ret_int (by rw [hl.out]; have := hy'.out; clear hl hy'; simp_all), rfl⟩
theorem l01Weekday_any (n : Int) (w : World) (h0 : -5 ≤ n) (h1 : n ≤ 2000000) : Calls Tryz.prog 55 #[.int .i64 n] w fun e w' => e = .returned (.int .i64 ((n + 5) % 7)) ∧ w = w' := by
  have v1 := i64_in (n + 5) (by omega)
  have v2 := i64_in ((n + 5) % 7) (by omega)
  go_enter Tryz.func55, Tryz.ntmps55
  go_wp2
  go_ret
  exact ⟨rfl, rfl⟩
set_option maxRecDepth 100000 in
set_option maxHeartbeats 1000000 in
theorem l01Number_any (y : Int) (m : Nat) (d : Int) (w : World) (h0 : 1 ≤ y) (h1 : y ≤ 5000) (hm : m ≤ 20) (hm1 : 1 ≤ m) (hd0 : -100 ≤ d) (hd : d ≤ 100) :
    Calls Tryz.prog 85 #[.agg #[.int .i64 y, .int .i64 m, .int .i64 d], .bool false] w fun e w' => e = .returned (.int .i64 (numO y m d)) ∧ Below w.heap.size w w' := by
  have HM := Lib.hid (fun m W => l01Length_any y m W (by omega) h1)
  have hA0 : At w [.int .i64 y, .int .i64 m, .int .i64 d] (w.alloc (.cells #[.int .i64 y, .int .i64 m, .int .i64 d] 83)) := At.start _ _ _
  have hR : Hid (numO y m d = 365 * (y - 1) + (y - 1) / 4 + d - 1 + cumO y (m - 1)) := rfl
  generalize numO y m d = R at hR ⊢
  have HC := Lib.hid (cumO_succ y)
  have HB := Lib.hid (cumO_bd y)
  generalize cumO y = C at HC HB hR
  generalize mlO y = L at HM HC
  have v0 := i64_in (y - 1) (by omega)
  have v1 := i64_in (365 * (y - 1)) (by omega)
  have v2 := i64_in ((y - 1) / 4) (by omega)
  have v3 := i64_in (365 * (y - 1) + (y - 1) / 4) (by omega)
  have v4 := i64_in (365 * (y - 1) + (y - 1) / 4 + d) (by omega)
  have v5 := i64_in (365 * (y - 1) + (y - 1) / 4 + d - 1) (by omega)
  go_enter Tryz.func85, Tryz.ntmps85
  go_wp2
  generalize hN : 365 * (y - 1) + (y - 1) / 4 + d - 1 = N at hR v5 ⊢
  have hNb : -1000 ≤ N ∧ N ≤ 2000000 := by omega
  clear hN v0 v1 v2 v3 v4
  go_loopw [6, 7] (fun s i wr => ∃ k : Nat, k + 1 ≤ m ∧ i = .int .i64 ((k : Int) + 1) ∧ s = .int .i64 (N + C k) ∧ At w [.int .i64 y, .int .i64 m, .int .i64 d] wr) (fun _ i _ => m - (intOf i).toNat)
  case atStart => exact ⟨0, hm1, rfl, by rw [show C 0 = 0 by have := HB.out 0; omega]; simp, hA0⟩
  case round =>
    clear hA0
    obtain ⟨k, hk, rfl, rfl, hA⟩ := hrel
    have b0 := hA.cell 0 _ rfl
    have b1 := hA.cell 1 _ rfl
    have hb := HB.out k
    by_cases hlt : k + 1 < m
    · have hlt' : (k : Int) + 1 < (m : Int) := by omega
      have hs := HC.out k
      have hb2 := HB.out (k + 1)
      have v3 := i64_in (N + C k + L ((k : Int) + 1)) (by omega)
      go_wp2_with (go_at_call 109; refine (HM.out _ _).mono ?_; rintro e w' ⟨rfl, rfl⟩)
      go_roundw
      case rel => exact ⟨k + 1, by omega, by go_num, by rw [hs]; congr 1; omega, hA⟩
      case measure => simp [intOf]; omega
    · have hlt' : decide ((k : Int) + 1 < (m : Int)) = false := by simp; omega
      go_wp2
      go_ret
      exact ⟨ret_int (by rw [hR.out]; congr 2; omega), hA.below⟩

/-- The boxes of l01Date. -/
structure DsS (w0 : World) (y m d : Int) (w : World) : Prop where
  below : Below w0.heap.size w0 w
  r : Box w0.heap.size w 83 w0.heap.size [.int .i64 0, .int .i64 0, .int .i64 0]
  d : Box w0.heap.size w 83 (w0.heap.size + 1) [.int .i64 y, .int .i64 m, .int .i64 d]
theorem DsS.step {w0 w w' : World} {y m d : Int} (h : DsS w0 y m d w) (hB : Below w.heap.size w w') : DsS w0 y m d w' :=
  ⟨stepB h.below hB h.below.size, h.r.below hB, h.d.below hB⟩
theorem DsS.start (w : World) (y m d : Int) : DsS w y m d ((w.alloc (.cells #[.int .i64 0, .int .i64 0, .int .i64 0] 83)).alloc (.cells #[.int .i64 y, .int .i64 m, .int .i64 d] 83)) := by
  have s1 : (w.alloc (.cells #[.int .i64 0, .int .i64 0, .int .i64 0] 83)).heap.size = w.heap.size + 1 := by simp
  have b1 := (Below.refl _ (w.alloc (.cells #[.int .i64 0, .int .i64 0, .int .i64 0] 83))).alloc (Nat.le_refl _) (.cells #[.int .i64 y, .int .i64 m, .int .i64 d] 83)
  have h1 := Box.new w 83 [.int .i64 0, .int .i64 0, .int .i64 0] w.heap.size (Nat.le_refl _) (by simp)
  have h2 := Box.new (w.alloc (.cells #[.int .i64 0, .int .i64 0, .int .i64 0] 83)) 83 [.int .i64 y, .int .i64 m, .int .i64 d] w.heap.size (by simp) (by simp)
  rw [s1] at h2
  exact ⟨by go_grown, h1.below b1, h2⟩
theorem DsS.putY {w0 w : World} {y m d : Int} (h : DsS w0 y m d w) (x : Int) : DsS w0 x m d (w.setCell ⟨w0.heap.size + 1, 0, none⟩ (.int .i64 x)) := by
  have hp := Box.put (i := 0) (pre := []) (post := [.int .i64 m, .int .i64 d]) h.d rfl (.int .i64 x)
  exact ⟨h.below.grown hp.2 h.below.size (fun g e => by cases e; omega), h.r.keep hp.2 (by omega), hp.1⟩
theorem DsS.putM {w0 w : World} {y m d : Int} (h : DsS w0 y m d w) (x : Int) : DsS w0 y x d (w.setCell ⟨w0.heap.size + 1, 1, none⟩ (.int .i64 x)) := by
  have hp := Box.put (i := 1) (pre := [.int .i64 y]) (post := [.int .i64 d]) h.d rfl (.int .i64 x)
  exact ⟨h.below.grown hp.2 h.below.size (fun g e => by cases e; omega), h.r.keep hp.2 (by omega), hp.1⟩
theorem DsS.putD {w0 w : World} {y m d : Int} (h : DsS w0 y m d w) (x : Int) : DsS w0 y m x (w.setCell ⟨w0.heap.size + 1, 2, none⟩ (.int .i64 x)) := by
  have hp := Box.put (i := 2) (pre := [.int .i64 y, .int .i64 m]) (post := []) h.d rfl (.int .i64 x)
  exact ⟨h.below.grown hp.2 h.below.size (fun g e => by cases e; omega), h.r.keep hp.2 (by omega), hp.1⟩

set_option maxRecDepth 100000 in
set_option maxHeartbeats 2000000 in
theorem l01Date_any (n : Int) (w : World) (hn0 : 0 ≤ n) (hn : n ≤ 730499) :
    Calls Tryz.prog 81 #[.int .i64 n, .bool false] w fun e w' => e = .returned (.agg #[.int .i64 (yrO n), .int .i64 (mnO n : Nat), .int .i64 (dyO n)]) ∧ Below w.heap.size w w' := by
  have hy := yrO_bd hn0 hn
  have HN := Lib.hid (fun y W h0 h1 => l01Number_any y 1 1 W h0 h1 (by decide) (by decide) (by decide) (by decide))
  have HM := Lib.hid (fun m W hm hm1 => l01Number_any (yrO n) m 1 W (by omega) (by omega) hm hm1 (by decide) (by decide))
  have hm := mnO_at n
  have HI := Lib.hid (fun y => (show numO y 1 1 ≤ n ↔ y ≤ yrO n by rw [← yrO_iff]; unfold numO; simp [cumO]))
  have HMI := Lib.hid (fun (k : Nat) (hk : k + 1 ≤ mnO n) => (show numO (yrO n) (k + 1 + 1) 1 ≤ n ↔ k + 1 + 1 ≤ mnO n by
    unfold numO
    show nyO (yrO n) + 1 - 1 + cumO (yrO n) (k + 1) ≤ n ↔ _
    constructor
    · intro h
      refine Nat.not_lt.1 fun h2 => ?_
      have e : k + 1 = mnO n := by omega
      rw [e] at h
      omega
    · intro h
      have := cumO_mono (yrO n) (show k + 1 ≤ mnO n - 1 by omega)
      omega))
  have hD0 : Hid (dyO n = n - numO (yrO n) (mnO n) 1 + 1) := by unfold Hid dyO numO; omega
  have hst : n / 366 + 1 ≤ yrO n := by rw [← yrO_iff]; unfold nyO; omega
  have hbM := numO_bd (yrO n) (mnO n) 1 (by omega) (by omega) (by omega) (by decide) (by decide)
  generalize hM : mnO n = M at hm hD0 HMI hbM ⊢
  clear hM
  generalize dyO n = D at hD0 ⊢
  generalize yrO n = Y at *
  have hm := Lib.hid hm
  have v0 := i64_in (n / 366) (by omega)
  have v1 := i64_in (n / 366 + 1) (by omega)
  have hs0 := DsS.start w (n / 366 + 1) 1 1
  go_enter Tryz.func81, Tryz.ntmps81
  go_upto_block 0 with (fail)
  generalize (w.alloc (.cells #[.int .i64 0, .int .i64 0, .int .i64 0] 83)).alloc (.cells #[.int .i64 (n / 366 + 1), .int .i64 1, .int .i64 1] 83) = W1 at hs0 ⊢
  go_cut [] from 15 to 31 (fun wd => DsS w Y 1 1 wd)
  case first =>
    go_wp2
    go_loopg [] 2000 (fun kx wr => ∃ y : Int, 1 ≤ y ∧ y ≤ Y ∧ (2000 - y).toNat ≤ kx ∧ DsS w y 1 1 wr)
    case atStart => exact ⟨n / 366 + 1, by omega, hst, by omega, hs0⟩
    case round =>
      clear hs0 hst
      obtain ⟨y, h1, h2, hg, hD⟩ := hrel
      have c0 := hD.d.cell 0 _ rfl
      by_cases hlt : y < 2000
      · have v2 := i64_in (y + 1) (by omega)
        have hc := Lib.hid (fun W => HN.out (y + 1) W (by omega) (by omega))
        have hi := HI.out (y + 1)
        generalize numO (y + 1) 1 1 = V at hc hi
        go_wp2_with fail
        refine (hc.out _).mono ?_
        rintro e w1 ⟨rfl, hB1⟩
        have hD := hD.step hB1
        clear hB1 c0 hc
        have c0 := hD.d.cell 0 _ rfl
        by_cases hv : V ≤ n
        · have f0 := World.ownsRow.frozenAt hD.d 0
          have hD' := Lib.hid (hD.putY (y + 1))
          have hle := hi.1 hv
          clear hi
          go_wp2
          go_roundg (2000 - (y + 1)).toNat
          case measure => omega
          case rel => exact ⟨y + 1, by omega, hle, Nat.le_refl _, hD'.out⟩
        · have hv' : decide (V ≤ n) = false := by simpa using hv
          have he : Hid (y = Y) := by unfold Hid; have : ¬ y + 1 ≤ Y := fun h => hv (hi.2 h); omega
          clear hi
          go_wp2
          go_meet
          case rel => exact he.out ▸ hD
      · have hlt' : decide (y < 2000) = false := by simpa using hlt
        have he : Hid (y = Y) := by unfold Hid; omega
        go_wp2
        go_meet
        case rel => exact he.out ▸ hD
  case rest =>
    clear hs0 hst HN HI v0 v1
    go_upto_block 2 with (fail)
    go_cut [] from 32 to 50 (fun wd => DsS w Y M 1 wd)
    case first =>
      go_wp2
      go_loopg [] 13 (fun kx wr => ∃ k : Nat, k + 1 ≤ M ∧ 13 - k ≤ kx ∧ DsS w Y ((k : Int) + 1) 1 wr)
      case atStart => exact ⟨0, hm.out.1, by omega, hcut⟩
      case round =>
        clear hcut
        obtain ⟨k, hk, hg, hD⟩ := hrel
        have c0 := hD.d.cell 0 _ rfl
        have c1 := hD.d.cell 1 _ rfl
        by_cases hlt : (k : Int) + 1 < 12
        · have v2 := i64_in ((k : Int) + 1 + 1) (by omega)
          have hc := Lib.hid (fun W => HM.out (k + 1 + 1) W (by omega) (by omega))
          have e2 : ((k + 1 + 1 : Nat) : Int) = (k : Int) + 1 + 1 := by omega
          rw [e2] at hc
          have hi := Lib.hid (HMI.out k hk)
          clear e2
          generalize numO Y (k + 1 + 1) 1 = V at hc hi
          go_wp2_with fail
          refine (hc.out _).mono ?_
          rintro e w1 ⟨rfl, hB1⟩
          have hD := hD.step hB1
          clear hB1 c0 c1 hc
          have c1 := hD.d.cell 1 _ rfl
          by_cases hv : V ≤ n
          · have f1 := World.ownsRow.frozenAt hD.d 1
            have hD' := Lib.hid (hD.putM ((k : Int) + 1 + 1))
            have hle := hi.out.1 hv
            go_wp2
            go_roundg (12 - k)
            case measure => omega
            case rel => exact ⟨k + 1, hle, by omega, hD'.out⟩
          · have hv' : decide (V ≤ n) = false := by simpa using hv
            have hkM : Hid ((k : Int) + 1 = (M : Int)) := by unfold Hid; have : ¬ k + 1 + 1 ≤ M := fun h => hv (hi.out.2 h); omega
            go_wp2
            go_meet
            case rel => exact hkM.out ▸ hD
        · have hlt' : decide ((k : Int) + 1 < 12) = false := by simpa using hlt
          have hkM : Hid ((k : Int) + 1 = (M : Int)) := by unfold Hid; have := hm.out.2.1; omega
          go_wp2
          go_meet
          case rel => exact hkM.out ▸ hD
    case rest =>
      have hD := hcut
      clear hcut
      have c0 := hD.d.cell 0 _ rfl
      have c1 := hD.d.cell 1 _ rfl
      have c2 := hD.d.cell 2 _ rfl
      have hc := Lib.hid (fun W => HM.out M W (by have := hm.out; omega) hm.out.1)
      have hD1 := hD0.out
      generalize numO Y M 1 = V at hc hD1 hbM
      have v5 := i64_in (n - V) (by omega)
      have v6 := i64_in (n - V + 1) (by omega)
      have hd : n - V + 1 = D := hD1.symm
      rw [hd] at v6
      clear hD1
      go_wp2_with fail
      refine (hc.out _).mono ?_
      rintro e w1 ⟨rfl, hB1⟩
      have hD := hD.step hB1
      clear hB1 c0 c1 c2 hc
      have c2 := hD.d.cell 2 _ rfl
      have f2 := World.ownsRow.frozenAt hD.d 2
      have hD' := Lib.hid (hD.putD D)
      go_upto_region 10 with (fail)
      clear c2 f2 hD
      have hD := hD'.out
      clear hD'
      generalize w1.setCell ⟨w.heap.size + 1, 2, none⟩ (.int .i64 D) = W2 at hD ⊢
      have d0 := hD.d.cell 0 _ rfl
      have d1 := hD.d.cell 1 _ rfl
      have d2 := hD.d.cell 2 _ rfl
      have r0 := hD.r.cell 0 _ rfl
      have r1 := hD.r.cell 1 _ rfl
      have r2 := hD.r.cell 2 _ rfl
      have f0 := World.ownsRow.frozenAt hD.r 0
      have f1 := World.ownsRow.frozenAt hD.r 1
      have f2 := World.ownsRow.frozenAt hD.r 2
      have HP := Lib.hid (hD.r.put3 (.int .i64 Y) (.int .i64 (M : Nat)) (.int .i64 D))
      go_wp2
      have hp := HP.out
      have hBe := hD.below.grown hp.2 hD.below.size (fun g e => by cases e; exact Nat.le_refl _)
      generalize ((W2.setCell ⟨w.heap.size, 0, none⟩ (.int .i64 Y)).setCell ⟨w.heap.size, 1, none⟩ (.int .i64 (M : Nat))).setCell ⟨w.heap.size, 2, none⟩ (.int .i64 D) = Wf at hp hBe ⊢
      have z0 := hp.1.cell 0 _ rfl
      have z1 := hp.1.cell 1 _ rfl
      have z2 := hp.1.cell 2 _ rfl
      refine bodyPost_ret_by (v := .agg #[.int .i64 Y, .int .i64 (M : Nat), .int .i64 D]) ?_ rfl ⟨rfl, hBe⟩
      simp [results, go_sem, z0, z1, z2]
set_option maxHeartbeats 1000000 in
theorem l01Old_any (n : Int) (w : World) (hn0 : 0 ≤ n) (hn : n ≤ 730499) :
    Calls Tryz.prog 50 #[.int .i64 n] w fun e w' => e = .returned (.agg #[.int .i64 (yrO n), .int .i64 (mnO n : Nat), .int .i64 (dyO n)]) ∧ Below w.heap.size w w' := by
  have HC := Lib.hid (fun W => l01Date_any n W hn0 hn)
  generalize yrO n = Y at HC ⊢
  generalize mnO n = M at HC ⊢
  generalize dyO n = D at HC ⊢
  have hR := Box.new w 83 [.int .i64 0, .int .i64 0, .int .i64 0] w.heap.size (Nat.le_refl _) (by simp)
  have hB : Below w.heap.size w (w.alloc (.cells #[.int .i64 0, .int .i64 0, .int .i64 0] 83)) := by go_grown
  go_enter Tryz.func50, Tryz.ntmps50
  go_wp2_with fail
  refine (HC.out _).mono ?_
  rintro e w1 ⟨rfl, hB1⟩
  have hR := hR.below hB1
  have hB := stepB hB hB1 hB.size
  clear hB1
  have r0 := hR.cell 0 _ rfl
  have r1 := hR.cell 1 _ rfl
  have r2 := hR.cell 2 _ rfl
  have f0 := World.ownsRow.frozenAt hR 0
  have f1 := World.ownsRow.frozenAt hR 1
  have f2 := World.ownsRow.frozenAt hR 2
  have HP := Lib.hid (hR.put3 (.int .i64 Y) (.int .i64 (M : Nat)) (.int .i64 D))
  go_wp2
  have hp := HP.out
  have hBe := hB.grown hp.2 hB.size (fun g e => by cases e; exact Nat.le_refl _)
  generalize ((w1.setCell ⟨w.heap.size, 0, none⟩ (.int .i64 Y)).setCell ⟨w.heap.size, 1, none⟩ (.int .i64 (M : Nat))).setCell ⟨w.heap.size, 2, none⟩ (.int .i64 D) = Wf at hp hBe ⊢
  have z0 := hp.1.cell 0 _ rfl
  have z1 := hp.1.cell 1 _ rfl
  have z2 := hp.1.cell 2 _ rfl
  refine bodyPost_ret_by (v := .agg #[.int .i64 Y, .int .i64 (M : Nat), .int .i64 D]) ?_ rfl ⟨rfl, hBe⟩
  simp [results, go_sem, z0, z1, z2]
end Go.Proofs.YtjklileooiepmaaGreatDoor
