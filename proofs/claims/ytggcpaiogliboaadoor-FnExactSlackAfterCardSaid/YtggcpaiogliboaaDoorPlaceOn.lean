/- Walks: PlaceOn. -/
import Derived.Test.YtggcpaiogliboaaDoorItinI
import Derived.Test.YtggcpaiogliboaaDoorFcheckStays1
import Derived.Test.YtggcpaiogliboaaDoorFcheckStays2
import Derived.Test.YtggcpaiogliboaaDoorFPlaceOn1
namespace Go.Proofs.YtggcpaiogliboaaDoor
open Go.ChangeShapes Go.WideShapes Go.ChangeAt Go.RowKit

def inStay (n : Int) (m : St) : Bool := inB n m.fr m.to
def codeI (ps : List ByteArray) (ws : List Wy) (xs : List St) (b : Bool) : Int := if isItinB ps ws xs then (if b then 0 else 2) else 1
theorem codeI_zero {ps : List ByteArray} {ws : List Wy} {xs : List St} {b : Bool} (h : codeI ps ws xs b = 0) : isItinB ps ws xs = true ∧ b = true := by
  unfold codeI at h
  cases hA : isItinB ps ws xs
  · rw [hA] at h; simp at h
  · cases b
    · rw [hA] at h; simp at h
    · exact ⟨rfl, rfl⟩
set_option maxHeartbeats 1000000 in
theorem l15At_any (a : Option Addr) (cap : Nat) (xs : List St) (z : Int) (w : World) (hl : xs.length ≤ 1048576) (hx : Rd encSt w a xs) :
    Calls Tryd.prog 112 #[.slice a xs.length cap, .int .i64 z] w fun e w' => e = .returned (.int .i64 (fidx (inStay z) xs 0)) ∧ Below w.heap.size w w' := by
  go_enter Tryd.func112, Tryd.ntmps112
  go_wp2
  go_loopw [5] (fun i wr => ∃ (k : Nat), k ≤ xs.length ∧ i = .int .i64 k ∧ Hid (fidx (inStay z) xs 0 = fidx (inStay z) (xs.drop k) k) ∧ Below w.heap.size w wr) (fun i _ => xs.length - (intOf i).toNat)
  case atStart => exact ⟨0, Nat.zero_le _, rfl, rfl, Below.refl _ _⟩
  case round =>
    obtain ⟨k, hk, rfl, hH, hB⟩ := hrel
    by_cases hlt : k < xs.length
    · have hm := List.getElem?_eq_getElem hlt
      generalize xs[k] = m at hm
      obtain ⟨b, off, rfl, hb, c0, c1, c2⟩ := (hx.below hB).st hm
      have hd := Lib.hid (fidx_drop (inStay z) k k hm)
      have hk1 : (k : Int) < (xs.length : Int) := by omega
      have C1 := Later.cell c1 hb
      have C2 := Later.cell c2 hb
      clear hm
      cases hp : inB z m.fr m.to
      · have hp' : Hid (inStay z m = false) := hp
        have HI := Lib.hid (fun W => hp ▸ l01In_any z m.fr m.to W)
        go_wp2_with fail
        refine wp_region_later wr (by kernel_rfl) (by kernel_rfl) ?_
        repeat (go_big_quiet_step ((go_at_call 66; exact Later.same (HI.out _))))
        refine wpQuiet_nil ?_
        intro z'
        have hz := z'.prop
        generalize z'.val = w2 at hz
        clear C1 C2
        go_wp2
        go_roundw
        case rel => exact ⟨k + 1, by omega, by go_num, by unfold Hid; rw [hH.out, hd.out, hp'.out]; rfl, stepB hB hz hB.size⟩
        case measure => simp [intOf]; omega
      · have hp' : Hid (inStay z m = true) := hp
        have HI := Lib.hid (fun W => hp ▸ l01In_any z m.fr m.to W)
        go_wp2_with fail
        refine wp_region_later wr (by kernel_rfl) (by kernel_rfl) ?_
        repeat (go_big_quiet_step ((go_at_call 66; exact Later.same (HI.out _))))
        refine wpQuiet_nil ?_
        intro z'
        have hz := z'.prop
        generalize z'.val = w2 at hz
        clear C1 C2
        go_wp2
        go_ret
        exact ⟨ret_int (by rw [hH.out, hd.out, hp'.out]; rfl), stepB hB hz hB.size⟩
    · go_wp2
      go_ret
      exact ⟨ret_int (by rw [hH.out, List.drop_eq_nil_of_le (by omega)]; rfl), hB⟩

set_option maxHeartbeats 1000000 in
theorem l15Code_any (a0 a1 a2 : Option Addr) (cap0 cap1 cap2 : Nat) (xs0 : List ByteArray) (xs1 : List Wy) (xs2 : List St) (b : Bool) (w : World) (hc0 : xs0.length ≤ cap0) (hc1 : cap0 ≤ 1048576) (hl0 : xs0.length ≤ 1048576) (hx0 : Rd encS w a0 xs0) (hs0 : ∀ m ∈ xs0, m.size ≤ 1048576) (hl1 : xs1.length ≤ 1048576) (hx1 : Rd encWy w a1 xs1) (hl2 : xs2.length ≤ 1048576) (hx2 : Rd encSt w a2 xs2) :
    Calls Tryd.prog 111 #[.agg #[.slice a0 xs0.length cap0, .slice a1 xs1.length cap1], .slice a2 xs2.length cap2, .bool b] w fun e w' => e = .returned (.int .i64 (codeI xs0 xs1 xs2 b)) ∧ Below w.heap.size w w' := by
  have hB0 : Below w.heap.size w (w.alloc (.cells #[.slice a0 xs0.length cap0, .slice a1 xs1.length cap1] 67)) := (Below.refl _ w).alloc (Nat.le_refl _) _
  have HM := Lib.hid (fun W (h0 : Rd encS W a0 xs0) (h1 : Rd encWy W a1 xs1) (h2 : Rd encSt W a2 xs2) => specIsItin_any a0 a1 a2 cap0 cap1 cap2 xs0 xs1 xs2 W hc0 hc1 hl0 h0 hs0 hl1 h1 hl2 h2)
  have hR : Hid (codeI xs0 xs1 xs2 b = if isItinB xs0 xs1 xs2 then (if b then 0 else 2) else 1) := rfl
  cases hA : isItinB xs0 xs1 xs2
  · have HM := Lib.hid (fun W h0 h1 h2 => hA ▸ HM.out W h0 h1 h2)
    rw [hA] at hR
    clear hA
    go_enter Tryd.func111, Tryd.ntmps111
    go_wp2_with fail
    refine (HM.out _ (hx0.below hB0) (hx1.below hB0) (hx2.below hB0)).mono ?_
    rintro e w1 ⟨rfl, hB1⟩
    go_wp2
    go_ret
    exact ⟨ret_int hR.out.symm, stepB hB0 hB1 hB0.size⟩
  · have HM := Lib.hid (fun W h0 h1 h2 => hA ▸ HM.out W h0 h1 h2)
    rw [hA] at hR
    clear hA
    cases b
    · go_enter Tryd.func111, Tryd.ntmps111
      go_wp2_with fail
      refine (HM.out _ (hx0.below hB0) (hx1.below hB0) (hx2.below hB0)).mono ?_
      rintro e w1 ⟨rfl, hB1⟩
      go_wp2
      go_ret
      exact ⟨ret_int hR.out.symm, stepB hB0 hB1 hB0.size⟩
    · go_enter Tryd.func111, Tryd.ntmps111
      go_wp2_with fail
      refine (HM.out _ (hx0.below hB0) (hx1.below hB0) (hx2.below hB0)).mono ?_
      rintro e w1 ⟨rfl, hB1⟩
      go_wp2
      go_ret
      exact ⟨ret_int hR.out.symm, stepB hB0 hB1 hB0.size⟩

set_option maxHeartbeats 1000000 in
theorem checkStays1_any (q : Nat) (m : Int) (a0 a1 : Option Addr) (cap0 cap1 n0 n1 : Nat) (w : World) (hl : n0 ≤ 1048576) (h0 : w.cell? ⟨q, 0, none⟩ = some (.slice a0 n0 cap0)) (h1 : w.cell? ⟨q, 1, none⟩ = some (.slice a1 n1 cap1)) :
    Calls Tryd.prog 155 #[.int .i64 m, .pointer (some ⟨q, 0, none⟩)] w fun e w' => e = .returned (.bool (!placeB n0 m)) ∧ Below w.heap.size w w' := by
  have HP := Lib.hid (fun W => isPlace_any a0 a1 cap0 cap1 n0 n1 m W hl)
  go_enter Tryd.func155, Tryd.ntmps155
  go_wp2_with fail
  refine (HP.out _).mono ?_
  rintro e w1 ⟨rfl, hB⟩
  go_wp2
  go_ret
  exact ⟨rfl, hB⟩
theorem checkStays2_any (m : Int) (w : World) :
    Calls Tryd.prog 156 #[.int .i64 m] w fun e w' => e = .returned (.bool (!dayB m)) ∧ Below w.heap.size w w' := by
  go_enter Tryd.func156, Tryd.ntmps156
  go_wp2_with fail
  refine (isDay_any _ _).mono ?_
  rintro e w1 ⟨rfl, rfl⟩
  go_wp2
  go_ret
  exact ⟨rfl, Below.refl _ _⟩
theorem any_not_all (p : Int → Bool) (zs : List Int) : (zs.any fun m => !p m) = !zs.all p := by
  induction zs with
  | nil => rfl
  | cons x xs ih => simp only [List.any_cons, List.all_cons, Bool.not_and, ih]

set_option maxHeartbeats 2000000 in
theorem checkStays_any (a0 a1 a2 a3 a4 : Option Addr) (cap0 cap1 cap2 cap3 cap4 : Nat) (xs0 : List ByteArray) (xs1 : List Wy) (xs2 : List St) (ys zs : List Int) (w : World) (hc0 : xs0.length ≤ cap0) (hc1 : cap0 ≤ 1048576) (hl0 : xs0.length ≤ 1048576) (hx0 : Rd encS w a0 xs0) (hs0 : ∀ m ∈ xs0, m.size ≤ 1048576) (hl1 : xs1.length ≤ 1048576) (hx1 : Rd encWy w a1 xs1) (hl2 : xs2.length ≤ 1048576) (hx2 : Rd encSt w a2 xs2) (hl3 : ys.length ≤ 1048576) (hx3 : Rd encI w a3 ys) (hl4 : zs.length ≤ 1048576) (hx4 : Rd encI w a4 zs) :
    Calls Tryd.prog 113 #[.agg #[.slice a0 xs0.length cap0, .slice a1 xs1.length cap1], .slice a2 xs2.length cap2, .slice a3 ys.length cap3, .slice a4 zs.length cap4] w fun e w' => e = .returned (.int .i64 (codeI xs0 xs1 xs2 (ys.all (placeB xs0.length) && zs.all dayB))) ∧ Below w.heap.size w w' := by
  have hA0 : At w [.slice a0 xs0.length cap0, .slice a1 xs1.length cap1] (w.alloc (.cells #[.slice a0 xs0.length cap0, .slice a1 xs1.length cap1] 67)) := At.start _ _ _
  have HM := Lib.hid (fun W (hAt : At w [.slice a0 xs0.length cap0, .slice a1 xs1.length cap1] W) => implIsItin_any a0 a1 a2 cap0 cap1 cap2 xs0 xs1 xs2 W hc0 hc1 hl0 (hx0.below hAt.below) hs0 hl1 (hx1.below hAt.below) hl2 (hx2.below hAt.below))
  have hR : Hid (codeI xs0 xs1 xs2 (ys.all (placeB xs0.length) && zs.all dayB) = if isItinB xs0 xs1 xs2 then (if (ys.all (placeB xs0.length) && zs.all dayB) then 0 else 2) else 1) := rfl
  have hmf : ∀ (fn : Fn) (first cap : Array Value) (w : World), (Instr.makeFunc fn first cap).run Tryd.prog w = .ok (.func fn first cap) w := fun _ _ _ _ => rfl
  have hct1 := fun W (hAt : At w [.slice a0 xs0.length cap0, .slice a1 xs1.length cap1] W) => containsFunc_checkStays_1 ⟨w.heap.size, 0, none⟩ a3 cap3 ys (fun m => !placeB xs0.length m) W hl3 (hx3.below hAt.below) (fun W' hW' m _ => checkStays1_any w.heap.size m a0 a1 cap0 cap1 xs0.length xs1.length W' hl0 ((hAt.step hW').cell 0 _ rfl) ((hAt.step hW').cell 1 _ rfl))
  have hct2 := fun W (hAt : At w [.slice a0 xs0.length cap0, .slice a1 xs1.length cap1] W) => containsFunc_checkStays_2 a4 cap4 zs (fun m => !dayB m) W hl4 (hx4.below hAt.below) (fun W' _ m _ => checkStays2_any m W')
  rw [any_not_all (placeB xs0.length)] at hct1
  rw [any_not_all dayB] at hct2
  have HC1 := Lib.hid hct1
  have HC2 := Lib.hid hct2
  clear hct1 hct2
  cases hA : isItinB xs0 xs1 xs2
  · have HM := Lib.hid (fun W h => hA ▸ HM.out W h)
    rw [hA] at hR
    clear hA
    go_enter Tryd.func113, Tryd.ntmps113
    go_wp2_with fail
    refine (HM.out _ hA0).mono ?_
    rintro e w1 ⟨rfl, hB1⟩
    go_wp2
    go_ret
    exact ⟨ret_int hR.out.symm, (hA0.step hB1).below⟩
  · have HM := Lib.hid (fun W h => hA ▸ HM.out W h)
    rw [hA] at hR
    clear hA
    cases hy : ys.all (placeB xs0.length)
    · rw [hy] at hR
      have HC1 := Lib.hid (fun W h => hy ▸ HC1.out W h)
      clear hy
      go_enter Tryd.func113, Tryd.ntmps113
      go_wp2_with fail
      refine (HM.out _ hA0).mono ?_
      rintro e w1 ⟨rfl, hB1⟩
      have hA1 := hA0.step hB1
      clear hA0 hB1
      go_wp2_with fail
      refine (HC1.out _ hA1).mono ?_
      rintro e w2 ⟨rfl, hB2⟩
      go_wp2
      go_ret
      exact ⟨ret_int hR.out.symm, (hA1.step hB2).below⟩
    · rw [hy] at hR
      have HC1 := Lib.hid (fun W h => hy ▸ HC1.out W h)
      clear hy
      cases hz : zs.all dayB
      · rw [hz] at hR
        have HC2 := Lib.hid (fun W h => hz ▸ HC2.out W h)
        clear hz
        go_enter Tryd.func113, Tryd.ntmps113
        go_wp2_with fail
        refine (HM.out _ hA0).mono ?_
        rintro e w1 ⟨rfl, hB1⟩
        have hA1 := hA0.step hB1
        clear hA0 hB1
        go_wp2_with fail
        refine (HC1.out _ hA1).mono ?_
        rintro e w2 ⟨rfl, hB2⟩
        have hA2 := hA1.step hB2
        clear hA1 hB2
        go_wp2_with fail
        refine (HC2.out _ hA2).mono ?_
        rintro e w3 ⟨rfl, hB3⟩
        go_wp2
        go_ret
        exact ⟨ret_int hR.out.symm, (hA2.step hB3).below⟩
      · rw [hz] at hR
        have HC2 := Lib.hid (fun W h => hz ▸ HC2.out W h)
        clear hz
        go_enter Tryd.func113, Tryd.ntmps113
        go_wp2_with fail
        refine (HM.out _ hA0).mono ?_
        rintro e w1 ⟨rfl, hB1⟩
        have hA1 := hA0.step hB1
        clear hA0 hB1
        go_wp2_with fail
        refine (HC1.out _ hA1).mono ?_
        rintro e w2 ⟨rfl, hB2⟩
        have hA2 := hA1.step hB2
        clear hA1 hB2
        go_wp2_with fail
        refine (HC2.out _ hA2).mono ?_
        rintro e w3 ⟨rfl, hB3⟩
        go_wp2
        go_ret
        exact ⟨ret_int hR.out.symm, (hA2.step hB3).below⟩

def placeOnR (xs : List St) (z c : Int) : Int × Int :=
  if c = 0 then (if fidx (inStay z) xs 0 < 0 then (0, 4) else (match xs[(fidx (inStay z) xs 0).toNat]? with | some m => m.place | none => 0, 0)) else (0, c)
set_option maxHeartbeats 2000000 in
theorem specPlaceOn_any (a0 a1 a2 : Option Addr) (cap0 cap1 cap2 : Nat) (xs0 : List ByteArray) (xs1 : List Wy) (xs2 : List St) (z : Int) (w : World) (hc0 : xs0.length ≤ cap0) (hc1 : cap0 ≤ 1048576) (hl0 : xs0.length ≤ 1048576) (hx0 : Rd encS w a0 xs0) (hs0 : ∀ m ∈ xs0, m.size ≤ 1048576) (hl1 : xs1.length ≤ 1048576) (hx1 : Rd encWy w a1 xs1) (hl2 : xs2.length ≤ 1048576) (hx2 : Rd encSt w a2 xs2) :
    Calls Tryd.prog 52 #[.agg #[.slice a0 xs0.length cap0, .slice a1 xs1.length cap1], .slice a2 xs2.length cap2, .int .i64 z] w fun e w' => e = .returned (.tuple #[.int .i64 (placeOnR xs2 z (codeI xs0 xs1 xs2 (dayB z))).1, .int .i64 (placeOnR xs2 z (codeI xs0 xs1 xs2 (dayB z))).2]) ∧ Below w.heap.size w w' := by
  have HC := Lib.hid (fun W (h0 : Rd encS W a0 xs0) (h1 : Rd encWy W a1 xs1) (h2 : Rd encSt W a2 xs2) => l15Code_any a0 a1 a2 cap0 cap1 cap2 xs0 xs1 xs2 (dayB z) W hc0 hc1 hl0 h0 hs0 hl1 h1 hl2 h2)
  have HI := Lib.hid (fun W (h2 : Rd encSt W a2 xs2) => l15At_any a2 cap2 xs2 z W hl2 h2)
  generalize codeI xs0 xs1 xs2 (dayB z) = c at HC ⊢
  go_enter Tryd.func52, Tryd.ntmps52
  go_wp2_with fail
  generalize hW : w.alloc (.cells #[.slice a0 xs0.length cap0, .slice a1 xs1.length cap1] 67) = W
  have hA0 : At w [.slice a0 xs0.length cap0, .slice a1 xs1.length cap1] W := hW ▸ At.start _ _ _
  clear hW
  have E0 := Later.cell (hA0.cell 0 _ rfl) hA0.size
  have E1 := Later.cell (hA0.cell 1 _ rfl) hA0.size
  have hx0' := hx0.below hA0.below
  have hx1' := hx1.below hA0.below
  have hx2' := hx2.below hA0.below
  refine wp_region_later W (by kernel_rfl) (by kernel_rfl) ?_
  repeat (go_big_quiet_step ((first | (go_at_call 65; exact Later.same (l01Day_any _ _)) | (go_at_call 111; exact Later.call (Nat.le_refl _) (HC.out _ (hx0'.below (Later.prop _)) (hx1'.below (Later.prop _)) (hx2'.below (Later.prop _)))))))
  refine wpQuiet_nil ?_
  intro z'
  have hz := z'.prop
  generalize z'.val = w1 at hz
  have hA1 := hA0.step hz
  clear E0 E1 hA0 hz hx0' hx1' hx2' HC
  by_cases hc : c = 0
  · subst hc
    have hR : Hid (placeOnR xs2 z 0 = if fidx (inStay z) xs2 0 < 0 then (0, 4) else (match xs2[(fidx (inStay z) xs2 0).toNat]? with | some m => m.place | none => 0, 0)) := rfl
    go_wp2_with fail
    refine (HI.out _ (hx2.below hA1.below)).mono ?_
    rintro e w2 ⟨rfl, hB2⟩
    have hA2 := hA1.step hB2
    clear hA1 hB2
    rcases fidx_bd (inStay z) xs2 0 with e | ⟨k, m, e, hk, hm, _⟩
    · rw [e] at hR ⊢
      go_wp2
      go_ret2
      rw [hR.out]
      exact ⟨rfl, hA2.below⟩
    · rw [Nat.zero_add] at e
      rw [e] at hR ⊢
      have hR : Hid (placeOnR xs2 z 0 = (m.place, 0)) := by
        unfold Hid
        rw [hR.out, if_neg (by omega)]
        simp [hm]
      obtain ⟨b, off, rfl, hb, c0, _, _⟩ := (hx2.below hA2.below).st hm
      have hk1 : (k : Int) < (xs2.length : Int) := by omega
      clear hm
      go_wp2
      go_ret2
      rw [hR.out]
      exact ⟨rfl, hA2.below⟩
  · have hR : Hid (placeOnR xs2 z c = (0, c)) := by unfold Hid placeOnR; rw [if_neg hc]
    have hc2 : (c != 0) = true := by simpa using hc
    go_wp2
    go_ret2
    rw [hR.out]
    exact ⟨rfl, hA1.below⟩

theorem placeOn1_any (q : Nat) (z : Int) (m : St) (w : World) (h0 : w.cell? ⟨q, 0, none⟩ = some (.int .i64 z)) :
    Calls Tryd.prog 115 #[.agg #[.int .i64 m.place, .int .i64 m.fr, .int .i64 m.to], .pointer (some ⟨q, 0, none⟩)] w fun e w' => e = .returned (.bool (inStay z m)) ∧ Below w.heap.size w w' := by
  have hq := World.block_lt_of_cell? w _ h0
  simp only at hq
  have hb : Below w.heap.size w (w.alloc (.cells #[.int .i64 m.place, .int .i64 m.fr, .int .i64 m.to] 138)) := (Below.refl _ w).alloc (Nat.le_refl _) _
  have h0' := (hb.cell (p := ⟨q, 0, none⟩) hq).trans h0
  go_enter Tryd.func115, Tryd.ntmps115
  go_wp2_with fail
  refine (within_any _ _ _ _).mono ?_
  rintro e w1 ⟨rfl, rfl⟩
  go_wp2
  go_ret
  exact ⟨rfl, by go_grown⟩

set_option maxHeartbeats 2000000 in
theorem implPlaceOn_any (a0 a1 a2 : Option Addr) (cap0 cap1 cap2 : Nat) (xs0 : List ByteArray) (xs1 : List Wy) (xs2 : List St) (z : Int) (w : World) (hc0 : xs0.length ≤ cap0) (hc1 : cap0 ≤ 1048576) (hl0 : xs0.length ≤ 1048576) (hx0 : Rd encS w a0 xs0) (hs0 : ∀ m ∈ xs0, m.size ≤ 1048576) (hl1 : xs1.length ≤ 1048576) (hx1 : Rd encWy w a1 xs1) (hl2 : xs2.length ≤ 1048576) (hx2 : Rd encSt w a2 xs2) :
    Calls Tryd.prog 53 #[.agg #[.slice a0 xs0.length cap0, .slice a1 xs1.length cap1], .slice a2 xs2.length cap2, .int .i64 z] w fun e w' => e = .returned (.tuple #[.int .i64 (placeOnR xs2 z (codeI xs0 xs1 xs2 (dayB z))).1, .int .i64 (placeOnR xs2 z (codeI xs0 xs1 xs2 (dayB z))).2]) ∧ Below w.heap.size w w' := by
  have hB3 : Below w.heap.size w (((w.alloc (.cells #[.slice a0 xs0.length cap0, .slice a1 xs1.length cap1] 67)).alloc (.cells #[.int .i64 z] 2)).alloc (.cells #[.int .i64 z] 2)) := by go_grown
  have hs3 : (((w.alloc (.cells #[.slice a0 xs0.length cap0, .slice a1 xs1.length cap1] 67)).alloc (.cells #[.int .i64 z] 2)).alloc (.cells #[.int .i64 z] 2)).heap.size = w.heap.size + 3 := by simp
  have hq : (((w.alloc (.cells #[.slice a0 xs0.length cap0, .slice a1 xs1.length cap1] 67)).alloc (.cells #[.int .i64 z] 2)).alloc (.cells #[.int .i64 z] 2)).cell? ⟨w.heap.size + 1, 0, none⟩ = some (.int .i64 z) := by
    rw [World.cell?_alloc_past _ _ _ (by simp)]; exact World.cell?_alloc_at _ _ _ _ (by simp)
  have hrd : Rd encI (((w.alloc (.cells #[.slice a0 xs0.length cap0, .slice a1 xs1.length cap1] 67)).alloc (.cells #[.int .i64 z] 2)).alloc (.cells #[.int .i64 z] 2)) (some ⟨w.heap.size + 2, 0, none⟩) [z] := by
    intro i x hi
    refine ⟨w.heap.size + 2, 0, rfl, by simp, fun j v hv => ?_⟩
    rw [World.cell?_alloc_at _ _ _ _ (by simp)]
    match i, hi with
    | 0, hi => cases hi; match j, hv with | 0, hv => cases hv; rfl
  have HRD := Lib.hid hrd
  have HC := Lib.hid (fun W (hB : Below w.heap.size w W) (hr : Rd encI W (some ⟨w.heap.size + 2, 0, none⟩) [z]) => checkStays_any a0 a1 a2 none (some ⟨w.heap.size + 2, 0, none⟩) cap0 cap1 cap2 0 1 xs0 xs1 xs2 [] [z] W hc0 hc1 hl0 (hx0.below hB) hs0 hl1 (hx1.below hB) hl2 (hx2.below hB) (by simp) (Rd.nil _ _ _) (by simp) hr)
  have hbe : (([] : List Int).all (placeB xs0.length) && [z].all dayB) = dayB z := by simp
  rw [hbe] at HC
  have HI := Lib.hid (fun W (hB : Below w.heap.size w W) (h0 : W.cell? ⟨w.heap.size + 1, 0, none⟩ = some (.int .i64 z)) (hlt : w.heap.size + 1 < W.heap.size) => indexFunc_PlaceOn_1 ⟨w.heap.size + 1, 0, none⟩ a2 cap2 xs2 (inStay z) W hl2 (hx2.below hB) (fun W' hW' m _ => placeOn1_any (w.heap.size + 1) z m W' ((hW'.cell (p := ⟨w.heap.size + 1, 0, none⟩) hlt).trans h0)))
  have hmf : ∀ (fn : Fn) (first cap : Array Value) (w : World), (Instr.makeFunc fn first cap).run Tryd.prog w = .ok (.func fn first cap) w := fun _ _ _ _ => rfl
  generalize codeI xs0 xs1 xs2 (dayB z) = c at HC ⊢
  clear hbe hrd
  go_enter Tryd.func53, Tryd.ntmps53
  go_wp2_with fail
  refine (HC.out _ hB3 HRD.out).mono ?_
  rintro e w1 ⟨rfl, hB1⟩
  have hB := stepB hB3 hB1 hB3.size
  have hq1 := (hB1.cell (p := ⟨w.heap.size + 1, 0, none⟩) (by rw [hs3]; simp)).trans hq
  have hlt1 : w.heap.size + 1 < w1.heap.size := by have := hB1.size; omega
  clear hB3 hs3 hq hB1 HRD HC
  by_cases hc : c = 0
  · subst hc
    have hR : Hid (placeOnR xs2 z 0 = if fidx (inStay z) xs2 0 < 0 then (0, 4) else (match xs2[(fidx (inStay z) xs2 0).toNat]? with | some m => m.place | none => 0, 0)) := rfl
    go_wp2_with fail
    refine (HI.out _ hB hq1 hlt1).mono ?_
    rintro e w2 ⟨rfl, hB2⟩
    have hB := stepB hB hB2 hB.size
    clear hB2 hq1 hlt1
    rcases fidx_bd (inStay z) xs2 0 with e | ⟨k, m, e, hk, hm, _⟩
    · rw [e] at hR ⊢
      go_wp2
      go_ret2
      rw [hR.out]
      exact ⟨rfl, hB⟩
    · rw [Nat.zero_add] at e
      rw [e] at hR ⊢
      have hR : Hid (placeOnR xs2 z 0 = (m.place, 0)) := by
        unfold Hid
        rw [hR.out, if_neg (by omega)]
        simp [hm]
      obtain ⟨b, off, rfl, hb, c0, _, _⟩ := (hx2.below hB).st hm
      have hk1 : (k : Int) < (xs2.length : Int) := by omega
      clear hm
      go_wp2
      go_ret2
      rw [hR.out]
      exact ⟨rfl, hB⟩
  · have hR : Hid (placeOnR xs2 z c = (0, c)) := by unfold Hid placeOnR; rw [if_neg hc]
    have hc2 : (c != 0) = true := by simpa using hc
    go_wp2
    go_ret2
    rw [hR.out]
    exact ⟨rfl, hB⟩
end Go.Proofs.YtggcpaiogliboaaDoor
