/- Walks: CouldMeet. -/
import Derived.Test.YtmjbigeeokofeaaGreatDoorPoss
import Derived.Test.YtmjbigeeokofeaaGreatDoorTrDays
import Derived.Test.YtmjbigeeokofeaaGreatDoorSpUni
import Derived.Shelf.SlicesE.DeleteFunc
import Derived.Test.YtmjbigeeokofeaaGreatDoorShelf3
namespace Go.Proofs.YtmjbigeeokofeaaGreatDoor
open Go.ChangeShapes Go.WideShapes Go.ChangeAt Go.RowKit Go.Sort

def pM (n : Nat) (ws : List Wy) (xs ys : List St) (z : Int) (v : Nat) : Bool := pP n ws xs z v && pP n ws ys z v
def codeM (ps : List ByteArray) (ws : List Wy) (xs ys : List St) (z : Int) : Int := if isItinB ps ws ys then codeI ps ws xs (dayB z) else 1
def meetR (ps : List ByteArray) (ws : List Wy) (xs ys : List St) (z c : Int) : List Int × Int := if c = 0 then (jxl (pM ps.length ws xs ys z) ps.length, 0) else ([], c)
theorem meetR_len (ps : List ByteArray) (ws : List Wy) (xs ys : List St) (z c : Int) (h : ps.length ≤ 1048576) : (meetR ps ws xs ys z c).1.length ≤ 1048576 := by
  unfold meetR
  split
  · exact Nat.le_trans (jxl_len _ _) h
  · simp
theorem jxl_any (p : Nat → Bool) (z : Nat) : ∀ k, (jxl p k).any (isZ (z : Int)) = (decide (z < k) && p z)
  | 0 => by simp [jxl]
  | k + 1 => by
    have ih := jxl_any p z k
    have hz : isZ (z : Int) (k : Int) = decide (z = k) := by
      unfold isZ
      by_cases h : z = k
      · subst h; simp
      · simp [h]; omega
    cases hp : p k
    · rw [jxl_no hp, ih]
      by_cases h : z = k
      · subst h; simp [hp]
      · have : decide (z < k + 1) = decide (z < k) := by simp; omega
        rw [this]
    · rw [jxl_yes hp, List.any_append, ih]
      simp only [List.any_cons, List.any_nil, Bool.or_false, hz]
      by_cases h : z = k
      · subst h; simp [hp]
      · have : decide (z < k + 1) = decide (z < k) := by simp; omega
        rw [this]; simp [h]
theorem jxl_meet (p q : Nat → Bool) (n : Nat) : ∀ k, k ≤ n → (jxl p k).filter (fun x => (jxl q n).any (isZ x)) = jxl (fun v => p v && q v) k
  | 0, _ => rfl
  | k + 1, hk => by
    have ih := jxl_meet p q n k (by omega)
    have ha := jxl_any q k n
    rw [show decide (k < n) = true by simp; omega, Bool.true_and] at ha
    cases hp : p k
    · rw [jxl_no hp, ih, jxl_no (by simp [hp])]
    · rw [jxl_yes hp, List.filter_append, ih]
      cases hq : q k
      · rw [jxl_no (by simp [hq])]
        simp [ha, hq]
      · rw [jxl_yes (by simp [hp, hq])]
        simp [ha, hq]
theorem codeM_zero {ps : List ByteArray} {ws : List Wy} {xs ys : List St} {z : Int} (h : codeM ps ws xs ys z = 0) : isItinB ps ws ys = true ∧ isItinB ps ws xs = true ∧ dayB z = true := by
  unfold codeM at h
  split at h
  · exact ⟨by assumption, codeI_zero h⟩
  · cases h

/-- slices.Index and slices.Contains at numbers. -/
theorem idxI_any (a : Option Addr) (cap n : Nat) (xs : List Int) (z : Int) (w : World) (hn : xs.length = n) (hl : n ≤ 1048576) (hx : Rd encI w a xs) :
    Calls Tryz.prog 111 #[.slice a n cap, .int .i64 z] w fun e w' => ∃ r : Int, e = .returned (.int .i64 r) ∧ decide (0 ≤ r) = xs.any (isZ z) ∧ w = w' := by
  subst hn
  go_enter Tryz.func111, Tryz.ntmps111
  go_wp2
  go_loop [8] (fun i => ∃ (k : Nat), k ≤ xs.length ∧ i = .int .i64 k ∧ Hid (xs.any (isZ z) = (xs.drop k).any (isZ z))) (fun i => xs.length - (intOf i).toNat)
  case atStart => exact ⟨0, Nat.zero_le _, rfl, rfl⟩
  case round =>
    obtain ⟨k, hk, rfl, hH⟩ := hrel
    by_cases hlt : k < xs.length
    · have hm := List.getElem?_eq_getElem hlt
      have hd : (xs.drop k).any (isZ z) = (isZ z xs[k] || (xs.drop (k + 1)).any (isZ z)) := by rw [List.drop_eq_getElem_cons hlt]; rfl
      generalize xs[k] = m at hm hd
      obtain ⟨b, off, rfl, hb, c0⟩ := hx.i hm
      have HD := Lib.hid hd
      have hk1 : (k : Int) < (xs.length : Int) := by omega
      clear hm hd
      cases hp : (z == m)
      · have hp' : Hid (isZ z m = false) := by
          have : z ≠ m := by simpa using hp
          unfold Hid isZ; simp; exact fun e => this e.symm
        go_wp2
        go_round
        case rel => exact ⟨k + 1, by omega, by go_num, by unfold Hid; rw [hH.out, HD.out, hp'.out]; rfl⟩
        case measure => simp [intOf]; omega
      · have hp' : Hid (isZ z m = true) := by
          have : z = m := by simpa using hp
          unfold Hid isZ; simp [this]
        go_wp2
        go_ret
        exact ⟨_, rfl, by rw [hH.out, HD.out, hp'.out]; simp, rfl⟩
    · go_wp2
      go_ret
      exact ⟨_, rfl, by rw [hH.out, List.drop_eq_nil_of_le (by omega)]; rfl, rfl⟩
theorem hasI_any (a : Option Addr) (cap n : Nat) (xs : List Int) (z : Int) (w : World) (hn : xs.length = n) (hl : n ≤ 1048576) (hx : Rd encI w a xs) :
    Calls Tryz.prog 56 #[.slice a n cap, .int .i64 z] w fun e w' => e = .returned (.bool (xs.any (isZ z))) ∧ w = w' := by
  have H := Lib.hid (idxI_any a cap n xs z w hn hl hx)
  go_enter Tryz.func56, Tryz.ntmps56
  go_wp2_with fail
  refine H.out.mono ?_
  rintro e w1 ⟨r, rfl, hr, rfl⟩
  go_wp2
  go_ret
  exact ⟨rfl, rfl⟩
theorem meetClo_any (B hB0 g3 c3 : Nat) (ys : List Int) (W2 : World) (hc : W2.cell? ⟨hB0, 0, none⟩ = some (.slice (some ⟨g3, 0, none⟩) ys.length c3)) (hlt : hB0 < B) (hl : ys.length ≤ 1048576) (hx : ∀ W, Below B W2 W → Rd encI W (some ⟨g3, 0, none⟩) ys) (W : World) (hB : Below B W2 W) (x : Int) :
    Calls Tryz.prog 55 #[.int .i64 x, .pointer (some ⟨hB0, 0, none⟩)] W fun e w' => e = .returned (.bool (!ys.any (isZ x))) ∧ W = w' := by
  have H := Lib.hid (hasI_any (some ⟨g3, 0, none⟩) c3 ys.length ys x W rfl hl (hx W hB))
  have c0 := (hB.cell (p := ⟨hB0, 0, none⟩) hlt).trans hc
  clear hx hc
  go_enter Tryz.func55, Tryz.ntmps55
  go_wp2_with fail
  refine H.out.mono ?_
  rintro e w1 ⟨rfl, rfl⟩
  go_wp2
  go_ret
  exact ⟨rfl, rfl⟩

def encV (x : Int) : Value := .int .i64 x
theorem encV_get (xs : List Int) (j : Nat) (h : j < xs.length) : (xs.flatMap encI)[j]? = some (encV xs[j]) := by
  have h2 := flatMap_at encI 1 encI_len xs j _ 0 _ (List.getElem?_eq_getElem h) (show (encI xs[j])[0]? = some (encV xs[j]) from rfl)
  simpa using h2
theorem holdsV {w : World} {base : Nat} {E : TypeId} {g n cap : Nat} {xs : List Int} (h : w.ownsRow base E 1 (.slice (some ⟨g, 0, none⟩) n cap) n (xs.flatMap encI)) : Holds encV w g 0 xs.toArray := by
  intro j hj
  have hj' : j < xs.length := by simpa using hj
  have hl := h.1
  rw [length_flatMap_enc encI 1 encI_len] at hl
  have h1 := h.cellAt j (by omega)
  rw [encV_get xs j hj'] at h1
  rw [Nat.zero_add, h1]
  exact ⟨by simp [getElem!_pos, hj'], h.frozenAt j⟩
theorem own_cut {w : World} {base : Nat} {E : TypeId} {g n cap q : Nat} {xs ys rs : List Int} (h : w.ownsRow base E 1 (.slice (some ⟨g, 0, none⟩) n cap) n (xs.flatMap encI)) (hy : ys.length + rs.length = n) :
    (putRow encV (Sort.ahead w q) g 0 (ys ++ rs).toArray).ownsRow base E 1 (.slice (some ⟨g, 0, none⟩) ys.length cap) ys.length (ys.flatMap encI) ∧ w.grownBy (putRow encV (Sort.ahead w q) g 0 (ys ++ rs).toArray) (some g) := by
  rcases h.2 with ⟨e0, _⟩ | ⟨g', cap', cur, e0, hb, hg, hn, hm, hs, ht⟩
  · cases e0
  · injection e0 with e1 _ e3
    injection e1 with e1
    injection e1 with e1
    subst e1; subst e3
    have hlt : g < w.heap.size := by
      rcases Nat.lt_or_ge g w.heap.size with h' | h'
      · exact h'
      · rw [Array.getElem?_eq_none h'] at hg; cases hg
    refine ⟨⟨by rw [length_flatMap_enc encI 1 encI_len], .inr ⟨g, cap, Sort.putCells encV 0 (ys ++ rs).toArray cur, rfl, hb, ?_, by omega, hm, by simpa [Sort.putCells] using hs, ?_⟩⟩, ?_⟩
    · simp only [Sort.putRow, Sort.mapBlock, Sort.ahead]
      simp [Array.getElem?_modify, hg, Sort.onCells]
    · apply List.ext_getElem?
      intro j
      rw [List.getElem?_take, Array.getElem?_toList]
      by_cases hj : j < ys.length
      · have hjc : j < cur.size := by omega
        rw [if_pos (by omega), encV_get ys j hj]
        simp only [Sort.putCells, Array.getElem?_mapIdx, Array.getElem?_eq_getElem hjc, Option.map_some]
        rw [if_pos (by simp; omega)]
        simp [getElem!_pos, show j < ys.length + rs.length by omega, List.getElem_append_left hj]
      · rw [if_neg (by omega), List.getElem?_eq_none (by rw [length_flatMap_enc encI 1 encI_len]; omega)]
    · refine ⟨rfl, rfl, rfl, ?_, fun j hj hne => ?_⟩
      · simp [Sort.putRow, Sort.mapBlock, Sort.ahead]
      · simp only [Sort.putRow, Sort.mapBlock, Sort.ahead]
        rw [Array.getElem?_modify, if_neg (fun e => hne (by rw [e]))]
theorem own_cap {w : World} {base : Nat} {E : TypeId} {k g n cap : Nat} {xs : List Value} (h : w.ownsRow base E k (.slice (some ⟨g, 0, none⟩) n cap) n xs) : n ≤ cap := by
  rcases h.2 with ⟨e0, _⟩ | ⟨g', cap', cur, e0, hb, hg, hn, hm, hs, ht⟩
  · cases e0
  · injection e0 with _ _ e3
    omega
theorem sw_below {w : World} {g B n : Nat} {dk : Array Int} {os : Array Obj} (hB : B ≤ g) (hs : B ≤ w.heap.size) : Below B w (sortWorld encV w g 0 n dk os) := by
  refine ⟨rfl, rfl, rfl, ?_, fun j hj => ?_⟩
  · simp [sortWorld, Sort.grow, Sort.putRow, Sort.mapBlock, Sort.ahead]
  · simp only [sortWorld, Sort.grow, Sort.putRow, Sort.mapBlock, Sort.ahead]
    rw [Array.getElem?_append_left (by simp; omega), Array.getElem?_modify, if_neg (by omega)]

set_option maxRecDepth 100000 in
set_option maxHeartbeats 4000000 in
theorem specMeet_any (a0 a1 a2 a3 : Option Addr) (cap0 cap1 cap2 cap3 : Nat) (xs0 : List ByteArray) (xs1 : List Wy) (xs2 xs3 : List St) (z : Int) (w : World) (hc0 : xs0.length ≤ cap0) (hc1 : cap0 ≤ 9223372036854775807) (hl0 : xs0.length ≤ 1048576) (hx0 : Rd encS w a0 xs0) (hs0 : ∀ m ∈ xs0, m.size ≤ 1048576) (hl1 : xs1.length ≤ 1048576) (hx1 : Rd encWy w a1 xs1) (hl2 : xs2.length ≤ 1048576) (hx2 : Rd encSt w a2 xs2) (hl3 : xs3.length ≤ 1048576) (hx3 : Rd encSt w a3 xs3) :
    Calls Tryz.prog 9 #[.agg #[.slice a0 xs0.length cap0, .slice a1 xs1.length cap1], .slice a2 xs2.length cap2, .slice a3 xs3.length cap3, .int .i64 z] w fun e w' => ∃ b c, e = .returned (.tuple #[.slice b (meetR xs0 xs1 xs2 xs3 z (codeM xs0 xs1 xs2 xs3 z)).1.length c, .int .i64 (meetR xs0 xs1 xs2 xs3 z (codeM xs0 xs1 xs2 xs3 z)).2]) ∧ w'.ownsRow w.heap.size 2 1 (.slice b (meetR xs0 xs1 xs2 xs3 z (codeM xs0 xs1 xs2 xs3 z)).1.length c) (meetR xs0 xs1 xs2 xs3 z (codeM xs0 xs1 xs2 xs3 z)).1.length ((meetR xs0 xs1 xs2 xs3 z (codeM xs0 xs1 xs2 xs3 z)).1.flatMap encI) ∧ Below w.heap.size w w' := by
  obtain ⟨i0, hi, hz0, hz1, hz2⟩ := info_parts infoI
  have HC := Lib.hid (fun W q (hB : Below w.heap.size w W) => l15Code_any a0 a1 a2 cap0 cap1 cap2 xs0 xs1 xs2 q W hc0 hc1 hl0 (hx0.below hB) hs0 hl1 (hx1.below hB) hl2 (hx2.below hB))
  have HIT := Lib.hid (fun W (hB : Below w.heap.size w W) => specIsItin_any a0 a1 a3 cap0 cap1 cap3 xs0 xs1 xs3 W hc0 hc1 hl0 (hx0.below hB) hs0 hl1 (hx1.below hB) hl3 (hx3.below hB))
  have hfacts := Lib.hid (codeM_zero (ps := xs0) (ws := xs1) (xs := xs2) (ys := xs3) (z := z))
  have hRz : Hid (codeM xs0 xs1 xs2 xs3 z = 0 → meetR xs0 xs1 xs2 xs3 z (codeM xs0 xs1 xs2 xs3 z) = (jxl (pM xs0.length xs1 xs2 xs3 z) xs0.length, 0)) := fun h => by unfold meetR; rw [if_pos h]
  have hRn : Hid (codeM xs0 xs1 xs2 xs3 z ≠ 0 → meetR xs0 xs1 xs2 xs3 z (codeM xs0 xs1 xs2 xs3 z) = ([], codeM xs0 xs1 xs2 xs3 z)) := fun h => by unfold meetR; rw [if_neg h]
  have HPL := Lib.hid (fun W => l01Day_any z W)
  have hcI : Hid (isItinB xs0 xs1 xs3 = true → codeM xs0 xs1 xs2 xs3 z = codeI xs0 xs1 xs2 (dayB z)) := fun h => by unfold codeM; rw [if_pos h]
  have hcN : Hid (isItinB xs0 xs1 xs3 = false → codeM xs0 xs1 xs2 xs3 z = 1) := fun h => by unfold codeM; rw [h]; rfl
  generalize codeM xs0 xs1 xs2 xs3 z = c at hfacts hRz hRn hcI hcN ⊢
  generalize hcc : codeI xs0 xs1 xs2 (dayB z) = d at hcI
  have HC := Lib.hid (fun W hB => hcc ▸ HC.out W (dayB z) hB)
  clear hcc
  have hday : Hid (c = 0 → dayB z = true) := fun h => (hfacts.out h).2.2
  generalize hpb : dayB z = q at HC HPL
  clear hpb
  generalize hW : w.alloc (.cells #[.slice a0 xs0.length cap0, .slice a1 xs1.length cap1] 27) = W
  have hA0 : At w [.slice a0 xs0.length cap0, .slice a1 xs1.length cap1] W := hW ▸ At.start _ _ _
  have b0 := hA0.cell 0 _ rfl
  have b1 := hA0.cell 1 _ rfl
  have hs := hA0.size
  go_enter Tryz.func9, Tryz.ntmps9
  go_wp2_with fail
  clear hW
  go_region_held_law (fun w' => w'.cell? ⟨w.heap.size, 0, none⟩ = some (.slice a0 xs0.length cap0) ∧ w'.cell? ⟨w.heap.size, 1, none⟩ = some (.slice a1 xs1.length cap1)) (first | exact ⟨b0, b1⟩ | exact ⟨(hB7.cell (p := ⟨w.heap.size, 0, none⟩) hs).trans b0, (hB7.cell (p := ⟨w.heap.size, 1, none⟩) hs).trans b1⟩) (first | (go_at_call 58; refine (HPL.out _).mono ?_; rintro e w6 ⟨rfl, rfl⟩) | (go_at_call 57; refine (HC.out _ (hA0.step (Below.refl _ W).drew).below).mono ?_; rintro e w7 ⟨rfl, hB7⟩) | fail)
  have hA1 := hA0.step (stepB (Below.refl _ W).drew hB7 (Nat.le_refl _))
  clear hA0 hB7 b0 b1 hs HC HPL
  generalize w7 = w1 at hA1 ⊢
  have b0 := hA1.cell 0 _ rfl
  have b1 := hA1.cell 1 _ rfl
  have HIT := Lib.hid (HIT.out _ hA1.below)
  cases hit : isItinB xs0 xs1 xs3
  · rw [hit] at HIT
    obtain rfl := hcN.out hit
    have hR := Lib.hid (hRn.out (by decide))
    clear hfacts hRz hRn hcI hcN hday hit
    go_wp2_with fail
    refine HIT.out.mono ?_
    rintro e w2 ⟨rfl, hB2⟩
    go_wp2
    go_ret2
    rw [hR.out]
    exact ⟨none, 0, rfl, World.ownsRow_nil _ _ _ _, (hA1.step hB2).below⟩
  · rw [hit] at HIT
    obtain rfl := hcI.out hit
    clear hcI hcN hday
    by_cases hc : c = 0
    · subst hc
      obtain ⟨_, hI2, _⟩ := hfacts.out rfl
      have hR := Lib.hid (hRz.out rfl)
      clear hfacts hRz hRn
      obtain ⟨hA, ho2, hl402⟩ := itin_facts hI2
      obtain ⟨_, ho3, hl403⟩ := itin_facts hit
      have hn12 := (landOk hA).2.2.1
      have HD2 := Lib.hid (fun W (hB : Below w.heap.size w W) => l15Places_any a0 a1 a2 cap0 cap1 cap2 xs0 xs1 xs2 z W hA hl402 ho2 (hx1.below hB) (hx2.below hB))
      have HD3 := Lib.hid (fun W (hB : Below w.heap.size w W) => l15Places_any a0 a1 a3 cap0 cap1 cap3 xs0 xs1 xs3 z W hA hl403 ho3 (hx1.below hB) (hx3.below hB))
      have hJ := jxl_meet (pP xs0.length xs1 xs2 z) (pP xs0.length xs1 xs3 z) xs0.length xs0.length (Nat.le_refl _)
      have hl2' := Nat.le_trans (jxl_len (pP xs0.length xs1 xs2 z) xs0.length) hn12
      have hl3' := Nat.le_trans (jxl_len (pP xs0.length xs1 xs3 z) xs0.length) hn12
      have hR' : Hid (meetR xs0 xs1 xs2 xs3 z 0 = ((jxl (pP xs0.length xs1 xs2 z) xs0.length).filter (fun x => (jxl (pP xs0.length xs1 xs3 z) xs0.length).any (isZ x)), 0)) := by unfold Hid; rw [hR.out, hJ]; rfl
      clear hR hJ hit hI2 hA
      generalize jxl (pP xs0.length xs1 xs2 z) xs0.length = ls at HD2 hl2' hR'
      generalize jxl (pP xs0.length xs1 xs3 z) xs0.length = ms at HD3 hl3' hR'
      go_wp2_with fail
      refine HIT.out.mono ?_
      rintro e w2 ⟨rfl, hB2⟩
      have hA2 := hA1.step hB2
      clear hA1 hB2 b0 b1 HIT
      have b0 := hA2.cell 0 _ rfl
      have b1 := hA2.cell 1 _ rfl
      have hs := hA2.size
      go_wp2_with fail
      go_region_held_law (fun w' => w'.cell? ⟨w.heap.size, 0, none⟩ = some (.slice a0 xs0.length cap0) ∧ w'.cell? ⟨w.heap.size, 1, none⟩ = some (.slice a1 xs1.length cap1)) (first | exact ⟨b0, b1⟩ | exact ⟨(hB6.cell (p := ⟨w.heap.size, 0, none⟩) hs).trans b0, (hB6.cell (p := ⟨w.heap.size, 1, none⟩) hs).trans b1⟩ | exact ⟨(hB7.cell (p := ⟨w.heap.size, 0, none⟩) (Nat.lt_of_lt_of_le hs hB6.size)).trans ((hB6.cell (p := ⟨w.heap.size, 0, none⟩) hs).trans b0), (hB7.cell (p := ⟨w.heap.size, 1, none⟩) (Nat.lt_of_lt_of_le hs hB6.size)).trans ((hB6.cell (p := ⟨w.heap.size, 1, none⟩) hs).trans b1)⟩) (first | (go_at_call 60; refine (HD3.out _ ((hA2.step (Below.refl _ w2).drew).step hB6).below).mono ?_; rintro e w7 ⟨g7, c7, rfl, ho7, hB7⟩) | (go_at_call 60; refine (HD2.out _ (hA2.step (Below.refl _ w2).drew).below).mono ?_; rintro e w6 ⟨g6, c6, rfl, ho6, hB6⟩) | fail)
      have r6 := (Rd.of_own encI_len (by decide) ho6).below hB7
      have r7 := Rd.of_own encI_len (by decide) ho7
      have hBe : Below w.heap.size w w7 := (((hA2.step (Below.refl _ w2).drew).step hB6).step hB7).below
      clear hA2 hB6 hB7 ho6 ho7 b0 b1 hs HD2 HD3
      have hown0 := World.ownsRow_made w7 #[] 0 (Nat.le_refl _) (by decide) rfl (e := 2) (size := 1)
      have hBo : Below w7.heap.size w7 (w7.alloc (.cells #[] 2)) := (Below.refl _ w7).alloc (Nat.le_refl _) _
      have HH := Lib.hid (fun x W (hB : Below w7.heap.size w7 W) => l01Has_any (some ⟨g7, 0, none⟩) c7 ms.length ms x W rfl (by omega) (r7.below hB))
      have hG : Hid (∀ x, ms.any (isZ x) = ms.any (isZ x)) := fun _ => rfl
      obtain ⟨gf, hgf⟩ : ∃ gf : Int → Bool, gf = fun x => ms.any (isZ x) := ⟨_, rfl⟩
      have hgv : ∀ x, gf x = ms.any (isZ x) := fun x => by rw [hgf]
      have HG := Lib.hid hgv
      have hR'' : Hid (meetR xs0 xs1 xs2 xs3 z 0 = (ls.filter gf, 0)) := by rw [hgf]; exact hR'
      clear hgf hgv hG hR' r7
      go_wp2
      go_loopw [13, 14] (fun o i wr => ∃ (k g c : Nat), k ≤ ls.length ∧ i = .int .i64 k ∧ o = .slice (some ⟨g, 0, none⟩) ((ls.take k).filter gf).length c ∧ wr.ownsRow w7.heap.size 2 1 (.slice (some ⟨g, 0, none⟩) ((ls.take k).filter gf).length c) ((ls.take k).filter gf).length (((ls.take k).filter gf).flatMap encI) ∧ Below w7.heap.size w7 wr) (fun _ i _ => ls.length - (intOf i).toNat)
      case atStart => exact ⟨0, _, _, Nat.zero_le _, rfl, rfl, hown0, hBo⟩
      case round =>
        clear hown0 hBo
        rename_i wr
        obtain ⟨k, g, c, hk, rfl, rfl, hown, hB⟩ := hrel
        have hlen : ((ls.take k).filter gf).length ≤ ls.length := Nat.le_trans (List.length_filter_le _ _) (by simp; omega)
        by_cases hlt : k < ls.length
        · have hk1 : (k : Int) < (ls.length : Int) := by omega
          have hm := List.getElem?_eq_getElem hlt
          have htk : ls.take (k + 1) = ls.take k ++ [ls[k]] := by rw [List.take_append_getElem]
          generalize ls[k] = x at hm htk
          obtain ⟨b, off, hbe, hb, c0⟩ := (r6.below hB).i hm
          obtain ⟨rfl, rfl⟩ : g6 = b ∧ 0 = off := by injection hbe with e1; injection e1 with e1 e2; exact ⟨e1, e2⟩
          clear hbe
          rw [Nat.zero_add] at c0
          have HX := Lib.hid (HG.out x ▸ HH.out x wr hB)
          clear hm
          cases hgx : gf x
          · rw [hgx] at HX
            have hst : Hid ((ls.take (k + 1)).filter gf = (ls.take k).filter gf) := by unfold Hid; rw [htk, List.filter_append]; simp [hgx]
            clear htk hgx
            go_wp2_with fail
            refine HX.out.mono ?_
            rintro e w3 ⟨rfl, rfl⟩
            go_wp2
            go_roundw
            case rel => exact ⟨k + 1, g, c, by omega, by go_num, by rw [hst.out], by rw [hst.out]; exact hown, hB⟩
            case measure => simp [intOf]; omega
          · rw [hgx] at HX
            have hst : Hid ((ls.take (k + 1)).filter gf = (ls.take k).filter gf ++ [x]) := by unfold Hid; rw [htk, List.filter_append]; simp [hgx]
            clear htk hgx
            generalize (ls.take k).filter gf = out at hown hst hlen ⊢
            go_wp2_with fail
            refine HX.out.mono ?_
            rintro e w3 ⟨rfl, rfl⟩
            go_wp2_with (at_builtin; refine wpList_append_own _ rfl _ _ 31 rfl w7.heap.size 2 i0 (.int .i64 0) 1 8 Tryz.underlying31 hi hz0 hz1 hz2 rfl (by decide) _ _ _ rfl (hown.alloc _) ⟨wr.heap.size, 0, none⟩ 1 1 [.int .i64 x] rfl rfl (cell_one_new _ _ _) ?c2 ?c3 ?c4 ?c5 ?_)
            case c2 => intro u hu; simp at hu; subst hu; rfl
            case c3 => unfold maxLen; omega
            case c4 => omega
            case c5 => have := hB.size; first | omega | (simp; omega)
            intro v' w6 hown' hgr _
            have hB' := (hB.alloc hB.size _).grown hgr (by have := hB.size; simp; omega) (fun x hx => (hown.lt x hx).1)
            obtain ⟨g', c', rfl⟩ := formJ hown' (by omega)
            clear hgr hown hB
            go_wp2
            go_roundw
            case rel => exact ⟨k + 1, g', c', by omega, by go_num, by rw [hst.out, List.length_append]; rfl, by rw [hst.out, List.length_append, List.flatMap_append]; exact hown', hB'⟩
            case measure => simp [intOf]; omega
        · obtain rfl : k = ls.length := by omega
          rw [List.take_length] at hown ⊢
          go_wp2
          go_ret2
          rw [hR''.out]
          exact ⟨_, _, rfl, own_base hown hBe.size, stepB hBe hB hBe.size⟩
    · have hR := Lib.hid (hRn.out hc)
      have hc2 : (c != 0) = true := by simpa using hc
      clear hfacts hRz hRn hit
      go_wp2_with fail
      refine HIT.out.mono ?_
      rintro e w2 ⟨rfl, hB2⟩
      go_wp2
      go_ret2
      rw [hR.out]
      exact ⟨none, 0, rfl, World.ownsRow_nil _ _ _ _, (hA1.step hB2).below⟩

theorem zvI (w : World) : (zeroValue 2).run Tryz.prog w = .ok (encV 0) w := Tryz.zeroValue2 w
set_option maxRecDepth 100000 in
set_option maxHeartbeats 4000000 in
theorem implMeet_any (a0 a1 a2 a3 : Option Addr) (cap0 cap1 cap2 cap3 : Nat) (xs0 : List ByteArray) (xs1 : List Wy) (xs2 xs3 : List St) (z : Int) (w : World) (hc0 : xs0.length ≤ cap0) (hc1 : cap0 ≤ 9223372036854775807) (hl0 : xs0.length ≤ 1048576) (hx0 : Rd encS w a0 xs0) (hs0 : ∀ m ∈ xs0, m.size ≤ 1048576) (hl1 : xs1.length ≤ 1048576) (hx1 : Rd encWy w a1 xs1) (hl2 : xs2.length ≤ 1048576) (hx2 : Rd encSt w a2 xs2) (hl3 : xs3.length ≤ 1048576) (hx3 : Rd encSt w a3 xs3) :
    Calls Tryz.prog 8 #[.agg #[.slice a0 xs0.length cap0, .slice a1 xs1.length cap1], .slice a2 xs2.length cap2, .slice a3 xs3.length cap3, .int .i64 z] w fun e w' => ∃ b c, e = .returned (.tuple #[.slice b (meetR xs0 xs1 xs2 xs3 z (codeM xs0 xs1 xs2 xs3 z)).1.length c, .int .i64 (meetR xs0 xs1 xs2 xs3 z (codeM xs0 xs1 xs2 xs3 z)).2]) ∧ w'.ownsRow w.heap.size 2 1 (.slice b (meetR xs0 xs1 xs2 xs3 z (codeM xs0 xs1 xs2 xs3 z)).1.length c) (meetR xs0 xs1 xs2 xs3 z (codeM xs0 xs1 xs2 xs3 z)).1.length ((meetR xs0 xs1 xs2 xs3 z (codeM xs0 xs1 xs2 xs3 z)).1.flatMap encI) ∧ Below w.heap.size w w' := by
  have HI2 := Lib.hid (fun W (hB : Below w.heap.size w W) => implIsItin_any a0 a1 a2 cap0 cap1 cap2 xs0 xs1 xs2 W hc0 hc1 hl0 (hx0.below hB) hs0 hl1 (hx1.below hB) hl2 (hx2.below hB))
  have HI3 := Lib.hid (fun W (hB : Below w.heap.size w W) => implIsItin_any a0 a1 a3 cap0 cap1 cap3 xs0 xs1 xs3 W hc0 hc1 hl0 (hx0.below hB) hs0 hl1 (hx1.below hB) hl3 (hx3.below hB))
  have HDY := Lib.hid (fun W => isDay_any z W)
  have hcode : codeM xs0 xs1 xs2 xs3 z = if isItinB xs0 xs1 xs3 then (if isItinB xs0 xs1 xs2 then (if dayB z then 0 else 2) else 1) else 1 := rfl
  have hRz : Hid (codeM xs0 xs1 xs2 xs3 z = 0 → meetR xs0 xs1 xs2 xs3 z (codeM xs0 xs1 xs2 xs3 z) = (jxl (pM xs0.length xs1 xs2 xs3 z) xs0.length, 0)) := fun h => by unfold meetR; rw [if_pos h]
  have hRn : Hid (codeM xs0 xs1 xs2 xs3 z ≠ 0 → meetR xs0 xs1 xs2 xs3 z (codeM xs0 xs1 xs2 xs3 z) = ([], codeM xs0 xs1 xs2 xs3 z)) := fun h => by unfold meetR; rw [if_neg h]
  generalize codeM xs0 xs1 xs2 xs3 z = c at hcode hRz hRn ⊢
  have hA0 : At w [.slice a0 xs0.length cap0, .slice a1 xs1.length cap1] (w.alloc (.cells #[.slice a0 xs0.length cap0, .slice a1 xs1.length cap1] 27)) := At.start _ _ _
  cases h2 : isItinB xs0 xs1 xs2
  · have HI2 := Lib.hid (fun W hB => h2 ▸ HI2.out W hB)
    have hc1' : c = 1 := by rw [hcode, h2]; cases isItinB xs0 xs1 xs3 <;> rfl
    subst hc1'
    have hR := Lib.hid (hRn.out (by decide))
    clear hcode hRz hRn h2 HI3 HDY
    go_enter Tryz.func8, Tryz.ntmps8
    go_wp2_with fail
    refine (HI2.out _ hA0.below).mono ?_
    rintro e w2 ⟨rfl, hB2⟩
    go_wp2
    go_ret2
    rw [hR.out]
    exact ⟨none, 0, rfl, World.ownsRow_nil _ _ _ _, (hA0.step hB2).below⟩
  have HI2 := Lib.hid (fun W hB => h2 ▸ HI2.out W hB)
  cases h3 : isItinB xs0 xs1 xs3
  · have HI3 := Lib.hid (fun W hB => h3 ▸ HI3.out W hB)
    have hc1' : c = 1 := by rw [hcode, h3]; rfl
    subst hc1'
    have hR := Lib.hid (hRn.out (by decide))
    clear hcode hRz hRn h2 h3 HDY
    go_enter Tryz.func8, Tryz.ntmps8
    go_wp2_with fail
    refine (HI2.out _ hA0.below).mono ?_
    rintro e w2 ⟨rfl, hB2⟩
    have hA1 := hA0.step hB2
    have b0 := hA1.cell 0 _ rfl
    have b1 := hA1.cell 1 _ rfl
    clear hA0 hB2
    go_wp2_with fail
    refine (HI3.out _ hA1.below).mono ?_
    rintro e w3 ⟨rfl, hB3⟩
    go_wp2
    go_ret2
    rw [hR.out]
    exact ⟨none, 0, rfl, World.ownsRow_nil _ _ _ _, (hA1.step hB3).below⟩
  have HI3 := Lib.hid (fun W hB => h3 ▸ HI3.out W hB)
  cases hd : dayB z
  · have HDY := Lib.hid (fun W => hd ▸ HDY.out W)
    have hc1' : c = 2 := by rw [hcode, h2, h3, hd]; rfl
    subst hc1'
    have hR := Lib.hid (hRn.out (by decide))
    clear hcode hRz hRn h2 h3 hd
    go_enter Tryz.func8, Tryz.ntmps8
    go_wp2_with fail
    refine (HI2.out _ hA0.below).mono ?_
    rintro e w2 ⟨rfl, hB2⟩
    have hA1 := hA0.step hB2
    have b0 := hA1.cell 0 _ rfl
    have b1 := hA1.cell 1 _ rfl
    clear hA0 hB2
    go_wp2_with fail
    refine (HI3.out _ hA1.below).mono ?_
    rintro e w3 ⟨rfl, hB3⟩
    have hA1 := hA1.step hB3
    clear hB3 b0 b1
    go_wp2_with fail
    refine (HDY.out _).mono ?_
    rintro e w4 ⟨rfl, rfl⟩
    go_wp2
    go_ret2
    rw [hR.out]
    exact ⟨none, 0, rfl, World.ownsRow_nil _ _ _ _, hA1.below⟩
  have HDY := Lib.hid (fun W => hd ▸ HDY.out W)
  have hc1' : c = 0 := by rw [hcode, h2, h3, hd]; rfl
  subst hc1'
  have hR := Lib.hid (hRz.out rfl)
  obtain ⟨hA, ho2, hl402⟩ := itin_facts h2
  obtain ⟨_, ho3, hl403⟩ := itin_facts h3
  have hn12 := (landOk hA).2.2.1
  have HD2 := Lib.hid (fun W (hB : Below w.heap.size w W) => possPlaces_any a0 a1 a2 cap0 cap1 cap2 xs0 xs1 xs2 z W hA hl402 ho2 (hx1.below hB) (hx2.below hB))
  have HD3 := Lib.hid (fun W (hB : Below w.heap.size w W) => possPlaces_any a0 a1 a3 cap0 cap1 cap3 xs0 xs1 xs3 z W hA hl403 ho3 (hx1.below hB) (hx3.below hB))
  have hJ := jxl_meet (pP xs0.length xs1 xs2 z) (pP xs0.length xs1 xs3 z) xs0.length xs0.length (Nat.le_refl _)
  have hl2' := Nat.le_trans (jxl_len (pP xs0.length xs1 xs2 z) xs0.length) hn12
  have hl3' := Nat.le_trans (jxl_len (pP xs0.length xs1 xs3 z) xs0.length) hn12
  have hR' : Hid (meetR xs0 xs1 xs2 xs3 z 0 = ((jxl (pP xs0.length xs1 xs2 z) xs0.length).filter (fun x => (jxl (pP xs0.length xs1 xs3 z) xs0.length).any (isZ x)), 0)) := by unfold Hid; rw [hR.out, hJ]; rfl
  clear hR hJ hcode hRz hRn h2 h3 hd hA
  generalize jxl (pP xs0.length xs1 xs2 z) xs0.length = ls at HD2 hl2' hR'
  generalize jxl (pP xs0.length xs1 xs3 z) xs0.length = ms at HD3 hl3' hR'
  go_enter Tryz.func8, Tryz.ntmps8
  go_wp2_with fail
  refine (HI2.out _ hA0.below).mono ?_
  rintro e w2 ⟨rfl, hB2⟩
  have hA1 := hA0.step hB2
  have b0 := hA1.cell 0 _ rfl
  have b1 := hA1.cell 1 _ rfl
  clear hA0 hB2
  go_wp2_with fail
  refine (HI3.out _ hA1.below).mono ?_
  rintro e w3 ⟨rfl, hB3⟩
  have hA1 := hA1.step hB3
  clear hB3 b0 b1
  have b0 := hA1.cell 0 _ rfl
  have b1 := hA1.cell 1 _ rfl
  go_wp2_with fail
  refine (HDY.out _).mono ?_
  rintro e w4 ⟨rfl, rfl⟩
  go_wp2_with fail
  refine (HD3.out _ hA1.below).mono ?_
  rintro e w5 ⟨g3, c3, rfl, ho3', hB5⟩
  have hA5 := hA1.step hB5
  have r3 := Rd.of_own encI_len (by decide) ho3'
  clear hA1 hB5 b0 b1 ho3'
  generalize hW6 : w5.alloc (.cells #[.slice (some ⟨g3, 0, none⟩) ms.length c3] 31) = w6
  have hBo : Below w5.heap.size w5 w6 := by rw [← hW6]; exact (Below.refl _ _).alloc (Nat.le_refl _) _
  have k0 : w6.cell? ⟨w5.heap.size, 0, none⟩ = some (.slice (some ⟨g3, 0, none⟩) ms.length c3) := by rw [← hW6]; exact World.cell?_alloc_at _ _ _ _ rfl
  have hn6 : w5.heap.size < w6.heap.size := by rw [← hW6]; simp
  have hA6 := hA5.step hBo
  have r3 := r3.below hBo
  have b0 := hA6.cell 0 _ rfl
  have b1 := hA6.cell 1 _ rfl
  clear hA5 hBo
  go_wp2_with fail
  clear hW6
  refine (HD2.out _ hA6.below).mono ?_
  rintro e w7 ⟨g7, c7, rfl, ho7, hB7⟩
  have hA7 := hA6.step hB7
  have hg7 := (own_lt ho7).1
  have hown7 := own_base ho7 hA6.below.size
  have r3' : ∀ W, Below w6.heap.size w6 W → Rd encI W (some ⟨g3, 0, none⟩) ms := fun W hB => r3.below hB
  have HCL := Lib.hid (fun W (hB : Below w6.heap.size w6 W) x => meetClo_any w6.heap.size w5.heap.size g3 c3 ms w6 k0 hn6 (by omega) r3' W hB x)
  have hBe := hA7.below
  have eg : ∀ args w, (callFunc 55 args).run Tryz.prog w = .ok (.enter 55 args) w := enters_of Tryz.func55 (by kernel_rfl) rfl
  have hcon := AnyE.slices_DeleteFunc Tryz.delI encV (fun _ => rfl) (fun x => !ms.any (isZ x)) 55 #[.pointer (some ⟨w5.heap.size, 0, none⟩)] eg 0 zvI g7 0 c7 ls.toArray w7 ?hp ?hpo (holdsV hown7) ?hsz ?hcap
  case hp => exact fun W x hB => (HCL.out W (hB7.trans (hB.mono hB7.size)) x).mono fun e w' h => ⟨h.1, 0, h.2.symm⟩
  case hpo => exact fun n os dk x _ => (HCL.out _ (hB7.trans (sw_below hg7 hB7.size)) x).mono fun e w' h => ⟨h.1, 0, h.2.symm⟩
  case hsz => simp; omega
  case hcap => simp; exact own_cap hown7
  have hgr : ls.filter (fun x => !(!ms.any (isZ x))) = ls.filter (fun x => ms.any (isZ x)) := by simp
  have hle := List.length_filter_le (fun x => ms.any (isZ x)) ls
  rw [List.size_toArray] at hcon
  change Calls Tryz.prog 54 _ _ _ at hcon
  simp only [hgr] at hcon
  generalize ls.filter (fun x => ms.any (isZ x)) = ys at hcon hle hR'
  have hcon := Lib.hid (hcon.mono (R' := fun e w' => e = .returned (.slice (some ⟨g7, 0, none⟩) ys.length c7) ∧ w'.ownsRow w.heap.size 2 1 (.slice (some ⟨g7, 0, none⟩) ys.length c7) ys.length (ys.flatMap encI) ∧ w7.grownBy w' (some g7)) (by
    rintro e w' ⟨rfl, q, rfl⟩
    have hc := own_cut (q := q) (ys := ys) (rs := List.replicate (ls.length - ys.length) 0) hown7 (by simp; omega)
    exact ⟨rfl, hc.1, hc.2⟩))
  have hg0 : w.heap.size ≤ g7 := Nat.le_trans hA6.below.size hg7
  clear eg HCL r3' k0 r3 b0 b1 hA6 hA7 hB7 hg7 ho7 hown7 hgr
  go_wp2_with fail
  refine hcon.out.mono ?_
  rintro e w8 ⟨rfl, hown8, hgw⟩
  go_wp2
  go_ret2
  rw [hR'.out]
  exact ⟨_, _, rfl, hown8, hBe.grown hgw hBe.size (fun g e => by cases e; exact hg0)⟩
end Go.Proofs.YtmjbigeeokofeaaGreatDoor
