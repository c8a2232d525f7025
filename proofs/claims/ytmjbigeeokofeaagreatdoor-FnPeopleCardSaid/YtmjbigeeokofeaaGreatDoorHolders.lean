/- Walks: HoldersOn. Printed by gen_holders.py. -/
import Derived.Test.YtmjbigeeokofeaaGreatDoorLiving
import Derived.Test.YtmjbigeeokofeaaGreatDoorOffice
import Derived.Test.YtmjbigeeokofeaaGreatDoorSpHas
import Derived.Deep.RegionHeldLaw
namespace Go.Proofs.YtmjbigeeokofeaaGreatDoor
open Go.ChangeShapes Go.WideShapes Go.ChangeAt Go.RowKit

def pH (ps : List Ps) (ts : List Tm) (o : ByteArray) (n : Int) (i : Nat) : Bool := match ps[i]? with
  | some m => hasB (tsp (isOP o m.name) ts) n
  | none => false
theorem pH_at {ps : List Ps} {ts : List Tm} {o : ByteArray} {n : Int} {i : Nat} {m : Ps} (h : ps[i]? = some m) : pH ps ts o n i = hasB (tsp (isOP o m.name) ts) n := by unfold pH; rw [h]
theorem ps_name {ps : List Ps} {ts : List Tm} (h : isPeopleB ps ts = true) {m : Ps} (hm : m ∈ ps) : m.name.toList ≠ [] := by
  have hn := people_name h hm
  unfold nameB at hn
  simp only [Bool.and_eq_true, decide_eq_true_eq] at hn
  intro e
  rw [ByteArray.toList_eq] at e
  rw [e] at hn
  simp at hn
def holdersR (ps : List Ps) (ts : List Tm) (o : ByteArray) (n : Int) : List Int × Int :=
  if isPeopleB ps ts then (if dayB n then (jxl (pH ps ts o n) ps.length, 0) else ([], 2)) else ([], 1)
theorem holdersR_len (ps : List Ps) (ts : List Tm) (o : ByteArray) (n : Int) (h : ps.length ≤ 1048576) : (holdersR ps ts o n).1.length ≤ 1048576 := by
  unfold holdersR
  split
  · split
    · exact Nat.le_trans (jxl_len (pH ps ts o n) ps.length) h
    · simp
  · simp

set_option maxRecDepth 100000 in
set_option maxHeartbeats 4000000 in
theorem specHolders_any (a0 a1 : Option Addr) (cap0 cap1 : Nat) (xs0 : List Ps) (xs1 : List Tm) (o : ByteArray) (n : Int) (w : World) (hl0 : xs0.length ≤ 1048576) (hx0 : Rd encPs w a0 xs0) (hs0 : ∀ m ∈ xs0, szPs m ≤ 1048576) (hl1 : xs1.length ≤ 1048576) (hx1 : Rd encTm w a1 xs1) (hs1 : ∀ m ∈ xs1, szTm m ≤ 1048576) :
    Calls Tryz.prog 26 #[.agg #[.slice a0 xs0.length cap0, .slice a1 xs1.length cap1], .string o, .int .i64 n] w fun e w' => ∃ b c, e = .returned (.tuple #[.slice b (holdersR xs0 xs1 o n).1.length c, .int .i64 (holdersR xs0 xs1 o n).2]) ∧
      w'.ownsRow w.heap.size 2 1 (.slice b (holdersR xs0 xs1 o n).1.length c) (holdersR xs0 xs1 o n).1.length ((holdersR xs0 xs1 o n).1.flatMap encI) ∧ Below w.heap.size w w' := by
  have hA0 : At w [.slice a0 xs0.length cap0, .slice a1 xs1.length cap1] (w.alloc (.cells #[.slice a0 xs0.length cap0, .slice a1 xs1.length cap1] 48)) := At.start _ _ _
  have HM := Lib.hid (fun W (hAt : At w [.slice a0 xs0.length cap0, .slice a1 xs1.length cap1] W) => specIsPeople_any a0 a1 cap0 cap1 xs0 xs1 W hl0 (hx0.below hAt.below) hs0 hl1 (hx1.below hAt.below) hs1)
  cases hA : isPeopleB xs0 xs1
  · have HM := Lib.hid (fun W h => hA ▸ HM.out W h)
    have hR : Hid (holdersR xs0 xs1 o n = ([], 1)) := by unfold Hid holdersR; rw [hA]; rfl
    clear hA
    go_enter Tryz.func26, Tryz.ntmps26
    go_wp2_with fail
    refine (HM.out _ hA0).mono ?_
    rintro e w1 ⟨rfl, hB1⟩
    go_wp2
    go_ret2
    rw [hR.out]
    exact ⟨none, 0, rfl, World.ownsRow_nil _ _ _ _, (hA0.step hB1).below⟩
  · have HM := Lib.hid (fun W h => hA ▸ HM.out W h)
    obtain ⟨i0, hi, hz0, hz1, hz2⟩ := info_parts infoI
    cases hd : dayB n
    · have hR : Hid (holdersR xs0 xs1 o n = ([], 2)) := by unfold Hid holdersR; rw [hA, hd]; rfl
      have HD := Lib.hid (fun W => hd ▸ l01Day_any n W)
      clear hA hd
      go_enter Tryz.func26, Tryz.ntmps26
      go_wp2_with fail
      refine (HM.out _ hA0).mono ?_
      rintro e w1 ⟨rfl, hB1⟩
      have hA1 := hA0.step hB1
      have b0 := hA1.cell 0 _ rfl
      have b1 := hA1.cell 1 _ rfl
      clear hA0 hB1 HM
      go_wp2_with fail
      refine (HD.out _).mono ?_
      rintro e w2 ⟨rfl, rfl⟩
      go_wp2
      go_ret2
      rw [hR.out]
      exact ⟨none, 0, rfl, World.ownsRow_nil _ _ _ _, hA1.below⟩
    · have hR : Hid (holdersR xs0 xs1 o n = (jxl (pH xs0 xs1 o n) xs0.length, 0)) := by unfold Hid holdersR; rw [hA, hd]; rfl
      have HD := Lib.hid (fun W => hd ▸ l01Day_any n W)
      have hbd := people_bd hA
      have HPV := Lib.hid (fun i m (h : xs0[i]? = some m) => (pH_at (ts := xs1) (o := o) (n := n) h).trans (hasB_uni (tsp_ok hA (isOP o m.name)) n).symm)
      have HO := Lib.hid (fun s W (hAt : At w [.slice a0 xs0.length cap0, .slice a1 xs1.length cap1] W) => l13Office_any a0 a1 cap0 cap1 xs0 xs1 o s W hA (by omega) (hx1.below hAt.below))
      have hul := Lib.hid (fun s => Nat.le_trans (uni_len (tsp (isOP o s) xs1)) (tsp_len (isOP o s) xs1))
      clear hA hd
      generalize pH xs0 xs1 o n = p at HPV hR
      go_enter Tryz.func26, Tryz.ntmps26
      go_wp2_with fail
      refine (HM.out _ hA0).mono ?_
      rintro e w1 ⟨rfl, hB1⟩
      have hA1 := hA0.step hB1
      have b0 := hA1.cell 0 _ rfl
      have b1 := hA1.cell 1 _ rfl
      clear hA0 hB1 HM
      go_wp2_with fail
      refine (HD.out _).mono ?_
      rintro e w2 ⟨rfl, rfl⟩
      have hBo : Below w1.heap.size w1 (w1.alloc (.cells #[] 2)) := (Below.refl _ w1).alloc (Nat.le_refl _) _
      have hA2 := hA1.step hBo
      have hown0 := World.ownsRow_made w1 #[] 0 (show w.heap.size + 1 ≤ w1.heap.size from hA1.size) (by decide) rfl (e := 2) (size := 1)
      clear hBo hA1 b0 b1
      go_wp2
      go_loopw [8, 9] (fun o i wr => ∃ (k g c : Nat), k ≤ xs0.length ∧ i = .int .i64 k ∧ o = .slice (some ⟨g, 0, none⟩) (jxl p k).length c ∧ wr.ownsRow (w.heap.size + 1) 2 1 (.slice (some ⟨g, 0, none⟩) (jxl p k).length c) (jxl p k).length ((jxl p k).flatMap encI) ∧ At w [.slice a0 xs0.length cap0, .slice a1 xs1.length cap1] wr) (fun _ i _ => xs0.length - (intOf i).toNat)
      case atStart => exact ⟨0, _, _, Nat.zero_le _, rfl, rfl, hown0, hA2⟩
      case round =>
        clear hown0 hA2
        obtain ⟨k, g, c, hk, rfl, rfl, hown, hAt⟩ := hrel
        have hlen := jxl_len p k
        have b0 := hAt.cell 0 _ rfl
        have b1 := hAt.cell 1 _ rfl
        have hs := hAt.size
        by_cases hlt : k < xs0.length
        · have hk1 : (k : Int) < (xs0.length : Int) := by omega
          have hm := List.getElem?_eq_getElem hlt
          generalize xs0[k] = m at hm
          obtain ⟨b, off, rfl, hb, c0, _⟩ := (hx0.below hAt.below).ps hm
          have hpk := HPV.out k m hm
          have hln := hul.out m.name
          have HH := Lib.hid (fun a cap W h => hpk ▸ l02Has_any a cap _ (uni (tsp (isOP o m.name) xs1)) n W rfl (by omega) h)
          clear hpk hm hln
          cases hbb : p k
          · have HH := Lib.hid (fun a cap W h => hbb ▸ HH.out a cap W h)
            have hst := Lib.hid (jxl_no hbb)
            clear hbb
            go_wp2_with fail
            go_region_held_law (fun w' => w'.cell? ⟨w.heap.size, 0, none⟩ = some (.slice (some ⟨b, off, none⟩) xs0.length cap0) ∧ w'.cell? ⟨w.heap.size, 1, none⟩ = some (.slice a1 xs1.length cap1) ∧ w'.cell? ⟨b, off + k * 3, none⟩ = some (.string m.name)) (first | exact ⟨b0, b1, c0⟩ | exact ⟨(hB6.cell (p := ⟨w.heap.size, 0, none⟩) hs).trans b0, (hB6.cell (p := ⟨w.heap.size, 1, none⟩) hs).trans b1, (hB6.cell (p := ⟨b, off + k * 3, none⟩) hb).trans c0⟩ | exact ⟨(hB7.cell (p := ⟨w.heap.size, 0, none⟩) (Nat.lt_of_lt_of_le hs hB6.size)).trans ((hB6.cell (p := ⟨w.heap.size, 0, none⟩) hs).trans b0), (hB7.cell (p := ⟨w.heap.size, 1, none⟩) (Nat.lt_of_lt_of_le hs hB6.size)).trans ((hB6.cell (p := ⟨w.heap.size, 1, none⟩) hs).trans b1), (hB7.cell (p := ⟨b, off + k * 3, none⟩) (Nat.lt_of_lt_of_le hb hB6.size)).trans ((hB6.cell (p := ⟨b, off + k * 3, none⟩) hb).trans c0)⟩) (first | (go_at_call 90; refine (HO.out m.name _ (hAt.step (Below.refl _ wr).drew)).mono ?_; rintro e w6 ⟨g6, c6, rfl, ho6, hB6⟩) | (go_at_call 89; refine (HH.out _ _ _ (Rd.of_own encSp_len (by decide) ho6)).mono ?_; rintro e w7 ⟨rfl, hB7⟩) | fail)
            have hz : Below wr.heap.size wr w7 := stepB (stepB (Below.refl _ wr).drew hB6 (Nat.le_refl _)) hB7 hB6.size
            clear hB7
            generalize w7 = w3 at hz ⊢
            have hown := own_below hown hz
            have hAt := hAt.step hz
            have hs := hAt.size
            clear hz ho6 hB6 b0 b1 c0 hb
            go_wp2
            go_roundw
            case rel => exact ⟨k + 1, g, c, by omega, by go_num, by rw [hst.out], by rw [hst.out]; exact hown, hAt⟩
            case measure => simp [intOf]; omega
          · have HH := Lib.hid (fun a cap W h => hbb ▸ HH.out a cap W h)
            have hst := Lib.hid (jxl_yes hbb)
            clear hbb
            generalize jxl p k = out at hown hst hlen ⊢
            go_wp2_with fail
            go_region_held_law (fun w' => w'.cell? ⟨w.heap.size, 0, none⟩ = some (.slice (some ⟨b, off, none⟩) xs0.length cap0) ∧ w'.cell? ⟨w.heap.size, 1, none⟩ = some (.slice a1 xs1.length cap1) ∧ w'.cell? ⟨b, off + k * 3, none⟩ = some (.string m.name)) (first | exact ⟨b0, b1, c0⟩ | exact ⟨(hB6.cell (p := ⟨w.heap.size, 0, none⟩) hs).trans b0, (hB6.cell (p := ⟨w.heap.size, 1, none⟩) hs).trans b1, (hB6.cell (p := ⟨b, off + k * 3, none⟩) hb).trans c0⟩ | exact ⟨(hB7.cell (p := ⟨w.heap.size, 0, none⟩) (Nat.lt_of_lt_of_le hs hB6.size)).trans ((hB6.cell (p := ⟨w.heap.size, 0, none⟩) hs).trans b0), (hB7.cell (p := ⟨w.heap.size, 1, none⟩) (Nat.lt_of_lt_of_le hs hB6.size)).trans ((hB6.cell (p := ⟨w.heap.size, 1, none⟩) hs).trans b1), (hB7.cell (p := ⟨b, off + k * 3, none⟩) (Nat.lt_of_lt_of_le hb hB6.size)).trans ((hB6.cell (p := ⟨b, off + k * 3, none⟩) hb).trans c0)⟩) (first | (go_at_call 90; refine (HO.out m.name _ (hAt.step (Below.refl _ wr).drew)).mono ?_; rintro e w6 ⟨g6, c6, rfl, ho6, hB6⟩) | (go_at_call 89; refine (HH.out _ _ _ (Rd.of_own encSp_len (by decide) ho6)).mono ?_; rintro e w7 ⟨rfl, hB7⟩) | fail)
            have hz : Below wr.heap.size wr w7 := stepB (stepB (Below.refl _ wr).drew hB6 (Nat.le_refl _)) hB7 hB6.size
            clear hB7
            generalize w7 = w3 at hz ⊢
            have hown := own_below hown hz
            have hAt := hAt.step hz
            have hs := hAt.size
            clear hz ho6 hB6 b0 b1 c0 hb
            go_wp2_with (at_builtin; refine wpList_append_own _ rfl _ _ 31 rfl (w.heap.size + 1) 2 i0 (.int .i64 0) 1 8 Tryz.underlying31 hi hz0 hz1 hz2 rfl (by decide) _ _ _ rfl (hown.alloc _) ⟨w3.heap.size, 0, none⟩ 1 1 [.int .i64 k] rfl rfl (cell_one_new _ _ _) ?c2 ?c3 ?c4 ?c5 ?_)
            case c2 => intro u hu; simp at hu; subst hu; rfl
            case c3 => unfold maxLen; omega
            case c4 => omega
            case c5 => simp; omega
            intro v' w4 hown' hgr _
            have hA4 := (hAt.step ((Below.refl _ w3).alloc (Nat.le_refl _) (.cells #[.int .i64 k] 2))).grown hgr (fun x hx => (hown.lt x hx).1)
            obtain ⟨g', c', rfl⟩ := formJ hown' (by omega)
            clear hgr hown hAt
            go_wp2
            go_roundw
            case rel => exact ⟨k + 1, g', c', by omega, by go_num, by rw [hst.out, List.length_append]; rfl, by rw [hst.out, List.length_append, List.flatMap_append]; exact hown', hA4⟩
            case measure => simp [intOf]; omega
        · obtain rfl : k = xs0.length := by omega
          go_wp2
          go_ret2
          rw [hR.out]
          exact ⟨_, _, rfl, own_base hown (by omega), hAt.below⟩

set_option maxRecDepth 100000 in
set_option maxHeartbeats 2000000 in
theorem holders1_any (a0 a1 : Option Addr) (cap0 cap1 q : Nat) (xs0 : List Ps) (xs1 : List Tm) (o : ByteArray) (n : Int) (m : Ps) (w : World) (hl1 : xs1.length ≤ 1048574) (hx1 : Rd encTm w a1 xs1) (h0 : w.cell? ⟨q, 0, none⟩ = some (.slice a0 xs0.length cap0)) (h1 : w.cell? ⟨q, 1, none⟩ = some (.slice a1 xs1.length cap1)) (h2 : w.cell? ⟨q + 1, 0, none⟩ = some (.string o)) (h3 : w.cell? ⟨q + 2, 0, none⟩ = some (.int .i64 n)) :
    Calls Tryz.prog 88 #[.agg #[.string m.name, .int .i64 m.fr, .int .i64 m.to], .pointer (some ⟨q, 0, none⟩), .pointer (some ⟨q + 1, 0, none⟩), .pointer (some ⟨q + 2, 0, none⟩)] w fun e w' => e = .returned (.bool (hasB (tsp (isT o m.name) xs1) n)) ∧ Below w.heap.size w w' := by
  have q0 : q < w.heap.size := World.block_lt_of_cell? w _ h0
  have q1 : q + 1 < w.heap.size := World.block_lt_of_cell? w _ h2
  have q2 : q + 2 < w.heap.size := World.block_lt_of_cell? w _ h3
  have hln := tsp_len (isT o m.name) xs1
  have HT := Lib.hid (fun W (h : Rd encTm W a1 xs1) => termsOf_any a0 a1 cap0 cap1 xs0 xs1 o m.name W hl1 h)
  have HH := Lib.hid (fun a cap W h => hasDay_any a cap _ (tsp (isT o m.name) xs1) n W rfl (by omega) h)
  generalize tsp (isT o m.name) xs1 = xs at HT HH ⊢
  clear hln
  go_enter Tryz.func88, Tryz.ntmps88
  go_wp2_with fail
  generalize hW : w.alloc (.cells #[.string m.name, .int .i64 m.fr, .int .i64 m.to] 110) = W
  have hB : Below w.heap.size w W := by rw [← hW]; go_grown
  have hn0 : w.heap.size < W.heap.size := by rw [← hW]; simp
  have d0 : W.cell? ⟨w.heap.size, 0, none⟩ = some (.string m.name) := by rw [← hW]; exact World.cell?_alloc_at _ _ _ _ rfl
  have h0 := (hB.cell (p := ⟨q, 0, none⟩) q0).trans h0
  have h1 := (hB.cell (p := ⟨q, 1, none⟩) q0).trans h1
  have h2 := (hB.cell (p := ⟨q + 1, 0, none⟩) q1).trans h2
  have h3 := (hB.cell (p := ⟨q + 2, 0, none⟩) q2).trans h3
  have q0 := Nat.lt_of_lt_of_le q0 hB.size
  have q1 := Nat.lt_of_lt_of_le q1 hB.size
  have q2 := Nat.lt_of_lt_of_le q2 hB.size
  have hx1 := hx1.below hB
  clear hW
  go_region_held_law (fun w' => w'.cell? ⟨q, 0, none⟩ = some (.slice a0 xs0.length cap0) ∧ w'.cell? ⟨q, 1, none⟩ = some (.slice a1 xs1.length cap1) ∧ w'.cell? ⟨q + 1, 0, none⟩ = some (.string o) ∧ w'.cell? ⟨q + 2, 0, none⟩ = some (.int .i64 n) ∧ w'.cell? ⟨w.heap.size, 0, none⟩ = some (.string m.name)) (first | exact ⟨h0, h1, h2, h3, d0⟩ | exact ⟨(hB6.cell (p := ⟨q, 0, none⟩) q0).trans h0, (hB6.cell (p := ⟨q, 1, none⟩) q0).trans h1, (hB6.cell (p := ⟨q + 1, 0, none⟩) q1).trans h2, (hB6.cell (p := ⟨q + 2, 0, none⟩) q2).trans h3, (hB6.cell (p := ⟨w.heap.size, 0, none⟩) hn0).trans d0⟩ | exact ⟨(hB7.cell (p := ⟨q, 0, none⟩) (Nat.lt_of_lt_of_le q0 hB6.size)).trans ((hB6.cell (p := ⟨q, 0, none⟩) q0).trans h0), (hB7.cell (p := ⟨q, 1, none⟩) (Nat.lt_of_lt_of_le q0 hB6.size)).trans ((hB6.cell (p := ⟨q, 1, none⟩) q0).trans h1), (hB7.cell (p := ⟨q + 1, 0, none⟩) (Nat.lt_of_lt_of_le q1 hB6.size)).trans ((hB6.cell (p := ⟨q + 1, 0, none⟩) q1).trans h2), (hB7.cell (p := ⟨q + 2, 0, none⟩) (Nat.lt_of_lt_of_le q2 hB6.size)).trans ((hB6.cell (p := ⟨q + 2, 0, none⟩) q2).trans h3), (hB7.cell (p := ⟨w.heap.size, 0, none⟩) (Nat.lt_of_lt_of_le hn0 hB6.size)).trans ((hB6.cell (p := ⟨w.heap.size, 0, none⟩) hn0).trans d0)⟩) (first | (go_at_call 76; refine (HT.out _ (hx1.below (Below.refl _ W).drew)).mono ?_; rintro e w6 ⟨g6, c6, rfl, ho6, hB6⟩) | (go_at_call 72; refine (HH.out _ _ _ (Rd.of_own encSp_len (by decide) ho6)).mono ?_; rintro e w7 ⟨rfl, hB7⟩) | fail)
  have hz : Below W.heap.size W w7 := stepB (stepB (Below.refl _ W).drew hB6 (Nat.le_refl _)) hB7 hB6.size
  go_wp2
  go_ret
  exact ⟨rfl, stepB hB hz hB.size⟩
set_option maxHeartbeats 2000000 in
theorem personsForH_any (a0 a1 : Option Addr) (cap0 cap1 q : Nat) (xs0 : List Ps) (xs1 : List Tm) (o : ByteArray) (n : Int) (p : Nat → Bool) (w : World) (hl0 : xs0.length ≤ 1048576) (hx0 : Rd encPs w a0 xs0) (HPV : Hid (∀ i m, xs0[i]? = some m → p i = hasB (tsp (isT o m.name) xs1) n)) (hl1 : xs1.length ≤ 1048574) (hx1 : Rd encTm w a1 xs1) (h0 : w.cell? ⟨q, 0, none⟩ = some (.slice a0 xs0.length cap0)) (h1 : w.cell? ⟨q, 1, none⟩ = some (.slice a1 xs1.length cap1)) (h2 : w.cell? ⟨q + 1, 0, none⟩ = some (.string o)) (h3 : w.cell? ⟨q + 2, 0, none⟩ = some (.int .i64 n)) :
    Calls Tryz.prog 87 #[.agg #[.slice a0 xs0.length cap0, .slice a1 xs1.length cap1], .func (.func 88) #[] #[.pointer (some ⟨q, 0, none⟩), .pointer (some ⟨q + 1, 0, none⟩), .pointer (some ⟨q + 2, 0, none⟩)]] w fun e w' => ∃ g c, e = .returned (.slice (some ⟨g, 0, none⟩) (jxl p xs0.length).length c) ∧
      w'.ownsRow w.heap.size 2 1 (.slice (some ⟨g, 0, none⟩) (jxl p xs0.length).length c) (jxl p xs0.length).length ((jxl p xs0.length).flatMap encI) ∧ Below w.heap.size w w' := by
  obtain ⟨i0, hi, hz0, hz1, hz2⟩ := info_parts infoI
  have q0 : q < w.heap.size := World.block_lt_of_cell? w _ h0
  have q1 : q + 1 < w.heap.size := World.block_lt_of_cell? w _ h2
  have q2 : q + 2 < w.heap.size := World.block_lt_of_cell? w _ h3
  have HF := Lib.hid (fun (m : Ps) W (hB : Below w.heap.size w W) => holders1_any a0 a1 cap0 cap1 q xs0 xs1 o n m W hl1 (hx1.below hB) ((hB.cell (p := ⟨q, 0, none⟩) q0).trans h0) ((hB.cell (p := ⟨q, 1, none⟩) q0).trans h1) ((hB.cell (p := ⟨q + 1, 0, none⟩) q1).trans h2) ((hB.cell (p := ⟨q + 2, 0, none⟩) q2).trans h3))
  have hA0 : At w [.slice a0 xs0.length cap0, .slice a1 xs1.length cap1] ((w.alloc (.cells #[.slice a0 xs0.length cap0, .slice a1 xs1.length cap1] 48)).alloc (.cells #[] 2)) := (At.start _ _ _).step ((Below.refl _ _).alloc (Nat.le_refl _) _)
  have b0 := hA0.cell 0 _ rfl
  have hown0 := World.ownsRow_made (w.alloc (.cells #[.slice a0 xs0.length cap0, .slice a1 xs1.length cap1] 48)) #[] 0 (show w.heap.size + 1 ≤ _ by simp) (by decide) rfl (e := 2) (size := 1)
  clear h0 h1 h2 h3 q0 q1 q2
  go_enter Tryz.func87, Tryz.ntmps87
  go_wp2
  go_loopw [5, 12] (fun o i wr => ∃ (k g c : Nat), k ≤ xs0.length ∧ i = .int .i64 k ∧ o = .slice (some ⟨g, 0, none⟩) (jxl p k).length c ∧ wr.ownsRow (w.heap.size + 1) 2 1 (.slice (some ⟨g, 0, none⟩) (jxl p k).length c) (jxl p k).length ((jxl p k).flatMap encI) ∧ At w [.slice a0 xs0.length cap0, .slice a1 xs1.length cap1] wr) (fun _ i _ => xs0.length - (intOf i).toNat)
  case atStart => exact ⟨0, w.heap.size + 1, 0, Nat.zero_le _, rfl, rfl, by simpa [jxl] using hown0, hA0⟩
  case round =>
    clear hown0 hA0 b0
    obtain ⟨k, g, c, hk, rfl, rfl, hown, hAt⟩ := hrel
    have hlen := jxl_len p k
    by_cases hlt : k < xs0.length
    · have hk1 : (k : Int) < (xs0.length : Int) := by omega
      have hm := List.getElem?_eq_getElem hlt
      generalize xs0[k] = m at hm
      obtain ⟨b, off, rfl, hb, c0, c1, c2⟩ := (hx0.below hAt.below).ps hm
      have hpk := HPV.out k m hm
      clear hm
      go_upto_region 5 with (fail)
      generalize hW : wr.alloc (.cells #[.string m.name, .int .i64 m.fr, .int .i64 m.to] 110) = W
      have hBW : Below wr.heap.size wr W := by rw [← hW]; go_grown
      have D0 : W.cell? ⟨wr.heap.size, 0, none⟩ = some (.string m.name) := by rw [← hW]; exact World.cell?_alloc_at _ _ _ _ rfl
      have D1 : W.cell? ⟨wr.heap.size, 1, none⟩ = some (.int .i64 m.fr) := by rw [← hW]; exact World.cell?_alloc_at _ _ _ _ rfl
      have D2 : W.cell? ⟨wr.heap.size, 2, none⟩ = some (.int .i64 m.to) := by rw [← hW]; exact World.cell?_alloc_at _ _ _ _ rfl
      have hown := own_below hown hBW
      have hAt := hAt.step hBW
      clear hW c0 c1 c2 hb hBW
      have HFm := Lib.hid (fun W hB => hpk ▸ HF.out m W hB)
      clear hpk
      cases hbb : p k
      · have HFm := Lib.hid (fun W hB => hbb ▸ HFm.out W hB)
        have hst := Lib.hid (jxl_no hbb)
        clear hbb
        go_wp2_with fail
        refine (HFm.out _ hAt.below).mono ?_
        rintro e w3 ⟨rfl, hz⟩
        go_wp2
        go_roundw
        case rel => exact ⟨k + 1, g, c, by omega, by go_num, by rw [hst.out], by rw [hst.out]; exact own_below hown hz, hAt.step hz⟩
        case measure => simp [intOf]; omega
      · have HFm := Lib.hid (fun W hB => hbb ▸ HFm.out W hB)
        have hst := Lib.hid (jxl_yes hbb)
        clear hbb
        generalize jxl p k = out at hown hst hlen ⊢
        go_wp2_with fail
        refine (HFm.out _ hAt.below).mono ?_
        rintro e w3 ⟨rfl, hz⟩
        have hown := own_below hown hz
        have hAt := hAt.step hz
        have hs := hAt.size
        clear hz D0 D1 D2
        go_wp2_with (at_builtin; refine wpList_append_own _ rfl _ _ 31 rfl (w.heap.size + 1) 2 i0 (.int .i64 0) 1 8 Tryz.underlying31 hi hz0 hz1 hz2 rfl (by decide) _ _ _ rfl (hown.alloc _) ⟨w3.heap.size, 0, none⟩ 1 1 [.int .i64 k] rfl rfl (cell_one_new _ _ _) ?c2 ?c3 ?c4 ?c5 ?_)
        case c2 => intro u hu; simp at hu; subst hu; rfl
        case c3 => unfold maxLen; omega
        case c4 => omega
        case c5 => simp; omega
        intro v' w4 hown' hgr _
        have hA4 := (hAt.step ((Below.refl _ w3).alloc (Nat.le_refl _) (.cells #[.int .i64 k] 2))).grown hgr (fun x hx => (hown.lt x hx).1)
        obtain ⟨g', c', rfl⟩ := formJ hown' (by omega)
        clear hgr hown hAt
        go_wp2
        go_roundw
        case rel => exact ⟨k + 1, g', c', by omega, by go_num, by rw [hst.out, List.length_append]; rfl, by rw [hst.out, List.length_append, List.flatMap_append]; exact hown', hA4⟩
        case measure => simp [intOf]; omega
    · obtain rfl : k = xs0.length := by omega
      go_wp2
      go_ret
      exact ⟨_, _, rfl, own_base hown (by omega), hAt.below⟩

set_option maxRecDepth 100000 in
set_option maxHeartbeats 2000000 in
theorem implHolders_any (a0 a1 : Option Addr) (cap0 cap1 : Nat) (xs0 : List Ps) (xs1 : List Tm) (o : ByteArray) (n : Int) (w : World) (hl0 : xs0.length ≤ 1048576) (hx0 : Rd encPs w a0 xs0) (hs0 : ∀ m ∈ xs0, szPs m ≤ 1048576) (hl1 : xs1.length ≤ 1048576) (hx1 : Rd encTm w a1 xs1) (hs1 : ∀ m ∈ xs1, szTm m ≤ 1048576) :
    Calls Tryz.prog 25 #[.agg #[.slice a0 xs0.length cap0, .slice a1 xs1.length cap1], .string o, .int .i64 n] w fun e w' => ∃ b c, e = .returned (.tuple #[.slice b (holdersR xs0 xs1 o n).1.length c, .int .i64 (holdersR xs0 xs1 o n).2]) ∧
      w'.ownsRow w.heap.size 2 1 (.slice b (holdersR xs0 xs1 o n).1.length c) (holdersR xs0 xs1 o n).1.length ((holdersR xs0 xs1 o n).1.flatMap encI) ∧ Below w.heap.size w w' := by
  have hA3 : At w [.slice a0 xs0.length cap0, .slice a1 xs1.length cap1] ((((w.alloc (.cells #[.slice a0 xs0.length cap0, .slice a1 xs1.length cap1] 48)).alloc (.cells #[.string o] 9)).alloc (.cells #[.int .i64 n] 2)).alloc (.cells #[.int .i64 n] 2)) := (((At.start w _ _).step ((Below.refl _ _).alloc (Nat.le_refl _) _)).step ((Below.refl _ _).alloc (Nat.le_refl _) _)).step ((Below.refl _ _).alloc (Nat.le_refl _) _)
  have hs3 : ((((w.alloc (.cells #[.slice a0 xs0.length cap0, .slice a1 xs1.length cap1] 48)).alloc (.cells #[.string o] 9)).alloc (.cells #[.int .i64 n] 2)).alloc (.cells #[.int .i64 n] 2)).heap.size = w.heap.size + 4 := by simp
  have hq2 : ((((w.alloc (.cells #[.slice a0 xs0.length cap0, .slice a1 xs1.length cap1] 48)).alloc (.cells #[.string o] 9)).alloc (.cells #[.int .i64 n] 2)).alloc (.cells #[.int .i64 n] 2)).cell? ⟨w.heap.size + 1, 0, none⟩ = some (.string o) := by
    rw [World.cell?_alloc_past _ _ _ (by simp), World.cell?_alloc_past _ _ _ (by simp)]; exact World.cell?_alloc_at _ _ _ _ (by simp)
  have hq3 : ((((w.alloc (.cells #[.slice a0 xs0.length cap0, .slice a1 xs1.length cap1] 48)).alloc (.cells #[.string o] 9)).alloc (.cells #[.int .i64 n] 2)).alloc (.cells #[.int .i64 n] 2)).cell? ⟨w.heap.size + 2, 0, none⟩ = some (.int .i64 n) := by
    rw [World.cell?_alloc_past _ _ _ (by simp)]; exact World.cell?_alloc_at _ _ _ _ (by simp)
  have hrd : Rd encI ((((w.alloc (.cells #[.slice a0 xs0.length cap0, .slice a1 xs1.length cap1] 48)).alloc (.cells #[.string o] 9)).alloc (.cells #[.int .i64 n] 2)).alloc (.cells #[.int .i64 n] 2)) (some ⟨w.heap.size + 3, 0, none⟩) [n] := by
    intro i x hi
    refine ⟨w.heap.size + 3, 0, rfl, by simp, fun j v hv => ?_⟩
    rw [World.cell?_alloc_at _ _ _ _ (by simp)]
    match i, hi with
    | 0, hi => cases hi; match j, hv with | 0, hv => cases hv; rfl
  have HRD := Lib.hid hrd
  have HC := Lib.hid (fun W (hB : Below w.heap.size w W) (hr : Rd encI W (some ⟨w.heap.size + 3, 0, none⟩) [n]) => checkPeople_any a0 a1 (some ⟨w.heap.size + 3, 0, none⟩) cap0 cap1 1 xs0 xs1 [n] W hl0 (hx0.below hB) hs0 hl1 (hx1.below hB) hs1 (by simp) hr)
  have hmf : ∀ (fn : Fn) (first cap : Array Value) (w : World), (Instr.makeFunc fn first cap).run Tryz.prog w = .ok (.func fn first cap) w := fun _ _ _ _ => rfl
  have hce : codeP xs0 xs1 [n] = if isPeopleB xs0 xs1 then (if dayB n then 0 else 2) else 1 := by unfold codeP; simp
  have hre : holdersR xs0 xs1 o n = if isPeopleB xs0 xs1 then (if dayB n then (jxl (pH xs0 xs1 o n) xs0.length, 0) else ([], 2)) else ([], 1) := rfl
  clear hrd
  by_cases hc : codeP xs0 xs1 [n] = 0
  · have HC := Lib.hid (fun W hB hr => hc ▸ HC.out W hB hr)
    have hA : isPeopleB xs0 xs1 = true := by
      rw [hce] at hc
      cases h1 : isPeopleB xs0 xs1
      · rw [h1] at hc; simp at hc
      · rfl
    have hR : Hid (holdersR xs0 xs1 o n = (jxl (pH xs0 xs1 o n) xs0.length, 0)) := by
      unfold Hid
      rw [hre]
      rw [hce, hA] at hc
      rw [hA]
      cases h2 : dayB n
      · rw [h2] at hc; simp at hc
      · rfl
    have hbd := people_bd hA
    have HPV : Hid (∀ i m, xs0[i]? = some m → pH xs0 xs1 o n i = hasB (tsp (isT o m.name) xs1) n) := fun i m h => by rw [pH_at h, isT_some (ps_name hA (List.mem_of_getElem? h))]
    have HP := Lib.hid (fun W (hB : Below w.heap.size w W) (h0 : W.cell? ⟨w.heap.size, 0, none⟩ = some (.slice a0 xs0.length cap0)) (h1 : W.cell? ⟨w.heap.size, 1, none⟩ = some (.slice a1 xs1.length cap1)) (h2 : W.cell? ⟨w.heap.size + 1, 0, none⟩ = some (.string o)) (h3 : W.cell? ⟨w.heap.size + 2, 0, none⟩ = some (.int .i64 n)) => personsForH_any a0 a1 cap0 cap1 w.heap.size xs0 xs1 o n (pH xs0 xs1 o n) W hl0 (hx0.below hB) HPV (by omega) (hx1.below hB) h0 h1 h2 h3)
    clear hc hce hre HPV hA hbd
    go_enter Tryz.func25, Tryz.ntmps25
    go_wp2_with fail
    refine (HC.out _ hA3.below HRD.out).mono ?_
    rintro e w1 ⟨rfl, hB1⟩
    have hA1 := hA3.step hB1
    have q2 := (hB1.cell (p := ⟨w.heap.size + 1, 0, none⟩) (by rw [hs3]; simp)).trans hq2
    have q3 := (hB1.cell (p := ⟨w.heap.size + 2, 0, none⟩) (by rw [hs3]; simp)).trans hq3
    have b0 := hA1.cell 0 _ rfl
    have b1 := hA1.cell 1 _ rfl
    clear hA3 hs3 hq2 hq3 hB1 HRD HC
    go_wp2_with fail
    refine (HP.out _ hA1.below b0 b1 q2 q3).mono ?_
    rintro e w2 ⟨g, c, rfl, ho, hB2⟩
    go_wp2
    go_ret2
    rw [hR.out]
    exact ⟨_, _, rfl, own_base ho hA1.below.size, (hA1.step hB2).below⟩
  · have hR : Hid (holdersR xs0 xs1 o n = ([], codeP xs0 xs1 [n])) := by
      unfold Hid
      rw [hre, hce]
      rw [hce] at hc
      cases h1 : isPeopleB xs0 xs1
      · rfl
      · cases h2 : dayB n
        · rfl
        · rw [h1, h2] at hc; simp at hc
    clear hce hre
    generalize codeP xs0 xs1 [n] = c at hc HC hR
    have hc2 : (c != 0) = true := by simpa using hc
    go_enter Tryz.func25, Tryz.ntmps25
    go_wp2_with fail
    refine (HC.out _ hA3.below HRD.out).mono ?_
    rintro e w1 ⟨rfl, hB1⟩
    go_wp2
    go_ret2
    rw [hR.out]
    exact ⟨none, 0, rfl, World.ownsRow_nil _ _ _ _, (hA3.step hB1).below⟩
end Go.Proofs.YtmjbigeeokofeaaGreatDoor
