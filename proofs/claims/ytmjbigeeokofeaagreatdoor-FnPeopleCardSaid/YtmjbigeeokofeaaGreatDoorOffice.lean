/- Walks: OfficeDays. Printed by gen_pp2.py. -/
import Derived.Test.YtmjbigeeokofeaaGreatDoorSpUni
import Derived.Test.YtmjbigeeokofeaaGreatDoorPpPlain
import Derived.Test.YtmjbigeeokofeaaGreatDoorPeopB
import Derived.Deep.RegionHeldLaw
import Derived.Test.YtmjbigeeokofeaaGreatDoorCPeople
import Derived.Test.YtmjbigeeokofeaaGreatDoorPeopImpl
namespace Go.Proofs.YtmjbigeeokofeaaGreatDoor
section
open Go.ChangeShapes Go.WideShapes Go.ChangeAt Go.RowKit

/-- What the program's test takes: the office, and the person unless it is empty. -/
def isT (o p : ByteArray) (t : Tm) : Bool := t.office.toList == o.toList && (p.toList == [] || t.person.toList == p.toList)
theorem isT_some {o p : ByteArray} (h : p.toList ≠ []) : isT o p = isOP o p := by
  have e : (p.toList == []) = false := by
    cases hp : p.toList with
    | nil => exact absurd hp h
    | cons a l => rfl
  funext t
  unfold isT isOP
  rw [e, Bool.false_or]
theorem isT_none {o p : ByteArray} (h : p.toList = []) : isT o p = isO o := by
  funext t
  unfold isT isO
  rw [h]
  simp
theorem keepG {w1 w w4 : World} {r : Option Nat} (hB : Below w.heap.size w w1) (hg : w1.grownBy w4 r) {p : Addr} {v : Value} (hp : p.block < w.heap.size) (hn : ∀ g, r = some g → p.block ≠ g) (hc : w.cell? p = some v) : w4.cell? p = some v :=
  ((gcell hg (Nat.lt_of_lt_of_le hp hB.size) hn).trans (hB.cell hp)).trans hc

set_option maxRecDepth 100000 in
set_option maxHeartbeats 4000000 in
theorem l13Spans_any (a0 a1 : Option Addr) (cap0 cap1 : Nat) (xs0 : List Ps) (xs1 : List Tm) (o : ByteArray) (w : World) (hl1 : xs1.length ≤ 1048574) (hx1 : Rd encTm w a1 xs1) :
    Calls Tryz.prog 80 #[.agg #[.slice a0 xs0.length cap0, .slice a1 xs1.length cap1], .string o] w fun e w' => ∃ g c, e = .returned (.slice (some ⟨g, 0, none⟩) (tsp (isO o) xs1).length c) ∧ w'.ownsRow w.heap.size 64 2 (.slice (some ⟨g, 0, none⟩) (tsp (isO o) xs1).length c) (tsp (isO o) xs1).length ((tsp (isO o) xs1).flatMap encSp) ∧ Below w.heap.size w w' := by
  obtain ⟨i0, hi, hz0, hz1, hz2⟩ := info_parts infoSp
  have HT := Lib.hid (fun k m (h : xs1[k]? = some m) => tsp_take (p := isO o) h)
  have hR := Lib.hid (tsp_all (isO o) xs1)
  have hA0 : At w [.slice a0 xs0.length cap0, .slice a1 xs1.length cap1] ((w.alloc (.cells #[.slice a0 xs0.length cap0, .slice a1 xs1.length cap1] 48)).alloc (.cells #[] 64)) := (At.start _ _ _).step ((Below.refl _ _).alloc (Nat.le_refl _) _)
  have hown0 := World.ownsRow_made (w.alloc (.cells #[.slice a0 xs0.length cap0, .slice a1 xs1.length cap1] 48)) #[] 0 (show w.heap.size + 1 ≤ _ by simp) (by decide) rfl (e := 64) (size := 2)
  have b1 := hA0.cell 1 _ rfl
  go_enter Tryz.func80, Tryz.ntmps80
  go_wp2
  go_loopw [5, 6] (fun s i wr => ∃ (k g c : Nat) (out : List Sp), k ≤ xs1.length ∧ i = .int .i64 k ∧ s = .slice (some ⟨g, 0, none⟩) out.length c ∧ wr.ownsRow (w.heap.size + 1) 64 2 (.slice (some ⟨g, 0, none⟩) out.length c) out.length (out.flatMap encSp) ∧ At w [.slice a0 xs0.length cap0, .slice a1 xs1.length cap1] wr ∧ Hid (tsp (isO o) (xs1.take k) = out) ∧ out.length ≤ k) (fun _ i _ => xs1.length - (intOf i).toNat)
  case atStart => exact ⟨0, w.heap.size + 1, 0, [], Nat.zero_le _, rfl, rfl, by simpa using hown0, hA0, rfl, Nat.le_refl _⟩
  case round =>
    clear hown0 hA0 b1
    obtain ⟨k, g, c, out, hk, rfl, rfl, hown, hAt, hM, hlo⟩ := hrel
    have b1 := hAt.cell 1 _ rfl
    have hs := hAt.size
    by_cases hlt : k < xs1.length
    · have hk1 : (k : Int) < (xs1.length : Int) := by omega
      have hm := List.getElem?_eq_getElem hlt
      generalize xs1[k] = m at hm
      have hst := Lib.hid (HT.out k m hm)
      obtain ⟨b, off, e', hbw, _⟩ := hx1.tm hm
      subst e'
      obtain ⟨_, _, e', hb, c0, c1, c2, c3⟩ := (hx1.below hAt.below).tm hm
      simp only [Option.some.injEq, Addr.mk.injEq, and_true] at e'
      obtain ⟨rfl, rfl⟩ := e'
      have hgo := own_lt hown
      clear hm
      cases hp : (m.office.toList == o.toList)
      · have hpp' : isO o m = false := hp
        have hst : Hid (tsp (isO o) (xs1.take (k + 1)) = out) := by unfold Hid; rw [hst.out, hM.out, hpp', if_neg Bool.false_ne_true, List.append_nil]
        go_wp2
        go_roundw
        case rel => exact ⟨k + 1, g, c, out, by omega, by go_num, rfl, hown, hAt, hst, by omega⟩
        case measure => simp [intOf]; omega
      · have hpp' : isO o m = true := hp
        have hst : Hid (tsp (isO o) (xs1.take (k + 1)) = out ++ [⟨m.fr, m.to⟩]) := by unfold Hid; rw [hst.out, hM.out, hpp', if_pos rfl]
        go_wp2_with fail
        go_region_held_law (fun w' => w'.cell? ⟨w.heap.size, 1, none⟩ = some (.slice (some ⟨b, off, none⟩) xs1.length cap1) ∧ w'.cell? ⟨b, off + k * 4 + 2, none⟩ = some (.int .i64 m.fr) ∧ w'.cell? ⟨b, off + k * 4 + 3, none⟩ = some (.int .i64 m.to)) (first | exact ⟨b1, c2, c3⟩ | exact ⟨((((Below.refl _ wr).drew).alloc (Nat.le_refl _) _).cell (p := ⟨w.heap.size, 1, none⟩) hs).trans b1, ((((Below.refl _ wr).drew).alloc (Nat.le_refl _) _).cell (p := ⟨b, off + k * 4 + 2, none⟩) hb).trans c2, ((((Below.refl _ wr).drew).alloc (Nat.le_refl _) _).cell (p := ⟨b, off + k * 4 + 3, none⟩) hb).trans c3⟩ | exact ⟨keepG (((Below.refl _ wr).drew).alloc (Nat.le_refl _) _) hgr hs (fun x hx => Nat.ne_of_lt (hown.lt x hx).1) b1, keepG (((Below.refl _ wr).drew).alloc (Nat.le_refl _) _) hgr hb (fun x hx => by have := (hown.lt x hx).1; simp only; omega) c2, keepG (((Below.refl _ wr).drew).alloc (Nat.le_refl _) _) hgr hb (fun x hx => by have := (hown.lt x hx).1; simp only; omega) c3⟩) ((refine step_append_lies _ (by rfl) (.tmp 23) (.tmp 37) 38 (by rfl) (w.heap.size + 1) 64 i0 (.agg #[.int .i64 0, .int .i64 0]) 2 16 Tryz.underlying38 hi hz0 hz1 hz2 rfl (by decide) (.slice (some ⟨g, 0, none⟩) out.length c) out.length (out.flatMap encSp) (by rfl) ((own_below hown (Below.refl _ wr).drew).alloc _) ⟨wr.heap.size, 0, none⟩ 1 1 [.int .i64 m.fr, .int .i64 m.to] (by rfl) rfl (World.news_of_block (heap_alloc_new _ _)) (by intro u hu; simp at hu; rcases hu with rfl | rfl <;> rfl) (by decide) (by unfold maxLen; omega) (by omega) (by simp; omega) _ rfl ?_; intro g' c' w4 hown' hgr hat hlt'))
        have hA4 := (hAt.step (((Below.refl _ wr).drew).alloc (Nat.le_refl _) (.cells #[.int .i64 m.fr, .int .i64 m.to] 64))).grown hgr (fun x hx => (hown.lt x hx).1)
        clear hgr hown hAt hat
        go_wp2
        go_roundw
        case rel => exact ⟨k + 1, g', c', out ++ [⟨m.fr, m.to⟩], by omega, by go_num, by rw [List.length_append]; rfl, by rw [List.length_append, List.flatMap_append]; exact hown', hA4, hst, by simp; omega⟩
        case measure => simp [intOf]; omega
    · obtain rfl : k = xs1.length := by omega
      have hM := Lib.hid (hR.out.symm.trans hM.out)
      go_wp2
      go_ret
      rw [hM.out]
      exact ⟨_, _, rfl, own_base hown (by omega), hAt.below⟩

set_option maxRecDepth 100000 in
set_option maxHeartbeats 4000000 in
theorem l13Office_any (a0 a1 : Option Addr) (cap0 cap1 : Nat) (xs0 : List Ps) (xs1 : List Tm) (o p : ByteArray) (w : World) (hpp : isPeopleB xs0 xs1 = true) (hl1 : xs1.length ≤ 1048574) (hx1 : Rd encTm w a1 xs1) :
    Calls Tryz.prog 90 #[.agg #[.slice a0 xs0.length cap0, .slice a1 xs1.length cap1], .string o, .string p] w fun e w' => ∃ g c, e = .returned (.slice (some ⟨g, 0, none⟩) (uni (tsp (isOP o p) xs1)).length c) ∧ w'.ownsRow w.heap.size 64 2 (.slice (some ⟨g, 0, none⟩) (uni (tsp (isOP o p) xs1)).length c) (uni (tsp (isOP o p) xs1)).length ((uni (tsp (isOP o p) xs1)).flatMap encSp) ∧ Below w.heap.size w w' := by
  obtain ⟨i0, hi, hz0, hz1, hz2⟩ := info_parts infoSp
  have hok := tsp_ok hpp (isOP o p)
  have hlen' := tsp_len (isOP o p) xs1
  have HMK := Lib.hid (fun g cap W h => l02Make_any (some ⟨g, 0, none⟩) cap _ (tsp (isOP o p) xs1) W rfl (by omega) h hok)
  clear hok hlen' hpp
  have HT := Lib.hid (fun k m (h : xs1[k]? = some m) => tsp_take (p := isOP o p) h)
  have hR := Lib.hid (tsp_all (isOP o p) xs1)
  have hA0 : At w [.slice a0 xs0.length cap0, .slice a1 xs1.length cap1] ((w.alloc (.cells #[.slice a0 xs0.length cap0, .slice a1 xs1.length cap1] 48)).alloc (.cells #[] 64)) := (At.start _ _ _).step ((Below.refl _ _).alloc (Nat.le_refl _) _)
  have hown0 := World.ownsRow_made (w.alloc (.cells #[.slice a0 xs0.length cap0, .slice a1 xs1.length cap1] 48)) #[] 0 (show w.heap.size + 1 ≤ _ by simp) (by decide) rfl (e := 64) (size := 2)
  have b1 := hA0.cell 1 _ rfl
  go_enter Tryz.func90, Tryz.ntmps90
  go_wp2
  go_loopw [7, 8] (fun s i wr => ∃ (k g c : Nat) (out : List Sp), k ≤ xs1.length ∧ i = .int .i64 k ∧ s = .slice (some ⟨g, 0, none⟩) out.length c ∧ wr.ownsRow (w.heap.size + 1) 64 2 (.slice (some ⟨g, 0, none⟩) out.length c) out.length (out.flatMap encSp) ∧ At w [.slice a0 xs0.length cap0, .slice a1 xs1.length cap1] wr ∧ Hid (tsp (isOP o p) (xs1.take k) = out) ∧ out.length ≤ k) (fun _ i _ => xs1.length - (intOf i).toNat)
  case atStart => exact ⟨0, w.heap.size + 1, 0, [], Nat.zero_le _, rfl, rfl, by simpa using hown0, hA0, rfl, Nat.le_refl _⟩
  case round =>
    clear hown0 hA0 b1
    obtain ⟨k, g, c, out, hk, rfl, rfl, hown, hAt, hM, hlo⟩ := hrel
    have b1 := hAt.cell 1 _ rfl
    have hs := hAt.size
    by_cases hlt : k < xs1.length
    · have hk1 : (k : Int) < (xs1.length : Int) := by omega
      have hm := List.getElem?_eq_getElem hlt
      generalize xs1[k] = m at hm
      have hst := Lib.hid (HT.out k m hm)
      obtain ⟨b, off, e', hbw, _⟩ := hx1.tm hm
      subst e'
      obtain ⟨_, _, e', hb, c0, c1, c2, c3⟩ := (hx1.below hAt.below).tm hm
      simp only [Option.some.injEq, Addr.mk.injEq, and_true] at e'
      obtain ⟨rfl, rfl⟩ := e'
      have hgo := own_lt hown
      clear hm
      cases hp : (m.office.toList == o.toList)
      · have hpp' : isOP o p m = false := by unfold isOP; rw [hp]; rfl
        have hst : Hid (tsp (isOP o p) (xs1.take (k + 1)) = out) := by unfold Hid; rw [hst.out, hM.out, hpp', if_neg Bool.false_ne_true, List.append_nil]
        go_wp2
        go_roundw
        case rel => exact ⟨k + 1, g, c, out, by omega, by go_num, rfl, hown, hAt, hst, by omega⟩
        case measure => simp [intOf]; omega
      · cases hq : (m.person.toList == p.toList)
        · have hpp' : isOP o p m = false := by unfold isOP; rw [hp, hq]; rfl
          have hst : Hid (tsp (isOP o p) (xs1.take (k + 1)) = out) := by unfold Hid; rw [hst.out, hM.out, hpp', if_neg Bool.false_ne_true, List.append_nil]
          go_wp2
          go_roundw
          case rel => exact ⟨k + 1, g, c, out, by omega, by go_num, rfl, hown, hAt, hst, by omega⟩
          case measure => simp [intOf]; omega
        · have hpp' : isOP o p m = true := by unfold isOP; rw [hp, hq]; rfl
          have hst : Hid (tsp (isOP o p) (xs1.take (k + 1)) = out ++ [⟨m.fr, m.to⟩]) := by unfold Hid; rw [hst.out, hM.out, hpp', if_pos rfl]
          go_wp2_with fail
          go_region_held_law (fun w' => w'.cell? ⟨w.heap.size, 1, none⟩ = some (.slice (some ⟨b, off, none⟩) xs1.length cap1) ∧ w'.cell? ⟨b, off + k * 4 + 2, none⟩ = some (.int .i64 m.fr) ∧ w'.cell? ⟨b, off + k * 4 + 3, none⟩ = some (.int .i64 m.to)) (first | exact ⟨b1, c2, c3⟩ | exact ⟨((((Below.refl _ wr).drew).alloc (Nat.le_refl _) _).cell (p := ⟨w.heap.size, 1, none⟩) hs).trans b1, ((((Below.refl _ wr).drew).alloc (Nat.le_refl _) _).cell (p := ⟨b, off + k * 4 + 2, none⟩) hb).trans c2, ((((Below.refl _ wr).drew).alloc (Nat.le_refl _) _).cell (p := ⟨b, off + k * 4 + 3, none⟩) hb).trans c3⟩ | exact ⟨keepG (((Below.refl _ wr).drew).alloc (Nat.le_refl _) _) hgr hs (fun x hx => Nat.ne_of_lt (hown.lt x hx).1) b1, keepG (((Below.refl _ wr).drew).alloc (Nat.le_refl _) _) hgr hb (fun x hx => by have := (hown.lt x hx).1; simp only; omega) c2, keepG (((Below.refl _ wr).drew).alloc (Nat.le_refl _) _) hgr hb (fun x hx => by have := (hown.lt x hx).1; simp only; omega) c3⟩) ((refine step_append_lies _ (by rfl) (.tmp 35) (.tmp 49) 38 (by rfl) (w.heap.size + 1) 64 i0 (.agg #[.int .i64 0, .int .i64 0]) 2 16 Tryz.underlying38 hi hz0 hz1 hz2 rfl (by decide) (.slice (some ⟨g, 0, none⟩) out.length c) out.length (out.flatMap encSp) (by rfl) ((own_below hown (Below.refl _ wr).drew).alloc _) ⟨wr.heap.size, 0, none⟩ 1 1 [.int .i64 m.fr, .int .i64 m.to] (by rfl) rfl (World.news_of_block (heap_alloc_new _ _)) (by intro u hu; simp at hu; rcases hu with rfl | rfl <;> rfl) (by decide) (by unfold maxLen; omega) (by omega) (by simp; omega) _ rfl ?_; intro g' c' w4 hown' hgr hat hlt'))
          have hA4 := (hAt.step (((Below.refl _ wr).drew).alloc (Nat.le_refl _) (.cells #[.int .i64 m.fr, .int .i64 m.to] 64))).grown hgr (fun x hx => (hown.lt x hx).1)
          clear hgr hown hAt hat
          go_wp2
          go_roundw
          case rel => exact ⟨k + 1, g', c', out ++ [⟨m.fr, m.to⟩], by omega, by go_num, by rw [List.length_append]; rfl, by rw [List.length_append, List.flatMap_append]; exact hown', hA4, hst, by simp; omega⟩
          case measure => simp [intOf]; omega
    · obtain rfl : k = xs1.length := by omega
      have hM := Lib.hid (hR.out.symm.trans hM.out)
      have hrd := Rd.of_own encSp_len (by decide) hown
      have HMK := Lib.hid (fun cap => hM.out ▸ HMK.out g cap wr (hM.out ▸ hrd))
      clear hR
      go_wp2_with fail
      refine (HMK.out _).mono ?_
      rintro e w5 ⟨g5, c5, rfl, ho5, hB5⟩
      go_wp2
      go_ret
      rw [hM.out]
      exact ⟨_, _, rfl, own_base ho5 hAt.below.size, stepB hAt.below hB5 hAt.below.size⟩

set_option maxRecDepth 100000 in
set_option maxHeartbeats 4000000 in
theorem termsOf_any (a0 a1 : Option Addr) (cap0 cap1 : Nat) (xs0 : List Ps) (xs1 : List Tm) (o p : ByteArray) (w : World) (hl1 : xs1.length ≤ 1048574) (hx1 : Rd encTm w a1 xs1) :
    Calls Tryz.prog 76 #[.agg #[.slice a0 xs0.length cap0, .slice a1 xs1.length cap1], .string o, .string p] w fun e w' => ∃ g c, e = .returned (.slice (some ⟨g, 0, none⟩) (tsp (isT o p) xs1).length c) ∧ w'.ownsRow w.heap.size 64 2 (.slice (some ⟨g, 0, none⟩) (tsp (isT o p) xs1).length c) (tsp (isT o p) xs1).length ((tsp (isT o p) xs1).flatMap encSp) ∧ Below w.heap.size w w' := by
  obtain ⟨i0, hi, hz0, hz1, hz2⟩ := info_parts infoSp
  have HT := Lib.hid (fun k m (h : xs1[k]? = some m) => tsp_take (p := isT o p) h)
  have hR := Lib.hid (tsp_all (isT o p) xs1)
  have hA0 : At w [.slice a0 xs0.length cap0, .slice a1 xs1.length cap1] ((w.alloc (.cells #[.slice a0 xs0.length cap0, .slice a1 xs1.length cap1] 48)).alloc (.cells #[] 64)) := (At.start _ _ _).step ((Below.refl _ _).alloc (Nat.le_refl _) _)
  have hown0 := World.ownsRow_made (w.alloc (.cells #[.slice a0 xs0.length cap0, .slice a1 xs1.length cap1] 48)) #[] 0 (show w.heap.size + 1 ≤ _ by simp) (by decide) rfl (e := 64) (size := 2)
  have b1 := hA0.cell 1 _ rfl
  go_enter Tryz.func76, Tryz.ntmps76
  go_wp2
  go_loopw [7, 14] (fun s i wr => ∃ (k g c : Nat) (out : List Sp), k ≤ xs1.length ∧ i = .int .i64 k ∧ s = .slice (some ⟨g, 0, none⟩) out.length c ∧ wr.ownsRow (w.heap.size + 1) 64 2 (.slice (some ⟨g, 0, none⟩) out.length c) out.length (out.flatMap encSp) ∧ At w [.slice a0 xs0.length cap0, .slice a1 xs1.length cap1] wr ∧ Hid (tsp (isT o p) (xs1.take k) = out) ∧ out.length ≤ k) (fun _ i _ => xs1.length - (intOf i).toNat)
  case atStart => exact ⟨0, w.heap.size + 1, 0, [], Nat.zero_le _, rfl, rfl, by simpa using hown0, hA0, rfl, Nat.le_refl _⟩
  case round =>
    clear hown0 hA0 b1
    obtain ⟨k, g, c, out, hk, rfl, rfl, hown, hAt, hM, hlo⟩ := hrel
    have b1 := hAt.cell 1 _ rfl
    have hs := hAt.size
    by_cases hlt : k < xs1.length
    · have hk1 : (k : Int) < (xs1.length : Int) := by omega
      have hm := List.getElem?_eq_getElem hlt
      generalize xs1[k] = m at hm
      have hst := Lib.hid (HT.out k m hm)
      obtain ⟨b, off, e', hbw, _⟩ := hx1.tm hm
      subst e'
      obtain ⟨_, _, e', hb, c0, c1, c2, c3⟩ := (hx1.below hAt.below).tm hm
      simp only [Option.some.injEq, Addr.mk.injEq, and_true] at e'
      obtain ⟨rfl, rfl⟩ := e'
      have hgo := own_lt hown
      clear hm
      go_upto_region 5 with (fail)
      generalize hW : wr.alloc (.cells #[.string m.office, .string m.person, .int .i64 m.fr, .int .i64 m.to] 105) = W
      have hBW : Below wr.heap.size wr W := by rw [← hW]; go_grown
      have D0 : W.cell? ⟨wr.heap.size, 0, none⟩ = some (.string m.office) := by rw [← hW]; exact World.cell?_alloc_at _ _ _ _ rfl
      have D1 : W.cell? ⟨wr.heap.size, 1, none⟩ = some (.string m.person) := by rw [← hW]; exact World.cell?_alloc_at _ _ _ _ rfl
      have D2 : W.cell? ⟨wr.heap.size, 2, none⟩ = some (.int .i64 m.fr) := by rw [← hW]; exact World.cell?_alloc_at _ _ _ _ rfl
      have D3 : W.cell? ⟨wr.heap.size, 3, none⟩ = some (.int .i64 m.to) := by rw [← hW]; exact World.cell?_alloc_at _ _ _ _ rfl
      have hown := own_below hown hBW
      have hAt := hAt.step hBW
      have hs := hAt.size
      clear hW c0 c1 c2 c3 hb hBW b1 hbw
      cases hp : (m.office.toList == o.toList)
      · have hpp' : isT o p m = false := by unfold isT; rw [hp]; rfl
        have hst : Hid (tsp (isT o p) (xs1.take (k + 1)) = out) := by unfold Hid; rw [hst.out, hM.out, hpp', if_neg Bool.false_ne_true, List.append_nil]
        go_wp2
        go_roundw
        case rel => exact ⟨k + 1, g, c, out, by omega, by go_num, rfl, hown, hAt, hst, by omega⟩
        case measure => simp [intOf]; omega
      · cases hz : (p.toList == [])
        · cases hq : (m.person.toList == p.toList)
          · have hpp' : isT o p m = false := by unfold isT; rw [hp, hz, hq]; rfl
            have hst : Hid (tsp (isT o p) (xs1.take (k + 1)) = out) := by unfold Hid; rw [hst.out, hM.out, hpp', if_neg Bool.false_ne_true, List.append_nil]
            go_wp2
            go_roundw
            case rel => exact ⟨k + 1, g, c, out, by omega, by go_num, rfl, hown, hAt, hst, by omega⟩
            case measure => simp [intOf]; omega
          · have hpp' : isT o p m = true := by unfold isT; rw [hp, hz, hq]; rfl
            have hst : Hid (tsp (isT o p) (xs1.take (k + 1)) = out ++ [⟨m.fr, m.to⟩]) := by unfold Hid; rw [hst.out, hM.out, hpp', if_pos rfl]
            go_wp2_with (at_builtin; refine wpList_append_own _ rfl _ _ 38 rfl (w.heap.size + 1) 64 i0 (.agg #[.int .i64 0, .int .i64 0]) 2 16 Tryz.underlying38 hi hz0 hz1 hz2 rfl (by decide) _ _ _ rfl (hown.alloc _) ⟨W.heap.size, 0, none⟩ 1 1 [.int .i64 m.fr, .int .i64 m.to] rfl rfl (cell_two_new _ _ _ _) ?c2 ?c3 ?c4 ?c5 ?_)
            case c2 => first | exact ⟨rfl, rfl⟩ | rfl | (intro u hu; simp at hu; rcases hu with rfl | rfl <;> rfl) | (intro u hu; simp at hu; subst hu; rfl)
            case c3 => unfold maxLen; omega
            case c4 => omega
            case c5 => first | omega | (simp; omega)
            intro v' w4 hown' hgr _
            have hA4 := (hAt.step ((Below.refl _ W).alloc (Nat.le_refl _) (.cells #[.int .i64 m.fr, .int .i64 m.to] 64))).grown hgr (fun x hx => (hown.lt x hx).1)
            obtain ⟨g', c', rfl⟩ := formJ hown' (by omega)
            clear hgr hown hAt
            go_wp2
            go_roundw
            case rel => exact ⟨k + 1, g', c', out ++ [⟨m.fr, m.to⟩], by omega, by go_num, by rw [List.length_append]; rfl, by rw [List.length_append, List.flatMap_append]; exact hown', hA4, hst, by simp; omega⟩
            case measure => simp [intOf]; omega
        · have hpp' : isT o p m = true := by unfold isT; rw [hp, hz]; rfl
          have hst : Hid (tsp (isT o p) (xs1.take (k + 1)) = out ++ [⟨m.fr, m.to⟩]) := by unfold Hid; rw [hst.out, hM.out, hpp', if_pos rfl]
          go_wp2_with (at_builtin; refine wpList_append_own _ rfl _ _ 38 rfl (w.heap.size + 1) 64 i0 (.agg #[.int .i64 0, .int .i64 0]) 2 16 Tryz.underlying38 hi hz0 hz1 hz2 rfl (by decide) _ _ _ rfl (hown.alloc _) ⟨W.heap.size, 0, none⟩ 1 1 [.int .i64 m.fr, .int .i64 m.to] rfl rfl (cell_two_new _ _ _ _) ?c2 ?c3 ?c4 ?c5 ?_)
          case c2 => first | exact ⟨rfl, rfl⟩ | rfl | (intro u hu; simp at hu; rcases hu with rfl | rfl <;> rfl) | (intro u hu; simp at hu; subst hu; rfl)
          case c3 => unfold maxLen; omega
          case c4 => omega
          case c5 => first | omega | (simp; omega)
          intro v' w4 hown' hgr _
          have hA4 := (hAt.step ((Below.refl _ W).alloc (Nat.le_refl _) (.cells #[.int .i64 m.fr, .int .i64 m.to] 64))).grown hgr (fun x hx => (hown.lt x hx).1)
          obtain ⟨g', c', rfl⟩ := formJ hown' (by omega)
          clear hgr hown hAt
          go_wp2
          go_roundw
          case rel => exact ⟨k + 1, g', c', out ++ [⟨m.fr, m.to⟩], by omega, by go_num, by rw [List.length_append]; rfl, by rw [List.length_append, List.flatMap_append]; exact hown', hA4, hst, by simp; omega⟩
          case measure => simp [intOf]; omega
    · obtain rfl : k = xs1.length := by omega
      have hM := Lib.hid (hR.out.symm.trans hM.out)
      go_wp2
      go_ret
      rw [hM.out]
      exact ⟨_, _, rfl, own_base hown (by omega), hAt.below⟩
end

section
open Go.ChangeShapes Go.WideShapes Go.ChangeAt Go.RowKit

theorem person_named {ps : List Ps} {ts : List Tm} {p : ByteArray} (h : isPeopleB ps ts = true) (hz : 0 ≤ personIx ps p) : p.toList ≠ [] := by
  have h1 := fidx_any (isNm p) ps
  have hz' : decide (0 ≤ fidx (isNm p) ps 0) = true := decide_eq_true hz
  rw [hz'] at h1
  obtain ⟨m, hm, he⟩ := List.any_eq_true.1 h1.symm
  have hn := people_name h hm
  unfold nameB at hn
  simp only [Bool.and_eq_true, decide_eq_true_eq] at hn
  intro e
  unfold isNm at he
  rw [e] at he
  have h2 : m.name.toList = [] := by simpa using he
  rw [ByteArray.toList_eq] at h2
  rw [h2] at hn
  simp at hn
def officeR (ps : List Ps) (ts : List Tm) (o p : ByteArray) : List Sp × Int :=
  if isPeopleB ps ts then (if personIx ps p < 0 then ([], 4) else (uni (tsp (isOP o p) ts), 0)) else ([], 1)
theorem officeR_len (ps : List Ps) (ts : List Tm) (o p : ByteArray) (h : ts.length ≤ 1048576) : (officeR ps ts o p).1.length ≤ 1048576 := by
  have h1 := uni_len (tsp (isOP o p) ts)
  have h2 := tsp_len (isOP o p) ts
  unfold officeR
  split
  · split
    · simp
    · show (uni (tsp (isOP o p) ts)).length ≤ 1048576
      omega
  · simp

set_option maxRecDepth 100000 in
set_option maxHeartbeats 4000000 in
theorem specOffice_any (a0 a1 : Option Addr) (cap0 cap1 : Nat) (xs0 : List Ps) (xs1 : List Tm) (o p : ByteArray) (w : World) (hl0 : xs0.length ≤ 1048576) (hx0 : Rd encPs w a0 xs0) (hs0 : ∀ m ∈ xs0, szPs m ≤ 1048576) (hl1 : xs1.length ≤ 1048576) (hx1 : Rd encTm w a1 xs1) (hs1 : ∀ m ∈ xs1, szTm m ≤ 1048576) :
    Calls Tryz.prog 32 #[.agg #[.slice a0 xs0.length cap0, .slice a1 xs1.length cap1], .string o, .string p] w fun e w' => ∃ b c, e = .returned (.tuple #[.slice b (officeR xs0 xs1 o p).1.length c, .int .i64 (officeR xs0 xs1 o p).2]) ∧
      w'.ownsRow w.heap.size 64 2 (.slice b (officeR xs0 xs1 o p).1.length c) (officeR xs0 xs1 o p).1.length ((officeR xs0 xs1 o p).1.flatMap encSp) ∧ Below w.heap.size w w' := by
  have hA0 : At w [.slice a0 xs0.length cap0, .slice a1 xs1.length cap1] (w.alloc (.cells #[.slice a0 xs0.length cap0, .slice a1 xs1.length cap1] 48)) := At.start _ _ _
  have HM := Lib.hid (fun W (hAt : At w [.slice a0 xs0.length cap0, .slice a1 xs1.length cap1] W) => specIsPeople_any a0 a1 cap0 cap1 xs0 xs1 W hl0 (hx0.below hAt.below) hs0 hl1 (hx1.below hAt.below) hs1)
  cases hA : isPeopleB xs0 xs1
  · have HM := Lib.hid (fun W h => hA ▸ HM.out W h)
    have hR : Hid (officeR xs0 xs1 o p = ([], 1)) := by unfold Hid officeR; rw [hA]; rfl
    clear hA
    go_enter Tryz.func32, Tryz.ntmps32
    go_wp2_with fail
    refine (HM.out _ hA0).mono ?_
    rintro e w1 ⟨rfl, hB1⟩
    go_wp2
    go_ret2
    rw [hR.out]
    exact ⟨none, 0, rfl, World.ownsRow_nil _ _ _ _, (hA0.step hB1).below⟩
  · have HM := Lib.hid (fun W h => hA ▸ HM.out W h)
    have HPX := Lib.hid (fun W (hAt : At w [.slice a0 xs0.length cap0, .slice a1 xs1.length cap1] W) => l13Person_any a0 a1 cap0 cap1 xs0 xs1 p W hl0 (hx0.below hAt.below))
    have hbd := people_bd hA
    have HT := Lib.hid (fun W (hAt : At w [.slice a0 xs0.length cap0, .slice a1 xs1.length cap1] W) => l13Office_any a0 a1 cap0 cap1 xs0 xs1 o p W hA (by omega) (hx1.below hAt.below))
    have hre : officeR xs0 xs1 o p = if personIx xs0 p < 0 then ([], 4) else (uni (tsp (isOP o p) xs1), 0) := by unfold officeR; rw [hA]; rfl
    clear hA hbd
    generalize personIx xs0 p = z at HPX hre 
    by_cases hz : z < 0
    · have hR : Hid (officeR xs0 xs1 o p = ([], 4)) := by unfold Hid; rw [hre, if_pos hz]
      clear hre
      go_enter Tryz.func32, Tryz.ntmps32
      go_wp2_with fail
      refine (HM.out _ hA0).mono ?_
      rintro e w1 ⟨rfl, hB1⟩
      have hA1 := hA0.step hB1
      have b0 := hA1.cell 0 _ rfl
      have b1 := hA1.cell 1 _ rfl
      clear hA0 hB1 HM
      go_wp2_with fail
      refine (HPX.out _ hA1).mono ?_
      rintro e w2 ⟨rfl, hB2⟩
      go_wp2
      go_ret2
      rw [hR.out]
      exact ⟨none, 0, rfl, World.ownsRow_nil _ _ _ _, (hA1.step hB2).below⟩
    · have hR : Hid (officeR xs0 xs1 o p = (uni (tsp (isOP o p) xs1), 0)) := by unfold Hid; rw [hre, if_neg hz]
      clear hre
      go_enter Tryz.func32, Tryz.ntmps32
      go_wp2_with fail
      refine (HM.out _ hA0).mono ?_
      rintro e w1 ⟨rfl, hB1⟩
      have hA1 := hA0.step hB1
      have b0 := hA1.cell 0 _ rfl
      have b1 := hA1.cell 1 _ rfl
      clear hA0 hB1 HM
      go_wp2_with fail
      refine (HPX.out _ hA1).mono ?_
      rintro e w2 ⟨rfl, hB2⟩
      have hA2 := hA1.step hB2
      have b0 := hA2.cell 0 _ rfl
      have b1 := hA2.cell 1 _ rfl
      clear hA1 hB2 HPX
      go_wp2_with fail
      refine (HT.out _ hA2).mono ?_
      rintro e w3 ⟨g3, c3, rfl, ho3, hB3⟩
      have hA3 := hA2.step hB3
      go_wp2
      go_ret2
      rw [hR.out]
      exact ⟨_, _, rfl, own_base ho3 hA2.below.size, hA3.below⟩

set_option maxRecDepth 100000 in
set_option maxHeartbeats 4000000 in
theorem implOffice_any (a0 a1 : Option Addr) (cap0 cap1 : Nat) (xs0 : List Ps) (xs1 : List Tm) (o p : ByteArray) (w : World) (hl0 : xs0.length ≤ 1048576) (hx0 : Rd encPs w a0 xs0) (hs0 : ∀ m ∈ xs0, szPs m ≤ 1048576) (hl1 : xs1.length ≤ 1048576) (hx1 : Rd encTm w a1 xs1) (hs1 : ∀ m ∈ xs1, szTm m ≤ 1048576) :
    Calls Tryz.prog 31 #[.agg #[.slice a0 xs0.length cap0, .slice a1 xs1.length cap1], .string o, .string p] w fun e w' => ∃ b c, e = .returned (.tuple #[.slice b (officeR xs0 xs1 o p).1.length c, .int .i64 (officeR xs0 xs1 o p).2]) ∧
      w'.ownsRow w.heap.size 64 2 (.slice b (officeR xs0 xs1 o p).1.length c) (officeR xs0 xs1 o p).1.length ((officeR xs0 xs1 o p).1.flatMap encSp) ∧ Below w.heap.size w w' := by
  have hA0 : At w [.slice a0 xs0.length cap0, .slice a1 xs1.length cap1] (w.alloc (.cells #[.slice a0 xs0.length cap0, .slice a1 xs1.length cap1] 48)) := At.start _ _ _
  have HM := Lib.hid (fun W (hAt : At w [.slice a0 xs0.length cap0, .slice a1 xs1.length cap1] W) => implIsPeople_any a0 a1 cap0 cap1 xs0 xs1 W hl0 (hx0.below hAt.below) hs0 hl1 (hx1.below hAt.below) hs1)
  cases hA : isPeopleB xs0 xs1
  · have HM := Lib.hid (fun W h => hA ▸ HM.out W h)
    have hR : Hid (officeR xs0 xs1 o p = ([], 1)) := by unfold Hid officeR; rw [hA]; rfl
    clear hA
    go_enter Tryz.func31, Tryz.ntmps31
    go_wp2_with fail
    refine (HM.out _ hA0).mono ?_
    rintro e w1 ⟨rfl, hB1⟩
    go_wp2
    go_ret2
    rw [hR.out]
    exact ⟨none, 0, rfl, World.ownsRow_nil _ _ _ _, (hA0.step hB1).below⟩
  · have HM := Lib.hid (fun W h => hA ▸ HM.out W h)
    have HPX := Lib.hid (fun W (hAt : At w [.slice a0 xs0.length cap0, .slice a1 xs1.length cap1] W) => personIndex_any a0 a1 cap0 cap1 xs0 xs1 p W hl0 (hx0.below hAt.below))
    have hbd := people_bd hA
    have hnm := Lib.hid (person_named (p := p) hA)
    have hok := Lib.hid (tsp_ok hA (isT o p))
    have HT := Lib.hid (fun W (hAt : At w [.slice a0 xs0.length cap0, .slice a1 xs1.length cap1] W) => termsOf_any a0 a1 cap0 cap1 xs0 xs1 o p W (by omega) (hx1.below hAt.below))
    have hlt := Lib.hid (tsp_len (isT o p) xs1)
    have HU := Lib.hid (fun g cap W (h : Rd encSp W (some ⟨g, 0, none⟩) (tsp (isT o p) xs1)) => united_any g 0 cap _ (tsp (isT o p) xs1) W rfl (by have := hlt.out; omega) h hok.out)
    have hre : officeR xs0 xs1 o p = if personIx xs0 p < 0 then ([], 4) else (uni (tsp (isOP o p) xs1), 0) := by unfold officeR; rw [hA]; rfl
    clear hA hbd
    generalize personIx xs0 p = z at HPX hre hnm
    by_cases hz : z < 0
    · have hR : Hid (officeR xs0 xs1 o p = ([], 4)) := by unfold Hid; rw [hre, if_pos hz]
      clear hre
      go_enter Tryz.func31, Tryz.ntmps31
      go_wp2_with fail
      refine (HM.out _ hA0).mono ?_
      rintro e w1 ⟨rfl, hB1⟩
      have hA1 := hA0.step hB1
      have b0 := hA1.cell 0 _ rfl
      have b1 := hA1.cell 1 _ rfl
      clear hA0 hB1 HM
      go_wp2_with fail
      refine (HPX.out _ hA1).mono ?_
      rintro e w2 ⟨rfl, hB2⟩
      go_wp2
      go_ret2
      rw [hR.out]
      exact ⟨none, 0, rfl, World.ownsRow_nil _ _ _ _, (hA1.step hB2).below⟩
    · have hR : Hid (officeR xs0 xs1 o p = (uni (tsp (isT o p) xs1), 0)) := by unfold Hid; rw [hre, if_neg hz, isT_some (hnm.out (by omega))]
      clear hre
      go_enter Tryz.func31, Tryz.ntmps31
      go_wp2_with fail
      refine (HM.out _ hA0).mono ?_
      rintro e w1 ⟨rfl, hB1⟩
      have hA1 := hA0.step hB1
      have b0 := hA1.cell 0 _ rfl
      have b1 := hA1.cell 1 _ rfl
      clear hA0 hB1 HM
      go_wp2_with fail
      refine (HPX.out _ hA1).mono ?_
      rintro e w2 ⟨rfl, hB2⟩
      have hA2 := hA1.step hB2
      have b0 := hA2.cell 0 _ rfl
      have b1 := hA2.cell 1 _ rfl
      clear hA1 hB2 HPX
      go_wp2_with fail
      refine (HT.out _ hA2).mono ?_
      rintro e w3 ⟨g3, c3, rfl, ho3, hB3⟩
      have hA3 := hA2.step hB3
      have hrd := Rd.of_own encSp_len (by decide) ho3
      go_wp2_with fail
      refine (HU.out _ _ _ hrd).mono ?_
      rintro e w4 ⟨g4, c4, rfl, ho4, hB4⟩
      go_wp2
      go_ret2
      rw [hR.out]
      exact ⟨_, _, rfl, own_base ho4 hA3.below.size, (hA3.step hB4).below⟩
end
end Go.Proofs.YtmjbigeeokofeaaGreatDoor
