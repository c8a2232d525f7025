/- Walks: ReadNumeral and ReadNumber of the program. -/
import Derived.Deep.LoopGhost
import Derived.Test.YteajkofgcmfaoaaGreatDoorRd1
import Derived.Test.YteajkofgcmfaoaaGreatDoorRd2
import Derived.Test.YteajkofgcmfaoaaGreatDoorShelf9
import Derived.Lib.ParseIntBTie
import Derived.Test.YteajkofgcmfaoaaGreatDoorRd3
import Derived.Test.YteajkofgcmfaoaaGreatDoorShelf10
namespace Go.Proofs.YteajkofgcmfaoaaGreatDoor
section
open Go.ChangeShapes Go.WideShapes Go.ChangeAt Go.RowKit Go.IntWalk Go.Shelf

theorem uv_free {p : List UInt8} (h : (117 : UInt8) ∉ p) : p.map uv = p := by
  induction p with
  | nil => rfl
  | cons a p ih =>
    simp only [List.mem_cons, not_or] at h
    rw [List.map_cons, ih h.2]
    unfold uv
    rw [if_neg (fun e => h.1 e.symm)]
theorem uv_next {g : Nat} {l : List UInt8} (h : l.count 117 = g + 1) : ∃ p r, l = p ++ 117 :: r ∧ (117 : UInt8) ∉ p ∧ r.count 117 = g ∧ l.map uv = p ++ 118 :: r.map uv := by
  rcases spl_parts 117 l with hn | ⟨p, r, rfl, hp⟩
  · rw [List.count_eq_zero.2 hn] at h; omega
  · refine ⟨p, r, rfl, hp, ?_, ?_⟩
    · rw [List.count_append, List.count_eq_zero.2 hp, List.count_cons_self] at h; omega
    · rw [List.map_append, uv_free hp, List.map_cons]; rfl
theorem uv_ne : ((⟨#[117]⟩ : ByteArray).toList == (⟨#[118]⟩ : ByteArray).toList) = false := by rw [ba_beq]; decide
set_option maxHeartbeats 4000000 in
set_option maxRecDepth 1000000 in
theorem replace_none (s : ByteArray) (h0 : s.data.toList.count 117 = 0) (w : World) :
    Calls Tryz.prog 231 #[.string s, .string ⟨#[117]⟩, .string ⟨#[118]⟩, .int .i64 (-1)] w fun e w' => e = .returned (.string ⟨(s.data.toList.map uv).toArray⟩) ∧ Below w.heap.size w w' := by
  have HC := Lib.hid (show Calls Tryz.prog 143 #[.string s, .string ⟨#[117]⟩] w fun e w' => e = .returned (.int .i64 ((0 : Nat) : Int)) ∧ w' = w from h0 ▸ Any.strings_Count_one (P := Tryz.prog) { Tryz.lays154 with } s 117 w)
  have hq := Lib.hid (show (⟨(s.data.toList.map uv).toArray⟩ : ByteArray) = s by rw [uv_free (List.count_eq_zero.1 h0)])
  have hbeq := uv_ne
  clear h0
  generalize (⟨(s.data.toList.map uv).toArray⟩ : ByteArray) = R at hq ⊢
  go_enter Tryz.func231, Tryz.ntmps231
  go_wp2_with (go_at_call 143; refine HC.out.mono ?_; rintro e w' ⟨rfl, hw⟩; rw [hw])
  go_ret
  exact ⟨by rw [hq.out]; rfl, Below.refl _ _⟩
set_option maxHeartbeats 16000000 in
set_option maxRecDepth 1000000 in
theorem replace_some (s : ByteArray) (N : Nat) (hs : s.size ≤ 20) (h0 : s.data.toList.count 117 = N) (hpos : 0 < N) (w : World) :
    Calls Tryz.prog 231 #[.string s, .string ⟨#[117]⟩, .string ⟨#[118]⟩, .int .i64 (-1)] w fun e w' => e = .returned (.string ⟨(s.data.toList.map uv).toArray⟩) ∧ Below w.heap.size w w' := by
  have hK : N ≤ 20 := by
    have h1 := List.count_le_length (a := (117 : UInt8)) (l := s.data.toList)
    rw [Array.length_toList] at h1
    have h2 : s.data.size = s.size := rfl
    omega
  have HC := Lib.hid (show Calls Tryz.prog 143 #[.string s, .string ⟨#[117]⟩] w fun e w' => e = .returned (.int .i64 (N : Int)) ∧ w' = w from h0 ▸ Any.strings_Count_one (P := Tryz.prog) { Tryz.lays154 with } s 117 w)
  have hbeq := uv_ne
  have hcz : ((N : Int) == 0) = false := by simp; omega
  have hlenL : s.data.toList.length = s.size := (Lib.size_eq s).symm
  have h00 := Lib.hid (show (s.data.toList.drop 0).count 117 = N by rw [List.drop_zero]; exact h0)
  clear h0 hpos
  go_enter Tryz.func231, Tryz.ntmps231
  go_wp2_with (go_at_call 143; refine HC.out.mono ?_; rintro e w' ⟨rfl, hw⟩; rw [hw])
  refine (Any.Builder_Grow_fresh (P := Tryz.prog) { Tryz.lays154 with } Tryz.Builder_Extra_154 w.heap.size w.heap.size s.size _ (Nat.le_refl _) (heap_alloc_new w _) (by simp) (by omega)).mono ?_
  rintro e w1 ⟨rfl, hb0, hb1⟩
  have H1 := Lib.hid (Or.inr hb0 : Lib.IsBuilder 152 5 w.heap.size w.heap.size (Lib.byteCells []) w1)
  have Hb1 := Lib.hid (((Below.refl w.heap.size w).alloc (Nat.le_refl _) _).trans hb1)
  clear hb0 hb1 HC
  go_wp2_with fail
  go_loopg [11, 53] N (fun g s11 s53 wx => ∃ (i start : Nat) (acc : List UInt8), s53 = .int .i64 i ∧ s11 = .int .i64 start ∧ i + g = N ∧ start ≤ s.size ∧ acc.length = start ∧
    Hid (Lib.IsBuilder 152 5 w.heap.size w.heap.size (Lib.byteCells acc) wx) ∧ Hid (Below w.heap.size w wx) ∧ Hid (acc ++ (s.data.toList.drop start).map uv = s.data.toList.map uv) ∧ Hid ((s.data.toList.drop start).count 117 = g))
  case atStart => exact ⟨0, 0, [], rfl, rfl, by omega, Nat.zero_le _, rfl, H1, Hb1, Lib.hid (by simp), h00⟩
  case round =>
    clear h00 H1 Hb1
    obtain ⟨i, start, acc, rfl, rfl, hig, hst, hacc, HB, HW, HR, hgc⟩ := hrel
    have hBw : w.heap.size ≤ wr.heap.size := HW.out.size
    have c1 : (0 : Int) ≤ (start : Int) := by omega
    have c2 : (start : Int) ≤ (s.size : Int) := by omega
    cases gk with
    | zero =>
      have hiK : ¬ ((i : Int) < (N : Int)) := by omega
      have hfree := Lib.hid (show (s.data.toList.drop start).map uv = s.data.toList.drop start from uv_free (List.count_eq_zero.1 hgc.out))
      replace hacc := Lib.hid hacc
      go_wp2_with fail
      refine (Any.Builder_WriteString (P := Tryz.prog) { Tryz.lays154 with } Tryz.Builder_Extra_154 w.heap.size w.heap.size _ (s.extract start s.size) wr HB.out (by rw [Lib.byteCells_length, ByteArray.size_extract, hacc.out]; omega) hBw).mono ?_
      rintro e w3 ⟨rfl, h3, hb3⟩
      rw [Lib.strCells_eq, Lib.extract_to_end, ← Lib.byteCells_append] at h3
      have hfin : acc ++ s.data.toList.drop start = s.data.toList.map uv := by rw [← HR.out, hfree.out]
      rw [hfin] at h3
      have H3 := Lib.hid (Or.inr h3 : Lib.IsBuilder 152 5 w.heap.size w.heap.size _ w3)
      have Hb3 := Lib.hid (HW.out.trans hb3)
      have hBw3 : w.heap.size ≤ w3.heap.size := Hb3.out.size
      clear h3 hb3 hfin hfree HR
      go_wp2_with fail
      refine (Any.Builder_String_any (P := Tryz.prog) { Tryz.lays154 with } Tryz.Builder_Extra_154 w.heap.size w.heap.size _ w3 H3.out hBw3).mono ?_
      rintro e w5 ⟨rfl, hb5⟩
      have Hb5 := Lib.hid (Hb3.out.trans hb5)
      clear hb5
      go_wp2
      go_ret
      exact ⟨rfl, Hb5.out⟩
    | succ g =>
      have hiK : (i : Int) < (N : Int) := by omega
      obtain ⟨pp, rr, hpr, hpf, hrc, hmap⟩ := uv_next hgc.out
      have hlen := congrArg List.length hpr
      rw [List.length_drop, List.length_append, List.length_cons, hlenL] at hlen
      obtain ⟨j, hj⟩ : ∃ j : Nat, pp.length = j := ⟨_, rfl⟩
      rw [hj] at hlen
      have hroom : start + j + 1 ≤ s.size := by omega
      have HI := Lib.hid (show Calls Tryz.prog 144 #[.string (s.extract start s.size), .string ⟨#[117]⟩] wr fun e w' => e = .returned (.int .i64 (j : Int)) ∧ w' = wr by
        have h := Any.strings_Index_one (P := Tryz.prog) { Tryz.lays154 with } (s.extract start s.size) 117 wr
        rw [Lib.extract_to_end, hpr, indexByte_at 117 rr hpf, hj] at h
        exact h)
      have hdr : s.data.toList.drop (start + j + 1) = rr := by
        have h := congrArg (List.drop (j + 1)) hpr
        rw [List.drop_drop, show start + (j + 1) = start + j + 1 by omega] at h
        rw [h, show j + 1 = pp.length + 1 by omega, List.drop_append]
        simp
      have htk : (s.data.toList.drop start).take j = pp := by
        rw [hpr, ← hj, List.take_append_of_le_length (Nat.le_refl _), List.take_length]
      have hnext := Lib.hid (show Lib.byteCells acc ++ Lib.strCells (s.extract start (start + j)) ++ Lib.strCells ⟨#[118]⟩ = Lib.byteCells (acc ++ pp ++ [118]) by
        rw [Lib.strCells_eq, Lib.strCells_eq, Lib.extract_data, Nat.add_sub_cancel_left, htk, ← Lib.byteCells_append, ← Lib.byteCells_append])
      have hrep := Lib.hid (show (acc ++ pp ++ [118]) ++ (s.data.toList.drop (start + j + 1)).map uv = s.data.toList.map uv by
        rw [hdr, ← HR.out, hmap]
        simp)
      have hcnt := Lib.hid (show (s.data.toList.drop (start + j + 1)).count 117 = g by rw [hdr]; exact hrc)
      have hal := Lib.hid (show (acc ++ pp ++ [118]).length = start + j + 1 by simp [hacc, hj]; omega)
      have c3 : (start : Int) ≤ (start : Int) + (j : Int) := by omega
      have c4 : (start : Int) + (j : Int) ≤ (s.size : Int) := by omega
      have v0 : IntKind.i64.wrap ((i : Int) + 1) = ((i + 1 : Nat) : Int) := by rw [IntKind.wrap_i64]; omega
      have v1 : IntKind.i64.wrap ((start : Int) + (j : Int)) = ((start + j : Nat) : Int) := by rw [IntKind.wrap_i64]; omega
      have v2 : IntKind.i64.wrap (((start + j : Nat) : Int) + 1) = ((start + j + 1 : Nat) : Int) := by rw [IntKind.wrap_i64]; omega
      clear hpr hpf hrc hmap hlen hj hdr htk HR hgc
      replace hacc := Lib.hid hacc
      go_wp2_with fail
      refine HI.out.mono ?_
      rintro e w' ⟨rfl, hw⟩
      subst hw
      clear HI
      go_wp2_with fail
      refine (Any.Builder_WriteString (P := Tryz.prog) { Tryz.lays154 with } Tryz.Builder_Extra_154 w.heap.size w.heap.size _ (s.extract start (start + j)) _ HB.out (by rw [Lib.byteCells_length, ByteArray.size_extract, hacc.out]; omega) hBw).mono ?_
      rintro e w3 ⟨rfl, h3, hb3⟩
      have hBw3 : w.heap.size ≤ w3.heap.size := Nat.le_trans hBw hb3.size
      have H3 := Lib.hid h3
      have Hb3 := Lib.hid hb3
      clear h3 hb3
      go_wp2_with fail
      refine (Any.Builder_WriteString (P := Tryz.prog) { Tryz.lays154 with } Tryz.Builder_Extra_154 w.heap.size w.heap.size _ ⟨#[118]⟩ w3 (Or.inr H3.out) (by rw [List.length_append, Lib.byteCells_length, Lib.strCells_length, ByteArray.size_extract, hacc.out]; show _ + _ + 1 ≤ _; omega) hBw3).mono ?_
      rintro e w4 ⟨rfl, h4, hb4⟩
      rw [hnext.out] at h4
      have H4 := Lib.hid (Or.inr h4 : Lib.IsBuilder 152 5 w.heap.size w.heap.size _ w4)
      have Hb4 := Lib.hid ((HW.out.trans Hb3.out).trans hb4)
      clear h4 hb4 hnext
      go_wp2
      go_roundg g
      case measure => omega
      case rel => exact ⟨i + 1, start + j + 1, _, rfl, rfl, by omega, by omega, hal.out, H4, Hb4, hrep, hcnt⟩
theorem replaceAll_uv (s : ByteArray) (hs : s.size ≤ 20) (w : World) :
    Calls Tryz.prog 197 #[.string s, .string ⟨#[117]⟩, .string ⟨#[118]⟩] w fun e w' => e = .returned (.string ⟨(s.data.toList.map uv).toArray⟩) ∧ Below w.heap.size w w' := by
  have HR := Lib.hid (show Calls Tryz.prog 231 #[.string s, .string ⟨#[117]⟩, .string ⟨#[118]⟩, .int .i64 (-1)] w fun e w' => e = .returned (.string ⟨(s.data.toList.map uv).toArray⟩) ∧ Below w.heap.size w w' by
    rcases Nat.eq_zero_or_pos (s.data.toList.count 117) with h | h
    · exact replace_none s h w
    · exact replace_some s _ hs rfl h w)
  generalize (⟨(s.data.toList.map uv).toArray⟩ : ByteArray) = R at HR ⊢
  go_enter Tryz.func197, Tryz.ntmps197
  go_wp2_with fail
  refine HR.out.mono ?_
  rintro e w1 ⟨rfl, hB⟩
  go_wp2
  go_ret
  exact ⟨rfl, hB⟩
end

section
open Go.ChangeShapes Go.WideShapes Go.ChangeAt Go.RowKit Go.IntWalk Go.Shelf

/-- What the library's conversions read: a table, two variables of errors. -/
structure NumW (w : World) : Prop where
  tab : Lib.TabIs Tryz.prog w "internal/strconv.uint64pow10" .u64 Lib.pow10Tab
  e1 : ∃ ev, w.cell? ⟨4, 0, none⟩ = some ev ∧ (ev = .nilIface ∨ ∃ te pe, ev = .iface te pe)
  e2 : ∃ ev, w.cell? ⟨5, 0, none⟩ = some ev ∧ (ev = .nilIface ∨ ∃ te pe, ev = .iface te pe)
theorem NumW.below {w W : World} (h : NumW w) (hB : Below w.heap.size w W) : NumW W := by
  obtain ⟨v1, c1, i1⟩ := h.e1
  obtain ⟨v2, c2, i2⟩ := h.e2
  exact ⟨tabHere (Lib.tabBelow_of_tabIs h.tab) hB, ⟨v1, (hB.cell (p := ⟨4, 0, none⟩) (Lib.lt_of_cell c1)).trans c1, i1⟩, ⟨v2, (hB.cell (p := ⟨5, 0, none⟩) (Lib.lt_of_cell c2)).trans c2, i2⟩⟩
/-- What number answers. -/
def NumR (s : ByteArray) (v : Int) (ok : Bool) : Prop := (ok = true → 0 ≤ v ∧ decB v = s) ∧ (ok = false → ∀ v, Lib.parseIntB 64 s.data.toList = .ok v → 0 ≤ v → decB v ≠ s)
def NumP (s : ByteArray) (e : Ending) : Prop := ∃ v ok, e = .returned (.tuple #[.int .i64 v, .bool ok]) ∧ NumR s v ok
theorem decimal_all (n : Int) (h0 : 0 ≤ n) (h1 : n ≤ 9223372036854775807) (w : World) (ht : Lib.TabIs Tryz.prog w "internal/strconv.uint64pow10" .u64 Lib.pow10Tab) :
    Calls Tryz.prog 97 #[.int .i64 n] w fun e w' => e = .returned (.string (decB n)) ∧ Below w.heap.size w w' := by
  go_enter Tryz.func97, Tryz.ntmps97
  go_wp2_with fail
  refine (Tryz.strconv_FormatInt_10 n (by omega) (by omega) w ht).mono ?_
  rintro e w1 ⟨rfl, k, os, rfl⟩
  go_wp2
  go_ret
  exact ⟨rfl, grow_below w k os⟩
theorem isNumeral_any (n : Int) (w : World) :
    Calls Tryz.prog 148 #[.int .i64 n] w fun e w' => e = .returned (.bool (inB n 1 3999)) ∧ w' = w := by
  have HI := Lib.hid (fun W => within_any n 1 3999 W)
  go_enter Tryz.func148, Tryz.ntmps148
  go_wp2_with fail
  refine (HI.out _).mono ?_
  rintro e w' ⟨rfl, hw⟩
  subst hw
  go_wp2
  go_ret
  exact ⟨rfl, rfl⟩
set_option maxRecDepth 100000 in
set_option maxHeartbeats 2000000 in
theorem number_any (s : ByteArray) (hs : s.size ≤ 1048576) (w : World) (hN : NumW w) :
    Calls Tryz.prog 147 #[.string s] w fun e w' => NumP s e ∧ Below w.heap.size w w' := by
  have hPI : ∀ v, Lib.parseIntB 64 s.data.toList = .ok v → Calls Tryz.prog 196 #[.string s, .int .i64 10, .int .i64 64] w fun e w' => e = .returned (.tuple #[.int .i64 v, .nilIface]) ∧ Below w.heap.size w w' := fun v h => by
    refine (Tryz.strconv_ParseInt_10_at64_ok s (by omega) v h w).mono ?_
    rintro e w' ⟨rfl, rfl | ⟨t, rfl⟩⟩
    · exact ⟨rfl, Below.refl _ _⟩
    · exact ⟨rfl, Lib.bytesWorld_below _ _ _⟩
  cases hp : Lib.parseIntB 64 s.data.toList with
  | ok v =>
    have hb := Lib.parseIntB_bounds hp
    have HP := Lib.hid (hPI v hp)
    have HD := Lib.hid (fun (h0 : 0 ≤ v) W (hB : Below w.heap.size w W) => decimal_all v h0 (by simp at hb; omega) W (hN.below hB).tab)
    clear hPI hb
    by_cases h0 : v < 0
    · have hR : NumR s 0 false := ⟨fun h => (by cases h), fun _ v2 h h2 => by rw [hp] at h; cases h; omega⟩
      clear hp HD
      go_enter Tryz.func147, Tryz.ntmps147
      go_wp2_with fail
      refine HP.out.mono ?_
      rintro e w1 ⟨rfl, hB⟩
      go_wp2
      go_ret2
      exact ⟨⟨0, false, rfl, hR⟩, hB⟩
    · by_cases hd : decB v = s
      · have hR : NumR s v true := ⟨fun _ => ⟨by omega, hd⟩, fun h => (by cases h)⟩
        have hc : ((decB v).toList == s.toList) = true := by rw [ba_beq, decide_eq_true hd]
        clear hp hd
        generalize decB v = D at HD hc
        go_enter Tryz.func147, Tryz.ntmps147
        go_wp2_with fail
        refine HP.out.mono ?_
        rintro e w1 ⟨rfl, hB⟩
        go_wp2_with fail
        refine (HD.out (by omega) _ hB).mono ?_
        rintro e w2 ⟨rfl, hB2⟩
        go_wp2
        go_ret2
        exact ⟨⟨v, true, rfl, hR⟩, stepB hB hB2 hB.size⟩
      · have hR : NumR s 0 false := ⟨fun h => (by cases h), fun _ v2 h _ => by rw [hp] at h; cases h; exact hd⟩
        have hc : ((decB v).toList == s.toList) = false := by rw [ba_beq, decide_eq_false hd]
        clear hp hd
        generalize decB v = D at HD hc
        go_enter Tryz.func147, Tryz.ntmps147
        go_wp2_with fail
        refine HP.out.mono ?_
        rintro e w1 ⟨rfl, hB⟩
        go_wp2_with fail
        refine (HD.out (by omega) _ hB).mono ?_
        rintro e w2 ⟨rfl, hB2⟩
        go_wp2
        go_ret2
        exact ⟨⟨0, false, rfl, hR⟩, stepB hB hB2 hB.size⟩
  | «syntax» =>
    obtain ⟨ev, c1, i1⟩ := hN.e1
    have HP := Lib.hid (Tryz.strconv_ParseInt_10_at64_syntax s (by omega) hp ev w c1 i1)
    have hR : NumR s 0 false := ⟨fun h => (by cases h), fun _ v h => by rw [hp] at h; cases h⟩
    clear hPI hp
    go_enter Tryz.func147, Tryz.ntmps147
    go_wp2_with fail
    refine HP.out.mono ?_
    rintro e w1 ⟨N, rfl, -, -, hB⟩
    go_wp2
    go_ret2
    exact ⟨⟨0, false, rfl, hR⟩, hB⟩
  | range =>
    obtain ⟨ev, c1, i1⟩ := hN.e2
    have HP := Lib.hid (Tryz.strconv_ParseInt_10_at64_range s (by omega) hp ev w c1 i1)
    have hR : NumR s 0 false := ⟨fun h => (by cases h), fun _ v h => by rw [hp] at h; cases h⟩
    clear hPI hp
    generalize Lib.intSat 64 s.data.toList = V at HP
    go_enter Tryz.func147, Tryz.ntmps147
    go_wp2_with fail
    refine HP.out.mono ?_
    rintro e w1 ⟨N, rfl, -, -, hB⟩
    go_wp2
    go_ret2
    exact ⟨⟨0, false, rfl, hR⟩, hB⟩
end

section
open Go.ChangeShapes Go.WideShapes Go.ChangeAt Go.RowKit Go.IntWalk

theorem suf_yes {l : List UInt8} (h : (l.map uv).getLast? = some 106) : Lib.hasSuffix (l.map uv) [106] = true ∧ Lib.trimSuffix (l.map uv) [106] ++ [105] = plL l := by
  obtain ⟨ys, e⟩ := List.getLast?_eq_some_iff.1 h
  have h1 : Lib.hasSuffix (l.map uv) [106] = true := by
    unfold Lib.hasSuffix
    rw [e]
    simp
  refine ⟨h1, ?_⟩
  unfold Lib.trimSuffix plL
  rw [if_pos h1, if_pos h, List.dropLast_eq_take]
  rfl
theorem suf_no {l : List UInt8} (h : ¬ (l.map uv).getLast? = some 106) : Lib.hasSuffix (l.map uv) [106] = false ∧ Lib.trimSuffix (l.map uv) [106] = plL l := by
  have h1 : Lib.hasSuffix (l.map uv) [106] = false := by
    unfold Lib.hasSuffix
    apply Bool.eq_false_iff.2
    intro hs
    rw [List.isSuffixOf_iff_suffix] at hs
    obtain ⟨ys, e⟩ := hs
    exact h (List.getLast?_eq_some_iff.2 ⟨ys, e.symm⟩)
  refine ⟨h1, ?_⟩
  unfold Lib.trimSuffix plL
  rw [h1, if_neg h]
  rfl
/-- A letter's place among ivxlcdm and what it counts. -/
theorem ix7 (b : UInt8) : (lv b = 0 ∧ Lib.indexByte [105, 118, 120, 108, 99, 100, 109] b = -1) ∨ (lv b ≠ 0 ∧ ∃ j : Nat, j < 7 ∧ Lib.indexByte [105, 118, 120, 108, 99, 100, 109] b = j ∧ (#[Value.int .i64 1, .int .i64 5, .int .i64 10, .int .i64 50, .int .i64 100, .int .i64 500, .int .i64 1000])[j]? = some (.int .i64 (lv b))) := by
  by_cases h0 : b = 105
  · subst h0; exact .inr ⟨by decide, 0, by decide, by decide, rfl⟩
  by_cases h1 : b = 118
  · subst h1; exact .inr ⟨by decide, 1, by decide, by decide, rfl⟩
  by_cases h2 : b = 120
  · subst h2; exact .inr ⟨by decide, 2, by decide, by decide, rfl⟩
  by_cases h3 : b = 108
  · subst h3; exact .inr ⟨by decide, 3, by decide, by decide, rfl⟩
  by_cases h4 : b = 99
  · subst h4; exact .inr ⟨by decide, 4, by decide, by decide, rfl⟩
  by_cases h5 : b = 100
  · subst h5; exact .inr ⟨by decide, 5, by decide, by decide, rfl⟩
  by_cases h6 : b = 109
  · subst h6; exact .inr ⟨by decide, 6, by decide, by decide, rfl⟩
  left
  refine ⟨by unfold lv; simp [h0, h1, h2, h3, h4, h5, h6], ?_⟩
  have e : ∀ k : UInt8, ¬ b = k → (k == b) = false := fun k hk => by simp only [beq_eq_false_iff_ne, ne_eq]; exact fun h => hk h.symm
  simp [Lib.indexByte, e _ h0, e _ h1, e _ h2, e _ h3, e _ h4, e _ h5, e _ h6]
theorem indexByte7_any (b : UInt8) (w : World) :
    Calls Tryz.prog 199 #[.string ⟨#[105, 118, 120, 108, 99, 100, 109]⟩, .int .u8 (b.toNat : Int)] w fun e w' => e = .returned (.int .i64 (Lib.indexByte [105, 118, 120, 108, 99, 100, 109] b)) ∧ w' = w := by
  have h := Tryz.strings_IndexByte ⟨#[105, 118, 120, 108, 99, 100, 109]⟩ (b.toNat : Int) w
  rw [show ((b.toNat : Int).toNat.toUInt8) = b by rw [Int.toNat_natCast]; simp] at h
  exact h
set_option maxRecDepth 100000 in
set_option maxHeartbeats 4000000 in
theorem implReadNumeral_any (s : ByteArray) (hs : s.size ≤ 1048576) (w : World) :
    Calls Tryz.prog 149 #[.string s] w fun e w' => e = .returned (.tuple #[.int .i64 (numI s.data.toList), .bool (decide (1 ≤ numI s.data.toList))]) ∧ Below w.heap.size w w' := by
  have hln : s.data.toList.length = s.size := (Lib.size_eq s).symm
  by_cases hsz : 1 ≤ s.size ∧ s.size ≤ 20
  · have hRep := Lib.hid (fun W => replaceAll_uv s (by omega) W)
    have hpl := plL_length s.data.toList
    have hq0 := Lib.hid (show numI s.data.toList = if (1 ≤ s.data.toList.length ∧ s.data.toList.length ≤ 20 ∧ (∀ x ∈ plL s.data.toList, lv x ≠ 0) ∧ (1 ≤ lsum (plL s.data.toList) ∧ lsum (plL s.data.toList) ≤ 3999) ∧ (plL s.data.toList = formL (lsum (plL s.data.toList)).toNat false ∨ plL s.data.toList = formL (lsum (plL s.data.toList)).toNat true)) then lsum (plL s.data.toList) else 0 from rfl)
    have hys := Lib.hid (fun h => suf_yes (l := s.data.toList) h)
    have hns := Lib.hid (fun h => suf_no (l := s.data.toList) h)
    generalize numI s.data.toList = V at hq0 ⊢
    generalize hl : s.data.toList = l at hln hRep hpl hq0 hys hns
    obtain ⟨P, hPd⟩ : ∃ P : ByteArray, P.data.toList = plL l := ⟨⟨(plL l).toArray⟩, by simp⟩
    have hPs : P.size = s.size := by rw [Lib.size_eq, hPd, hpl, hln]
    have hP20 : P.size ≤ 20 := by omega
    have hP1 : 1 ≤ P.size := by omega
    have hPP : P = ⟨(plL l).toArray⟩ := by rw [← hPd]
    have g1 : ¬ (s.size : Int) < 1 := by omega
    have g2 : ¬ 20 < (s.size : Int) := by omega
    have hlen1 : 1 ≤ l.length := by omega
    have hlen2 : l.length ≤ 20 := by omega
    rw [← hPd] at hq0
    by_cases hsuf : (l.map uv).getLast? = some 106
    · obtain ⟨e1, e2⟩ := hys.out hsuf
      have HC := Lib.hid (fun W => Tryz.strings_CutSuffix ⟨(l.map uv).toArray⟩ ⟨#[106]⟩ W (by rw [Lib.size_eq]; simp; omega))
      rw [show (⟨(l.map uv).toArray⟩ : ByteArray).data.toList = l.map uv by simp, show (⟨#[106]⟩ : ByteArray).data.toList = [106] from rfl, e1] at HC
      have hT := Lib.hid (show (⟨(Lib.trimSuffix (l.map uv) [106]).toArray⟩ : ByteArray) ++ ⟨#[105]⟩ = P by
        rw [show (#[105] : Array UInt8) = [105].toArray from rfl, ByteArray.mk_append_mk, hPP, ← e2])
      have hTs : (⟨(Lib.trimSuffix (l.map uv) [106]).toArray⟩ : ByteArray).size + 1 = P.size := by
        rw [← hT.out, ByteArray.size_append]; rfl
      generalize (⟨(Lib.trimSuffix (l.map uv) [106]).toArray⟩ : ByteArray) = T at HC hT hTs
      generalize (⟨(l.map uv).toArray⟩ : ByteArray) = R at HC hRep
      have z0 : (9223372036854775807 < T.size + 1) = False := eq_false (by omega)
      clear e1 e2 hsuf hTs hys hns hl hln hpl hPd hPP hPs
      go_enter Tryz.func149, Tryz.ntmps149
      go_wp2_with fail
      refine (hRep.out _).mono ?_
      rintro e w1 ⟨rfl, hB1⟩
      go_wp2_with fail
      refine (HC.out _).mono ?_
      rintro e w' ⟨rfl, hw⟩
      subst hw
      go_upto_region 7 with (fail)
      rw [hT.out]
      clear HC hT z0 hRep
      have v0 : IntKind.i64.wrap ((P.size : Int) - 1) = (P.size : Int) - 1 := by rw [IntKind.wrap_i64]; omega
      go_wp2
      clear v0
      go_loopw [7, 8, 9] (fun n nx i wr => ∃ (k : Nat) (a b j : Int), k ≤ P.size ∧ i = .int .i64 j ∧ n = .int .i64 a ∧ nx = .int .i64 b ∧ ((k : Int) ≤ j + 1 ∧ j + 1 ≤ (k : Int)) ∧ Hid (a = lsum (P.data.toList.drop k)) ∧ Hid (b = hdv (P.data.toList.drop k)) ∧ (-(1000 * ((P.size : Int) - k)) ≤ a ∧ a ≤ 1000 * ((P.size : Int) - k)) ∧ (0 ≤ b ∧ b ≤ 1000) ∧ Hid (∀ x ∈ P.data.toList.drop k, lv x ≠ 0) ∧ Below w.heap.size w wr) (fun _ _ i _ => ((intOf i) + 1).toNat)
      case atStart => exact ⟨P.size, 0, 0, _, Nat.le_refl _, rfl, rfl, rfl, by omega, Lib.hid lsum_past.symm, Lib.hid (hdv_past (Nat.lt_irrefl _)).symm, by omega, by omega, Lib.hid (by rw [List.drop_eq_nil_of_le (by rw [Lib.size_eq]; exact Nat.le_refl _)]; intro x hx; cases hx), hB1⟩
      case round =>
        clear hB1
        obtain ⟨k, a, b, j, hk, rfl, rfl, rfl, hj, ha, hb, hab, hbb, hall, hB⟩ := hrel
        by_cases hk0 : k = 0
        · subst hk0
          obtain rfl : j = -1 := by omega
          have ha' := ha.out
          have hal := hall.out
          rw [List.drop_zero] at ha' hal
          rw [← ha'] at hq0
          replace hal := Lib.hid hal
          clear ha ha' hb hall
          have HB := Lib.hid (fun W => isNumeral_any a W)
          by_cases hin : 1 ≤ a ∧ a ≤ 3999
          · obtain ⟨m, rfl⟩ := Int.eq_ofNat_of_zero_le (show 0 ≤ a by omega)
            have hi : inB (m : Int) 1 3999 = true := by unfold inB; simp; omega
            have HF0 := Lib.hid (fun W => numeralOf_any m (by omega) false W)
            have HF1 := Lib.hid (fun W => numeralOf_any m (by omega) true W)
            have hd1 : decide (1 ≤ (m : Int)) = true := by simp; omega
            rw [hi] at HB
            by_cases e0 : P.data.toList = formL m false
            · have hq : V = (m : Int) := by rw [hq0.out, if_pos ⟨hlen1, hlen2, hal.out, hin, Or.inl e0⟩]
              have hc := (eqF P (formL m false)).2 e0
              replace hq := Lib.hid hq
              generalize (⟨(formL m false).toArray⟩ : ByteArray) = F0 at hc HF0
              clear hq0 e0 HF1 hal
              go_wp2_with fail
              refine (HB.out _).mono ?_
              rintro e w' ⟨rfl, hw⟩
              subst hw
              go_wp2_with fail
              refine (HF0.out _).mono ?_
              rintro e w4 ⟨rfl, hB2⟩
              replace hB := stepB hB hB2 hB.size
              clear hB2
              go_wp2
              go_ret2
              exact ⟨by rw [hq.out, hd1]; rfl, hB⟩
            · have hc := Bool.eq_false_iff.2 (fun h => e0 ((eqF P (formL m false)).1 h))
              by_cases e1 : P.data.toList = formL m true
              · have hq : V = (m : Int) := by rw [hq0.out, if_pos ⟨hlen1, hlen2, hal.out, hin, Or.inr e1⟩]
                have hc1 := (eqF P (formL m true)).2 e1
                replace hq := Lib.hid hq
                generalize (⟨(formL m false).toArray⟩ : ByteArray) = F0 at hc HF0
                generalize (⟨(formL m true).toArray⟩ : ByteArray) = F1 at hc1 HF1
                clear hq0 e0 e1 hal
                go_wp2_with fail
                refine (HB.out _).mono ?_
                rintro e w' ⟨rfl, hw⟩
                subst hw
                go_wp2_with fail
                refine (HF0.out _).mono ?_
                rintro e w4 ⟨rfl, hB2⟩
                replace hB := stepB hB hB2 hB.size
                clear hB2
                go_wp2_with fail
                refine (HF1.out _).mono ?_
                rintro e w5 ⟨rfl, hB2⟩
                replace hB := stepB hB hB2 hB.size
                clear hB2
                go_wp2
                go_ret2
                exact ⟨by rw [hq.out, hd1]; rfl, hB⟩
              · have hq : V = 0 := by rw [hq0.out, if_neg (fun h => h.2.2.2.2.elim e0 e1)]
                have hc1 := Bool.eq_false_iff.2 (fun h => e1 ((eqF P (formL m true)).1 h))
                replace hq := Lib.hid hq
                generalize (⟨(formL m false).toArray⟩ : ByteArray) = F0 at hc HF0
                generalize (⟨(formL m true).toArray⟩ : ByteArray) = F1 at hc1 HF1
                clear hq0 e0 e1 hd1 hal
                go_wp2_with fail
                refine (HB.out _).mono ?_
                rintro e w' ⟨rfl, hw⟩
                subst hw
                go_wp2_with fail
                refine (HF0.out _).mono ?_
                rintro e w4 ⟨rfl, hB2⟩
                replace hB := stepB hB hB2 hB.size
                clear hB2
                go_wp2_with fail
                refine (HF1.out _).mono ?_
                rintro e w5 ⟨rfl, hB2⟩
                replace hB := stepB hB hB2 hB.size
                clear hB2
                go_wp2
                go_ret2
                exact ⟨by rw [hq.out]; rfl, hB⟩
          · have hi : inB a 1 3999 = false := by unfold inB; simp; omega
            have hq : V = 0 := by rw [hq0.out, if_neg (fun h => hin h.2.2.2.1)]
            rw [hi] at HB
            replace hq := Lib.hid hq
            clear hq0 hin hal
            go_wp2_with fail
            refine (HB.out _).mono ?_
            rintro e w' ⟨rfl, hw⟩
            subst hw
            go_wp2
            go_ret2
            exact ⟨by rw [hq.out]; rfl, hB⟩
        · obtain ⟨m, rfl⟩ : ∃ m, k = m + 1 := ⟨k - 1, by omega⟩
          obtain rfl : j = (m : Int) := by omega
          have hm : m < P.size := by omega
          have hA := lsum_at hm
          have hD := hdv_at hm
          rw [← ha.out, ← hb.out] at hA
          replace hA := Lib.hid hA
          replace hD := Lib.hid hD
          have hbd := lv_bd P[m]
          have hdr : P.data.toList.drop m = P[m] :: P.data.toList.drop (m + 1) := by
            have h1 : m < P.data.toList.length := by rw [← Lib.size_eq]; exact hm
            rw [List.drop_eq_getElem_cons h1]
            simp
            rfl
          have hmem : P[m] ∈ P.data.toList := by
            have h2 : P[m] ∈ P.data.toList.drop m := by rw [hdr]; simp
            exact List.mem_of_mem_drop h2
          have HX := Lib.hid (fun W => indexByte7_any P[m] W)
          clear hk0 ha hb
          rcases ix7 P[m] with ⟨hz0, e⟩ | ⟨hnz, jj, hjj, e, hc⟩
          · have hq : V = 0 := by rw [hq0.out, if_neg (fun h => h.2.2.1 _ hmem hz0)]
            rw [e] at HX
            replace hq := Lib.hid hq
            clear hq0 e hz0 hmem hdr hA hD hall
            go_wp2_with fail
            refine (HX.out _).mono ?_
            rintro e w' ⟨rfl, hw⟩
            subst hw
            go_wp2
            go_ret2
            exact ⟨by rw [hq.out]; rfl, hB⟩
          · have hall2 := Lib.hid (show ∀ x ∈ P.data.toList.drop m, lv x ≠ 0 by
              rw [hdr]
              intro x hx
              rcases List.mem_cons.1 hx with rfl | hx
              · exact hnz
              · exact hall.out x hx)
            rw [e] at HX
            obtain ⟨w3, hw3⟩ : ∃ w3, wr.alloc (.cells #[.int .i64 1, .int .i64 5, .int .i64 10, .int .i64 50, .int .i64 100, .int .i64 500, .int .i64 1000] 2) = w3 := ⟨_, rfl⟩
            have hz : Below wr.heap.size wr w3 := hw3 ▸ (Below.refl _ wr).alloc (Nat.le_refl _) _
            have cL : w3.cell? ⟨wr.heap.size, jj, none⟩ = some (.int .i64 (lv P[m])) := by rw [← hw3, World.cell?_alloc_at _ _ _ _ rfl]; exact hc
            replace hB := stepB hB hz hB.size
            generalize lv P[m] = v at hA hD hbd cL
            have v4 : IntKind.i64.wrap (a - v) = a - v := by rw [IntKind.wrap_i64]; omega
            have v5 : IntKind.i64.wrap (a + v) = a + v := by rw [IntKind.wrap_i64]; omega
            have v6 : IntKind.i64.wrap ((m : Int) - 1) = (m : Int) - 1 := by rw [IntKind.wrap_i64]; omega
            clear e hc hnz hmem hdr hall hz
            by_cases hvb : v < b
            · go_wp2_with fail
              refine (HX.out _).mono ?_
              rintro e w' ⟨rfl, hw⟩
              subst hw
              go_wp2
              try rw [hw3]
              go_roundw
              case rel => exact ⟨m, a - v, v, _, by omega, rfl, rfl, rfl, by omega, Lib.hid (by have h2 := hA.out; rw [if_pos hvb] at h2; omega), Lib.hid hD.out.symm, by omega, by omega, hall2, hB⟩
              case measure => simp only [intOf]; omega
            · go_wp2_with fail
              refine (HX.out _).mono ?_
              rintro e w' ⟨rfl, hw⟩
              subst hw
              go_wp2
              try rw [hw3]
              go_roundw
              case rel => exact ⟨m, a + v, v, _, by omega, rfl, rfl, rfl, by omega, Lib.hid (by have h2 := hA.out; rw [if_neg (by omega)] at h2; omega), Lib.hid hD.out.symm, by omega, by omega, hall2, hB⟩
              case measure => simp only [intOf]; omega
    · obtain ⟨e1, e2⟩ := hns.out hsuf
      have HC := Lib.hid (fun W => Tryz.strings_CutSuffix ⟨(l.map uv).toArray⟩ ⟨#[106]⟩ W (by rw [Lib.size_eq]; simp; omega))
      rw [show (⟨(l.map uv).toArray⟩ : ByteArray).data.toList = l.map uv by simp, show (⟨#[106]⟩ : ByteArray).data.toList = [106] from rfl, e1] at HC
      have hT := Lib.hid (show (⟨(l.map uv).toArray⟩ : ByteArray) = P by
        rw [hPP]; unfold plL; rw [if_neg hsuf])
      generalize (⟨(Lib.trimSuffix (l.map uv) [106]).toArray⟩ : ByteArray) = T at HC
      generalize (⟨(l.map uv).toArray⟩ : ByteArray) = R at HC hRep hT
      obtain rfl := hT.out.symm
      clear hT e1 e2 hsuf hys hns hl hln hpl hPd hPP hPs
      go_enter Tryz.func149, Tryz.ntmps149
      go_wp2_with fail
      refine (hRep.out _).mono ?_
      rintro e w1 ⟨rfl, hB1⟩
      go_wp2_with fail
      refine (HC.out _).mono ?_
      rintro e w' ⟨rfl, hw⟩
      subst hw
      go_upto_region 7 with (fail)
      clear HC hRep
      have v0 : IntKind.i64.wrap ((P.size : Int) - 1) = (P.size : Int) - 1 := by rw [IntKind.wrap_i64]; omega
      go_wp2
      clear v0
      go_loopw [7, 8, 9] (fun n nx i wr => ∃ (k : Nat) (a b j : Int), k ≤ P.size ∧ i = .int .i64 j ∧ n = .int .i64 a ∧ nx = .int .i64 b ∧ ((k : Int) ≤ j + 1 ∧ j + 1 ≤ (k : Int)) ∧ Hid (a = lsum (P.data.toList.drop k)) ∧ Hid (b = hdv (P.data.toList.drop k)) ∧ (-(1000 * ((P.size : Int) - k)) ≤ a ∧ a ≤ 1000 * ((P.size : Int) - k)) ∧ (0 ≤ b ∧ b ≤ 1000) ∧ Hid (∀ x ∈ P.data.toList.drop k, lv x ≠ 0) ∧ Below w.heap.size w wr) (fun _ _ i _ => ((intOf i) + 1).toNat)
      case atStart => exact ⟨P.size, 0, 0, _, Nat.le_refl _, rfl, rfl, rfl, by omega, Lib.hid lsum_past.symm, Lib.hid (hdv_past (Nat.lt_irrefl _)).symm, by omega, by omega, Lib.hid (by rw [List.drop_eq_nil_of_le (by rw [Lib.size_eq]; exact Nat.le_refl _)]; intro x hx; cases hx), hB1⟩
      case round =>
        clear hB1
        obtain ⟨k, a, b, j, hk, rfl, rfl, rfl, hj, ha, hb, hab, hbb, hall, hB⟩ := hrel
        by_cases hk0 : k = 0
        · subst hk0
          obtain rfl : j = -1 := by omega
          have ha' := ha.out
          have hal := hall.out
          rw [List.drop_zero] at ha' hal
          rw [← ha'] at hq0
          replace hal := Lib.hid hal
          clear ha ha' hb hall
          have HB := Lib.hid (fun W => isNumeral_any a W)
          by_cases hin : 1 ≤ a ∧ a ≤ 3999
          · obtain ⟨m, rfl⟩ := Int.eq_ofNat_of_zero_le (show 0 ≤ a by omega)
            have hi : inB (m : Int) 1 3999 = true := by unfold inB; simp; omega
            have HF0 := Lib.hid (fun W => numeralOf_any m (by omega) false W)
            have HF1 := Lib.hid (fun W => numeralOf_any m (by omega) true W)
            have hd1 : decide (1 ≤ (m : Int)) = true := by simp; omega
            rw [hi] at HB
            by_cases e0 : P.data.toList = formL m false
            · have hq : V = (m : Int) := by rw [hq0.out, if_pos ⟨hlen1, hlen2, hal.out, hin, Or.inl e0⟩]
              have hc := (eqF P (formL m false)).2 e0
              replace hq := Lib.hid hq
              generalize (⟨(formL m false).toArray⟩ : ByteArray) = F0 at hc HF0
              clear hq0 e0 HF1 hal
              go_wp2_with fail
              refine (HB.out _).mono ?_
              rintro e w' ⟨rfl, hw⟩
              subst hw
              go_wp2_with fail
              refine (HF0.out _).mono ?_
              rintro e w4 ⟨rfl, hB2⟩
              replace hB := stepB hB hB2 hB.size
              clear hB2
              go_wp2
              go_ret2
              exact ⟨by rw [hq.out, hd1]; rfl, hB⟩
            · have hc := Bool.eq_false_iff.2 (fun h => e0 ((eqF P (formL m false)).1 h))
              by_cases e1 : P.data.toList = formL m true
              · have hq : V = (m : Int) := by rw [hq0.out, if_pos ⟨hlen1, hlen2, hal.out, hin, Or.inr e1⟩]
                have hc1 := (eqF P (formL m true)).2 e1
                replace hq := Lib.hid hq
                generalize (⟨(formL m false).toArray⟩ : ByteArray) = F0 at hc HF0
                generalize (⟨(formL m true).toArray⟩ : ByteArray) = F1 at hc1 HF1
                clear hq0 e0 e1 hal
                go_wp2_with fail
                refine (HB.out _).mono ?_
                rintro e w' ⟨rfl, hw⟩
                subst hw
                go_wp2_with fail
                refine (HF0.out _).mono ?_
                rintro e w4 ⟨rfl, hB2⟩
                replace hB := stepB hB hB2 hB.size
                clear hB2
                go_wp2_with fail
                refine (HF1.out _).mono ?_
                rintro e w5 ⟨rfl, hB2⟩
                replace hB := stepB hB hB2 hB.size
                clear hB2
                go_wp2
                go_ret2
                exact ⟨by rw [hq.out, hd1]; rfl, hB⟩
              · have hq : V = 0 := by rw [hq0.out, if_neg (fun h => h.2.2.2.2.elim e0 e1)]
                have hc1 := Bool.eq_false_iff.2 (fun h => e1 ((eqF P (formL m true)).1 h))
                replace hq := Lib.hid hq
                generalize (⟨(formL m false).toArray⟩ : ByteArray) = F0 at hc HF0
                generalize (⟨(formL m true).toArray⟩ : ByteArray) = F1 at hc1 HF1
                clear hq0 e0 e1 hd1 hal
                go_wp2_with fail
                refine (HB.out _).mono ?_
                rintro e w' ⟨rfl, hw⟩
                subst hw
                go_wp2_with fail
                refine (HF0.out _).mono ?_
                rintro e w4 ⟨rfl, hB2⟩
                replace hB := stepB hB hB2 hB.size
                clear hB2
                go_wp2_with fail
                refine (HF1.out _).mono ?_
                rintro e w5 ⟨rfl, hB2⟩
                replace hB := stepB hB hB2 hB.size
                clear hB2
                go_wp2
                go_ret2
                exact ⟨by rw [hq.out]; rfl, hB⟩
          · have hi : inB a 1 3999 = false := by unfold inB; simp; omega
            have hq : V = 0 := by rw [hq0.out, if_neg (fun h => hin h.2.2.2.1)]
            rw [hi] at HB
            replace hq := Lib.hid hq
            clear hq0 hin hal
            go_wp2_with fail
            refine (HB.out _).mono ?_
            rintro e w' ⟨rfl, hw⟩
            subst hw
            go_wp2
            go_ret2
            exact ⟨by rw [hq.out]; rfl, hB⟩
        · obtain ⟨m, rfl⟩ : ∃ m, k = m + 1 := ⟨k - 1, by omega⟩
          obtain rfl : j = (m : Int) := by omega
          have hm : m < P.size := by omega
          have hA := lsum_at hm
          have hD := hdv_at hm
          rw [← ha.out, ← hb.out] at hA
          replace hA := Lib.hid hA
          replace hD := Lib.hid hD
          have hbd := lv_bd P[m]
          have hdr : P.data.toList.drop m = P[m] :: P.data.toList.drop (m + 1) := by
            have h1 : m < P.data.toList.length := by rw [← Lib.size_eq]; exact hm
            rw [List.drop_eq_getElem_cons h1]
            simp
            rfl
          have hmem : P[m] ∈ P.data.toList := by
            have h2 : P[m] ∈ P.data.toList.drop m := by rw [hdr]; simp
            exact List.mem_of_mem_drop h2
          have HX := Lib.hid (fun W => indexByte7_any P[m] W)
          clear hk0 ha hb
          rcases ix7 P[m] with ⟨hz0, e⟩ | ⟨hnz, jj, hjj, e, hc⟩
          · have hq : V = 0 := by rw [hq0.out, if_neg (fun h => h.2.2.1 _ hmem hz0)]
            rw [e] at HX
            replace hq := Lib.hid hq
            clear hq0 e hz0 hmem hdr hA hD hall
            go_wp2_with fail
            refine (HX.out _).mono ?_
            rintro e w' ⟨rfl, hw⟩
            subst hw
            go_wp2
            go_ret2
            exact ⟨by rw [hq.out]; rfl, hB⟩
          · have hall2 := Lib.hid (show ∀ x ∈ P.data.toList.drop m, lv x ≠ 0 by
              rw [hdr]
              intro x hx
              rcases List.mem_cons.1 hx with rfl | hx
              · exact hnz
              · exact hall.out x hx)
            rw [e] at HX
            obtain ⟨w3, hw3⟩ : ∃ w3, wr.alloc (.cells #[.int .i64 1, .int .i64 5, .int .i64 10, .int .i64 50, .int .i64 100, .int .i64 500, .int .i64 1000] 2) = w3 := ⟨_, rfl⟩
            have hz : Below wr.heap.size wr w3 := hw3 ▸ (Below.refl _ wr).alloc (Nat.le_refl _) _
            have cL : w3.cell? ⟨wr.heap.size, jj, none⟩ = some (.int .i64 (lv P[m])) := by rw [← hw3, World.cell?_alloc_at _ _ _ _ rfl]; exact hc
            replace hB := stepB hB hz hB.size
            generalize lv P[m] = v at hA hD hbd cL
            have v4 : IntKind.i64.wrap (a - v) = a - v := by rw [IntKind.wrap_i64]; omega
            have v5 : IntKind.i64.wrap (a + v) = a + v := by rw [IntKind.wrap_i64]; omega
            have v6 : IntKind.i64.wrap ((m : Int) - 1) = (m : Int) - 1 := by rw [IntKind.wrap_i64]; omega
            clear e hc hnz hmem hdr hall hz
            by_cases hvb : v < b
            · go_wp2_with fail
              refine (HX.out _).mono ?_
              rintro e w' ⟨rfl, hw⟩
              subst hw
              go_wp2
              try rw [hw3]
              go_roundw
              case rel => exact ⟨m, a - v, v, _, by omega, rfl, rfl, rfl, by omega, Lib.hid (by have h2 := hA.out; rw [if_pos hvb] at h2; omega), Lib.hid hD.out.symm, by omega, by omega, hall2, hB⟩
              case measure => simp only [intOf]; omega
            · go_wp2_with fail
              refine (HX.out _).mono ?_
              rintro e w' ⟨rfl, hw⟩
              subst hw
              go_wp2
              try rw [hw3]
              go_roundw
              case rel => exact ⟨m, a + v, v, _, by omega, rfl, rfl, rfl, by omega, Lib.hid (by have h2 := hA.out; rw [if_neg (by omega)] at h2; omega), Lib.hid hD.out.symm, by omega, by omega, hall2, hB⟩
              case measure => simp only [intOf]; omega
  · have hq : numI s.data.toList = 0 := by
      unfold numI
      rw [if_neg]
      rintro ⟨h1, h2, -⟩
      exact hsz ⟨by omega, by omega⟩
    replace hq := Lib.hid hq
    clear hln
    by_cases h1 : s.size < 1
    · have g1 : (s.size : Int) < 1 := by omega
      go_enter Tryz.func149, Tryz.ntmps149
      go_wp2
      go_ret2
      exact ⟨by rw [hq.out]; rfl, Below.refl _ _⟩
    · have g1 : ¬ (s.size : Int) < 1 := by omega
      have g2 : 20 < (s.size : Int) := by omega
      go_enter Tryz.func149, Tryz.ntmps149
      go_wp2
      go_ret2
      exact ⟨by rw [hq.out]; rfl, Below.refl _ _⟩
set_option maxRecDepth 100000 in
set_option maxHeartbeats 2000000 in
theorem implReadNumber_any (s : ByteArray) (hs : s.size ≤ 1048576) (w : World) (hN : NumW w) :
    Calls Tryz.prog 89 #[.string s] w fun e w' => e = .returned (.tuple #[.int .i64 (rnB s), .bool (decide (1 ≤ rnB s))]) ∧ Below w.heap.size w w' := by
  have HR := Lib.hid (fun W => numI_eq s.data.toList ▸ implReadNumeral_any s hs W)
  have HD := Lib.hid (number_any s hs w hN)
  have hparse := Lib.hid (fun (v : Int) (h0 : 1 ≤ v) (h1 : v ≤ 3999) (h : decB v = s) => rnB_parsed h0 h1 h)
  have hno := Lib.hid (rnB_unparsed (s := s))
  clear hN hs
  go_enter Tryz.func89, Tryz.ntmps89
  go_wp2_with fail
  refine HD.out.mono ?_
  rintro e w1 ⟨⟨v, ok, rfl, hO⟩, hB1⟩
  cases ok with
  | false =>
    have hq : rnB s = numL s.data.toList := hno.out (fun v h h0 _ => hO.2 rfl v h (by omega))
    replace hq := Lib.hid hq
    clear hO hparse hno HD
    go_wp2_with fail
    refine (HR.out _).mono ?_
    rintro e w2 ⟨rfl, hB2⟩
    go_wp2
    go_ret2
    exact ⟨by rw [hq.out]; rfl, stepB hB1 hB2 hB1.size⟩
  | true =>
    obtain ⟨hv, hs⟩ := hO.1 rfl
    have HB := Lib.hid (fun W => isNumeral_any v W)
    by_cases hin : 1 ≤ v ∧ v ≤ 3999
    · have hi : inB v 1 3999 = true := by unfold inB; simp; omega
      have hq : rnB s = v := hparse.out v hin.1 hin.2 hs
      have hd1 : decide (1 ≤ v) = true := by simp; omega
      replace hq := Lib.hid hq
      rw [hi] at HB
      clear hO hparse hno hv hs HD
      go_wp2_with fail
      refine (HB.out _).mono ?_
      rintro e w' ⟨rfl, rfl⟩
      go_wp2
      go_ret2
      exact ⟨by rw [hq.out, hd1]; rfl, hB1⟩
    · have hi : inB v 1 3999 = false := by unfold inB; simp; omega
      have hq : rnB s = numL s.data.toList := hno.out (fun v2 h h0 h1 e => by
        have h3 : v2 = v := by
          obtain ⟨n, rfl⟩ := Int.eq_ofNat_of_zero_le (show 0 ≤ v2 by omega)
          obtain ⟨m, rfl⟩ := Int.eq_ofNat_of_zero_le hv
          have h4 := dgv_dec e
          have h5 := dgv_dec hs
          omega
        omega)
      replace hq := Lib.hid hq
      rw [hi] at HB
      clear hO hparse hno hv hs hin HD
      go_wp2_with fail
      refine (HB.out _).mono ?_
      rintro e w' ⟨rfl, rfl⟩
      go_wp2_with fail
      refine (HR.out _).mono ?_
      rintro e w2 ⟨rfl, hB2⟩
      go_wp2
      go_ret2
      exact ⟨by rw [hq.out]; rfl, stepB hB1 hB2 hB1.size⟩
end
end Go.Proofs.YteajkofgcmfaoaaGreatDoor
