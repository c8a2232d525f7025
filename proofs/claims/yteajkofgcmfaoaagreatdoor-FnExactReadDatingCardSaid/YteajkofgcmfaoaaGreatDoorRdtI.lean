/- Walks: ReadDating of both sides. Printed by gen_rdt.py. -/
import Derived.Test.YteajkofgcmfaoaaGreatDoorRdF
import Derived.Test.YteajkofgcmfaoaaGreatDoorDt
import Derived.Test.YteajkofgcmfaoaaGreatDoorRowI
namespace Go.Proofs.YteajkofgcmfaoaaGreatDoor
open Go.ChangeShapes Go.WideShapes Go.ChangeAt Go.RowKit Go.IntWalk

noncomputable def rdC (p : ByteArray) : Cl := readI rnB (wsB 32 p)
noncomputable def rdL (s : ByteArray) : List Cl := (wsB 44 s).map rdC
/-- A dating read from its text, and the code. -/
noncomputable def rdD (s : ByteArray) : List Cl × Int := if s = ⟨#[]⟩ then ([], 0) else if isDatingB (rdL s) then (rdL s, 0) else ([], 6)
theorem rdD_len (s : ByteArray) : (rdD s).1.length ≤ 8 := by
  unfold rdD
  split
  · simp
  · split
    · rename_i h
      unfold isDatingB at h
      simp only [Bool.and_eq_true, decide_eq_true_eq] at h
      exact h.2
    · simp
theorem one_cl (m : Cl) : ∀ u ∈ encCl m, u.oneCell' = true := fun u hu => by
  simp [encCl] at hu
  rcases hu with rfl | rfl | rfl | rfl | rfl | rfl | rfl | rfl <;> rfl
theorem take_cl {P : List ByteArray} {f : ByteArray → Cl} {k : Nat} {x : ByteArray} (h : P[k]? = some x) : ((P.map f).take (k + 1)).flatMap encCl = ((P.map f).take k).flatMap encCl ++ encCl (f x) := by
  have h2 : (P.map f)[k]? = some (f x) := by rw [List.getElem?_map, h]; rfl
  obtain ⟨hl, e⟩ := List.getElem?_eq_some_iff.1 h2
  rw [List.take_succ_eq_append_getElem hl, List.flatMap_append, e]
  simp
theorem hSC : 9 ≠ (31 : TypeId) := by decide
theorem rdR_ok {x : ByteArray} (h : okCl (rdC x) = true) : rdR x = (rdC x, 0) := if_pos h
theorem rdR_no {x : ByteArray} (h : okCl (rdC x) = false) : rdR x = (clZ, 6) := if_neg (fun e => by unfold rdC at h; rw [h] at e; cases e)
theorem dating_no {P : List ByteArray} {x : ByteArray} (hx : x ∈ P) (h : okCl (rdC x) = false) : isDatingB (P.map rdC) = false := by
  unfold isDatingB
  rw [Bool.and_eq_false_iff]
  left
  rw [List.all_eq_false]
  exact ⟨rdC x, List.mem_map.2 ⟨x, hx, rfl⟩, by rw [h]; decide⟩
theorem dating_long {P : List ByteArray} (h : 8 < P.length) : isDatingB (P.map rdC) = false := by
  unfold isDatingB
  rw [Bool.and_eq_false_iff]
  right
  simp; omega
theorem dating_yes {P : List ByteArray} (h : P.length ≤ 8) (ha : ∀ x ∈ P, okCl (rdC x) = true) : isDatingB (P.map rdC) = true := by
  unfold isDatingB
  simp only [Bool.and_eq_true, decide_eq_true_eq, List.all_eq_true, List.length_map]
  refine ⟨fun m hm => ?_, h⟩
  obtain ⟨x, hx, rfl⟩ := List.mem_map.1 hm
  exact ha x hx
/-- What ReadDating answers. -/
def RdDP (w : World) (R : List Cl × Int) (e : Ending) (w' : World) : Prop := ∃ b c, e = .returned (.tuple #[.slice b R.1.length c, .int .i64 R.2]) ∧ w'.ownsRow w.heap.size 31 8 (.slice b R.1.length c) R.1.length (R.1.flatMap encCl)
set_option maxRecDepth 100000 in
theorem implIsDating_big (a : Option Addr) (cap n : Nat) (w : World) (h : 8 < n) :
    Calls Tryz.prog 35 #[.slice a n cap] w fun e w' => e = .returned (.bool false) ∧ w' = w := by
  have h8 : ¬ (n : Int) ≤ 8 := by omega
  go_enter Tryz.func35, Tryz.ntmps35
  go_wp2
  go_ret
  exact ⟨rfl, rfl⟩
set_option maxRecDepth 100000 in
set_option maxHeartbeats 4000000 in
theorem implReadDating_any (s : ByteArray) (hs : s.size ≤ 1048576) (w : World) (hN : NumW w) :
    Calls Tryz.prog 8 #[.string s] w fun e w' => RdDP w (rdD s) e w' ∧ Below w.heap.size w w' := by
  have hq : rdD s = if s = ⟨#[]⟩ then ([], 0) else if isDatingB ((wsB 44 s).map rdC) then ((wsB 44 s).map rdC, 0) else ([], 6) := rfl
  have he := lit_beq s []
  by_cases h0 : s = ⟨#[]⟩
  · rw [if_pos h0] at hq
    rw [decide_eq_true h0] at he
    rw [hq]
    clear hq h0
    go_enter Tryz.func8, Tryz.ntmps8
    go_wp2
    go_ret2
    exact ⟨⟨none, 0, rfl, by simp, .inl ⟨rfl, rfl⟩⟩, Below.refl _ _⟩
  · rw [if_neg h0] at hq
    rw [decide_eq_false h0] at he
    have hln := wsB_len 44 s
    have hsz := wsB_part 44 s
    have HS := Lib.hid (fun W => split_ws s 44 W hs)
    obtain ⟨i0, hi, hz0, hz1, hz2⟩ := info_parts infoCl
    generalize rdD s = R at hq ⊢
    generalize wsB 44 s = P at hq hln hsz HS
    have HC : ∀ x ∈ P, ∀ W, NumW W → Calls Tryz.prog 40 #[.string x] W fun e w' => e = .returned (clV (rdC x)) ∧ Below W.heap.size W w' := fun x hx W h => readClause_any x (Nat.le_trans (hsz x hx) hs) W h
    have hkg : ∀ m ∈ P.map rdC, szCl m ≤ 1048576 := fun m hm => by
      obtain ⟨x, hx, rfl⟩ := List.mem_map.1 hm
      have h1 := hsz x hx
      have h2 := readI_king rnB x.size (wsB 32 x) (wsB_part 32 x)
      unfold szCl rdC
      omega
    have HD : P.length ≤ 8 → ∀ (g c : Nat) W, W.ownsRow w.heap.size 31 8 (.slice (some ⟨g, 0, none⟩) P.length c) P.length ((P.map rdC).flatMap encCl) → Calls Tryz.prog 35 #[.slice (some ⟨g, 0, none⟩) P.length c] W fun e w' => e = .returned (.bool (isDatingB (P.map rdC))) ∧ Below W.heap.size W w' := fun h8 g c W h => by
      have h1 := implIsDating_any (some ⟨g, 0, none⟩) c (P.map rdC) W (by rw [List.length_map]; omega) (Rd.of_own encCl_len (by decide) h) hkg
      rw [List.length_map] at h1
      exact h1
    have hlg := Lib.hid (fun h => dating_long (P := P) h)
    replace hkg := True.intro
    generalize rdC = f at hq HC HD hlg
    replace HC := Lib.hid HC
    replace HD := Lib.hid HD
    replace hq := Lib.hid hq
    have hBs : Below w.heap.size w (w.alloc (.cells #[] 31)) := (Below.refl _ w).alloc (Nat.le_refl _) _
    have howns := World.ownsRow_made w #[] 0 (Nat.le_refl _) (by decide) rfl (e := 31) (size := 8)
    clear h0
    go_enter Tryz.func8, Tryz.ntmps8
    go_wp2_with fail
    refine (HS.out _).mono ?_
    rintro e w1 ⟨g, rfl, wd, hB1⟩
    replace howns := own_below howns hB1
    have wdb := own_base wd hBs.size
    replace hBs := stepB hBs hB1 hBs.size
    clear hB1 HS wd
    go_wp2
    go_loopw [4, 13] (fun o i wr => ∃ (k og oc : Nat), k ≤ P.length ∧ i = .int .i64 k ∧ o = .slice (some ⟨og, 0, none⟩) k oc ∧ wr.ownsRow w.heap.size 31 8 (.slice (some ⟨og, 0, none⟩) k oc) k (((P.map f).take k).flatMap encCl) ∧ wr.ownsRow w.heap.size 9 1 (.slice (some ⟨g, 0, none⟩) P.length P.length) P.length (P.flatMap encS) ∧ Below w.heap.size w wr) (fun _ i _ => P.length - (intOf i).toNat)
    case atStart => exact ⟨0, _, _, Nat.zero_le _, rfl, rfl, howns, wdb, hBs⟩
    case round =>
      clear howns hBs wdb
      obtain ⟨k, og, oc, hk, rfl, rfl, ow, wd, hB⟩ := hrel
      by_cases hlt : k < P.length
      · have hk1 : (k : Int) < (P.length : Int) := by omega
        have v1 : IntKind.i64.wrap ((k : Int) + 1) = ((k + 1 : Nat) : Int) := by rw [IntKind.wrap_i64]; omega
        have hm := List.getElem?_eq_getElem hlt
        generalize P[k] = x at hm
        have c0 := own_str wd hm
        have hst := take_cl (f := f) hm
        have hC := HC.out x (List.mem_of_getElem? hm) wr (hN.below hB)
        generalize f x = m at hst hC
        unfold clV at hC
        replace hC := Lib.hid hC
        replace hst := Lib.hid hst
        clear hm
        go_wp2_with fail
        refine hC.out.mono ?_
        rintro e w3 ⟨rfl, hB3⟩
        replace ow := own_below ow hB3
        replace wd := own_below wd hB3
        replace hB := stepB hB hB3 hB.size
        clear hB3 hC c0
        have hown := ow
        have hz : Below w3.heap.size w3 (w3.alloc (.cells #[.int .i64 m.kind, .int .i64 m.number, .int .i64 m.month, .int .i64 m.feast, .int .i64 m.relation, .int .i64 m.weekday, .int .i64 m.style, .string m.king] 31)) := (Below.refl _ _).alloc (Nat.le_refl _) _
        replace ow := own_below ow hz
        replace wd := own_below wd hz
        replace hB := stepB hB hz hB.size
        have hap := own_apart wd ow hSC
        clear hz
        go_wp2_with (at_builtin; refine wpList_append_lst _ rfl _ _ 22 rfl w.heap.size 31 i0 (.agg #[.int .i64 0, .int .i64 0, .int .i64 0, .int .i64 0, .int .i64 0, .int .i64 0, .int .i64 0, .string ⟨#[]⟩]) 8 72 Tryz.underlying22 hi hz0 hz1 hz2 rfl (by decide) _ _ k (((P.map f).take k).flatMap encCl) rfl ow ⟨w3.heap.size, 0, none⟩ 1 1 (encCl m) rfl rfl (World.news_of_block (heap_alloc_new _ _)) (one_cl m) (by unfold maxLen; omega) (by omega) hB.size ?_)
        intro og2 oc2 W3 ow2 hgr hor
        rw [← hst.out] at ow2
        replace wd := wd.kept hgr (.inr (by simp [Value.ownBlock]; exact hap))
        replace hB := hB.grown hgr hB.size (fun g e => by cases e; exact (own_lt hown).1)
        clear hown hgr hor hap ow
        go_wp2
        go_roundw
        case rel => exact ⟨k + 1, og2, oc2, by omega, rfl, rfl, ow2, wd, hB⟩
        case measure => simp only [intOf]; omega
      · have hk1 : ¬ (k : Int) < (P.length : Int) := by omega
        obtain rfl : k = P.length := by omega
        rw [List.take_of_length_le (by rw [List.length_map]; exact Nat.le_refl _)] at ow
        by_cases h8 : P.length ≤ 8
        · have hD := HD.out h8 og oc wr ow
          cases hb : isDatingB (P.map f) with
          | true =>
            rw [hb] at hD
            have hq2 := Lib.hid (show R = (P.map f, 0) by rw [hq.out, hb]; rfl)
            replace hD := Lib.hid hD
            clear hb h8
            go_wp2_with fail
            refine hD.out.mono ?_
            rintro e w3 ⟨rfl, hB3⟩
            replace ow := own_below ow hB3
            go_wp2
            go_ret2
            rw [hq2.out]
            exact ⟨⟨some ⟨og, 0, none⟩, oc, by rw [List.length_map]; rfl, by rw [List.length_map]; exact ow⟩, stepB hB hB3 hB.size⟩
          | false =>
            rw [hb] at hD
            have hq2 := Lib.hid (show R = ([], 6) by rw [hq.out, hb]; rfl)
            replace hD := Lib.hid hD
            clear hb h8
            go_wp2_with fail
            refine hD.out.mono ?_
            rintro e w3 ⟨rfl, hB3⟩
            go_wp2
            go_ret2
            rw [hq2.out]
            exact ⟨⟨none, 0, rfl, by simp, .inl ⟨rfl, rfl⟩⟩, stepB hB hB3 hB.size⟩
        · have hq2 := Lib.hid (show R = ([], 6) by rw [hq.out, hlg.out (by omega)]; rfl)
          have hD := Lib.hid (implIsDating_big (some ⟨og, 0, none⟩) oc P.length wr (by omega))
          clear h8
          go_wp2_with fail
          refine hD.out.mono ?_
          rintro e w3 ⟨rfl, rfl⟩
          go_wp2
          go_ret2
          rw [hq2.out]
          exact ⟨⟨none, 0, rfl, by simp, .inl ⟨rfl, rfl⟩⟩, hB⟩
set_option maxRecDepth 100000 in
set_option maxHeartbeats 4000000 in
theorem specReadDating_any (s : ByteArray) (hs : s.size ≤ 1048576) (w : World) :
    Calls Tryz.prog 7 #[.string s] w fun e w' => RdDP w (rdD s) e w' ∧ Below w.heap.size w w' := by
  have hq : rdD s = if s = ⟨#[]⟩ then ([], 0) else if isDatingB ((wsB 44 s).map rdC) then ((wsB 44 s).map rdC, 0) else ([], 6) := rfl
  have he := lit_beq s []
  have hBs : Below w.heap.size w (w.alloc (.cells #[] 31)) := (Below.refl _ w).alloc (Nat.le_refl _) _
  by_cases h0 : s = ⟨#[]⟩
  · rw [if_pos h0] at hq
    rw [decide_eq_true h0] at he
    rw [hq]
    have howns := World.ownsRow_made w #[] 0 (Nat.le_refl _) (by decide) rfl (e := 31) (size := 8)
    clear hq h0
    go_enter Tryz.func7, Tryz.ntmps7
    go_wp2
    go_ret2
    exact ⟨⟨_, 0, rfl, howns⟩, hBs⟩
  · rw [if_neg h0] at hq
    rw [decide_eq_false h0] at he
    clear hBs
    have hln := wsB_len 44 s
    have hsz := wsB_part 44 s
    have HS := Lib.hid (fun W => show Calls Tryz.prog 38 #[.string s, .int .u8 44] W _ from l01Split_any s 44 W hs)
    obtain ⟨i0, hi, hz0, hz1, hz2⟩ := info_parts infoCl
    generalize rdD s = R at hq ⊢
    generalize wsB 44 s = P at hq hln hsz HS
    have HC : ∀ x ∈ P, ∀ W, Calls Tryz.prog 18 #[.string x] W fun e w' => e = .returned (.tuple #[clV (rdR x).1, .int .i64 (rdR x).2]) ∧ Below W.heap.size W w' := fun x hx W => specReadClause_any x (Nat.le_trans (hsz x hx) hs) W
    have hlg := Lib.hid (fun h => dating_long (P := P) h)
    have hno := Lib.hid (fun x hx h => dating_no (P := P) (x := x) hx h)
    have hys := Lib.hid (fun h h2 => dating_yes (P := P) h h2)
    have hr1 := Lib.hid (fun x h => rdR_ok (x := x) h)
    have hr0 := Lib.hid (fun x h => rdR_no (x := x) h)
    generalize rdC = f at hq hlg hno hys hr1 hr0
    replace HC := Lib.hid HC
    replace hq := Lib.hid hq
    clear h0 hsz
    go_enter Tryz.func7, Tryz.ntmps7
    go_wp2_with fail
    refine (HS.out _).mono ?_
    rintro e w1 ⟨g, cp, rfl, wd, hB1⟩
    have howns := World.ownsRow_made w1 #[] 0 hB1.size (by decide) rfl (base := w.heap.size) (e := 31) (size := 8)
    have hz : Below w1.heap.size w1 (w1.alloc (.cells #[] 31)) := (Below.refl _ w1).alloc (Nat.le_refl _) _
    replace wd := own_below wd hz
    have hBs := stepB hB1 hz hB1.size
    clear hB1 HS hz
    go_wp2
    go_loopw [5, 6] (fun o i wr => ∃ (k og oc : Nat), k ≤ P.length ∧ k ≤ 8 ∧ i = .int .i64 k ∧ o = .slice (some ⟨og, 0, none⟩) k oc ∧ wr.ownsRow w.heap.size 31 8 (.slice (some ⟨og, 0, none⟩) k oc) k (((P.map f).take k).flatMap encCl) ∧ wr.ownsRow w.heap.size 9 1 (.slice (some ⟨g, 0, none⟩) P.length cp) P.length (P.flatMap encS) ∧ Hid (∀ x ∈ P.take k, okCl (f x) = true) ∧ Below w.heap.size w wr) (fun _ i _ => P.length - (intOf i).toNat)
    case atStart => exact ⟨0, _, _, Nat.zero_le _, by omega, rfl, rfl, howns, wd, Lib.hid (fun x hx => by simp at hx), hBs⟩
    case round =>
      clear howns hBs wd
      obtain ⟨k, og, oc, hk, hk8, rfl, rfl, ow, wd, hall, hB⟩ := hrel
      by_cases hlt : k < P.length
      · have hk1 : (k : Int) < (P.length : Int) := by omega
        have v1 : IntKind.i64.wrap ((k : Int) + 1) = ((k + 1 : Nat) : Int) := by rw [IntKind.wrap_i64]; omega
        have hm := List.getElem?_eq_getElem hlt
        generalize P[k] = x at hm
        have c0 := own_str wd hm
        have hst := take_cl (f := f) hm
        have hC := HC.out x (List.mem_of_getElem? hm) wr
        cases hok : okCl (f x) with
        | false =>
          rw [hr0.out x hok] at hC
          have hq2 := Lib.hid (show R = ([], 6) by rw [hq.out, hno.out x (List.mem_of_getElem? hm) hok]; rfl)
          unfold clV clZ at hC
          replace hC := Lib.hid hC
          clear hm hst hok
          go_wp2_with fail
          refine hC.out.mono ?_
          rintro e w3 ⟨rfl, hB3⟩
          replace hB := stepB hB hB3 hB.size
          have hz := (Below.refl _ w3).alloc (Nat.le_refl _) (.cells #[.int .i64 0, .int .i64 0, .int .i64 0, .int .i64 0, .int .i64 0, .int .i64 0, .int .i64 0, .string ⟨#[]⟩] 31)
          go_wp2
          go_ret2
          rw [hq2.out]
          exact ⟨⟨none, 0, rfl, by simp, .inl ⟨rfl, rfl⟩⟩, stepB hB hz hB.size⟩
        | true =>
          rw [hr1.out x hok] at hC
          have hall2 := Lib.hid (show ∀ y ∈ P.take (k + 1), okCl (f y) = true from fun y hy => by
            obtain ⟨hl, e⟩ := List.getElem?_eq_some_iff.1 hm
            rw [List.take_succ_eq_append_getElem hl, e] at hy
            rcases List.mem_append.1 hy with hy | hy
            · exact hall.out y hy
            · rw [List.mem_singleton.1 hy]; exact hok)
          clear hm hall hok
          generalize f x = m at hst hC
          unfold clV at hC
          replace hC := Lib.hid hC
          replace hst := Lib.hid hst
          go_wp2_with fail
          refine hC.out.mono ?_
          rintro e w3 ⟨rfl, hB3⟩
          replace ow := own_below ow hB3
          replace wd := own_below wd hB3
          replace hB := stepB hB hB3 hB.size
          clear hB3 hC c0
          have hA := At.start w3 [.int .i64 m.kind, .int .i64 m.number, .int .i64 m.month, .int .i64 m.feast, .int .i64 m.relation, .int .i64 m.weekday, .int .i64 m.style, .string m.king] 31
          go_upto_region 9 with (fail)
          generalize hW : w3.alloc (.cells #[.int .i64 m.kind, .int .i64 m.number, .int .i64 m.month, .int .i64 m.feast, .int .i64 m.relation, .int .i64 m.weekday, .int .i64 m.style, .string m.king] 31) = w4 at hA ⊢
          clear hW
          replace ow := own_below ow hA.below
          replace wd := own_below wd hA.below
          replace hB := stepB hB hA.below hB.size
          by_cases h8 : k = 8
          · subst h8
            have hq2 := Lib.hid (show R = ([], 6) by rw [hq.out, hlg.out (by omega)]; rfl)
            go_wp2
            go_ret2
            rw [hq2.out]
            exact ⟨⟨none, 0, rfl, by simp, .inl ⟨rfl, rfl⟩⟩, hB⟩
          · have g8 : ((k : Int) == 8) = false := by simp; omega
            have c0 := hA.cell 0 _ rfl; have c1 := hA.cell 1 _ rfl; have c2 := hA.cell 2 _ rfl; have c3 := hA.cell 3 _ rfl; have c4 := hA.cell 4 _ rfl; have c5 := hA.cell 5 _ rfl; have c6 := hA.cell 6 _ rfl; have c7 := hA.cell 7 _ rfl
            clear hA
            have hown := ow
            have hz : Below w4.heap.size w4 (w4.alloc (.cells #[.int .i64 m.kind, .int .i64 m.number, .int .i64 m.month, .int .i64 m.feast, .int .i64 m.relation, .int .i64 m.weekday, .int .i64 m.style, .string m.king] 31)) := (Below.refl _ _).alloc (Nat.le_refl _) _
            replace ow := own_below ow hz
            replace wd := own_below wd hz
            replace hB := stepB hB hz hB.size
            have hap := own_apart wd ow hSC
            clear hz
            go_wp2_with (at_builtin; refine wpList_append_lst _ rfl _ _ 22 rfl w.heap.size 31 i0 (.agg #[.int .i64 0, .int .i64 0, .int .i64 0, .int .i64 0, .int .i64 0, .int .i64 0, .int .i64 0, .string ⟨#[]⟩]) 8 72 Tryz.underlying22 hi hz0 hz1 hz2 rfl (by decide) _ _ k (((P.map f).take k).flatMap encCl) rfl ow ⟨w4.heap.size, 0, none⟩ 1 1 (encCl m) rfl rfl (World.news_of_block (heap_alloc_new _ _)) (one_cl m) (by unfold maxLen; omega) (by omega) hB.size ?_)
            intro og2 oc2 W3 ow2 hgr hor
            rw [← hst.out] at ow2
            replace wd := wd.kept hgr (.inr (by simp [Value.ownBlock]; exact hap))
            replace hB := hB.grown hgr hB.size (fun g e => by cases e; exact (own_lt hown).1)
            clear hown hgr hor hap ow
            go_wp2
            go_roundw
            case rel => exact ⟨k + 1, og2, oc2, by omega, by omega, rfl, rfl, ow2, wd, hall2, hB⟩
            case measure => simp only [intOf]; omega
      · have hk1 : ¬ (k : Int) < (P.length : Int) := by omega
        obtain rfl : k = P.length := by omega
        have ha := hall.out
        rw [List.take_length] at ha
        rw [List.take_of_length_le (by rw [List.length_map]; exact Nat.le_refl _)] at ow
        have hq2 := Lib.hid (show R = (P.map f, 0) by rw [hq.out, hys.out hk8 ha]; rfl)
        clear ha hall
        go_wp2
        go_ret2
        rw [hq2.out]
        exact ⟨⟨some ⟨og, 0, none⟩, oc, by rw [List.length_map]; rfl, by rw [List.length_map]; exact ow⟩, hB⟩
end Go.Proofs.YteajkofgcmfaoaaGreatDoor
