/- Walk: a clause is drawn. Printed by gen_drc.py. -/
import Derived.Test.YtdbgnbohdplndaaGreatDoorRegnS
import Derived.Test.YtdbgnbohdplndaaGreatDoorDrl
import Derived.Test.YtdbgnbohdplndaaGreatDoorTCl
namespace Go.Proofs.YtdbgnbohdplndaaGreatDoor
section
open Go.ChangeShapes Go.WideShapes Go.ChangeAt Go.RowKit Go.IntWalk

theorem max_eq {a b c d : Int} (h1 : max a b = c) (h2 : c = d) : max a b = d := h1.trans h2
set_option maxRecDepth 100000 in
set_option maxHeartbeats 4000000 in
theorem nearest_any (n : Int) (w : World) (hn0 : 0 ≤ n) (hn : n ≤ 730499) :
    Calls Tryz.prog 146 #[.int .i64 n] w fun e w' => ∃ f a : Int, e = .returned (.tuple #[.int .i64 f, .int .i64 a, .int .i64 0]) ∧ (0 ≤ f ∧ f ≤ 19) ∧ Below w.heap.size w w' := by
  have HD := Lib.hid (fun W => l01Old_any n W hn0 hn)
  have hyb := yrO_bd hn0 hn
  have hfd := fldY (yrO n) (mnO n) (dyO n)
  have hday : dayB n = true := by unfold dayB inB; simp; omega
  have HDay := Lib.hid (fun W => hday ▸ l01Day_any n W)
  generalize yrO n = Y at HD hyb hfd
  generalize mnO n = M at HD hfd
  generalize dyO n = D at HD hfd
  have v1 := i64_in (Y - 1) (by omega)
  have v2 := i64_in (Y + 1) (by omega)
  obtain ⟨lo, hlo⟩ : ∃ lo : Int, lo = max 1 (Y - 1) := ⟨_, rfl⟩
  obtain ⟨hi, hhi⟩ : ∃ hi : Int, hi = min 2000 (Y + 1) := ⟨_, rfl⟩
  have hlb : 1 ≤ lo ∧ lo ≤ 2000 := by omega
  have hhb : 1 ≤ hi ∧ hi ≤ 2000 := by omega
  have hlo' := hlo.symm
  have hhi' := hhi.symm
  clear hlo hhi
  clear hday
  go_enter Tryz.func146, Tryz.ntmps146
  go_wp2_with fail
  refine (HDay.out _).mono ?_
  rintro e w0 ⟨rfl, rfl⟩
  go_wp2_with fail
  refine (HD.out _).mono ?_
  rintro e w1 ⟨rfl, hB⟩
  go_wp2
  go_loopw [6, 7, 8, 9] (fun b a fd i wr => ∃ (bb aa y : Int) (fb : Bool), b = .int .i64 bb ∧ a = .int .i64 aa ∧ fd = .bool fb ∧ i = .int .i64 y ∧ (0 ≤ bb ∧ bb ≤ 19) ∧ (-3000000 ≤ aa ∧ aa ≤ 3000000) ∧ (1 ≤ y ∧ y ≤ 2001) ∧ Below w.heap.size w wr) (fun _ _ _ i _ => (2001 - intOf i).toNat)
  case atStart => exact ⟨0, 0, lo, false, rfl, rfl, rfl, rfl, by decide, by decide, by omega, hB⟩
  case round =>
    clear hB
    obtain ⟨bb, aa, y, fb, rfl, rfl, rfl, rfl, hbb, haa, hy, hB⟩ := hrel
    by_cases hyh : y ≤ hi
    · have hy2 : 1 ≤ y ∧ y ≤ 2000 := by omega
      go_wp2
      go_loopw [6, 7, 8, 10] (fun b a fd i wr => ∃ (bb aa : Int) (k : Nat) (fb : Bool), b = .int .i64 bb ∧ a = .int .i64 aa ∧ fd = .bool fb ∧ i = .int .i64 k ∧ (0 ≤ bb ∧ bb ≤ 19) ∧ (-3000000 ≤ aa ∧ aa ≤ 3000000) ∧ k ≤ 20 ∧ Below w.heap.size w wr) (fun _ _ _ i _ => (20 - intOf i).toNat)
      case atStart => exact ⟨bb, aa, 0, fb, rfl, rfl, rfl, rfl, hbb, haa, by omega, hB⟩
      case round =>
        clear hB hbb haa
        obtain ⟨bb, aa, k, fb, rfl, rfl, rfl, rfl, hbb, haa, hk, hB⟩ := hrel
        by_cases hkl : k < 20
        · have hkl' : (k : Int) < 20 := by omega
          have hb1 := feO_bd (f := (k : Int)) (y := y) (by omega) (by omega)
          have hb2 : -400 ≤ nyO y ∧ nyO y ≤ 800000 := by unfold nyO; omega
          have HF := Lib.hid (fun W => l05Day_any k y W hkl (by omega) (by omega))
          generalize feO (k : Int) y = G at hb1 HF
          generalize nyO y = NY at hb1 hb2
          have v3 := i64_in (n - G) (by omega)
          have hdb : -3000000 ≤ n - G ∧ n - G ≤ 3000000 := by omega
          go_wp2_with fail
          refine (HF.out _).mono ?_
          rintro e w2 ⟨rfl, hB2⟩
          have hB := stepB hB hB2 hB.size
          clear hB2 HF
          go_upto_region 12 with (fail)
          generalize n - G = d at hdb ⊢
          clear v3
          have v4 := i64_in (-d) (by omega)
          have v5 := i64_in (-aa) (by omega)
          obtain ⟨X, hX⟩ : ∃ X, max d (-d) = X := ⟨_, rfl⟩
          obtain ⟨A, hA⟩ : ∃ A, max aa (-aa) = A := ⟨_, rfl⟩
          by_cases h1 : X < A
          · cases fb
            · go_wp2
              go_roundw
              case rel => exact ⟨k, d, k + 1, true, rfl, rfl, rfl, by go_num, by omega, by omega, by omega, hB⟩
              case measure => simp [intOf]; omega
            · go_wp2
              go_roundw
              case rel => exact ⟨k, d, k + 1, true, rfl, rfl, rfl, by go_num, by omega, by omega, by omega, hB⟩
              case measure => simp [intOf]; omega
          · have h1n : decide (X < A) = false := by simpa using h1
            by_cases h2 : X = A
            · have h2y : (X == A) = true := by simpa using h2
              by_cases h3 : aa < d
              · cases fb
                · go_wp2
                  go_roundw
                  case rel => exact ⟨k, d, k + 1, true, rfl, rfl, rfl, by go_num, by omega, by omega, by omega, hB⟩
                  case measure => simp [intOf]; omega
                · go_wp2
                  go_roundw
                  case rel => exact ⟨k, d, k + 1, true, rfl, rfl, rfl, by go_num, by omega, by omega, by omega, hB⟩
                  case measure => simp [intOf]; omega
              · have h3n : decide (aa < d) = false := by simpa using h3
                by_cases h4 : d = aa
                · have h4y : (d == aa) = true := by simpa using h4
                  by_cases h5 : (k : Int) < bb
                  · cases fb
                    · go_wp2
                      go_roundw
                      case rel => exact ⟨k, d, k + 1, true, rfl, rfl, rfl, by go_num, by omega, by omega, by omega, hB⟩
                      case measure => simp [intOf]; omega
                    · go_wp2
                      go_roundw
                      case rel => exact ⟨k, d, k + 1, true, rfl, rfl, rfl, by go_num, by omega, by omega, by omega, hB⟩
                      case measure => simp [intOf]; omega
                  · have h5n : decide ((k : Int) < bb) = false := by simpa using h5
                    cases fb
                    · go_wp2
                      go_roundw
                      case rel => exact ⟨k, d, k + 1, true, rfl, rfl, rfl, by go_num, by omega, by omega, by omega, hB⟩
                      case measure => simp [intOf]; omega
                    · go_wp2
                      go_roundw
                      case rel => exact ⟨bb, aa, k + 1, true, rfl, rfl, rfl, by go_num, hbb, haa, by omega, hB⟩
                      case measure => simp [intOf]; omega
                · have h4n : (d == aa) = false := by simpa using h4
                  cases fb
                  · go_wp2
                    go_roundw
                    case rel => exact ⟨k, d, k + 1, true, rfl, rfl, rfl, by go_num, by omega, by omega, by omega, hB⟩
                    case measure => simp [intOf]; omega
                  · go_wp2
                    go_roundw
                    case rel => exact ⟨bb, aa, k + 1, true, rfl, rfl, rfl, by go_num, hbb, haa, by omega, hB⟩
                    case measure => simp [intOf]; omega
            · have h2n : (X == A) = false := by simpa using h2
              cases fb
              · go_wp2
                go_roundw
                case rel => exact ⟨k, d, k + 1, true, rfl, rfl, rfl, by go_num, by omega, by omega, by omega, hB⟩
                case measure => simp [intOf]; omega
              · go_wp2
                go_roundw
                case rel => exact ⟨bb, aa, k + 1, true, rfl, rfl, rfl, by go_num, hbb, haa, by omega, hB⟩
                case measure => simp [intOf]; omega
        · obtain rfl : k = 20 := by omega
          go_wp2
          go_roundw
          case rel => exact ⟨bb, aa, y + 1, fb, rfl, rfl, rfl, rfl, hbb, haa, by omega, hB⟩
          case measure => simp [intOf]; omega
    · have hyh' : decide (y ≤ hi) = false := by simpa using hyh
      go_wp2
      go_ret3
      exact ⟨bb, ⟨aa, rfl⟩, hbb, hB⟩
end

section
open Go.ChangeShapes Go.WideShapes Go.ChangeAt Go.RowKit Go.IntWalk

theorem Box.put8 {B : Nat} {w : World} {T : TypeId} {g : Nat} {x0 x1 x2 x3 x4 x5 x6 x7 : Value} (h : Box B w T g [x0, x1, x2, x3, x4, x5, x6, x7]) (a0 a1 a2 a3 a4 a5 a6 a7 : Value) :
    Box B ((((((((w.setCell ⟨g, 0, none⟩ (a0)).setCell ⟨g, 1, none⟩ (a1)).setCell ⟨g, 2, none⟩ (a2)).setCell ⟨g, 3, none⟩ (a3)).setCell ⟨g, 4, none⟩ (a4)).setCell ⟨g, 5, none⟩ (a5)).setCell ⟨g, 6, none⟩ (a6)).setCell ⟨g, 7, none⟩ (a7)) T g [a0, a1, a2, a3, a4, a5, a6, a7] ∧ w.grownBy ((((((((w.setCell ⟨g, 0, none⟩ (a0)).setCell ⟨g, 1, none⟩ (a1)).setCell ⟨g, 2, none⟩ (a2)).setCell ⟨g, 3, none⟩ (a3)).setCell ⟨g, 4, none⟩ (a4)).setCell ⟨g, 5, none⟩ (a5)).setCell ⟨g, 6, none⟩ (a6)).setCell ⟨g, 7, none⟩ (a7)) (some g) := by
  have h0 := Box.put (i := 0) (pre := []) (post := [x1, x2, x3, x4, x5, x6, x7]) h rfl a0
  have h1 := Box.put (i := 1) (pre := [a0]) (post := [x2, x3, x4, x5, x6, x7]) h0.1 rfl a1
  have h2 := Box.put (i := 2) (pre := [a0, a1]) (post := [x3, x4, x5, x6, x7]) h1.1 rfl a2
  have h3 := Box.put (i := 3) (pre := [a0, a1, a2]) (post := [x4, x5, x6, x7]) h2.1 rfl a3
  have h4 := Box.put (i := 4) (pre := [a0, a1, a2, a3]) (post := [x5, x6, x7]) h3.1 rfl a4
  have h5 := Box.put (i := 5) (pre := [a0, a1, a2, a3, a4]) (post := [x6, x7]) h4.1 rfl a5
  have h6 := Box.put (i := 6) (pre := [a0, a1, a2, a3, a4, a5]) (post := [x7]) h5.1 rfl a6
  have h7 := Box.put (i := 7) (pre := [a0, a1, a2, a3, a4, a5, a6]) (post := []) h6.1 rfl a7
  exact ⟨h7.1, gT (gT (gT (gT (gT (gT (gT (h0.2) h1.2) h2.2) h3.2) h4.2) h5.2) h6.2) h7.2⟩
/-- A list of the numbers of reigns in which a day lies. -/
def onL (rs : List Rg) (n : Int) (xs : List Int) : Prop := ∀ i ∈ xs, ∃ (k : Nat) (m : Rg), i = k ∧ rs[k]? = some m ∧ m.fr ≤ n ∧ n ≤ m.to
set_option maxRecDepth 100000 in
set_option maxHeartbeats 1000000 in
theorem l07On_any (a : Option Addr) (cap : Nat) (rs : List Rg) (n : Int) (w : World) (hl : rs.length ≤ 1048576) (hx : Rd encRg w a rs) :
    Calls Tryz.prog 147 #[.slice a rs.length cap, .int .i64 n] w fun e w' => ∃ (g c : Nat) (xs : List Int), e = .returned (.slice (some ⟨g, 0, none⟩) xs.length c) ∧ xs.length ≤ rs.length ∧ onL rs n xs ∧ w'.ownsRow w.heap.size 2 1 (.slice (some ⟨g, 0, none⟩) xs.length c) xs.length (xs.flatMap encI) ∧ Below w.heap.size w w' := by
  obtain ⟨i0, hi, hz0, hz1, hz2⟩ := info_parts infoI
  have hB0 := belowA w (.cells #[] 2)
  have hown0 := World.ownsRow_made w #[] 0 (Nat.le_refl _) (by decide) rfl (e := 2) (size := 1)
  go_enter Tryz.func147, Tryz.ntmps147
  go_wp2
  go_loopw [5, 6] (fun s i wr => ∃ (k g c : Nat) (out : List Int), k ≤ rs.length ∧ i = .int .i64 k ∧ s = .slice (some ⟨g, 0, none⟩) out.length c ∧ out.length ≤ k ∧ onL rs n out ∧ wr.ownsRow w.heap.size 2 1 (.slice (some ⟨g, 0, none⟩) out.length c) out.length (out.flatMap encI) ∧ Below w.heap.size w wr) (fun _ i _ => rs.length - (intOf i).toNat)
  case atStart => exact ⟨0, _, _, [], Nat.zero_le _, rfl, rfl, by simp, (fun i h => by cases h), hown0, hB0⟩
  case round =>
    clear hown0 hB0
    obtain ⟨k, g, c, out, hk, rfl, rfl, hlo, hon, hown, hB⟩ := hrel
    by_cases hlt : k < rs.length
    · have hlt' : (k : Int) < (rs.length : Int) := by omega
      have hm := List.getElem?_eq_getElem hlt
      generalize rs[k] = m at hm
      obtain ⟨b, off, rfl, hb, c0, c1, c2⟩ := (hx.below hB).rg hm
      have HI := Lib.hid (fun W => l01In_any n m.fr m.to W)
      have G1 := Later.cell c1 hb
      have G2 := Later.cell c2 hb
      clear c0 c1 c2
      cases hin : inB n m.fr m.to
      all_goals
        have HI := Lib.hid (fun W => hin ▸ HI.out W)
        go_upto_region 5 with (fail)
        refine wp_region_later _ (by kernel_rfl) (by kernel_rfl) ?_
        repeat (go_big_quiet_step (fail))
        go_big_quiet_step ((go_at_call 66; exact Later.same ((HI.out _).mono fun _ _ ⟨h1, h2⟩ => ⟨h1, h2⟩)))
        repeat (go_big_quiet_step (fail))
        refine wpQuiet_nil ?_
        intro z
        have hz := z.prop
        generalize z.val = w2 at hz
        clear G1 G2
        have hown := own_below hown hz
        have hB := stepB hB hz hB.size
        clear hz
      · go_wp2
        go_roundw
        case rel => exact ⟨k + 1, g, c, out, by omega, by go_num, rfl, by omega, hon, hown, hB⟩
        case measure => simp [intOf]; omega
      · have hin2 : m.fr ≤ n ∧ n ≤ m.to := by simpa [inB] using hin
        go_wp2_with (at_builtin; refine wpList_append_own _ rfl _ _ 41 rfl w.heap.size 2 i0 (.int .i64 0) 1 8 Tryz.underlying41 hi hz0 hz1 hz2 rfl (by decide) _ _ _ rfl (hown.alloc _) ⟨w2.heap.size, 0, none⟩ 1 1 [.int .i64 k] rfl rfl (cell_one_new _ _ _) ?c2 ?c3 ?c4 ?c5 ?_)
        case c2 => intro u hu; simp at hu; subst hu; rfl
        case c3 => unfold maxLen; omega
        case c4 => omega
        case c5 => have := hB.size; simp; omega
        intro v' w4 hown' hgr _
        have hB' := (hB.alloc hB.size (.cells #[.int .i64 k] 2)).grown hgr (Nat.le_trans hB.size (by simp)) (fun x hx => (hown.lt x hx).1)
        obtain ⟨g', c', rfl⟩ := formJ hown' (by omega)
        clear hgr hown hB
        go_wp2
        go_roundw
        case rel => exact ⟨k + 1, g', c', out ++ [(k : Int)], by omega, by go_num, by rw [List.length_append]; rfl, by simp; omega, (fun i h => by
          rcases List.mem_append.1 h with h | h
          · exact hon i h
          · simp at h; exact ⟨k, m, h, hm, hin2⟩), by rw [List.length_append, List.flatMap_append]; exact hown', hB'⟩
        case measure => simp [intOf]; omega
    · have hlt' : decide ((k : Int) < (rs.length : Int)) = false := by simp; omega
      go_wp2
      go_ret
      exact ⟨g, c, out, rfl, by omega, hon, hown, hB⟩
end

section
open Go.ChangeShapes Go.WideShapes Go.ChangeAt Go.RowKit Go.IntWalk

theorem king0 : (⟨#[]⟩ : ByteArray).size ≤ 13 := by decide

set_option maxRecDepth 100000 in
set_option maxHeartbeats 8000000 in
theorem l11DrawOf_any (w0 : World) (cs : Option Addr) (cap : Nat) (bs : List Int) (p : Nat) (a : Option Addr) (ca : Nat) (rs : List Rg) (n : Int) (w : World) (hx : Rd encB w0 cs bs) (hb : ∀ m ∈ bs, goodB m) (hl : bs.length ≤ 4096) (hs : Src w0 cs cap bs p w) (hlr : rs.length ≤ 1000) (hrd : ∀ W, w.grownBy W (some p) → Rd encRg W a rs) (hfr : ∀ m ∈ rs, 0 ≤ m.fr) (hkg : ∀ m ∈ rs, m.king.size ≤ 13) (hn0 : 0 ≤ n) (hn : n ≤ 730499) :
    Calls Tryz.prog 107 #[.pointer (some ⟨p, 0, none⟩), .slice a rs.length ca, .int .i64 n] w fun e w' => ∃ m : Cl, e = .returned (.agg #[.int .i64 m.kind, .int .i64 m.number, .int .i64 m.month, .int .i64 m.feast, .int .i64 m.relation, .int .i64 m.weekday, .int .i64 m.style, .string m.king]) ∧ m.king.size ≤ 13 ∧ Src w0 cs cap bs p w' ∧ w.grownBy w' (some p) := by
  have D := Drw.start hs
  have res := Box.new w 57 [.int .i64 0, .int .i64 0, .int .i64 0, .int .i64 0, .int .i64 0, .int .i64 0, .int .i64 0, .string ⟨#[]⟩] w.heap.size (Nat.le_refl _) (by simp)
  have D := D.below (belowA w (.cells #[.int .i64 0, .int .i64 0, .int .i64 0, .int .i64 0, .int .i64 0, .int .i64 0, .int .i64 0, .string ⟨#[]⟩] 57))
  have HN := Lib.hid (fun n W hn1 hn2 hs => l01Next_any w0 cs cap bs p n W hx hb hl hn1 hn2 hs)
  have HO := Lib.hid (fun W => l01Old_any n W hn0 hn)
  have hdy := dyO_bd n
  have hmy := mlO_bd (yrO n) (mnO n)
  have HW := Lib.hid (fun W => l01Weekday_any n W (by omega) (by omega))
  have HNear := Lib.hid (fun W => nearest_any n W hn0 hn)
  generalize (n + 5) % 7 = wd at HW
  clear hs
  go_enter Tryz.func107, Tryz.ntmps107
  go_wp2_with fail
  refine (HO.out _).mono ?_
  rintro e w1 ⟨rfl, hB1⟩
  have res := Box.below res hB1
  have D := D.below hB1
  have dat := Box.new w1 137 [.int .i64 (yrO n), .int .i64 (mnO n : Nat), .int .i64 (dyO n)] w.heap.size D.size (by simp)
  have res := Box.below res (belowA w1 (.cells #[.int .i64 (yrO n), .int .i64 (mnO n : Nat), .int .i64 (dyO n)] 137))
  have D := D.below (belowA w1 (.cells #[.int .i64 (yrO n), .int .i64 (mnO n : Nat), .int .i64 (dyO n)] 137))
  clear hB1
  go_wp2_with fail
  generalize w1.alloc (.cells #[.int .i64 (yrO n), .int .i64 (mnO n : Nat), .int .i64 (dyO n)] 137) = w2 at D res dat ⊢
  generalize (mnO n : Int) = M at dat ⊢
  generalize dyO n = DD at dat hdy ⊢
  generalize w1.heap.size = db at dat ⊢
  refine (HN.out 6 _ (by decide) (by decide) D.src).mono ?_
  rintro e w3 ⟨r, rfl, hr0, hr1, hs, hG⟩
  have res := Box.keepA res hG D.hp
  have dat := Box.keepA dat hG D.hp
  have D := D.call hs hG
  clear hs hG
  by_cases q0 : r = 0
  · subst q0
    have m1 := Box.cell dat 1 _ rfl
    have m2 := Box.cell dat 2 _ rfl
    have r0 := Box.cell res 0 _ rfl
    have r1 := Box.cell res 1 _ rfl
    have r2 := Box.cell res 2 _ rfl
    have r3 := Box.cell res 3 _ rfl
    have r4 := Box.cell res 4 _ rfl
    have r5 := Box.cell res 5 _ rfl
    have r6 := Box.cell res 6 _ rfl
    have r7 := Box.cell res 7 _ rfl
    have f0 := World.ownsRow.frozenAt res 0
    have f1 := World.ownsRow.frozenAt res 1
    have f2 := World.ownsRow.frozenAt res 2
    have f3 := World.ownsRow.frozenAt res 3
    have f4 := World.ownsRow.frozenAt res 4
    have f5 := World.ownsRow.frozenAt res 5
    have f6 := World.ownsRow.frozenAt res 6
    have f7 := World.ownsRow.frozenAt res 7
    have HP8 := Lib.hid (Box.put8 res (.int .i64 0) (.int .i64 DD) (.int .i64 M) (.int .i64 0) (.int .i64 0) (.int .i64 0) (.int .i64 0) (.string ⟨#[]⟩))
    go_wp2
    have hp := HP8.out
    have D := D.store hp.2 (Nat.le_refl _)
    generalize (((((((w3.setCell ⟨w.heap.size, 0, none⟩ (.int .i64 0)).setCell ⟨w.heap.size, 1, none⟩ (.int .i64 DD)).setCell ⟨w.heap.size, 2, none⟩ (.int .i64 M)).setCell ⟨w.heap.size, 3, none⟩ (.int .i64 0)).setCell ⟨w.heap.size, 4, none⟩ (.int .i64 0)).setCell ⟨w.heap.size, 5, none⟩ (.int .i64 0)).setCell ⟨w.heap.size, 6, none⟩ (.int .i64 0)).setCell ⟨w.heap.size, 7, none⟩ (.string ⟨#[]⟩) = Wf at hp D ⊢
    have z0 := hp.1.cell 0 _ rfl
    have z1 := hp.1.cell 1 _ rfl
    have z2 := hp.1.cell 2 _ rfl
    have z3 := hp.1.cell 3 _ rfl
    have z4 := hp.1.cell 4 _ rfl
    have z5 := hp.1.cell 5 _ rfl
    have z6 := hp.1.cell 6 _ rfl
    have z7 := hp.1.cell 7 _ rfl
    refine bodyPost_ret_by (v := .agg #[.int .i64 0, .int .i64 DD, .int .i64 M, .int .i64 0, .int .i64 0, .int .i64 0, .int .i64 0, .string ⟨#[]⟩]) ?_ rfl ⟨⟨0, DD, M, 0, 0, 0, 0, ⟨#[]⟩⟩, rfl, king0, D.src, D.gr⟩
    simp [results, go_sem, z0, z1, z2, z3, z4, z5, z6, z7]
  · have q0' : (r == 0) = false := by simpa using q0
    by_cases q1 : r = 1
    · subst q1
      clear dat
      go_wp2_with fail
      refine (HNear.out _).mono ?_
      rintro e w4 ⟨f, aw, rfl, hf, hB4⟩
      have res := Box.below res hB4
      have D := D.below hB4
      clear hB4
      by_cases h1 : aw = 0
      · subst h1
        have r0 := Box.cell res 0 _ rfl
        have r1 := Box.cell res 1 _ rfl
        have r2 := Box.cell res 2 _ rfl
        have r3 := Box.cell res 3 _ rfl
        have r4 := Box.cell res 4 _ rfl
        have r5 := Box.cell res 5 _ rfl
        have r6 := Box.cell res 6 _ rfl
        have r7 := Box.cell res 7 _ rfl
        have f0 := World.ownsRow.frozenAt res 0
        have f1 := World.ownsRow.frozenAt res 1
        have f2 := World.ownsRow.frozenAt res 2
        have f3 := World.ownsRow.frozenAt res 3
        have f4 := World.ownsRow.frozenAt res 4
        have f5 := World.ownsRow.frozenAt res 5
        have f6 := World.ownsRow.frozenAt res 6
        have f7 := World.ownsRow.frozenAt res 7
        have HP8 := Lib.hid (Box.put8 res (.int .i64 1) (.int .i64 0) (.int .i64 0) (.int .i64 f) (.int .i64 0) (.int .i64 0) (.int .i64 0) (.string ⟨#[]⟩))
        go_wp2
        have hp := HP8.out
        have D := D.store hp.2 (Nat.le_refl _)
        generalize (((((((w4.setCell ⟨w.heap.size, 0, none⟩ (.int .i64 1)).setCell ⟨w.heap.size, 1, none⟩ (.int .i64 0)).setCell ⟨w.heap.size, 2, none⟩ (.int .i64 0)).setCell ⟨w.heap.size, 3, none⟩ (.int .i64 f)).setCell ⟨w.heap.size, 4, none⟩ (.int .i64 0)).setCell ⟨w.heap.size, 5, none⟩ (.int .i64 0)).setCell ⟨w.heap.size, 6, none⟩ (.int .i64 0)).setCell ⟨w.heap.size, 7, none⟩ (.string ⟨#[]⟩) = Wf at hp D ⊢
        have z0 := hp.1.cell 0 _ rfl
        have z1 := hp.1.cell 1 _ rfl
        have z2 := hp.1.cell 2 _ rfl
        have z3 := hp.1.cell 3 _ rfl
        have z4 := hp.1.cell 4 _ rfl
        have z5 := hp.1.cell 5 _ rfl
        have z6 := hp.1.cell 6 _ rfl
        have z7 := hp.1.cell 7 _ rfl
        refine bodyPost_ret_by (v := .agg #[.int .i64 1, .int .i64 0, .int .i64 0, .int .i64 f, .int .i64 0, .int .i64 0, .int .i64 0, .string ⟨#[]⟩]) ?_ rfl ⟨⟨1, 0, 0, f, 0, 0, 0, ⟨#[]⟩⟩, rfl, king0, D.src, D.gr⟩
        simp [results, go_sem, z0, z1, z2, z3, z4, z5, z6, z7]
      · have h1n : (aw == 0) = false := by simpa using h1
        by_cases h2 : aw = -1
        · subst h2
          have r0 := Box.cell res 0 _ rfl
          have r1 := Box.cell res 1 _ rfl
          have r2 := Box.cell res 2 _ rfl
          have r3 := Box.cell res 3 _ rfl
          have r4 := Box.cell res 4 _ rfl
          have r5 := Box.cell res 5 _ rfl
          have r6 := Box.cell res 6 _ rfl
          have r7 := Box.cell res 7 _ rfl
          have f0 := World.ownsRow.frozenAt res 0
          have f1 := World.ownsRow.frozenAt res 1
          have f2 := World.ownsRow.frozenAt res 2
          have f3 := World.ownsRow.frozenAt res 3
          have f4 := World.ownsRow.frozenAt res 4
          have f5 := World.ownsRow.frozenAt res 5
          have f6 := World.ownsRow.frozenAt res 6
          have f7 := World.ownsRow.frozenAt res 7
          have HP8 := Lib.hid (Box.put8 res (.int .i64 1) (.int .i64 0) (.int .i64 0) (.int .i64 f) (.int .i64 1) (.int .i64 0) (.int .i64 0) (.string ⟨#[]⟩))
          go_wp2
          have hp := HP8.out
          have D := D.store hp.2 (Nat.le_refl _)
          generalize (((((((w4.setCell ⟨w.heap.size, 0, none⟩ (.int .i64 1)).setCell ⟨w.heap.size, 1, none⟩ (.int .i64 0)).setCell ⟨w.heap.size, 2, none⟩ (.int .i64 0)).setCell ⟨w.heap.size, 3, none⟩ (.int .i64 f)).setCell ⟨w.heap.size, 4, none⟩ (.int .i64 1)).setCell ⟨w.heap.size, 5, none⟩ (.int .i64 0)).setCell ⟨w.heap.size, 6, none⟩ (.int .i64 0)).setCell ⟨w.heap.size, 7, none⟩ (.string ⟨#[]⟩) = Wf at hp D ⊢
          have z0 := hp.1.cell 0 _ rfl
          have z1 := hp.1.cell 1 _ rfl
          have z2 := hp.1.cell 2 _ rfl
          have z3 := hp.1.cell 3 _ rfl
          have z4 := hp.1.cell 4 _ rfl
          have z5 := hp.1.cell 5 _ rfl
          have z6 := hp.1.cell 6 _ rfl
          have z7 := hp.1.cell 7 _ rfl
          refine bodyPost_ret_by (v := .agg #[.int .i64 1, .int .i64 0, .int .i64 0, .int .i64 f, .int .i64 1, .int .i64 0, .int .i64 0, .string ⟨#[]⟩]) ?_ rfl ⟨⟨1, 0, 0, f, 1, 0, 0, ⟨#[]⟩⟩, rfl, king0, D.src, D.gr⟩
          simp [results, go_sem, z0, z1, z2, z3, z4, z5, z6, z7]
        · have h2n : (aw == -1) = false := by simpa using h2
          by_cases h5 : 0 < aw
          · have h3n : decide (aw < 0) = false := by simp; omega
            by_cases h6 : aw ≤ 7
            · go_wp2_with fail
              refine (HW.out _).mono ?_
              rintro e wz ⟨rfl, rfl⟩
              have r0 := Box.cell res 0 _ rfl
              have r1 := Box.cell res 1 _ rfl
              have r2 := Box.cell res 2 _ rfl
              have r3 := Box.cell res 3 _ rfl
              have r4 := Box.cell res 4 _ rfl
              have r5 := Box.cell res 5 _ rfl
              have r6 := Box.cell res 6 _ rfl
              have r7 := Box.cell res 7 _ rfl
              have f0 := World.ownsRow.frozenAt res 0
              have f1 := World.ownsRow.frozenAt res 1
              have f2 := World.ownsRow.frozenAt res 2
              have f3 := World.ownsRow.frozenAt res 3
              have f4 := World.ownsRow.frozenAt res 4
              have f5 := World.ownsRow.frozenAt res 5
              have f6 := World.ownsRow.frozenAt res 6
              have f7 := World.ownsRow.frozenAt res 7
              have HP8 := Lib.hid (Box.put8 res (.int .i64 1) (.int .i64 0) (.int .i64 0) (.int .i64 f) (.int .i64 3) (.int .i64 wd) (.int .i64 0) (.string ⟨#[]⟩))
              go_wp2
              have hp := HP8.out
              have D := D.store hp.2 (Nat.le_refl _)
              generalize (((((((w4.setCell ⟨w.heap.size, 0, none⟩ (.int .i64 1)).setCell ⟨w.heap.size, 1, none⟩ (.int .i64 0)).setCell ⟨w.heap.size, 2, none⟩ (.int .i64 0)).setCell ⟨w.heap.size, 3, none⟩ (.int .i64 f)).setCell ⟨w.heap.size, 4, none⟩ (.int .i64 3)).setCell ⟨w.heap.size, 5, none⟩ (.int .i64 wd)).setCell ⟨w.heap.size, 6, none⟩ (.int .i64 0)).setCell ⟨w.heap.size, 7, none⟩ (.string ⟨#[]⟩) = Wf at hp D ⊢
              have z0 := hp.1.cell 0 _ rfl
              have z1 := hp.1.cell 1 _ rfl
              have z2 := hp.1.cell 2 _ rfl
              have z3 := hp.1.cell 3 _ rfl
              have z4 := hp.1.cell 4 _ rfl
              have z5 := hp.1.cell 5 _ rfl
              have z6 := hp.1.cell 6 _ rfl
              have z7 := hp.1.cell 7 _ rfl
              refine bodyPost_ret_by (v := .agg #[.int .i64 1, .int .i64 0, .int .i64 0, .int .i64 f, .int .i64 3, .int .i64 wd, .int .i64 0, .string ⟨#[]⟩]) ?_ rfl ⟨⟨1, 0, 0, f, 3, wd, 0, ⟨#[]⟩⟩, rfl, king0, D.src, D.gr⟩
              simp [results, go_sem, z0, z1, z2, z3, z4, z5, z6, z7]
            · have h6n : decide (aw ≤ 7) = false := by simpa using h6
              go_wp2_with fail
              refine (HW.out _).mono ?_
              rintro e wz ⟨rfl, rfl⟩
              have r0 := Box.cell res 0 _ rfl
              have r1 := Box.cell res 1 _ rfl
              have r2 := Box.cell res 2 _ rfl
              have r3 := Box.cell res 3 _ rfl
              have r4 := Box.cell res 4 _ rfl
              have r5 := Box.cell res 5 _ rfl
              have r6 := Box.cell res 6 _ rfl
              have r7 := Box.cell res 7 _ rfl
              have f0 := World.ownsRow.frozenAt res 0
              have f1 := World.ownsRow.frozenAt res 1
              have f2 := World.ownsRow.frozenAt res 2
              have f3 := World.ownsRow.frozenAt res 3
              have f4 := World.ownsRow.frozenAt res 4
              have f5 := World.ownsRow.frozenAt res 5
              have f6 := World.ownsRow.frozenAt res 6
              have f7 := World.ownsRow.frozenAt res 7
              have HP8 := Lib.hid (Box.put8 res (.int .i64 5) (.int .i64 0) (.int .i64 0) (.int .i64 0) (.int .i64 0) (.int .i64 wd) (.int .i64 0) (.string ⟨#[]⟩))
              go_wp2
              have hp := HP8.out
              have D := D.store hp.2 (Nat.le_refl _)
              generalize (((((((w4.setCell ⟨w.heap.size, 0, none⟩ (.int .i64 5)).setCell ⟨w.heap.size, 1, none⟩ (.int .i64 0)).setCell ⟨w.heap.size, 2, none⟩ (.int .i64 0)).setCell ⟨w.heap.size, 3, none⟩ (.int .i64 0)).setCell ⟨w.heap.size, 4, none⟩ (.int .i64 0)).setCell ⟨w.heap.size, 5, none⟩ (.int .i64 wd)).setCell ⟨w.heap.size, 6, none⟩ (.int .i64 0)).setCell ⟨w.heap.size, 7, none⟩ (.string ⟨#[]⟩) = Wf at hp D ⊢
              have z0 := hp.1.cell 0 _ rfl
              have z1 := hp.1.cell 1 _ rfl
              have z2 := hp.1.cell 2 _ rfl
              have z3 := hp.1.cell 3 _ rfl
              have z4 := hp.1.cell 4 _ rfl
              have z5 := hp.1.cell 5 _ rfl
              have z6 := hp.1.cell 6 _ rfl
              have z7 := hp.1.cell 7 _ rfl
              refine bodyPost_ret_by (v := .agg #[.int .i64 5, .int .i64 0, .int .i64 0, .int .i64 0, .int .i64 0, .int .i64 wd, .int .i64 0, .string ⟨#[]⟩]) ?_ rfl ⟨⟨5, 0, 0, 0, 0, wd, 0, ⟨#[]⟩⟩, rfl, king0, D.src, D.gr⟩
              simp [results, go_sem, z0, z1, z2, z3, z4, z5, z6, z7]
          · have h5n : decide (0 < aw) = false := by simpa using h5
            by_cases h3 : aw < 0
            · by_cases h4 : -7 ≤ aw
              · go_wp2_with fail
                refine (HW.out _).mono ?_
                rintro e wz ⟨rfl, rfl⟩
                have r0 := Box.cell res 0 _ rfl
                have r1 := Box.cell res 1 _ rfl
                have r2 := Box.cell res 2 _ rfl
                have r3 := Box.cell res 3 _ rfl
                have r4 := Box.cell res 4 _ rfl
                have r5 := Box.cell res 5 _ rfl
                have r6 := Box.cell res 6 _ rfl
                have r7 := Box.cell res 7 _ rfl
                have f0 := World.ownsRow.frozenAt res 0
                have f1 := World.ownsRow.frozenAt res 1
                have f2 := World.ownsRow.frozenAt res 2
                have f3 := World.ownsRow.frozenAt res 3
                have f4 := World.ownsRow.frozenAt res 4
                have f5 := World.ownsRow.frozenAt res 5
                have f6 := World.ownsRow.frozenAt res 6
                have f7 := World.ownsRow.frozenAt res 7
                have HP8 := Lib.hid (Box.put8 res (.int .i64 1) (.int .i64 0) (.int .i64 0) (.int .i64 f) (.int .i64 4) (.int .i64 wd) (.int .i64 0) (.string ⟨#[]⟩))
                go_wp2
                have hp := HP8.out
                have D := D.store hp.2 (Nat.le_refl _)
                generalize (((((((w4.setCell ⟨w.heap.size, 0, none⟩ (.int .i64 1)).setCell ⟨w.heap.size, 1, none⟩ (.int .i64 0)).setCell ⟨w.heap.size, 2, none⟩ (.int .i64 0)).setCell ⟨w.heap.size, 3, none⟩ (.int .i64 f)).setCell ⟨w.heap.size, 4, none⟩ (.int .i64 4)).setCell ⟨w.heap.size, 5, none⟩ (.int .i64 wd)).setCell ⟨w.heap.size, 6, none⟩ (.int .i64 0)).setCell ⟨w.heap.size, 7, none⟩ (.string ⟨#[]⟩) = Wf at hp D ⊢
                have z0 := hp.1.cell 0 _ rfl
                have z1 := hp.1.cell 1 _ rfl
                have z2 := hp.1.cell 2 _ rfl
                have z3 := hp.1.cell 3 _ rfl
                have z4 := hp.1.cell 4 _ rfl
                have z5 := hp.1.cell 5 _ rfl
                have z6 := hp.1.cell 6 _ rfl
                have z7 := hp.1.cell 7 _ rfl
                refine bodyPost_ret_by (v := .agg #[.int .i64 1, .int .i64 0, .int .i64 0, .int .i64 f, .int .i64 4, .int .i64 wd, .int .i64 0, .string ⟨#[]⟩]) ?_ rfl ⟨⟨1, 0, 0, f, 4, wd, 0, ⟨#[]⟩⟩, rfl, king0, D.src, D.gr⟩
                simp [results, go_sem, z0, z1, z2, z3, z4, z5, z6, z7]
              · have h4n : decide (-7 ≤ aw) = false := by simpa using h4
                go_wp2_with fail
                refine (HW.out _).mono ?_
                rintro e wz ⟨rfl, rfl⟩
                have r0 := Box.cell res 0 _ rfl
                have r1 := Box.cell res 1 _ rfl
                have r2 := Box.cell res 2 _ rfl
                have r3 := Box.cell res 3 _ rfl
                have r4 := Box.cell res 4 _ rfl
                have r5 := Box.cell res 5 _ rfl
                have r6 := Box.cell res 6 _ rfl
                have r7 := Box.cell res 7 _ rfl
                have f0 := World.ownsRow.frozenAt res 0
                have f1 := World.ownsRow.frozenAt res 1
                have f2 := World.ownsRow.frozenAt res 2
                have f3 := World.ownsRow.frozenAt res 3
                have f4 := World.ownsRow.frozenAt res 4
                have f5 := World.ownsRow.frozenAt res 5
                have f6 := World.ownsRow.frozenAt res 6
                have f7 := World.ownsRow.frozenAt res 7
                have HP8 := Lib.hid (Box.put8 res (.int .i64 5) (.int .i64 0) (.int .i64 0) (.int .i64 0) (.int .i64 0) (.int .i64 wd) (.int .i64 0) (.string ⟨#[]⟩))
                go_wp2
                have hp := HP8.out
                have D := D.store hp.2 (Nat.le_refl _)
                generalize (((((((w4.setCell ⟨w.heap.size, 0, none⟩ (.int .i64 5)).setCell ⟨w.heap.size, 1, none⟩ (.int .i64 0)).setCell ⟨w.heap.size, 2, none⟩ (.int .i64 0)).setCell ⟨w.heap.size, 3, none⟩ (.int .i64 0)).setCell ⟨w.heap.size, 4, none⟩ (.int .i64 0)).setCell ⟨w.heap.size, 5, none⟩ (.int .i64 wd)).setCell ⟨w.heap.size, 6, none⟩ (.int .i64 0)).setCell ⟨w.heap.size, 7, none⟩ (.string ⟨#[]⟩) = Wf at hp D ⊢
                have z0 := hp.1.cell 0 _ rfl
                have z1 := hp.1.cell 1 _ rfl
                have z2 := hp.1.cell 2 _ rfl
                have z3 := hp.1.cell 3 _ rfl
                have z4 := hp.1.cell 4 _ rfl
                have z5 := hp.1.cell 5 _ rfl
                have z6 := hp.1.cell 6 _ rfl
                have z7 := hp.1.cell 7 _ rfl
                refine bodyPost_ret_by (v := .agg #[.int .i64 5, .int .i64 0, .int .i64 0, .int .i64 0, .int .i64 0, .int .i64 wd, .int .i64 0, .string ⟨#[]⟩]) ?_ rfl ⟨⟨5, 0, 0, 0, 0, wd, 0, ⟨#[]⟩⟩, rfl, king0, D.src, D.gr⟩
                simp [results, go_sem, z0, z1, z2, z3, z4, z5, z6, z7]
            · have h3n : decide (aw < 0) = false := by simpa using h3
              exfalso
              omega
    · have q1' : (r == 1) = false := by simpa using q1
      by_cases q2 : r = 2
      · subst q2
        clear dat
        have hrw := hrd _ D.gr
        go_wp2_with fail
        refine (l07On_any a ca rs n _ (by omega) hrw).mono ?_
        rintro e w4 ⟨g, c, xs, rfl, hxl, hon, hown, hB4⟩
        have hown := own_base hown D.size
        have res := Box.below res hB4
        have D := D.below hB4
        clear hB4 hrw
        by_cases hx0 : 0 < xs.length
        · have hx0' : (0 : Int) < (xs.length : Int) := by omega
          go_wp2_with fail
          refine (HN.out xs.length _ (by omega) (by omega) D.src).mono ?_
          rintro e w1 ⟨u, rfl, hu0, hu1, hs, hG⟩
          have res := Box.keepA res hG D.hp
          have hown := own_keepA hown hG D.hp
          have D := D.call hs hG
          clear hs hG
          obtain ⟨j, rfl⟩ : ∃ j : Nat, u = j := ⟨u.toNat, by omega⟩
          have hj : j < xs.length := by omega
          have hj' : (j : Int) < (xs.length : Int) := by omega
          have hxj := List.getElem?_eq_getElem hj
          obtain ⟨k, m, hk, hm, hmn0, hmn1⟩ := hon _ (List.getElem_mem hj)
          rw [hk] at hxj
          have cj : w1.cell? ⟨g, j, none⟩ = some (.int .i64 (k : Nat)) := by simpa using own_at encI_len hown hxj (j := 0) rfl
          have hkl := (List.getElem?_eq_some_iff.1 hm).1
          have hkl' : (k : Int) < (rs.length : Int) := by omega
          have hmem := List.mem_of_getElem? hm
          have hm0 := hfr m hmem
          have hmk := hkg m hmem
          have hrw := hrd _ D.gr
          obtain ⟨b, off, rfl, hb, e0, e1, e2⟩ := hrw.rg hm
          clear hk hxj hm hmem hon hu0 hu1 hxl hrw
          have loc := Box.new w1 119 [.string m.king, .int .i64 m.fr, .int .i64 m.to] w.heap.size D.size (by simp)
          have res := Box.below res (belowA w1 (.cells #[.string m.king, .int .i64 m.fr, .int .i64 m.to] 119))
          have D := D.below (belowA w1 (.cells #[.string m.king, .int .i64 m.fr, .int .i64 m.to] 119))
          have hlr2 : w.heap.size ≠ w1.heap.size := by have := res.lt; have := (own_lt hown).2; have := (own_lt hown).1; omega
          go_upto_region 19 with (fail)
          generalize w1.alloc (.cells #[.string m.king, .int .i64 m.fr, .int .i64 m.to] 119) = w6 at D res loc ⊢
          generalize w1.heap.size = lb at loc hlr2 ⊢
          clear e0 e1 e2 cj hown
          have HY := Lib.hid (fun W => l07Year_any m n W hm0 hmn0 hn)
          generalize rgY m.fr n = yy at HY
          obtain ⟨zz, hzz⟩ : ∃ zz, min 99 yy = zz := ⟨_, rfl⟩
          have D0 := D.below (Below.refl _ w6).drew
          have res0 := Box.below res (Below.refl _ w6).drew
          have l0 := Box.cell loc 0 _ rfl
          have l1 := Box.cell loc 1 _ rfl
          have l2 := Box.cell loc 2 _ rfl
          have hll := loc.lt.2
          refine MAny.region (S := fun w' => w'.cell? ⟨lb, 0, none⟩ = some (.string m.king) ∧ w'.cell? ⟨lb, 1, none⟩ = some (.int .i64 m.fr) ∧ w'.cell? ⟨lb, 2, none⟩ = some (.int .i64 m.to)) (last := 7) (by kernel_rfl) ?_
          have hHeld : w6.drew.cell? ⟨lb, 0, none⟩ = some (.string m.king) ∧ w6.drew.cell? ⟨lb, 1, none⟩ = some (.int .i64 m.fr) ∧ w6.drew.cell? ⟨lb, 2, none⟩ = some (.int .i64 m.to) := ⟨l0, l1, l2⟩
          have hll0 : lb < w6.drew.heap.size := hll
          clear D res l0 l1 l2 hll loc
          generalize w6.drew = W0 at D0 res0 hHeld hll0 ⊢
          refine MAny.take (i := 0) (v := ?_) rfl (by kernel_rfl) (by kernel_rfl) (by kernel_rfl) (fun _ _ _ h => h) (by kernel_rfl) (Or.inl ⟨by rfl, ?_⟩) (by assumption) ?_
          rotate_left
          · (intro w' hSw; (try dsimp only at hSw); go_simp; try (with_reducible rfl))
          try simp only [Act.put, List.setIfInBounds_toArray]
          refine MAny.take (i := 1) (v := ?_) rfl (by kernel_rfl) (by kernel_rfl) (by kernel_rfl) (fun _ _ _ h => h) (by kernel_rfl) (Or.inl ⟨by rfl, ?_⟩) (by assumption) ?_
          rotate_left
          · (intro w' hSw; (try dsimp only at hSw); go_simp; try (with_reducible rfl))
          try simp only [Act.put]
          refine MAny.take (i := 4) (v := ?_) rfl (by kernel_rfl) (by kernel_rfl) (by kernel_rfl) (fun _ _ _ h => h) (by kernel_rfl) (Or.inl ⟨by rfl, ?_⟩) (by assumption) ?_
          rotate_left
          · (intro w' hSw; (try dsimp only at hSw); go_simp; try (with_reducible rfl))
          try simp only [Act.put]
          refine MAny.take (i := 5) (v := ?_) rfl (by kernel_rfl) (by kernel_rfl) (by kernel_rfl) (fun _ _ _ h => h) (by kernel_rfl) (Or.inl ⟨by rfl, ?_⟩) (by assumption) ?_
          rotate_left
          · (intro w' hSw; (try dsimp only at hSw); go_simp; try (with_reducible rfl))
          try simp only [Act.put]
          refine MAny.ready (rs := [2]) (by kernel_rfl) (by simp) ?_
          refine MReady.cons rfl (fun K hK => ?_) MReady.nil
          go_simp
          go_wp2_with (go_at_call 127; refine (HY.out W0).mono ?_; rintro e w7 ⟨rfl, hB7⟩)
          have res := Box.below res0 hB7
          have D := D0.below hB7
          have hHeld : w7.cell? ⟨lb, 0, none⟩ = some (.string m.king) ∧ w7.cell? ⟨lb, 1, none⟩ = some (.int .i64 m.fr) ∧ w7.cell? ⟨lb, 2, none⟩ = some (.int .i64 m.to) := ⟨(hB7.cell (p := ⟨lb, 0, none⟩) hll0).trans hHeld.1, (hB7.cell (p := ⟨lb, 1, none⟩) hll0).trans hHeld.2.1, (hB7.cell (p := ⟨lb, 2, none⟩) hll0).trans hHeld.2.2⟩
          refine hK.out _ _ (.inr hHeld) ?_
          clear hK K D0 res0 hB7 hll0
          refine MAny.ready (rs := [3]) (by kernel_rfl) (by simp) ?_
          refine MReady.cons rfl (fun K hK => ?_) MReady.nil
          go_simp
          refine hK.out _ _ (.inr hHeld) ?_
          clear hK K
          refine MAny.ready (rs := [6]) (by kernel_rfl) (by simp) ?_
          refine MReady.cons rfl (fun K hK => ?_) MReady.nil
          go_simp
          refine hK.out _ _ (.inr hHeld) ?_
          clear hK K
          have r0 := Box.cell res 0 _ rfl
          have r1 := Box.cell res 1 _ rfl
          have r2 := Box.cell res 2 _ rfl
          have r3 := Box.cell res 3 _ rfl
          have r4 := Box.cell res 4 _ rfl
          have r5 := Box.cell res 5 _ rfl
          have r6 := Box.cell res 6 _ rfl
          have r7 := Box.cell res 7 _ rfl
          have f0 := World.ownsRow.frozenAt res 0
          have f1 := World.ownsRow.frozenAt res 1
          have f2 := World.ownsRow.frozenAt res 2
          have f3 := World.ownsRow.frozenAt res 3
          have f4 := World.ownsRow.frozenAt res 4
          have f5 := World.ownsRow.frozenAt res 5
          have f6 := World.ownsRow.frozenAt res 6
          have f7 := World.ownsRow.frozenAt res 7
          have HP8 := Lib.hid (Box.put8 res (.int .i64 2) (.int .i64 zz) (.int .i64 0) (.int .i64 0) (.int .i64 0) (.int .i64 0) (.int .i64 0) (.string m.king))
          refine MAny.ready (rs := [7]) (by kernel_rfl) (by simp) ?_
          refine MReady.cons rfl (fun K hK => ?_) MReady.nil
          go_simp
          refine hK.out _ _ (.inl rfl) ?_
          clear hK K
          refine MAny.done (by kernel_rfl) ?_ _
          try simp only [List.getElem_toArray, List.getElem_cons_succ, List.getElem_cons_zero]
          go_wp2
          have hp := HP8.out
          have D := D.store hp.2 (Nat.le_refl _)
          generalize (((((((w7.setCell ⟨w.heap.size, 0, none⟩ (.int .i64 2)).setCell ⟨w.heap.size, 1, none⟩ (.int .i64 zz)).setCell ⟨w.heap.size, 2, none⟩ (.int .i64 0)).setCell ⟨w.heap.size, 3, none⟩ (.int .i64 0)).setCell ⟨w.heap.size, 4, none⟩ (.int .i64 0)).setCell ⟨w.heap.size, 5, none⟩ (.int .i64 0)).setCell ⟨w.heap.size, 6, none⟩ (.int .i64 0)).setCell ⟨w.heap.size, 7, none⟩ (.string m.king) = Wf at hp D ⊢
          have z0 := hp.1.cell 0 _ rfl
          have z1 := hp.1.cell 1 _ rfl
          have z2 := hp.1.cell 2 _ rfl
          have z3 := hp.1.cell 3 _ rfl
          have z4 := hp.1.cell 4 _ rfl
          have z5 := hp.1.cell 5 _ rfl
          have z6 := hp.1.cell 6 _ rfl
          have z7 := hp.1.cell 7 _ rfl
          refine bodyPost_ret_by (v := .agg #[.int .i64 2, .int .i64 zz, .int .i64 0, .int .i64 0, .int .i64 0, .int .i64 0, .int .i64 0, .string m.king]) ?_ rfl ⟨⟨2, zz, 0, 0, 0, 0, 0, m.king⟩, rfl, hmk, D.src, D.gr⟩
          simp [results, go_sem, z0, z1, z2, z3, z4, z5, z6, z7]
        · have hx0n : decide (0 < xs.length) = false := by simpa using hx0
          have hx1n : decide ((0 : Int) < (xs.length : Int)) = false := by simpa using hx0
          go_wp2_with fail
          refine (HW.out _).mono ?_
          rintro e wz ⟨rfl, rfl⟩
          have r0 := Box.cell res 0 _ rfl
          have r1 := Box.cell res 1 _ rfl
          have r2 := Box.cell res 2 _ rfl
          have r3 := Box.cell res 3 _ rfl
          have r4 := Box.cell res 4 _ rfl
          have r5 := Box.cell res 5 _ rfl
          have r6 := Box.cell res 6 _ rfl
          have r7 := Box.cell res 7 _ rfl
          have f0 := World.ownsRow.frozenAt res 0
          have f1 := World.ownsRow.frozenAt res 1
          have f2 := World.ownsRow.frozenAt res 2
          have f3 := World.ownsRow.frozenAt res 3
          have f4 := World.ownsRow.frozenAt res 4
          have f5 := World.ownsRow.frozenAt res 5
          have f6 := World.ownsRow.frozenAt res 6
          have f7 := World.ownsRow.frozenAt res 7
          have HP8 := Lib.hid (Box.put8 res (.int .i64 5) (.int .i64 0) (.int .i64 0) (.int .i64 0) (.int .i64 0) (.int .i64 wd) (.int .i64 0) (.string ⟨#[]⟩))
          go_wp2
          have hp := HP8.out
          have D := D.store hp.2 (Nat.le_refl _)
          generalize (((((((w4.setCell ⟨w.heap.size, 0, none⟩ (.int .i64 5)).setCell ⟨w.heap.size, 1, none⟩ (.int .i64 0)).setCell ⟨w.heap.size, 2, none⟩ (.int .i64 0)).setCell ⟨w.heap.size, 3, none⟩ (.int .i64 0)).setCell ⟨w.heap.size, 4, none⟩ (.int .i64 0)).setCell ⟨w.heap.size, 5, none⟩ (.int .i64 wd)).setCell ⟨w.heap.size, 6, none⟩ (.int .i64 0)).setCell ⟨w.heap.size, 7, none⟩ (.string ⟨#[]⟩) = Wf at hp D ⊢
          have z0 := hp.1.cell 0 _ rfl
          have z1 := hp.1.cell 1 _ rfl
          have z2 := hp.1.cell 2 _ rfl
          have z3 := hp.1.cell 3 _ rfl
          have z4 := hp.1.cell 4 _ rfl
          have z5 := hp.1.cell 5 _ rfl
          have z6 := hp.1.cell 6 _ rfl
          have z7 := hp.1.cell 7 _ rfl
          refine bodyPost_ret_by (v := .agg #[.int .i64 5, .int .i64 0, .int .i64 0, .int .i64 0, .int .i64 0, .int .i64 wd, .int .i64 0, .string ⟨#[]⟩]) ?_ rfl ⟨⟨5, 0, 0, 0, 0, wd, 0, ⟨#[]⟩⟩, rfl, king0, D.src, D.gr⟩
          simp [results, go_sem, z0, z1, z2, z3, z4, z5, z6, z7]
      · have q2' : (r == 2) = false := by simpa using q2
        by_cases q3 : r = 3
        · subst q3
          clear dat
          go_wp2_with fail
          refine (HN.out 7 _ (by decide) (by decide) D.src).mono ?_
          rintro e w2 ⟨s, rfl, hs0, hs1, hs, hG⟩
          have res := Box.keepA res hG D.hp
          have D := D.call hs hG
          clear hs hG
          go_wp2_with fail
          refine (l06On_any s n _ hn0 hn).mono ?_
          rintro e w5 ⟨rfl, hB5⟩
          have res := Box.below res hB5
          have D := D.below hB5
          clear hB5
          generalize (yoR s n).1 = y
          generalize (yoR s n).2 = ok
          cases ok
          · go_wp2_with fail
            refine (HW.out _).mono ?_
            rintro e wz ⟨rfl, rfl⟩
            have r0 := Box.cell res 0 _ rfl
            have r1 := Box.cell res 1 _ rfl
            have r2 := Box.cell res 2 _ rfl
            have r3 := Box.cell res 3 _ rfl
            have r4 := Box.cell res 4 _ rfl
            have r5 := Box.cell res 5 _ rfl
            have r6 := Box.cell res 6 _ rfl
            have r7 := Box.cell res 7 _ rfl
            have f0 := World.ownsRow.frozenAt res 0
            have f1 := World.ownsRow.frozenAt res 1
            have f2 := World.ownsRow.frozenAt res 2
            have f3 := World.ownsRow.frozenAt res 3
            have f4 := World.ownsRow.frozenAt res 4
            have f5 := World.ownsRow.frozenAt res 5
            have f6 := World.ownsRow.frozenAt res 6
            have f7 := World.ownsRow.frozenAt res 7
            have HP8 := Lib.hid (Box.put8 res (.int .i64 5) (.int .i64 0) (.int .i64 0) (.int .i64 0) (.int .i64 0) (.int .i64 wd) (.int .i64 0) (.string ⟨#[]⟩))
            go_wp2
            have hp := HP8.out
            have D := D.store hp.2 (Nat.le_refl _)
            generalize (((((((w5.setCell ⟨w.heap.size, 0, none⟩ (.int .i64 5)).setCell ⟨w.heap.size, 1, none⟩ (.int .i64 0)).setCell ⟨w.heap.size, 2, none⟩ (.int .i64 0)).setCell ⟨w.heap.size, 3, none⟩ (.int .i64 0)).setCell ⟨w.heap.size, 4, none⟩ (.int .i64 0)).setCell ⟨w.heap.size, 5, none⟩ (.int .i64 wd)).setCell ⟨w.heap.size, 6, none⟩ (.int .i64 0)).setCell ⟨w.heap.size, 7, none⟩ (.string ⟨#[]⟩) = Wf at hp D ⊢
            have z0 := hp.1.cell 0 _ rfl
            have z1 := hp.1.cell 1 _ rfl
            have z2 := hp.1.cell 2 _ rfl
            have z3 := hp.1.cell 3 _ rfl
            have z4 := hp.1.cell 4 _ rfl
            have z5 := hp.1.cell 5 _ rfl
            have z6 := hp.1.cell 6 _ rfl
            have z7 := hp.1.cell 7 _ rfl
            refine bodyPost_ret_by (v := .agg #[.int .i64 5, .int .i64 0, .int .i64 0, .int .i64 0, .int .i64 0, .int .i64 wd, .int .i64 0, .string ⟨#[]⟩]) ?_ rfl ⟨⟨5, 0, 0, 0, 0, wd, 0, ⟨#[]⟩⟩, rfl, king0, D.src, D.gr⟩
            simp [results, go_sem, z0, z1, z2, z3, z4, z5, z6, z7]
          · have r0 := Box.cell res 0 _ rfl
            have r1 := Box.cell res 1 _ rfl
            have r2 := Box.cell res 2 _ rfl
            have r3 := Box.cell res 3 _ rfl
            have r4 := Box.cell res 4 _ rfl
            have r5 := Box.cell res 5 _ rfl
            have r6 := Box.cell res 6 _ rfl
            have r7 := Box.cell res 7 _ rfl
            have f0 := World.ownsRow.frozenAt res 0
            have f1 := World.ownsRow.frozenAt res 1
            have f2 := World.ownsRow.frozenAt res 2
            have f3 := World.ownsRow.frozenAt res 3
            have f4 := World.ownsRow.frozenAt res 4
            have f5 := World.ownsRow.frozenAt res 5
            have f6 := World.ownsRow.frozenAt res 6
            have f7 := World.ownsRow.frozenAt res 7
            have HP8 := Lib.hid (Box.put8 res (.int .i64 3) (.int .i64 y) (.int .i64 0) (.int .i64 0) (.int .i64 0) (.int .i64 0) (.int .i64 s) (.string ⟨#[]⟩))
            go_wp2
            have hp := HP8.out
            have D := D.store hp.2 (Nat.le_refl _)
            generalize (((((((w5.setCell ⟨w.heap.size, 0, none⟩ (.int .i64 3)).setCell ⟨w.heap.size, 1, none⟩ (.int .i64 y)).setCell ⟨w.heap.size, 2, none⟩ (.int .i64 0)).setCell ⟨w.heap.size, 3, none⟩ (.int .i64 0)).setCell ⟨w.heap.size, 4, none⟩ (.int .i64 0)).setCell ⟨w.heap.size, 5, none⟩ (.int .i64 0)).setCell ⟨w.heap.size, 6, none⟩ (.int .i64 s)).setCell ⟨w.heap.size, 7, none⟩ (.string ⟨#[]⟩) = Wf at hp D ⊢
            have z0 := hp.1.cell 0 _ rfl
            have z1 := hp.1.cell 1 _ rfl
            have z2 := hp.1.cell 2 _ rfl
            have z3 := hp.1.cell 3 _ rfl
            have z4 := hp.1.cell 4 _ rfl
            have z5 := hp.1.cell 5 _ rfl
            have z6 := hp.1.cell 6 _ rfl
            have z7 := hp.1.cell 7 _ rfl
            refine bodyPost_ret_by (v := .agg #[.int .i64 3, .int .i64 y, .int .i64 0, .int .i64 0, .int .i64 0, .int .i64 0, .int .i64 s, .string ⟨#[]⟩]) ?_ rfl ⟨⟨3, y, 0, 0, 0, 0, s, ⟨#[]⟩⟩, rfl, king0, D.src, D.gr⟩
            simp [results, go_sem, z0, z1, z2, z3, z4, z5, z6, z7]
        · have q3' : (r == 3) = false := by simpa using q3
          by_cases q4 : r = 4
          · subst q4
            clear dat
            go_wp2_with fail
            refine (HN.out 3 _ (by decide) (by decide) D.src).mono ?_
            rintro e w3 ⟨s, rfl, hs0, hs1, hs, hG⟩
            have res := Box.keepA res hG D.hp
            have D := D.call hs hG
            clear hs hG
            go_wp2_with fail
            refine (l08On_any s n _ (by omega) (by omega) hn0 hn).mono ?_
            rintro e w5 ⟨rfl, hB5⟩
            have res := Box.below res hB5
            have D := D.below hB5
            clear hB5
            generalize ioO s n = y
            have r0 := Box.cell res 0 _ rfl
            have r1 := Box.cell res 1 _ rfl
            have r2 := Box.cell res 2 _ rfl
            have r3 := Box.cell res 3 _ rfl
            have r4 := Box.cell res 4 _ rfl
            have r5 := Box.cell res 5 _ rfl
            have r6 := Box.cell res 6 _ rfl
            have r7 := Box.cell res 7 _ rfl
            have f0 := World.ownsRow.frozenAt res 0
            have f1 := World.ownsRow.frozenAt res 1
            have f2 := World.ownsRow.frozenAt res 2
            have f3 := World.ownsRow.frozenAt res 3
            have f4 := World.ownsRow.frozenAt res 4
            have f5 := World.ownsRow.frozenAt res 5
            have f6 := World.ownsRow.frozenAt res 6
            have f7 := World.ownsRow.frozenAt res 7
            have HP8 := Lib.hid (Box.put8 res (.int .i64 4) (.int .i64 y) (.int .i64 0) (.int .i64 0) (.int .i64 0) (.int .i64 0) (.int .i64 s) (.string ⟨#[]⟩))
            go_wp2
            have hp := HP8.out
            have D := D.store hp.2 (Nat.le_refl _)
            generalize (((((((w5.setCell ⟨w.heap.size, 0, none⟩ (.int .i64 4)).setCell ⟨w.heap.size, 1, none⟩ (.int .i64 y)).setCell ⟨w.heap.size, 2, none⟩ (.int .i64 0)).setCell ⟨w.heap.size, 3, none⟩ (.int .i64 0)).setCell ⟨w.heap.size, 4, none⟩ (.int .i64 0)).setCell ⟨w.heap.size, 5, none⟩ (.int .i64 0)).setCell ⟨w.heap.size, 6, none⟩ (.int .i64 s)).setCell ⟨w.heap.size, 7, none⟩ (.string ⟨#[]⟩) = Wf at hp D ⊢
            have z0 := hp.1.cell 0 _ rfl
            have z1 := hp.1.cell 1 _ rfl
            have z2 := hp.1.cell 2 _ rfl
            have z3 := hp.1.cell 3 _ rfl
            have z4 := hp.1.cell 4 _ rfl
            have z5 := hp.1.cell 5 _ rfl
            have z6 := hp.1.cell 6 _ rfl
            have z7 := hp.1.cell 7 _ rfl
            refine bodyPost_ret_by (v := .agg #[.int .i64 4, .int .i64 y, .int .i64 0, .int .i64 0, .int .i64 0, .int .i64 0, .int .i64 s, .string ⟨#[]⟩]) ?_ rfl ⟨⟨4, y, 0, 0, 0, 0, s, ⟨#[]⟩⟩, rfl, king0, D.src, D.gr⟩
            simp [results, go_sem, z0, z1, z2, z3, z4, z5, z6, z7]
          · have q4' : (r == 4) = false := by simpa using q4
            clear dat
            go_wp2_with fail
            refine (HW.out _).mono ?_
            rintro e wz ⟨rfl, rfl⟩
            have r0 := Box.cell res 0 _ rfl
            have r1 := Box.cell res 1 _ rfl
            have r2 := Box.cell res 2 _ rfl
            have r3 := Box.cell res 3 _ rfl
            have r4 := Box.cell res 4 _ rfl
            have r5 := Box.cell res 5 _ rfl
            have r6 := Box.cell res 6 _ rfl
            have r7 := Box.cell res 7 _ rfl
            have f0 := World.ownsRow.frozenAt res 0
            have f1 := World.ownsRow.frozenAt res 1
            have f2 := World.ownsRow.frozenAt res 2
            have f3 := World.ownsRow.frozenAt res 3
            have f4 := World.ownsRow.frozenAt res 4
            have f5 := World.ownsRow.frozenAt res 5
            have f6 := World.ownsRow.frozenAt res 6
            have f7 := World.ownsRow.frozenAt res 7
            have HP8 := Lib.hid (Box.put8 res (.int .i64 5) (.int .i64 0) (.int .i64 0) (.int .i64 0) (.int .i64 0) (.int .i64 wd) (.int .i64 0) (.string ⟨#[]⟩))
            go_wp2
            have hp := HP8.out
            have D := D.store hp.2 (Nat.le_refl _)
            generalize (((((((w3.setCell ⟨w.heap.size, 0, none⟩ (.int .i64 5)).setCell ⟨w.heap.size, 1, none⟩ (.int .i64 0)).setCell ⟨w.heap.size, 2, none⟩ (.int .i64 0)).setCell ⟨w.heap.size, 3, none⟩ (.int .i64 0)).setCell ⟨w.heap.size, 4, none⟩ (.int .i64 0)).setCell ⟨w.heap.size, 5, none⟩ (.int .i64 wd)).setCell ⟨w.heap.size, 6, none⟩ (.int .i64 0)).setCell ⟨w.heap.size, 7, none⟩ (.string ⟨#[]⟩) = Wf at hp D ⊢
            have z0 := hp.1.cell 0 _ rfl
            have z1 := hp.1.cell 1 _ rfl
            have z2 := hp.1.cell 2 _ rfl
            have z3 := hp.1.cell 3 _ rfl
            have z4 := hp.1.cell 4 _ rfl
            have z5 := hp.1.cell 5 _ rfl
            have z6 := hp.1.cell 6 _ rfl
            have z7 := hp.1.cell 7 _ rfl
            refine bodyPost_ret_by (v := .agg #[.int .i64 5, .int .i64 0, .int .i64 0, .int .i64 0, .int .i64 0, .int .i64 wd, .int .i64 0, .string ⟨#[]⟩]) ?_ rfl ⟨⟨5, 0, 0, 0, 0, wd, 0, ⟨#[]⟩⟩, rfl, king0, D.src, D.gr⟩
            simp [results, go_sem, z0, z1, z2, z3, z4, z5, z6, z7]
end
end Go.Proofs.YtdbgnbohdplndaaGreatDoor
