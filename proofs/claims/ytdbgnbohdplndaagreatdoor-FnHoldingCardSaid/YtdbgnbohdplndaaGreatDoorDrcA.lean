/- Walks: the reigns on a day; a box of eight cells. Printed by gen_drc.py. -/
import Derived.Test.YtdbgnbohdplndaaGreatDoorDrl
import Derived.Test.YtdbgnbohdplndaaGreatDoorNear
namespace Go.Proofs.YtdbgnbohdplndaaGreatDoor
open Go.ChangeShapes Go.WideShapes Go.ChangeAt Go.RowKit Go.IntWalk

theorem Box.put8 {B : Nat} {w : World} {T : TypeId} {g : Nat} {x0 x1 x2 x3 x4 x5 x6 x7 : Value} (h : Box B w T g [x0, x1, x2, x3, x4, x5, x6, x7]) (a0 a1 a2 a3 a4 a5 a6 a7 : Value) :
    Box B ((((((((w.setCell ⟨g, 0, none⟩ (a0)).setCell ⟨g, 1, none⟩ (a1)).setCell ⟨g, 2, none⟩ (a2)).setCell ⟨g, 3, none⟩ (a3)).setCell ⟨g, 4, none⟩ (a4)).setCell ⟨g, 5, none⟩ (a5)).setCell ⟨g, 6, none⟩ (a6)).setCell ⟨g, 7, none⟩ (a7)) T g [a0, a1, a2, a3, a4, a5, a6, a7] ∧ w.grownBy ((((((((w.setCell ⟨g, 0, none⟩ (a0)).setCell ⟨g, 1, none⟩ (a1)).setCell ⟨g, 2, none⟩ (a2)).setCell ⟨g, 3, none⟩ (a3)).setCell ⟨g, 4, none⟩ (a4)).setCell ⟨g, 5, none⟩ (a5)).setCell ⟨g, 6, none⟩ (a6)).setCell ⟨g, 7, none⟩ (a7)) (some g) := by
  have h0 := Box.put (i := 0) (pre := []) (post := [x1, x2, x3, x4, x5, x6, x7]) h rfl a0
  have h1 := Box.put (i := 1) (pre := [a0]) (post := [x2, x3, x4, x5, x6, x7]) h0.1 rfl a1
  have h2 := Box.put (i := 2) (pre := [a0, a1]) (post := [x3, x4, x5, x6, x7]) h1.1 rfl a2
  have h3 := Box.put (i := 3) (pre := [a0, a1, a2]) (post := [x4, x5, x6, x7]) h2.1 rfl a3
  have h4 := Box.put (i := 4) (pre := [a0, a1, a2, a3]) (post := [x5, x6, x7]) h3.1 rfl a4
  have h5 := Box.put (i := 5) (pre := [a0, a1, a2, a3, a4]) (post := [x6, x7]) h4.1 rfl a5
  have h6 := Box.put (i := 6) (pre := [a0, a1, a2, a3, a4, a5]) (post := [x7]) h5.1 rfl a6
  have h7 := Box.put (i := 7) (pre := [a0, a1, a2, a3, a4, a5, a6]) (post := []) h6.1 rfl a7
  exact ⟨h7.1, gT (gT (gT (gT (gT (gT (gT (h0.2) h1.2) h2.2) h3.2) h4.2) h5.2) h6.2) h7.2⟩
/-- A list of the numbers of reigns in which a day lies. -/
def onL (rs : List Rg) (n : Int) (xs : List Int) : Prop := ∀ i ∈ xs, ∃ (k : Nat) (m : Rg), i = k ∧ rs[k]? = some m ∧ m.fr ≤ n ∧ n ≤ m.to
set_option maxRecDepth 100000 in
set_option maxHeartbeats 1000000 in
theorem l07On_any (a : Option Addr) (cap : Nat) (rs : List Rg) (n : Int) (w : World) (hl : rs.length ≤ 1048576) (hx : Rd encRg w a rs) :
    Calls Tryz.prog 147 #[.slice a rs.length cap, .int .i64 n] w fun e w' => ∃ (g c : Nat) (xs : List Int), e = .returned (.slice (some ⟨g, 0, none⟩) xs.length c) ∧ xs.length ≤ rs.length ∧ onL rs n xs ∧ w'.ownsRow w.heap.size 2 1 (.slice (some ⟨g, 0, none⟩) xs.length c) xs.length (xs.flatMap encI) ∧ Below w.heap.size w w' := by
  obtain ⟨i0, hi, hz0, hz1, hz2⟩ := info_parts infoI
  have hB0 := belowA w (.cells #[] 2)
  have hown0 := World.ownsRow_made w #[] 0 (Nat.le_refl _) (by decide) rfl (e := 2) (size := 1)
  go_enter Tryz.func147, Tryz.ntmps147
  go_wp2
  go_loopw [5, 6] (fun s i wr => ∃ (k g c : Nat) (out : List Int), k ≤ rs.length ∧ i = .int .i64 k ∧ s = .slice (some ⟨g, 0, none⟩) out.length c ∧ out.length ≤ k ∧ onL rs n out ∧ wr.ownsRow w.heap.size 2 1 (.slice (some ⟨g, 0, none⟩) out.length c) out.length (out.flatMap encI) ∧ Below w.heap.size w wr) (fun _ i _ => rs.length - (intOf i).toNat)
  case atStart => exact ⟨0, _, _, [], Nat.zero_le _, rfl, rfl, by simp, (fun i h => by cases h), hown0, hB0⟩
  case round =>
    clear hown0 hB0
    obtain ⟨k, g, c, out, hk, rfl, rfl, hlo, hon, hown, hB⟩ := hrel
    by_cases hlt : k < rs.length
    · have hlt' : (k : Int) < (rs.length : Int) := by omega
      have hm := List.getElem?_eq_getElem hlt
      generalize rs[k] = m at hm
      obtain ⟨b, off, rfl, hb, c0, c1, c2⟩ := (hx.below hB).rg hm
      have HI := Lib.hid (fun W => l01In_any n m.fr m.to W)
      have G1 := Later.cell c1 hb
      have G2 := Later.cell c2 hb
      clear c0 c1 c2
      cases hin : inB n m.fr m.to
      all_goals
        have HI := Lib.hid (fun W => hin ▸ HI.out W)
        go_upto_region 5 with (fail)
        refine wp_region_later _ (by kernel_rfl) (by kernel_rfl) ?_
        repeat (go_big_quiet_step (fail))
        go_big_quiet_step ((go_at_call 66; exact Later.same ((HI.out _).mono fun _ _ ⟨h1, h2⟩ => ⟨h1, h2⟩)))
        repeat (go_big_quiet_step (fail))
        refine wpQuiet_nil ?_
        intro z
        have hz := z.prop
        generalize z.val = w2 at hz
        clear G1 G2
        have hown := own_below hown hz
        have hB := stepB hB hz hB.size
        clear hz
      · go_wp2
        go_roundw
        case rel => exact ⟨k + 1, g, c, out, by omega, by go_num, rfl, by omega, hon, hown, hB⟩
        case measure => simp [intOf]; omega
      · have hin2 : m.fr ≤ n ∧ n ≤ m.to := by simpa [inB] using hin
        go_wp2_with (at_builtin; refine wpList_append_own _ rfl _ _ 41 rfl w.heap.size 2 i0 (.int .i64 0) 1 8 Tryz.underlying41 hi hz0 hz1 hz2 rfl (by decide) _ _ _ rfl (hown.alloc _) ⟨w2.heap.size, 0, none⟩ 1 1 [.int .i64 k] rfl rfl (cell_one_new _ _ _) ?c2 ?c3 ?c4 ?c5 ?_)
        case c2 => intro u hu; simp at hu; subst hu; rfl
        case c3 => unfold maxLen; omega
        case c4 => omega
        case c5 => have := hB.size; simp; omega
        intro v' w4 hown' hgr _
        have hB' := (hB.alloc hB.size (.cells #[.int .i64 k] 2)).grown hgr (Nat.le_trans hB.size (by simp)) (fun x hx => (hown.lt x hx).1)
        obtain ⟨g', c', rfl⟩ := formJ hown' (by omega)
        clear hgr hown hB
        go_wp2
        go_roundw
        case rel => exact ⟨k + 1, g', c', out ++ [(k : Int)], by omega, by go_num, by rw [List.length_append]; rfl, by simp; omega, (fun i h => by
          rcases List.mem_append.1 h with h | h
          · exact hon i h
          · simp at h; exact ⟨k, m, h, hm, hin2⟩), by rw [List.length_append, List.flatMap_append]; exact hown', hB'⟩
        case measure => simp [intOf]; omega
    · have hlt' : decide ((k : Int) < (rs.length : Int)) = false := by simp; omega
      go_wp2
      go_ret
      exact ⟨g, c, out, rfl, by omega, hon, hown, hB⟩
end Go.Proofs.YtdbgnbohdplndaaGreatDoor
