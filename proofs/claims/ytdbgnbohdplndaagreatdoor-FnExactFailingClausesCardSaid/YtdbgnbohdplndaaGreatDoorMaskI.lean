/- Walks: the clauses that fail on a day, as a number and as a list, by the program and by the reference; the number of ones. -/
import Derived.Test.YtdbgnbohdplndaaGreatDoorOnes
import Derived.Test.YtdbgnbohdplndaaGreatDoorFirst
namespace Go.Proofs.YtdbgnbohdplndaaGreatDoor
open Go.ChangeShapes Go.WideShapes Go.ChangeAt Go.RowKit Go.IntWalk

/-- Which clauses fail on a day. -/
def failL (rs : List Rg) (cs : List Cl) (n : Int) : List Bool := cs.map fun c => !holdB rs c n
theorem failL_len (rs : List Rg) (cs : List Cl) (n : Int) : (failL rs cs n).length = cs.length := by simp [failL]
theorem failL_at {rs : List Rg} {cs : List Cl} {n : Int} {k : Nat} {c : Cl} (h : cs[k]? = some c) : (failL rs cs n)[k]? = some (!holdB rs c n) := by simp [failL, h]
theorem mask_take {bs : List Bool} {k : Nat} {b : Bool} (h : bs[k]? = some b) : maskB (bs.take (k + 1)) = maskB (bs.take k) + b.toNat * 2 ^ k := by
  obtain ⟨hk, rfl⟩ := List.getElem?_eq_some_iff.1 h
  rw [List.take_succ_eq_append_getElem hk, maskB_snoc, List.length_take, Nat.min_eq_left (Nat.le_of_lt hk)]
theorem mask_lt_take (bs : List Bool) (k : Nat) : maskB (bs.take k) < 2 ^ k :=
  Nat.lt_of_lt_of_le (maskB_lt _) (Nat.pow_le_pow_right (by decide) (by simp; omega))
theorem idx_take {bs : List Bool} {k : Nat} {b : Bool} (h : bs[k]? = some b) : idxGo 0 (bs.take (k + 1)) = idxGo 0 (bs.take k) ++ (if b = true then [(k : Int)] else []) := by
  obtain ⟨hk, rfl⟩ := List.getElem?_eq_some_iff.1 h
  rw [List.take_succ_eq_append_getElem hk, idxGo_snoc, List.length_take, Nat.min_eq_left (Nat.le_of_lt hk), Nat.zero_add]
theorem pow_le_128 {k : Nat} (h : k < 8) : 2 ^ k ≤ 128 := (Nat.pow_le_pow_right (by decide) (by omega : k ≤ 7) : 2 ^ k ≤ 2 ^ 7)

set_option maxRecDepth 100000 in
set_option maxHeartbeats 1000000 in
theorem failing_any (a0 a1 : Option Addr) (cap0 cap1 : Nat) (rs : List Rg) (f t : Int) (cs : List Cl) (n : Int) (w : World) (hl0 : rs.length ≤ 1048576) (hx0 : Rd encRg w a0 rs) (hfr : ∀ r ∈ rs, 0 ≤ r.fr) (hl1 : cs.length ≤ 8) (hx1 : Rd encCl w a1 cs) (hok : ∀ c ∈ cs, okCl c = true) (hn0 : 0 ≤ n) (hn : n ≤ 730499) :
    Calls Tryz.prog 65 #[.agg #[.slice a0 rs.length cap0, .int .i64 f, .int .i64 t], .slice a1 cs.length cap1, .int .i64 n] w fun e w' => e = .returned (.int .u64 (maskB (failL rs cs n) : Nat)) ∧ Below w.heap.size w w' := by
  have hA := At.start w [.slice a0 rs.length cap0, .int .i64 f, .int .i64 t] 32
  have HH := Lib.hid (fun c W (h : At w [.slice a0 rs.length cap0, .int .i64 f, .int .i64 t] W) (hc : c ∈ cs) => holds_any a0 cap0 rs c n W (hok c hc) hl0 (hx0.below h.below) hfr hn0 hn)
  have hlen := failL_len rs cs n
  have hat := Lib.hid (fun k c h => failL_at (rs := rs) (cs := cs) (n := n) (k := k) (c := c) h)
  have hV : Hid (maskB (failL rs cs n) = maskB ((failL rs cs n).take cs.length)) := by unfold Hid; rw [← hlen, List.take_length]
  generalize failL rs cs n = L at hlen hat hV ⊢
  generalize maskB L = V at hV ⊢
  go_enter Tryz.func65, Tryz.ntmps65
  go_wp2
  go_loopw [7, 12] (fun s i wr => ∃ (k m : Nat), k ≤ cs.length ∧ i = .int .i64 k ∧ s = .int .u64 (m : Nat) ∧ Hid (m = maskB (L.take k)) ∧ At w [.slice a0 rs.length cap0, .int .i64 f, .int .i64 t] wr) (fun _ i _ => cs.length - (intOf i).toNat)
  case atStart => exact ⟨0, 0, Nat.zero_le _, rfl, rfl, rfl, hA⟩
  case round =>
    clear hA
    obtain ⟨k, m, hk, rfl, rfl, hq, hA⟩ := hrel
    by_cases hlt : k < cs.length
    · have hlt' : (k : Int) < (cs.length : Int) := by omega
      have hm := List.getElem?_eq_getElem hlt
      have hmem := List.getElem_mem hlt
      generalize cs[k] = c at hm hmem
      have hst := Lib.hid (mask_take (hat.out k c hm))
      have hmb := mask_lt_take L k
      rw [← hq.out] at hmb
      have hpw := pow_le_128 (k := k) (by omega)
      have hor := Lib.hid (or_wrap m k hmb (by omega))
      obtain ⟨b, off, rfl, hb, c0, c1, c2, c3, c4, c5, c6, c7⟩ := (hx1.below hA.below).cl hm
      have HHc := Lib.hid (fun W h => HH.out c W h hmem)
      clear hm hmem
      go_upto_region 5 with (fail)
      generalize hW : wr.alloc (.cells #[.int .i64 c.kind, .int .i64 c.number, .int .i64 c.month, .int .i64 c.feast, .int .i64 c.relation, .int .i64 c.weekday, .int .i64 c.style, .string c.king] 57) = W
      have hA := hA.step (by rw [← hW]; go_grown : Below wr.heap.size wr W)
      have hd : wr.heap.size < W.heap.size := by rw [← hW]; simp
      have e0 := hA.cell 0 _ rfl
      have D0 : W.cell? ⟨wr.heap.size, 0, none⟩ = some (.int .i64 c.kind) := by rw [← hW]; exact World.cell?_alloc_at _ _ _ _ rfl
      have D1 : W.cell? ⟨wr.heap.size, 1, none⟩ = some (.int .i64 c.number) := by rw [← hW]; exact World.cell?_alloc_at _ _ _ _ rfl
      have D2 : W.cell? ⟨wr.heap.size, 2, none⟩ = some (.int .i64 c.month) := by rw [← hW]; exact World.cell?_alloc_at _ _ _ _ rfl
      have D3 : W.cell? ⟨wr.heap.size, 3, none⟩ = some (.int .i64 c.feast) := by rw [← hW]; exact World.cell?_alloc_at _ _ _ _ rfl
      have D4 : W.cell? ⟨wr.heap.size, 4, none⟩ = some (.int .i64 c.relation) := by rw [← hW]; exact World.cell?_alloc_at _ _ _ _ rfl
      have D5 : W.cell? ⟨wr.heap.size, 5, none⟩ = some (.int .i64 c.weekday) := by rw [← hW]; exact World.cell?_alloc_at _ _ _ _ rfl
      have D6 : W.cell? ⟨wr.heap.size, 6, none⟩ = some (.int .i64 c.style) := by rw [← hW]; exact World.cell?_alloc_at _ _ _ _ rfl
      have D7 : W.cell? ⟨wr.heap.size, 7, none⟩ = some (.string c.king) := by rw [← hW]; exact World.cell?_alloc_at _ _ _ _ rfl
      clear hW c0 c1 c2 c3 c4 c5 c6 c7 hb
      cases hg : holdB rs c n
      · have HHc := Lib.hid (fun W h => hg ▸ HHc.out W h)
        have hst := Lib.hid (hg ▸ hst.out)
        go_wp2_with fail
        refine (HHc.out _ hA).mono ?_
        rintro e w2 ⟨rfl, hB2⟩
        go_wp2
        go_roundw
        case rel => exact ⟨k + 1, m + 2 ^ k, by omega, by go_num, by exact congrArg (Value.int IntKind.u64) hor.out, by unfold Hid; rw [hst.out, ← hq.out]; simp, hA.step hB2⟩
        case measure => simp [intOf]; omega
      · have HHc := Lib.hid (fun W h => hg ▸ HHc.out W h)
        have hst := Lib.hid (hg ▸ hst.out)
        go_wp2_with fail
        refine (HHc.out _ hA).mono ?_
        rintro e w2 ⟨rfl, hB2⟩
        go_wp2
        go_roundw
        case rel => exact ⟨k + 1, m, by omega, by go_num, rfl, by unfold Hid; rw [hst.out, ← hq.out]; simp, hA.step hB2⟩
        case measure => simp [intOf]; omega
    · have hlt' : decide ((k : Int) < (cs.length : Int)) = false := by simp; omega
      obtain rfl : k = cs.length := by omega
      obtain rfl : m = V := hq.out.trans hV.out.symm
      go_wp2
      go_ret
      exact ⟨rfl, hA.below⟩
set_option maxRecDepth 100000 in
set_option maxHeartbeats 1000000 in
theorem l12Failing_any (a0 a1 : Option Addr) (cap0 cap1 : Nat) (rs : List Rg) (f t : Int) (cs : List Cl) (n : Int) (w : World) (hl0 : rs.length ≤ 1048576) (hx0 : Rd encRg w a0 rs) (hfr : ∀ r ∈ rs, 0 ≤ r.fr) (hl1 : cs.length ≤ 8) (hx1 : Rd encCl w a1 cs) (hok : ∀ c ∈ cs, okCl c = true) (hn0 : 0 ≤ n) (hn : n ≤ 730499) :
    Calls Tryz.prog 63 #[.agg #[.slice a0 rs.length cap0, .int .i64 f, .int .i64 t], .slice a1 cs.length cap1, .int .i64 n] w fun e w' => ∃ g c, e = .returned (.slice (some ⟨g, 0, none⟩) (idxGo 0 (failL rs cs n)).length c) ∧ w'.ownsRow w.heap.size 2 1 (.slice (some ⟨g, 0, none⟩) (idxGo 0 (failL rs cs n)).length c) (idxGo 0 (failL rs cs n)).length ((idxGo 0 (failL rs cs n)).flatMap encI) ∧ Below w.heap.size w w' := by
  have hA := At.start w [.slice a0 rs.length cap0, .int .i64 f, .int .i64 t] 32
  have HH := Lib.hid (fun c W (h : At w [.slice a0 rs.length cap0, .int .i64 f, .int .i64 t] W) (hc : c ∈ cs) => l11Holds_any a0 cap0 rs c n W (hok c hc) hl0 (hx0.below h.below) hfr hn0 hn)
  have hlen := failL_len rs cs n
  have hat := Lib.hid (fun k c h => failL_at (rs := rs) (cs := cs) (n := n) (k := k) (c := c) h)
  have hV : Hid (idxGo 0 (failL rs cs n) = idxGo 0 ((failL rs cs n).take cs.length)) := by unfold Hid; rw [← hlen, List.take_length]
  generalize failL rs cs n = L at hlen hat hV ⊢
  generalize idxGo 0 L = V at hV ⊢
  obtain ⟨i0, hi, hz0, hz1, hz2⟩ := info_parts infoI
  have hA0 := hA.step ((Below.refl _ (w.alloc (.cells #[.slice a0 rs.length cap0, .int .i64 f, .int .i64 t] 32))).alloc (Nat.le_refl _) (.cells #[] 2))
  have howns := World.ownsRow_made (w.alloc (.cells #[.slice a0 rs.length cap0, .int .i64 f, .int .i64 t] 32)) #[] 0 (base := w.heap.size + 1) (by simp) (by decide) rfl (e := 2) (size := 1)
  go_enter Tryz.func63, Tryz.ntmps63
  go_wp2
  go_loopw [7, 8] (fun s i wr => ∃ (k g c : Nat) (out : List Int), k ≤ cs.length ∧ i = .int .i64 k ∧ s = .slice (some ⟨g, 0, none⟩) out.length c ∧ wr.ownsRow (w.heap.size + 1) 2 1 (.slice (some ⟨g, 0, none⟩) out.length c) out.length (out.flatMap encI) ∧ At w [.slice a0 rs.length cap0, .int .i64 f, .int .i64 t] wr ∧ Hid (out = idxGo 0 (L.take k))) (fun _ i _ => cs.length - (intOf i).toNat)
  case atStart => exact ⟨0, _, _, [], Nat.zero_le _, rfl, rfl, by simpa using howns, hA0, rfl⟩
  case round =>
    clear howns hA hA0
    obtain ⟨k, g, c', out, hk, rfl, rfl, hown, hA, hM⟩ := hrel
    have hlo := idxGo_len (L.take k) 0
    rw [← hM.out, List.length_take] at hlo
    by_cases hlt : k < cs.length
    · have hlt' : (k : Int) < (cs.length : Int) := by omega
      have hm := List.getElem?_eq_getElem hlt
      have hmem := List.getElem_mem hlt
      generalize cs[k] = c at hm hmem
      have hst := idx_take (hat.out k c hm)
      rw [← hM.out] at hst
      have hst := Lib.hid hst
      obtain ⟨b, off, rfl, hb, c0, c1, c2, c3, c4, c5, c6, c7⟩ := (hx1.below hA.below).cl hm
      have HHc := Lib.hid (fun W h => HH.out c W h hmem)
      have E0 := Later.cell (hA.cell 0 _ rfl) hA.size
      have G0 := Later.cell c0 hb
      have G1 := Later.cell c1 hb
      have G2 := Later.cell c2 hb
      have G3 := Later.cell c3 hb
      have G4 := Later.cell c4 hb
      have G5 := Later.cell c5 hb
      have G6 := Later.cell c6 hb
      have G7 := Later.cell c7 hb
      clear hm hmem c0 c1 c2 c3 c4 c5 c6 c7 hM
      cases hg : holdB rs c n
      · have hst := Lib.hid (hg ▸ hst.out)
        have HHc := Lib.hid (fun W h => hg ▸ HHc.out W h)
        go_upto_region 5 with (fail)
        refine wp_region_later _ (by kernel_rfl) (by kernel_rfl) ?_
        repeat (go_big_quiet_step (fail))
        go_big_quiet_step ((go_at_call 82; exact Later.call (Nat.le_refl _) (HHc.out _ (hA.step (Later.prop _)))))
        repeat (go_big_quiet_step (fail))
        refine wpQuiet_nil ?_
        intro z
        have hz := z.prop
        generalize z.val = w2 at hz
        clear E0 G0 G1 G2 G3 G4 G5 G6 G7
        have hown := own_below hown hz
        have hA := hA.step hz
        clear hz
        go_wp2_with (at_builtin; refine wpList_append_own _ rfl _ _ 41 rfl (w.heap.size + 1) 2 i0 (.int .i64 0) 1 8 Tryz.underlying41 hi hz0 hz1 hz2 rfl (by decide) _ _ _ rfl (hown.alloc _) ⟨w2.heap.size, 0, none⟩ 1 1 [.int .i64 k] rfl rfl (cell_one_new _ _ _) ?c2 ?c3 ?c4 ?c5 ?_)
        case c2 => intro u hu; simp at hu; subst hu; rfl
        case c3 => unfold maxLen; omega
        case c4 => omega
        case c5 => have := hA.size; simp; omega
        intro v' w4 hown' hgr _
        have hA' := (hA.step ((Below.refl _ w2).alloc (Nat.le_refl _) (.cells #[.int .i64 k] 2))).grown hgr (fun x hx => (hown.lt x hx).1)
        obtain ⟨g', c', rfl⟩ := formJ hown' (by omega)
        clear hgr hown hA
        go_wp2
        go_roundw
        case rel => exact ⟨k + 1, g', c', out ++ [(k : Int)], by omega, by go_num, by rw [List.length_append]; rfl, by rw [List.length_append, List.flatMap_append]; exact hown', hA', hst.out.symm⟩
        case measure => simp [intOf]; omega
      · have hst := Lib.hid (hg ▸ hst.out)
        have HHc := Lib.hid (fun W h => hg ▸ HHc.out W h)
        go_upto_region 5 with (fail)
        refine wp_region_later _ (by kernel_rfl) (by kernel_rfl) ?_
        repeat (go_big_quiet_step (fail))
        go_big_quiet_step ((go_at_call 82; exact Later.call (Nat.le_refl _) (HHc.out _ (hA.step (Later.prop _)))))
        repeat (go_big_quiet_step (fail))
        refine wpQuiet_nil ?_
        intro z
        have hz := z.prop
        generalize z.val = w2 at hz
        clear E0 G0 G1 G2 G3 G4 G5 G6 G7
        have hown := own_below hown hz
        have hA := hA.step hz
        clear hz
        go_wp2
        go_roundw
        case rel => exact ⟨k + 1, g, c', out, by omega, by go_num, rfl, hown, hA, by unfold Hid; rw [hst.out]; simp⟩
        case measure => simp [intOf]; omega
    · have hlt' : decide ((k : Int) < (cs.length : Int)) = false := by simp; omega
      obtain rfl : k = cs.length := by omega
      have hR := hM.out.trans hV.out.symm
      subst hR
      go_wp2
      go_ret
      exact ⟨g, c', rfl, own_base hown (by omega), hA.below⟩
end Go.Proofs.YtdbgnbohdplndaaGreatDoor
