/- Walk: waysOf: for each two places, the least days of a way between them. -/
import Derived.Test.YtihmacmieofbgaaDoorMat
import Derived.Test.YtihmacmieofbgaaDoorRept
import Derived.Test.YtihmacmieofbgaaDoorLandB
namespace Go.Proofs.YtihmacmieofbgaaDoor
open Go.ChangeShapes Go.WideShapes Go.ChangeAt Go.RowKit

theorem form1 {w : World} {base : Nat} {e : TypeId} {k n : Nat} {v : Value} {xs : List Value} (h : w.ownsRow base e k v n xs) (hn : 0 < n) : ∃ g c, v = .slice (some ⟨g, 0, none⟩) n c := by
  rcases h.2 with ⟨h1, h2⟩ | ⟨g, c, _, e, _⟩
  · omega
  · exact ⟨_, c, e⟩
theorem waysM_take {ws : List Wy} {q : Nat} {m : Wy} (h : ws[q]? = some m) : (ws.take (q + 1)).foldl wayStep wayStart = wayStep ((ws.take q).foldl wayStep wayStart) m := by
  obtain ⟨hk, rfl⟩ := List.getElem?_eq_some_iff.1 h
  rw [List.take_succ_eq_append_getElem hk, List.foldl_append]
  rfl
set_option maxRecDepth 100000 in
set_option maxHeartbeats 4000000 in
theorem waysOf_any (a0 a1 : Option Addr) (cap0 cap1 n : Nat) (ws : List Wy) (w : World) (hn1 : 1 ≤ n) (hn : n ≤ 12) (hl1 : ws.length ≤ 40) (ho : OkWs n ws) (hx1 : Rd encWy w a1 ws) :
    Calls Tryd.prog 38 #[.agg #[.slice a0 n cap0, .slice a1 ws.length cap1]] w fun e w' =>
      ∃ H c g, e = .returned (.slice (some ⟨H, 0, none⟩) n c) ∧ Mat w.heap.size w' H c n n g (waysM ws) ∧ Below w.heap.size w w' := by
  obtain ⟨i0, hi, hz0, hz1, hz2⟩ := info_parts infoSI
  go_enter Tryd.func38, Tryd.ntmps38
  go_wp2
  go_loopw [3, 12] (fun o i wr => ∃ (k H c : Nat) (g : Nat → Nat), k ≤ n ∧ i = .int .i64 k ∧ o = .slice (some ⟨H, 0, none⟩) k c ∧ Mat (w.heap.size + 1) wr H c n k g wayStart ∧ At w [.slice a0 n cap0, .slice a1 ws.length cap1] wr) (fun _ i _ => n - (intOf i).toNat)
  case atStart =>
    refine ⟨0, w.heap.size + 1, 0, fun _ => 0, Nat.zero_le _, rfl, rfl, ⟨?_, fun i hi => by omega, fun i j hi => by omega⟩, (At.start w _ _).step ((Below.refl _ _).alloc (Nat.le_refl _) _)⟩
    have := World.ownsRow_made (base := w.heap.size + 1) (w.alloc (.cells #[.slice a0 n cap0, .slice a1 ws.length cap1] 27)) #[] 0 (e := 30) (size := 1) (by simp) (by decide) rfl
    simpa [hdrI] using this
  case round =>
    obtain ⟨k, H, c, g, hk, rfl, rfl, hM, hA⟩ := hrel
    have b0 := hA.cell 0 _ rfl
    by_cases hlt : k < n
    · have hk1 : (k : Int) < (n : Int) := by omega
      have hB3 : Below wr.heap.size wr (wr.alloc (.cells #[.int .i64 1000000] 2)) := (Below.refl _ wr).alloc (Nat.le_refl _) _
      have hs3 : (wr.alloc (.cells #[.int .i64 1000000] 2)).heap.size = wr.heap.size + 1 := by simp
      have b0' := (hB3.cell (p := ⟨w.heap.size, 0, none⟩) hA.size).trans b0
      have c3 : (wr.alloc (.cells #[.int .i64 1000000] 2)).cell? ⟨wr.heap.size, 0, none⟩ = some (.int .i64 1000000) := World.cell?_alloc_at _ _ _ _ rfl
      have HR := Lib.hid (repeatI_any wr.heap.size n 1000000 _ hn1 hn c3)
      have hbr : w.heap.size + 1 ≤ wr.heap.size := hA.size
      have hA := hA.step hB3
      have hM3 := hM.below hB3
      have hgl : ∀ i, i < k → g i < wr.heap.size := fun i hi => (hM.lt hi).2
      clear c3 b0 hM
      go_wp2_with fail
      refine HR.out.mono ?_
      rintro e w2 ⟨h, rfl, ho, hB2⟩
      rw [hs3] at ho
      have hM := hM3.below hB2
      have hA := hA.step hB2
      have hhl := own_lt ho
      have c0 := own_rowI ho hlt
      have f0 := ho.frozenAt k
      have hp := own_putI ho k 0
      rw [rowI_congr (g := wayStart k) (fun j _ => by
        unfold upd wayStart
        by_cases e : j = k
        · rw [if_pos e, if_pos e.symm]
        · rw [if_neg e, if_neg (fun e' => e e'.symm)])] at hp
      have HP := Lib.hid hp.1
      have HG := Lib.hid hp.2
      have hne : ∀ i, i < k → g i ≠ h := fun i hi e => by have := hgl i hi; omega
      have hHh : H ≠ h := own_apart hM.hdr ho (by decide)
      have hA' := hA.grown HG.out (fun g e => by cases e; omega)
      have hM' := hM.kept HG.out hHh hne
      have hs4 := HG.out.size
      clear hp ho HR hM3 hB3 b0' hM hA
      go_upto_region 7 with (fail)
      generalize w2.setCell ⟨h, k, none⟩ (.int .i64 0) = W3 at HP HG hA' hM' hs4 ⊢
      clear c0 f0 HG
      have hBz := hA'.size
      go_wp2_with (at_builtin; refine wpList_append_own _ rfl _ _ 61 rfl (w.heap.size + 1) 30 i0 (.slice none 0 0) 1 24 Tryd.underlying61 hi hz0 hz1 hz2 rfl (by decide) _ _ _ rfl (hM'.hdr.alloc _) ⟨W3.heap.size, 0, none⟩ 1 1 [.slice (some ⟨h, 0, none⟩) n n] rfl rfl (cell_one_new _ _ _) ?c2 ?c3 ?c4 ?c5 ?_)
      case c2 => intro u hu; simp at hu; subst hu; rfl
      case c3 => unfold maxLen; omega
      case c4 => omega
      case c5 => simp; omega
      intro v' w4 hown' hgr _
      have hs5 : W3.heap.size < (W3.alloc (.cells #[.slice (some ⟨h, 0, none⟩) n n] 30)).heap.size := by simp
      obtain ⟨H', c', rfl⟩ := form1 hown' (by omega)
      have hB5 : Below W3.heap.size W3 (W3.alloc (.cells #[.slice (some ⟨h, 0, none⟩) n n] 30)) := (Below.refl _ W3).alloc (Nat.le_refl _) _
      have hM5 := (hM'.below hB5).add hgr (own_base (own_below HP.out hB5) (by omega)) hne hown'
      have hHb := hM'.hlt.1
      have hA5 := (hA'.step hB5).grown hgr (fun g e => by cases e; simp; omega)
      clear hgr hown' hM' HP hB5
      go_wp2
      go_roundw
      case rel => exact ⟨k + 1, H', c', _, by omega, by go_num, rfl, hM5, hA5⟩
      case measure => simp [intOf]; omega
    · obtain rfl : n = k := by omega
      have b1 := hA.cell 1 _ rfl
      go_wp2
      go_loopw [31] (fun i wr => ∃ (q : Nat), q ≤ ws.length ∧ i = .int .i64 q ∧ Mat (w.heap.size + 1) wr H c n n g ((ws.take q).foldl wayStep wayStart) ∧ At w [.slice a0 n cap0, .slice a1 ws.length cap1] wr) (fun i _ => ws.length - (intOf i).toNat)
      case atStart => exact ⟨0, Nat.zero_le _, rfl, hM, hA⟩
      case round =>
        clear hM hA b0 b1
        obtain ⟨q, hq, rfl, hM, hA⟩ := hrel
        by_cases hlt2 : q < ws.length
        · have hm := List.getElem?_eq_getElem hlt2
          generalize ws[q] = m at hm
          obtain ⟨b, off, rfl, hb, c0, c1, c2⟩ := (hx1.below hA.below).wy hm
          have hst := waysM_take hm
          obtain ⟨A, B, hmA, hmB, hA1, hB1, hAB, hd1, hd2⟩ := ho m (List.mem_of_getElem? hm)
          obtain ⟨_, _, d⟩ := m
          simp only at hmA hmB hd1 hd2 c0 c1 c2
          subst hmA hmB
          have hst : Hid ((ws.take (q + 1)).foldl wayStep wayStart = wayHalf (wayHalf ((ws.take q).foldl wayStep wayStart) A B d) B A d) := hst
          have hk2 : (q : Int) < (ws.length : Int) := by omega
          have hA2 : (A : Int) < (n : Int) := by omega
          have hB2 : (B : Int) < (n : Int) := by omega
          clear hm
          go_upto_region 12 with (fail)
          -- WAY
          generalize hW : wr.alloc (.cells #[.int .i64 A, .int .i64 B, .int .i64 d] 42) = W
          have hBW : Below wr.heap.size wr W := by rw [← hW]; go_grown
          have hD : wr.heap.size < W.heap.size := by rw [← hW]; simp
          have D0 : W.cell? ⟨wr.heap.size, 0, none⟩ = some (.int .i64 A) := by rw [← hW]; exact World.cell?_alloc_at _ _ _ _ rfl
          have D1 : W.cell? ⟨wr.heap.size, 1, none⟩ = some (.int .i64 B) := by rw [← hW]; exact World.cell?_alloc_at _ _ _ _ rfl
          have D2 : W.cell? ⟨wr.heap.size, 2, none⟩ = some (.int .i64 d) := by rw [← hW]; exact World.cell?_alloc_at _ _ _ _ rfl
          have hgl : ∀ i, i < n → g i < wr.heap.size := fun i hi => (hM.lt hi).2
          have hgb : ∀ i, i < n → w.heap.size + 1 ≤ g i := fun i hi => (hM.lt hi).1
          have hM := hM.below hBW
          have hA := hA.step hBW
          clear hW c0 c1 c2 hBW
          generalize wr.heap.size = bw at hD D0 D1 D2 hgl ⊢
          generalize (ws.take q).foldl wayStep wayStart = M at hM hst
          have q0 := hM.hcell hA1
          have q1 := hM.hcell hB1
          have q2 := hM.cell hA1 hB1
          go_still_tail 20, (by kernel_rfl)
          clear q0 q1 q2
          change wpList _ _ _ _ _ W.drew
          have hzz : Below W.heap.size W W.drew := (Below.refl _ W).drew
          generalize W.drew = V at hzz ⊢
          have D0 := (hzz.cell (p := ⟨bw, 0, none⟩) hD).trans D0
          have D1 := (hzz.cell (p := ⟨bw, 1, none⟩) hD).trans D1
          have D2 := (hzz.cell (p := ⟨bw, 2, none⟩) hD).trans D2
          have hD := Nat.lt_of_lt_of_le hD hzz.size
          have hM := hM.below hzz
          have hA := hA.step hzz
          clear hzz
          have q2 := hM.cell hA1 hB1
          have q3 := hM.frozen (j := B) hA1
          have hp := hM.put hA1 B (min (M A B) d)
          have HP := Lib.hid hp.1
          have HG := Lib.hid hp.2
          clear hp
          have hgi := hgl A hA1
          have hbi := hgb A hA1
          go_upto_region 13 with (fail)
          have D0 := (gcell HG.out (p := ⟨bw, 0, none⟩) hD (fun g e => by cases e; simp; omega)).trans D0
          have D1 := (gcell HG.out (p := ⟨bw, 1, none⟩) hD (fun g e => by cases e; simp; omega)).trans D1
          have D2 := (gcell HG.out (p := ⟨bw, 2, none⟩) hD (fun g e => by cases e; simp; omega)).trans D2
          have hD := Nat.lt_of_lt_of_le hD HG.out.size
          have hA := hA.grown HG.out (fun g e => by cases e; omega)
          have hM : Mat (w.heap.size + 1) _ H c n n g (wayHalf M A B d) := HP.out
          clear HP HG q2 q3 hgi hbi
          generalize V.setCell ⟨g A, B, none⟩ (.int .i64 (min (M A B) d)) = W1 at hM hA D0 D1 D2 hD ⊢
          generalize wayHalf M A B d = M1 at hM hst
          have q0 := hM.hcell hA1
          have q1 := hM.hcell hB1
          have q2 := hM.cell hB1 hA1
          go_still_tail 20, (by kernel_rfl)
          clear q0 q1 q2
          change wpList _ _ _ _ _ W1.drew
          have hzz : Below W1.heap.size W1 W1.drew := (Below.refl _ W1).drew
          generalize W1.drew = V1 at hzz ⊢
          have D0 := (hzz.cell (p := ⟨bw, 0, none⟩) hD).trans D0
          have D1 := (hzz.cell (p := ⟨bw, 1, none⟩) hD).trans D1
          have D2 := (hzz.cell (p := ⟨bw, 2, none⟩) hD).trans D2
          have hD := Nat.lt_of_lt_of_le hD hzz.size
          have hM := hM.below hzz
          have hA := hA.step hzz
          clear hzz
          have q2 := hM.cell hB1 hA1
          have q3 := hM.frozen (j := A) hB1
          have hp := hM.put hB1 A (min (M1 B A) d)
          have HP := Lib.hid hp.1
          have HG := Lib.hid hp.2
          clear hp
          have hgi := hgl B hB1
          have hbi := hgb B hB1
          go_wp2
          go_roundw
          case rel => exact ⟨q + 1, by omega, by go_num, by rw [hst.out]; exact HP.out, hA.grown HG.out (fun g e => by cases e; omega)⟩
          case measure => simp [intOf]; omega
        · obtain rfl : q = ws.length := by omega
          rw [List.take_length] at hM
          go_wp2
          go_ret
          exact ⟨_, _, _, rfl, hM.base (by omega), hA.below⟩
end Go.Proofs.YtihmacmieofbgaaDoor
