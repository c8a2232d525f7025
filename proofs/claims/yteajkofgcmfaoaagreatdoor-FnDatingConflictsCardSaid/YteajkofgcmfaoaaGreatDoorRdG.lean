/- Walk: l11Guess of the reference. Printed by gen_rdg.py. -/
import Derived.Test.YteajkofgcmfaoaaGreatDoorRdJ
namespace Go.Proofs.YteajkofgcmfaoaaGreatDoor
open Go.ChangeShapes Go.WideShapes Go.ChangeAt Go.RowKit Go.IntWalk

theorem rd_str {W : World} {g : Nat} {L : List ByteArray} (h : Rd encS W (some ⟨g, 0, none⟩) L) {i : Nat} {x : ByteArray} (hx : L[i]? = some x) : W.cell? ⟨g, i, none⟩ = some (.string x) := by
  obtain ⟨b, off, e, _, hc⟩ := h.s hx
  injection e with e
  injection e with e1 e2
  subst e1; subst e2
  simpa using hc
theorem lit_beq (x : ByteArray) (l : List UInt8) : (x.toList == l) = decide (x = ⟨l.toArray⟩) := by
  have h := ba_beq x ⟨l.toArray⟩
  rw [show (⟨l.toArray⟩ : ByteArray).toList = l by rw [Lib.toList_data]] at h
  exact h
theorem lit_yes {x : ByteArray} {l : List UInt8} (h : x = ⟨l.toArray⟩) : (x.toList == l) = true := by rw [lit_beq, decide_eq_true h]
theorem lit_no {x : ByteArray} {l : List UInt8} (h : ¬ x = ⟨l.toArray⟩) : (x.toList == l) = false := by rw [lit_beq, decide_eq_false h]
/-- What stands while the reference guesses: the result's box, the words. -/
structure RG (w : World) (g : Nat) (L : List ByteArray) (W : World) : Prop where
  res : Box w.heap.size W 31 w.heap.size [.int .i64 0, .int .i64 0, .int .i64 0, .int .i64 0, .int .i64 0, .int .i64 0, .int .i64 0, .string ⟨#[]⟩]
  rd : Rd encS W (some ⟨g, 0, none⟩) L
  below : Below w.heap.size w W
theorem RG.go {w : World} {g : Nat} {L : List ByteArray} {W W2 : World} (h : RG w g L W) (hB : Below W.heap.size W W2) : RG w g L W2 :=
  ⟨h.res.below hB, h.rd.below hB, stepB h.below hB h.below.size⟩
theorem RG.at {w : World} {g : Nat} {L : List ByteArray} {W : World} (h : RG w g L W) {i : Nat} {x : ByteArray} (hx : L[i]? = some x) : W.cell? ⟨g, i, none⟩ = some (.string x) := rd_str h.rd hx
theorem RG.drew {w : World} {g : Nat} {L : List ByteArray} {W : World} (h : RG w g L W) : RG w g L W.drew := h.go (Below.refl _ W).drew
theorem RG.fin {w : World} {g : Nat} {L : List ByteArray} {W W2 : World} (h : RG w g L W) (hg : W.grownBy W2 (some w.heap.size)) : Below w.heap.size w W2 :=
  h.below.trans ⟨hg.os, hg.tape, hg.output, hg.size, fun j hj => hg.block j (Nat.lt_of_lt_of_le hj h.below.size) (fun e => by cases e; omega)⟩
theorem RG.start {w : World} {g : Nat} {L : List ByteArray} (h : Rd encS w (some ⟨g, 0, none⟩) L) : RG w g L (w.alloc (.cells #[.int .i64 0, .int .i64 0, .int .i64 0, .int .i64 0, .int .i64 0, .int .i64 0, .int .i64 0, .string ⟨#[]⟩] 31)) :=
  have hB : Below w.heap.size w (w.alloc (.cells #[.int .i64 0, .int .i64 0, .int .i64 0, .int .i64 0, .int .i64 0, .int .i64 0, .int .i64 0, .string ⟨#[]⟩] 31)) := (Below.refl _ w).alloc (Nat.le_refl _) _
  ⟨Box.new w 31 [.int .i64 0, .int .i64 0, .int .i64 0, .int .i64 0, .int .i64 0, .int .i64 0, .int .i64 0, .string ⟨#[]⟩] w.heap.size (Nat.le_refl _) (by decide), h.below hB, hB⟩
set_option maxRecDepth 100000 in
set_option maxHeartbeats 4000000 in
theorem guessAt (a y : ByteArray) (L : List ByteArray) (g c : Nat) (w : World) (hx : Rd encS w (some ⟨g, 0, none⟩) L) (n : Nat) (hn : L.length = n + 1) (h0 : L[0]? = some a) (hy : L[n]? = some y) (hl : L.length ≤ 2000000) (qA : (a.toList == [97, 116]) = true) (qO : (a.toList == [111, 110]) = false) (qI : (a.toList == [105, 110]) = false) (n2 : ((L.length : Int) == 2) = false) (n5 : ((L.length : Int) == 5) = false) (hg : guS rnB L = clN) :
    Calls Tryz.prog 51 #[.slice (some ⟨g, 0, none⟩) L.length c] w fun e w' => e = .returned (clV (guS rnB L)) ∧ Below w.heap.size w w' := by
  have hE := Lib.hid hg
  clear hg
  have v1 : IntKind.i64.wrap ((L.length : Int) - 1) = (n : Int) := by rw [IntKind.wrap_i64]; omega
  have hnl : n < L.length := by omega
  have hnz : 0 < L.length := by omega
  replace hn := Lib.hid hn
  have R0 := RG.start hx
  have HFN := Lib.hid (fun W => specFeastNamed_any y W)
  generalize fz feL y = FF at HFN
  generalize decide (0 ≤ ix feL y) = ok at HFN
  go_enter Tryz.func51, Tryz.ntmps51
  go_upto_region 1 with (fail)
  have R := R0
  clear R0 hx
  generalize w.alloc (.cells #[.int .i64 0, .int .i64 0, .int .i64 0, .int .i64 0, .int .i64 0, .int .i64 0, .int .i64 0, .string ⟨#[]⟩] 31) = w2 at R ⊢
  have c0 := R.at (i := 0) h0
  have c1 := R.at (i := n) hy
  go_wp2_with fail
  refine (HFN.out _).mono ?_
  rintro e w3 ⟨rfl, hB3⟩
  replace R := R.go hB3
  clear hB3 HFN c0 c1
  have c0 := R.at (i := 0) h0
  have c1 := R.at (i := n) hy
  have res := R.res
  have r0 := Box.cell res 0 _ rfl
  have r1 := Box.cell res 1 _ rfl
  have r2 := Box.cell res 2 _ rfl
  have r3 := Box.cell res 3 _ rfl
  have r4 := Box.cell res 4 _ rfl
  have r5 := Box.cell res 5 _ rfl
  have r6 := Box.cell res 6 _ rfl
  have r7 := Box.cell res 7 _ rfl
  have f0 := World.ownsRow.frozenAt res 0
  have f1 := World.ownsRow.frozenAt res 1
  have f2 := World.ownsRow.frozenAt res 2
  have f3 := World.ownsRow.frozenAt res 3
  have f4 := World.ownsRow.frozenAt res 4
  have f5 := World.ownsRow.frozenAt res 5
  have f6 := World.ownsRow.frozenAt res 6
  have f7 := World.ownsRow.frozenAt res 7
  have HP8 := Lib.hid (Box.put8 res (.int .i64 (-1)) (.int .i64 0) (.int .i64 0) (.int .i64 0) (.int .i64 0) (.int .i64 0) (.int .i64 0) (.string ⟨#[]⟩))
  go_wp2
  have hp := HP8.out
  have hGf := RG.fin R hp.2
  generalize (((((((w3.setCell ⟨w.heap.size, 0, none⟩ (.int .i64 (-1))).setCell ⟨w.heap.size, 1, none⟩ (.int .i64 0)).setCell ⟨w.heap.size, 2, none⟩ (.int .i64 0)).setCell ⟨w.heap.size, 3, none⟩ (.int .i64 0)).setCell ⟨w.heap.size, 4, none⟩ (.int .i64 0)).setCell ⟨w.heap.size, 5, none⟩ (.int .i64 0)).setCell ⟨w.heap.size, 6, none⟩ (.int .i64 0)).setCell ⟨w.heap.size, 7, none⟩ (.string ⟨#[]⟩) = Wf at hp hGf ⊢
  have z0 := hp.1.cell 0 _ rfl
  have z1 := hp.1.cell 1 _ rfl
  have z2 := hp.1.cell 2 _ rfl
  have z3 := hp.1.cell 3 _ rfl
  have z4 := hp.1.cell 4 _ rfl
  have z5 := hp.1.cell 5 _ rfl
  have z6 := hp.1.cell 6 _ rfl
  have z7 := hp.1.cell 7 _ rfl
  refine bodyPost_ret_by (v := .agg #[.int .i64 (-1), .int .i64 0, .int .i64 0, .int .i64 0, .int .i64 0, .int .i64 0, .int .i64 0, .string ⟨#[]⟩]) ?_ rfl ⟨by rw [hE.out]; rfl, hGf⟩
  simp [results, go_sem, z0, z1, z2, z3, z4, z5, z6, z7]
set_option maxRecDepth 100000 in
set_option maxHeartbeats 4000000 in
theorem guessOn (a y : ByteArray) (L : List ByteArray) (g c : Nat) (w : World) (hx : Rd encS w (some ⟨g, 0, none⟩) L) (n : Nat) (hn : L.length = n + 1) (h0 : L[0]? = some a) (hy : L[n]? = some y) (hl : L.length ≤ 2000000) (qA : (a.toList == [97, 116]) = false) (qO : (a.toList == [111, 110]) = true) (qI : (a.toList == [105, 110]) = false) (n3 : ((L.length : Int) == 3) = false) (n5 : ((L.length : Int) == 5) = false) (hg : guS rnB L = clN) :
    Calls Tryz.prog 51 #[.slice (some ⟨g, 0, none⟩) L.length c] w fun e w' => e = .returned (clV (guS rnB L)) ∧ Below w.heap.size w w' := by
  have hE := Lib.hid hg
  clear hg
  have v1 : IntKind.i64.wrap ((L.length : Int) - 1) = (n : Int) := by rw [IntKind.wrap_i64]; omega
  have hnl : n < L.length := by omega
  have hnz : 0 < L.length := by omega
  replace hn := Lib.hid hn
  have R0 := RG.start hx
  have HFN := Lib.hid (fun W => specFeastNamed_any y W)
  generalize fz feL y = FF at HFN
  generalize decide (0 ≤ ix feL y) = ok at HFN
  go_enter Tryz.func51, Tryz.ntmps51
  go_upto_region 1 with (fail)
  have R := R0
  clear R0 hx
  generalize w.alloc (.cells #[.int .i64 0, .int .i64 0, .int .i64 0, .int .i64 0, .int .i64 0, .int .i64 0, .int .i64 0, .string ⟨#[]⟩] 31) = w2 at R ⊢
  have c0 := R.at (i := 0) h0
  have c1 := R.at (i := n) hy
  go_wp2_with fail
  refine (HFN.out _).mono ?_
  rintro e w3 ⟨rfl, hB3⟩
  replace R := R.go hB3
  clear hB3 HFN c0 c1
  have c0 := R.at (i := 0) h0
  have c1 := R.at (i := n) hy
  have res := R.res
  have r0 := Box.cell res 0 _ rfl
  have r1 := Box.cell res 1 _ rfl
  have r2 := Box.cell res 2 _ rfl
  have r3 := Box.cell res 3 _ rfl
  have r4 := Box.cell res 4 _ rfl
  have r5 := Box.cell res 5 _ rfl
  have r6 := Box.cell res 6 _ rfl
  have r7 := Box.cell res 7 _ rfl
  have f0 := World.ownsRow.frozenAt res 0
  have f1 := World.ownsRow.frozenAt res 1
  have f2 := World.ownsRow.frozenAt res 2
  have f3 := World.ownsRow.frozenAt res 3
  have f4 := World.ownsRow.frozenAt res 4
  have f5 := World.ownsRow.frozenAt res 5
  have f6 := World.ownsRow.frozenAt res 6
  have f7 := World.ownsRow.frozenAt res 7
  have HP8 := Lib.hid (Box.put8 res (.int .i64 (-1)) (.int .i64 0) (.int .i64 0) (.int .i64 0) (.int .i64 0) (.int .i64 0) (.int .i64 0) (.string ⟨#[]⟩))
  go_wp2
  have hp := HP8.out
  have hGf := RG.fin R hp.2
  generalize (((((((w3.setCell ⟨w.heap.size, 0, none⟩ (.int .i64 (-1))).setCell ⟨w.heap.size, 1, none⟩ (.int .i64 0)).setCell ⟨w.heap.size, 2, none⟩ (.int .i64 0)).setCell ⟨w.heap.size, 3, none⟩ (.int .i64 0)).setCell ⟨w.heap.size, 4, none⟩ (.int .i64 0)).setCell ⟨w.heap.size, 5, none⟩ (.int .i64 0)).setCell ⟨w.heap.size, 6, none⟩ (.int .i64 0)).setCell ⟨w.heap.size, 7, none⟩ (.string ⟨#[]⟩) = Wf at hp hGf ⊢
  have z0 := hp.1.cell 0 _ rfl
  have z1 := hp.1.cell 1 _ rfl
  have z2 := hp.1.cell 2 _ rfl
  have z3 := hp.1.cell 3 _ rfl
  have z4 := hp.1.cell 4 _ rfl
  have z5 := hp.1.cell 5 _ rfl
  have z6 := hp.1.cell 6 _ rfl
  have z7 := hp.1.cell 7 _ rfl
  refine bodyPost_ret_by (v := .agg #[.int .i64 (-1), .int .i64 0, .int .i64 0, .int .i64 0, .int .i64 0, .int .i64 0, .int .i64 0, .string ⟨#[]⟩]) ?_ rfl ⟨by rw [hE.out]; rfl, hGf⟩
  simp [results, go_sem, z0, z1, z2, z3, z4, z5, z6, z7]
set_option maxRecDepth 100000 in
set_option maxHeartbeats 4000000 in
theorem guessIn (a y : ByteArray) (L : List ByteArray) (g c : Nat) (w : World) (hx : Rd encS w (some ⟨g, 0, none⟩) L) (n : Nat) (hn : L.length = n + 1) (h0 : L[0]? = some a) (hy : L[n]? = some y) (hl : L.length ≤ 2000000) (qA : (a.toList == [97, 116]) = false) (qO : (a.toList == [111, 110]) = false) (qI : (a.toList == [105, 110]) = true) (n6 : ((L.length : Int) == 6) = false) (hg : guS rnB L = clN) :
    Calls Tryz.prog 51 #[.slice (some ⟨g, 0, none⟩) L.length c] w fun e w' => e = .returned (clV (guS rnB L)) ∧ Below w.heap.size w w' := by
  have hE := Lib.hid hg
  clear hg
  have v1 : IntKind.i64.wrap ((L.length : Int) - 1) = (n : Int) := by rw [IntKind.wrap_i64]; omega
  have hnl : n < L.length := by omega
  have hnz : 0 < L.length := by omega
  replace hn := Lib.hid hn
  have R0 := RG.start hx
  have HFN := Lib.hid (fun W => specFeastNamed_any y W)
  generalize fz feL y = FF at HFN
  generalize decide (0 ≤ ix feL y) = ok at HFN
  go_enter Tryz.func51, Tryz.ntmps51
  go_upto_region 1 with (fail)
  have R := R0
  clear R0 hx
  generalize w.alloc (.cells #[.int .i64 0, .int .i64 0, .int .i64 0, .int .i64 0, .int .i64 0, .int .i64 0, .int .i64 0, .string ⟨#[]⟩] 31) = w2 at R ⊢
  have c0 := R.at (i := 0) h0
  have c1 := R.at (i := n) hy
  go_wp2_with fail
  refine (HFN.out _).mono ?_
  rintro e w3 ⟨rfl, hB3⟩
  replace R := R.go hB3
  clear hB3 HFN c0 c1
  have c0 := R.at (i := 0) h0
  have c1 := R.at (i := n) hy
  have res := R.res
  have r0 := Box.cell res 0 _ rfl
  have r1 := Box.cell res 1 _ rfl
  have r2 := Box.cell res 2 _ rfl
  have r3 := Box.cell res 3 _ rfl
  have r4 := Box.cell res 4 _ rfl
  have r5 := Box.cell res 5 _ rfl
  have r6 := Box.cell res 6 _ rfl
  have r7 := Box.cell res 7 _ rfl
  have f0 := World.ownsRow.frozenAt res 0
  have f1 := World.ownsRow.frozenAt res 1
  have f2 := World.ownsRow.frozenAt res 2
  have f3 := World.ownsRow.frozenAt res 3
  have f4 := World.ownsRow.frozenAt res 4
  have f5 := World.ownsRow.frozenAt res 5
  have f6 := World.ownsRow.frozenAt res 6
  have f7 := World.ownsRow.frozenAt res 7
  have HP8 := Lib.hid (Box.put8 res (.int .i64 (-1)) (.int .i64 0) (.int .i64 0) (.int .i64 0) (.int .i64 0) (.int .i64 0) (.int .i64 0) (.string ⟨#[]⟩))
  go_wp2
  have hp := HP8.out
  have hGf := RG.fin R hp.2
  generalize (((((((w3.setCell ⟨w.heap.size, 0, none⟩ (.int .i64 (-1))).setCell ⟨w.heap.size, 1, none⟩ (.int .i64 0)).setCell ⟨w.heap.size, 2, none⟩ (.int .i64 0)).setCell ⟨w.heap.size, 3, none⟩ (.int .i64 0)).setCell ⟨w.heap.size, 4, none⟩ (.int .i64 0)).setCell ⟨w.heap.size, 5, none⟩ (.int .i64 0)).setCell ⟨w.heap.size, 6, none⟩ (.int .i64 0)).setCell ⟨w.heap.size, 7, none⟩ (.string ⟨#[]⟩) = Wf at hp hGf ⊢
  have z0 := hp.1.cell 0 _ rfl
  have z1 := hp.1.cell 1 _ rfl
  have z2 := hp.1.cell 2 _ rfl
  have z3 := hp.1.cell 3 _ rfl
  have z4 := hp.1.cell 4 _ rfl
  have z5 := hp.1.cell 5 _ rfl
  have z6 := hp.1.cell 6 _ rfl
  have z7 := hp.1.cell 7 _ rfl
  refine bodyPost_ret_by (v := .agg #[.int .i64 (-1), .int .i64 0, .int .i64 0, .int .i64 0, .int .i64 0, .int .i64 0, .int .i64 0, .string ⟨#[]⟩]) ?_ rfl ⟨by rw [hE.out]; rfl, hGf⟩
  simp [results, go_sem, z0, z1, z2, z3, z4, z5, z6, z7]
set_option maxRecDepth 100000 in
set_option maxHeartbeats 4000000 in
theorem guessOt (a y : ByteArray) (L : List ByteArray) (g c : Nat) (w : World) (hx : Rd encS w (some ⟨g, 0, none⟩) L) (n : Nat) (hn : L.length = n + 1) (h0 : L[0]? = some a) (hy : L[n]? = some y) (hl : L.length ≤ 2000000) (qA : (a.toList == [97, 116]) = false) (qO : (a.toList == [111, 110]) = false) (qI : (a.toList == [105, 110]) = false) (hg : guS rnB L = clN) :
    Calls Tryz.prog 51 #[.slice (some ⟨g, 0, none⟩) L.length c] w fun e w' => e = .returned (clV (guS rnB L)) ∧ Below w.heap.size w w' := by
  have hE := Lib.hid hg
  clear hg
  have v1 : IntKind.i64.wrap ((L.length : Int) - 1) = (n : Int) := by rw [IntKind.wrap_i64]; omega
  have hnl : n < L.length := by omega
  have hnz : 0 < L.length := by omega
  replace hn := Lib.hid hn
  have R0 := RG.start hx
  have HFN := Lib.hid (fun W => specFeastNamed_any y W)
  generalize fz feL y = FF at HFN
  generalize decide (0 ≤ ix feL y) = ok at HFN
  go_enter Tryz.func51, Tryz.ntmps51
  go_upto_region 1 with (fail)
  have R := R0
  clear R0 hx
  generalize w.alloc (.cells #[.int .i64 0, .int .i64 0, .int .i64 0, .int .i64 0, .int .i64 0, .int .i64 0, .int .i64 0, .string ⟨#[]⟩] 31) = w2 at R ⊢
  have c0 := R.at (i := 0) h0
  have c1 := R.at (i := n) hy
  go_wp2_with fail
  refine (HFN.out _).mono ?_
  rintro e w3 ⟨rfl, hB3⟩
  replace R := R.go hB3
  clear hB3 HFN c0 c1
  have c0 := R.at (i := 0) h0
  have c1 := R.at (i := n) hy
  have res := R.res
  have r0 := Box.cell res 0 _ rfl
  have r1 := Box.cell res 1 _ rfl
  have r2 := Box.cell res 2 _ rfl
  have r3 := Box.cell res 3 _ rfl
  have r4 := Box.cell res 4 _ rfl
  have r5 := Box.cell res 5 _ rfl
  have r6 := Box.cell res 6 _ rfl
  have r7 := Box.cell res 7 _ rfl
  have f0 := World.ownsRow.frozenAt res 0
  have f1 := World.ownsRow.frozenAt res 1
  have f2 := World.ownsRow.frozenAt res 2
  have f3 := World.ownsRow.frozenAt res 3
  have f4 := World.ownsRow.frozenAt res 4
  have f5 := World.ownsRow.frozenAt res 5
  have f6 := World.ownsRow.frozenAt res 6
  have f7 := World.ownsRow.frozenAt res 7
  have HP8 := Lib.hid (Box.put8 res (.int .i64 (-1)) (.int .i64 0) (.int .i64 0) (.int .i64 0) (.int .i64 0) (.int .i64 0) (.int .i64 0) (.string ⟨#[]⟩))
  go_wp2
  have hp := HP8.out
  have hGf := RG.fin R hp.2
  generalize (((((((w3.setCell ⟨w.heap.size, 0, none⟩ (.int .i64 (-1))).setCell ⟨w.heap.size, 1, none⟩ (.int .i64 0)).setCell ⟨w.heap.size, 2, none⟩ (.int .i64 0)).setCell ⟨w.heap.size, 3, none⟩ (.int .i64 0)).setCell ⟨w.heap.size, 4, none⟩ (.int .i64 0)).setCell ⟨w.heap.size, 5, none⟩ (.int .i64 0)).setCell ⟨w.heap.size, 6, none⟩ (.int .i64 0)).setCell ⟨w.heap.size, 7, none⟩ (.string ⟨#[]⟩) = Wf at hp hGf ⊢
  have z0 := hp.1.cell 0 _ rfl
  have z1 := hp.1.cell 1 _ rfl
  have z2 := hp.1.cell 2 _ rfl
  have z3 := hp.1.cell 3 _ rfl
  have z4 := hp.1.cell 4 _ rfl
  have z5 := hp.1.cell 5 _ rfl
  have z6 := hp.1.cell 6 _ rfl
  have z7 := hp.1.cell 7 _ rfl
  refine bodyPost_ret_by (v := .agg #[.int .i64 (-1), .int .i64 0, .int .i64 0, .int .i64 0, .int .i64 0, .int .i64 0, .int .i64 0, .string ⟨#[]⟩]) ?_ rfl ⟨by rw [hE.out]; rfl, hGf⟩
  simp [results, go_sem, z0, z1, z2, z3, z4, z5, z6, z7]
set_option maxRecDepth 100000 in
set_option maxHeartbeats 4000000 in
theorem guess2 (a y : ByteArray) (g c : Nat) (w : World) (hx : Rd encS w (some ⟨g, 0, none⟩) [a, y]) (q0 : (a.toList == [97, 116]) = true) (hg : guS rnB [a, y] = ⟨1, 0, 0, fz feL y, 0, 0, 0, ⟨#[]⟩⟩) :
    Calls Tryz.prog 51 #[.slice (some ⟨g, 0, none⟩) 2 c] w fun e w' => e = .returned (clV (guS rnB [a, y])) ∧ Below w.heap.size w w' := by
  have hE := Lib.hid hg
  clear hg
  have R0 := RG.start hx
  have HFN := Lib.hid (fun W => specFeastNamed_any y W)
  generalize fz feL y = FF at hE HFN
  generalize decide (0 ≤ ix feL y) = ok at HFN
  go_enter Tryz.func51, Tryz.ntmps51
  go_upto_region 1 with (fail)
  have R := R0
  clear R0 hx
  generalize w.alloc (.cells #[.int .i64 0, .int .i64 0, .int .i64 0, .int .i64 0, .int .i64 0, .int .i64 0, .int .i64 0, .string ⟨#[]⟩] 31) = w2 at R ⊢
  have c0 := R.at (i := 0) rfl
  have c1 := R.at (i := 1) rfl
  go_wp2_with fail
  refine (HFN.out _).mono ?_
  rintro e w3 ⟨rfl, hB3⟩
  replace R := R.go hB3
  clear hB3 HFN c0 c1
  have c0 := R.at (i := 0) rfl
  have c1 := R.at (i := 1) rfl
  have res := R.res
  have r0 := Box.cell res 0 _ rfl
  have r1 := Box.cell res 1 _ rfl
  have r2 := Box.cell res 2 _ rfl
  have r3 := Box.cell res 3 _ rfl
  have r4 := Box.cell res 4 _ rfl
  have r5 := Box.cell res 5 _ rfl
  have r6 := Box.cell res 6 _ rfl
  have r7 := Box.cell res 7 _ rfl
  have f0 := World.ownsRow.frozenAt res 0
  have f1 := World.ownsRow.frozenAt res 1
  have f2 := World.ownsRow.frozenAt res 2
  have f3 := World.ownsRow.frozenAt res 3
  have f4 := World.ownsRow.frozenAt res 4
  have f5 := World.ownsRow.frozenAt res 5
  have f6 := World.ownsRow.frozenAt res 6
  have f7 := World.ownsRow.frozenAt res 7
  have HP8 := Lib.hid (Box.put8 res (.int .i64 1) (.int .i64 0) (.int .i64 0) (.int .i64 FF) (.int .i64 0) (.int .i64 0) (.int .i64 0) (.string ⟨#[]⟩))
  go_wp2
  have hp := HP8.out
  have hGf := RG.fin R hp.2
  generalize (((((((w3.setCell ⟨w.heap.size, 0, none⟩ (.int .i64 1)).setCell ⟨w.heap.size, 1, none⟩ (.int .i64 0)).setCell ⟨w.heap.size, 2, none⟩ (.int .i64 0)).setCell ⟨w.heap.size, 3, none⟩ (.int .i64 FF)).setCell ⟨w.heap.size, 4, none⟩ (.int .i64 0)).setCell ⟨w.heap.size, 5, none⟩ (.int .i64 0)).setCell ⟨w.heap.size, 6, none⟩ (.int .i64 0)).setCell ⟨w.heap.size, 7, none⟩ (.string ⟨#[]⟩) = Wf at hp hGf ⊢
  have z0 := hp.1.cell 0 _ rfl
  have z1 := hp.1.cell 1 _ rfl
  have z2 := hp.1.cell 2 _ rfl
  have z3 := hp.1.cell 3 _ rfl
  have z4 := hp.1.cell 4 _ rfl
  have z5 := hp.1.cell 5 _ rfl
  have z6 := hp.1.cell 6 _ rfl
  have z7 := hp.1.cell 7 _ rfl
  refine bodyPost_ret_by (v := .agg #[.int .i64 1, .int .i64 0, .int .i64 0, .int .i64 FF, .int .i64 0, .int .i64 0, .int .i64 0, .string ⟨#[]⟩]) ?_ rfl ⟨by rw [hE.out]; rfl, hGf⟩
  simp [results, go_sem, z0, z1, z2, z3, z4, z5, z6, z7]
set_option maxRecDepth 100000 in
set_option maxHeartbeats 4000000 in
theorem guess5e (a b x d y : ByteArray) (g c : Nat) (w : World) (hx : Rd encS w (some ⟨g, 0, none⟩) [a, b, x, d, y]) (q0 : (a.toList == [97, 116]) = true) (q1 : (x.toList == [101, 118, 101]) = true) (hg : guS rnB [a, b, x, d, y] = ⟨1, 0, 0, fz feL y, 1, 0, 0, ⟨#[]⟩⟩) :
    Calls Tryz.prog 51 #[.slice (some ⟨g, 0, none⟩) 5 c] w fun e w' => e = .returned (clV (guS rnB [a, b, x, d, y])) ∧ Below w.heap.size w w' := by
  have hE := Lib.hid hg
  clear hg
  have R0 := RG.start hx
  have HFN := Lib.hid (fun W => specFeastNamed_any y W)
  generalize fz feL y = FF at hE HFN
  generalize decide (0 ≤ ix feL y) = ok at HFN
  go_enter Tryz.func51, Tryz.ntmps51
  go_upto_region 1 with (fail)
  have R := R0
  clear R0 hx
  generalize w.alloc (.cells #[.int .i64 0, .int .i64 0, .int .i64 0, .int .i64 0, .int .i64 0, .int .i64 0, .int .i64 0, .string ⟨#[]⟩] 31) = w2 at R ⊢
  have c0 := R.at (i := 0) rfl
  have c1 := R.at (i := 2) rfl
  have c2 := R.at (i := 3) rfl
  have c3 := R.at (i := 4) rfl
  go_wp2_with fail
  refine (HFN.out _).mono ?_
  rintro e w3 ⟨rfl, hB3⟩
  replace R := R.go hB3
  clear hB3 HFN c0 c1 c2 c3
  have c0 := R.at (i := 0) rfl
  have c1 := R.at (i := 2) rfl
  have c2 := R.at (i := 3) rfl
  have c3 := R.at (i := 4) rfl
  have res := R.res
  have r0 := Box.cell res 0 _ rfl
  have r1 := Box.cell res 1 _ rfl
  have r2 := Box.cell res 2 _ rfl
  have r3 := Box.cell res 3 _ rfl
  have r4 := Box.cell res 4 _ rfl
  have r5 := Box.cell res 5 _ rfl
  have r6 := Box.cell res 6 _ rfl
  have r7 := Box.cell res 7 _ rfl
  have f0 := World.ownsRow.frozenAt res 0
  have f1 := World.ownsRow.frozenAt res 1
  have f2 := World.ownsRow.frozenAt res 2
  have f3 := World.ownsRow.frozenAt res 3
  have f4 := World.ownsRow.frozenAt res 4
  have f5 := World.ownsRow.frozenAt res 5
  have f6 := World.ownsRow.frozenAt res 6
  have f7 := World.ownsRow.frozenAt res 7
  have HP8 := Lib.hid (Box.put8 res (.int .i64 1) (.int .i64 0) (.int .i64 0) (.int .i64 FF) (.int .i64 1) (.int .i64 0) (.int .i64 0) (.string ⟨#[]⟩))
  go_wp2
  have hp := HP8.out
  have hGf := RG.fin R hp.2
  generalize (((((((w3.setCell ⟨w.heap.size, 0, none⟩ (.int .i64 1)).setCell ⟨w.heap.size, 1, none⟩ (.int .i64 0)).setCell ⟨w.heap.size, 2, none⟩ (.int .i64 0)).setCell ⟨w.heap.size, 3, none⟩ (.int .i64 FF)).setCell ⟨w.heap.size, 4, none⟩ (.int .i64 1)).setCell ⟨w.heap.size, 5, none⟩ (.int .i64 0)).setCell ⟨w.heap.size, 6, none⟩ (.int .i64 0)).setCell ⟨w.heap.size, 7, none⟩ (.string ⟨#[]⟩) = Wf at hp hGf ⊢
  have z0 := hp.1.cell 0 _ rfl
  have z1 := hp.1.cell 1 _ rfl
  have z2 := hp.1.cell 2 _ rfl
  have z3 := hp.1.cell 3 _ rfl
  have z4 := hp.1.cell 4 _ rfl
  have z5 := hp.1.cell 5 _ rfl
  have z6 := hp.1.cell 6 _ rfl
  have z7 := hp.1.cell 7 _ rfl
  refine bodyPost_ret_by (v := .agg #[.int .i64 1, .int .i64 0, .int .i64 0, .int .i64 FF, .int .i64 1, .int .i64 0, .int .i64 0, .string ⟨#[]⟩]) ?_ rfl ⟨by rw [hE.out]; rfl, hGf⟩
  simp [results, go_sem, z0, z1, z2, z3, z4, z5, z6, z7]
set_option maxRecDepth 100000 in
set_option maxHeartbeats 4000000 in
theorem guess5o (a b x d y : ByteArray) (g c : Nat) (w : World) (hx : Rd encS w (some ⟨g, 0, none⟩) [a, b, x, d, y]) (q0 : (a.toList == [97, 116]) = true) (q1 : (x.toList == [101, 118, 101]) = false) (hg : guS rnB [a, b, x, d, y] = ⟨1, 0, 0, fz feL y, 2, 0, 0, ⟨#[]⟩⟩) :
    Calls Tryz.prog 51 #[.slice (some ⟨g, 0, none⟩) 5 c] w fun e w' => e = .returned (clV (guS rnB [a, b, x, d, y])) ∧ Below w.heap.size w w' := by
  have hE := Lib.hid hg
  clear hg
  have R0 := RG.start hx
  have HFN := Lib.hid (fun W => specFeastNamed_any y W)
  generalize fz feL y = FF at hE HFN
  generalize decide (0 ≤ ix feL y) = ok at HFN
  go_enter Tryz.func51, Tryz.ntmps51
  go_upto_region 1 with (fail)
  have R := R0
  clear R0 hx
  generalize w.alloc (.cells #[.int .i64 0, .int .i64 0, .int .i64 0, .int .i64 0, .int .i64 0, .int .i64 0, .int .i64 0, .string ⟨#[]⟩] 31) = w2 at R ⊢
  have c0 := R.at (i := 0) rfl
  have c1 := R.at (i := 2) rfl
  have c2 := R.at (i := 3) rfl
  have c3 := R.at (i := 4) rfl
  go_wp2_with fail
  refine (HFN.out _).mono ?_
  rintro e w3 ⟨rfl, hB3⟩
  replace R := R.go hB3
  clear hB3 HFN c0 c1 c2 c3
  have c0 := R.at (i := 0) rfl
  have c1 := R.at (i := 2) rfl
  have c2 := R.at (i := 3) rfl
  have c3 := R.at (i := 4) rfl
  have res := R.res
  have r0 := Box.cell res 0 _ rfl
  have r1 := Box.cell res 1 _ rfl
  have r2 := Box.cell res 2 _ rfl
  have r3 := Box.cell res 3 _ rfl
  have r4 := Box.cell res 4 _ rfl
  have r5 := Box.cell res 5 _ rfl
  have r6 := Box.cell res 6 _ rfl
  have r7 := Box.cell res 7 _ rfl
  have f0 := World.ownsRow.frozenAt res 0
  have f1 := World.ownsRow.frozenAt res 1
  have f2 := World.ownsRow.frozenAt res 2
  have f3 := World.ownsRow.frozenAt res 3
  have f4 := World.ownsRow.frozenAt res 4
  have f5 := World.ownsRow.frozenAt res 5
  have f6 := World.ownsRow.frozenAt res 6
  have f7 := World.ownsRow.frozenAt res 7
  have HP8 := Lib.hid (Box.put8 res (.int .i64 1) (.int .i64 0) (.int .i64 0) (.int .i64 FF) (.int .i64 2) (.int .i64 0) (.int .i64 0) (.string ⟨#[]⟩))
  go_wp2
  have hp := HP8.out
  have hGf := RG.fin R hp.2
  generalize (((((((w3.setCell ⟨w.heap.size, 0, none⟩ (.int .i64 1)).setCell ⟨w.heap.size, 1, none⟩ (.int .i64 0)).setCell ⟨w.heap.size, 2, none⟩ (.int .i64 0)).setCell ⟨w.heap.size, 3, none⟩ (.int .i64 FF)).setCell ⟨w.heap.size, 4, none⟩ (.int .i64 2)).setCell ⟨w.heap.size, 5, none⟩ (.int .i64 0)).setCell ⟨w.heap.size, 6, none⟩ (.int .i64 0)).setCell ⟨w.heap.size, 7, none⟩ (.string ⟨#[]⟩) = Wf at hp hGf ⊢
  have z0 := hp.1.cell 0 _ rfl
  have z1 := hp.1.cell 1 _ rfl
  have z2 := hp.1.cell 2 _ rfl
  have z3 := hp.1.cell 3 _ rfl
  have z4 := hp.1.cell 4 _ rfl
  have z5 := hp.1.cell 5 _ rfl
  have z6 := hp.1.cell 6 _ rfl
  have z7 := hp.1.cell 7 _ rfl
  refine bodyPost_ret_by (v := .agg #[.int .i64 1, .int .i64 0, .int .i64 0, .int .i64 FF, .int .i64 2, .int .i64 0, .int .i64 0, .string ⟨#[]⟩]) ?_ rfl ⟨by rw [hE.out]; rfl, hGf⟩
  simp [results, go_sem, z0, z1, z2, z3, z4, z5, z6, z7]
set_option maxRecDepth 100000 in
set_option maxHeartbeats 4000000 in
theorem guess3 (a b y : ByteArray) (g c : Nat) (w : World) (hx : Rd encS w (some ⟨g, 0, none⟩) [a, b, y]) (q0 : (a.toList == [97, 116]) = false) (q1 : (a.toList == [111, 110]) = true) (hg : guS rnB [a, b, y] = ⟨5, 0, 0, 0, 0, ix wkL y, 0, ⟨#[]⟩⟩) :
    Calls Tryz.prog 51 #[.slice (some ⟨g, 0, none⟩) 3 c] w fun e w' => e = .returned (clV (guS rnB [a, b, y])) ∧ Below w.heap.size w w' := by
  have hE := Lib.hid hg
  clear hg
  have R0 := RG.start hx
  have HFN := Lib.hid (fun W => specFeastNamed_any y W)
  have HI := Lib.hid (fun g c W (h : Rd encS W (some ⟨g, 0, none⟩) wkL) => (ix_fidx wkL y ▸ l01Text_any (some ⟨g, 0, none⟩) c 7 wkL y W rfl (by decide) h))
  generalize ix wkL y = M at HI hE
  generalize fz feL y = FF at HFN
  generalize decide (0 ≤ ix feL y) = ok at HFN
  go_enter Tryz.func51, Tryz.ntmps51
  go_upto_region 1 with (fail)
  have R := R0
  clear R0 hx
  generalize w.alloc (.cells #[.int .i64 0, .int .i64 0, .int .i64 0, .int .i64 0, .int .i64 0, .int .i64 0, .int .i64 0, .string ⟨#[]⟩] 31) = w2 at R ⊢
  have c0 := R.at (i := 0) rfl
  have c1 := R.at (i := 2) rfl
  go_wp2_with fail
  refine (HFN.out _).mono ?_
  rintro e w3 ⟨rfl, hB3⟩
  replace R := R.go hB3
  clear hB3 HFN c0 c1
  have c0 := R.at (i := 0) rfl
  have c1 := R.at (i := 2) rfl
  go_wp2_with fail
  refine (l11Weekdays_any _).mono ?_
  rintro e w4 ⟨g5, c5, rfl, own5, hB5⟩
  replace R := R.go hB5
  clear hB5
  go_wp2_with fail
  refine (HI.out _ _ _ (Rd.of_own encS_len (by decide) own5)).mono ?_
  rintro e w5 ⟨rfl, rfl⟩
  clear own5
  have res := R.res
  have r0 := Box.cell res 0 _ rfl
  have r1 := Box.cell res 1 _ rfl
  have r2 := Box.cell res 2 _ rfl
  have r3 := Box.cell res 3 _ rfl
  have r4 := Box.cell res 4 _ rfl
  have r5 := Box.cell res 5 _ rfl
  have r6 := Box.cell res 6 _ rfl
  have r7 := Box.cell res 7 _ rfl
  have f0 := World.ownsRow.frozenAt res 0
  have f1 := World.ownsRow.frozenAt res 1
  have f2 := World.ownsRow.frozenAt res 2
  have f3 := World.ownsRow.frozenAt res 3
  have f4 := World.ownsRow.frozenAt res 4
  have f5 := World.ownsRow.frozenAt res 5
  have f6 := World.ownsRow.frozenAt res 6
  have f7 := World.ownsRow.frozenAt res 7
  have HP8 := Lib.hid (Box.put8 res (.int .i64 5) (.int .i64 0) (.int .i64 0) (.int .i64 0) (.int .i64 0) (.int .i64 M) (.int .i64 0) (.string ⟨#[]⟩))
  go_wp2
  have hp := HP8.out
  have hGf := RG.fin R hp.2
  generalize (((((((w4.setCell ⟨w.heap.size, 0, none⟩ (.int .i64 5)).setCell ⟨w.heap.size, 1, none⟩ (.int .i64 0)).setCell ⟨w.heap.size, 2, none⟩ (.int .i64 0)).setCell ⟨w.heap.size, 3, none⟩ (.int .i64 0)).setCell ⟨w.heap.size, 4, none⟩ (.int .i64 0)).setCell ⟨w.heap.size, 5, none⟩ (.int .i64 M)).setCell ⟨w.heap.size, 6, none⟩ (.int .i64 0)).setCell ⟨w.heap.size, 7, none⟩ (.string ⟨#[]⟩) = Wf at hp hGf ⊢
  have z0 := hp.1.cell 0 _ rfl
  have z1 := hp.1.cell 1 _ rfl
  have z2 := hp.1.cell 2 _ rfl
  have z3 := hp.1.cell 3 _ rfl
  have z4 := hp.1.cell 4 _ rfl
  have z5 := hp.1.cell 5 _ rfl
  have z6 := hp.1.cell 6 _ rfl
  have z7 := hp.1.cell 7 _ rfl
  refine bodyPost_ret_by (v := .agg #[.int .i64 5, .int .i64 0, .int .i64 0, .int .i64 0, .int .i64 0, .int .i64 M, .int .i64 0, .string ⟨#[]⟩]) ?_ rfl ⟨by rw [hE.out]; rfl, hGf⟩
  simp [results, go_sem, z0, z1, z2, z3, z4, z5, z6, z7]
set_option maxRecDepth 100000 in
set_option maxHeartbeats 4000000 in
theorem guess5d (a b x d y : ByteArray) (g c : Nat) (w : World) (hx : Rd encS w (some ⟨g, 0, none⟩) [a, b, x, d, y]) (q0 : (a.toList == [97, 116]) = false) (q1 : (a.toList == [111, 110]) = true) (q2 : (d.toList == [111, 102]) = true) (hg : guS rnB [a, b, x, d, y] = ⟨0, rdOrd x, ix monL y + 1, 0, 0, 0, 0, ⟨#[]⟩⟩) :
    Calls Tryz.prog 51 #[.slice (some ⟨g, 0, none⟩) 5 c] w fun e w' => e = .returned (clV (guS rnB [a, b, x, d, y])) ∧ Below w.heap.size w w' := by
  have hE := Lib.hid hg
  clear hg
  have hM : -1 ≤ ix monL y ∧ ix monL y ≤ 12 := ix_bd (by decide)
  have R0 := RG.start hx
  have HFN := Lib.hid (fun W => specFeastNamed_any y W)
  have HI := Lib.hid (fun g c W (h : Rd encS W (some ⟨g, 0, none⟩) monL) => (ix_fidx monL y ▸ l01Text_any (some ⟨g, 0, none⟩) c 12 monL y W rfl (by decide) h))
  generalize ix monL y = M at HI hE hM
  generalize fz feL y = FF at HFN
  generalize decide (0 ≤ ix feL y) = ok at HFN
  have v0 : IntKind.i64.wrap (M + 1) = M + 1 := by rw [IntKind.wrap_i64]; omega
  have HO := Lib.hid (fun W => specReadOrdinal_any x W)
  generalize rdOrd x = N at HO hE
  generalize decide (0 ≤ ix ordL x) = ok2 at HO
  go_enter Tryz.func51, Tryz.ntmps51
  go_upto_region 1 with (fail)
  have R := R0
  clear R0 hx
  generalize w.alloc (.cells #[.int .i64 0, .int .i64 0, .int .i64 0, .int .i64 0, .int .i64 0, .int .i64 0, .int .i64 0, .string ⟨#[]⟩] 31) = w2 at R ⊢
  have c0 := R.at (i := 0) rfl
  have c1 := R.at (i := 2) rfl
  have c2 := R.at (i := 3) rfl
  have c3 := R.at (i := 4) rfl
  go_wp2_with fail
  refine (HFN.out _).mono ?_
  rintro e w3 ⟨rfl, hB3⟩
  replace R := R.go hB3
  clear hB3 HFN c0 c1 c2 c3
  have c0 := R.at (i := 0) rfl
  have c1 := R.at (i := 2) rfl
  have c2 := R.at (i := 3) rfl
  have c3 := R.at (i := 4) rfl
  go_wp2_with fail
  refine (HO.out _).mono ?_
  rintro e w4 ⟨rfl, hB4⟩
  replace R := R.go hB4
  clear hB4 HO c0 c1 c2 c3
  go_wp2_with fail
  refine (l11Months_any _).mono ?_
  rintro e w5 ⟨g5, c5, rfl, own5, hB5⟩
  replace R := R.go hB5
  clear hB5
  go_wp2_with fail
  refine (HI.out _ _ _ (Rd.of_own encS_len (by decide) own5)).mono ?_
  rintro e w6 ⟨rfl, rfl⟩
  clear own5
  have res := R.res
  have r0 := Box.cell res 0 _ rfl
  have r1 := Box.cell res 1 _ rfl
  have r2 := Box.cell res 2 _ rfl
  have r3 := Box.cell res 3 _ rfl
  have r4 := Box.cell res 4 _ rfl
  have r5 := Box.cell res 5 _ rfl
  have r6 := Box.cell res 6 _ rfl
  have r7 := Box.cell res 7 _ rfl
  have f0 := World.ownsRow.frozenAt res 0
  have f1 := World.ownsRow.frozenAt res 1
  have f2 := World.ownsRow.frozenAt res 2
  have f3 := World.ownsRow.frozenAt res 3
  have f4 := World.ownsRow.frozenAt res 4
  have f5 := World.ownsRow.frozenAt res 5
  have f6 := World.ownsRow.frozenAt res 6
  have f7 := World.ownsRow.frozenAt res 7
  have HP8 := Lib.hid (Box.put8 res (.int .i64 0) (.int .i64 N) (.int .i64 (M + 1)) (.int .i64 0) (.int .i64 0) (.int .i64 0) (.int .i64 0) (.string ⟨#[]⟩))
  go_wp2
  have hp := HP8.out
  have hGf := RG.fin R hp.2
  generalize (((((((w5.setCell ⟨w.heap.size, 0, none⟩ (.int .i64 0)).setCell ⟨w.heap.size, 1, none⟩ (.int .i64 N)).setCell ⟨w.heap.size, 2, none⟩ (.int .i64 (M + 1))).setCell ⟨w.heap.size, 3, none⟩ (.int .i64 0)).setCell ⟨w.heap.size, 4, none⟩ (.int .i64 0)).setCell ⟨w.heap.size, 5, none⟩ (.int .i64 0)).setCell ⟨w.heap.size, 6, none⟩ (.int .i64 0)).setCell ⟨w.heap.size, 7, none⟩ (.string ⟨#[]⟩) = Wf at hp hGf ⊢
  have z0 := hp.1.cell 0 _ rfl
  have z1 := hp.1.cell 1 _ rfl
  have z2 := hp.1.cell 2 _ rfl
  have z3 := hp.1.cell 3 _ rfl
  have z4 := hp.1.cell 4 _ rfl
  have z5 := hp.1.cell 5 _ rfl
  have z6 := hp.1.cell 6 _ rfl
  have z7 := hp.1.cell 7 _ rfl
  refine bodyPost_ret_by (v := .agg #[.int .i64 0, .int .i64 N, .int .i64 (M + 1), .int .i64 0, .int .i64 0, .int .i64 0, .int .i64 0, .string ⟨#[]⟩]) ?_ rfl ⟨by rw [hE.out]; rfl, hGf⟩
  simp [results, go_sem, z0, z1, z2, z3, z4, z5, z6, z7]
set_option maxRecDepth 100000 in
set_option maxHeartbeats 4000000 in
theorem guess5a (a b x d y : ByteArray) (g c : Nat) (w : World) (hx : Rd encS w (some ⟨g, 0, none⟩) [a, b, x, d, y]) (q0 : (a.toList == [97, 116]) = false) (q1 : (a.toList == [111, 110]) = true) (q2 : (d.toList == [111, 102]) = false) (q3 : (d.toList == [98, 101, 102, 111, 114, 101]) = false) (hg : guS rnB [a, b, x, d, y] = ⟨1, 0, 0, fz feL y, 3, ix wkL x, 0, ⟨#[]⟩⟩) :
    Calls Tryz.prog 51 #[.slice (some ⟨g, 0, none⟩) 5 c] w fun e w' => e = .returned (clV (guS rnB [a, b, x, d, y])) ∧ Below w.heap.size w w' := by
  have hE := Lib.hid hg
  clear hg
  have R0 := RG.start hx
  have HFN := Lib.hid (fun W => specFeastNamed_any y W)
  have HI := Lib.hid (fun g c W (h : Rd encS W (some ⟨g, 0, none⟩) wkL) => (ix_fidx wkL x ▸ l01Text_any (some ⟨g, 0, none⟩) c 7 wkL x W rfl (by decide) h))
  generalize ix wkL x = M at HI hE
  generalize fz feL y = FF at hE HFN
  generalize decide (0 ≤ ix feL y) = ok at HFN
  go_enter Tryz.func51, Tryz.ntmps51
  go_upto_region 1 with (fail)
  have R := R0
  clear R0 hx
  generalize w.alloc (.cells #[.int .i64 0, .int .i64 0, .int .i64 0, .int .i64 0, .int .i64 0, .int .i64 0, .int .i64 0, .string ⟨#[]⟩] 31) = w2 at R ⊢
  have c0 := R.at (i := 0) rfl
  have c1 := R.at (i := 2) rfl
  have c2 := R.at (i := 3) rfl
  have c3 := R.at (i := 4) rfl
  go_wp2_with fail
  refine (HFN.out _).mono ?_
  rintro e w3 ⟨rfl, hB3⟩
  replace R := R.go hB3
  clear hB3 HFN c0 c1 c2 c3
  have c0 := R.at (i := 0) rfl
  have c1 := R.at (i := 2) rfl
  have c2 := R.at (i := 3) rfl
  have c3 := R.at (i := 4) rfl
  go_upto_region 19 with (fail)
  clear c0 c1 c2 c3
  refine MAny.region (S := fun w' => w'.cell? ⟨g, 2, none⟩ = some (.string x)) (last := 8) (by kernel_rfl) ?_
  replace R := R.drew
  have hHeld : w3.drew.cell? ⟨g, 2, none⟩ = some (.string x) := R.at (i := 2) rfl
  generalize w3.drew = W0 at R hHeld ⊢
  refine MAny.take (i := 0) (v := ?_) rfl (by kernel_rfl) (by kernel_rfl) (by kernel_rfl) (fun _ _ _ h => h) (by kernel_rfl) (Or.inl ⟨by rfl, ?_⟩) (by assumption) ?_
  rotate_left
  · (intro w' hSw; (try dsimp only at hSw); go_simp; try (with_reducible rfl))
  try simp only [Act.put, List.setIfInBounds_toArray]
  refine MAny.take (i := 1) (v := ?_) rfl (by kernel_rfl) (by kernel_rfl) (by kernel_rfl) (fun _ _ _ h => h) (by kernel_rfl) (Or.inl ⟨by rfl, ?_⟩) (by assumption) ?_
  rotate_left
  · (intro w' hSw; (try dsimp only at hSw); go_simp; try (with_reducible rfl))
  try simp only [Act.put]
  refine MAny.take (i := 3) (v := ?_) rfl (by kernel_rfl) (by kernel_rfl) (by kernel_rfl) (fun _ _ _ h => h) (by kernel_rfl) (Or.inl ⟨by rfl, ?_⟩) (by assumption) ?_
  rotate_left
  · (intro w' hSw; (try dsimp only at hSw); go_simp; try (with_reducible rfl))
  try simp only [Act.put]
  refine MAny.take (i := 4) (v := ?_) rfl (by kernel_rfl) (by kernel_rfl) (by kernel_rfl) (fun _ _ _ h => h) (by kernel_rfl) (Or.inl ⟨by rfl, ?_⟩) (by assumption) ?_
  rotate_left
  · (intro w' hSw; (try dsimp only at hSw); go_simp; try (with_reducible rfl))
  try simp only [Act.put]
  refine MAny.take (i := 5) (v := ?_) rfl (by kernel_rfl) (by kernel_rfl) (by kernel_rfl) (fun _ _ _ h => h) (by kernel_rfl) (Or.inl ⟨by rfl, ?_⟩) (by assumption) ?_
  rotate_left
  · (intro w' hSw; (try dsimp only at hSw); go_simp; try (with_reducible rfl))
  try simp only [Act.put]
  refine MAny.ready (rs := [2]) (by kernel_rfl) (by simp) ?_
  refine MReady.cons rfl (fun K hK => ?_) MReady.nil
  go_simp
  go_wp2_with (go_at_call 58; refine (l11Weekdays_any _).mono ?_; rintro e w5 ⟨g5, c5, rfl, own5, hB5⟩)
  replace R := R.go hB5
  have hHeld : w5.cell? ⟨g, 2, none⟩ = some (.string x) := R.at (i := 2) rfl
  refine hK.out _ _ (.inr hHeld) ?_
  clear hK K hB5
  refine MAny.ready (rs := [6]) (by kernel_rfl) (by simp) ?_
  refine MReady.cons rfl (fun K hK => ?_) MReady.nil
  go_simp
  go_wp2_with (go_at_call 113; refine (HI.out _ _ _ (Rd.of_own encS_len (by decide) own5)).mono ?_; rintro e w6 ⟨rfl, rfl⟩)
  refine hK.out _ _ (.inr hHeld) ?_
  clear hK K own5
  refine MAny.ready (rs := [7]) (by kernel_rfl) (by simp) ?_
  refine MReady.cons rfl (fun K hK => ?_) MReady.nil
  go_simp
  refine hK.out _ _ (.inr hHeld) ?_
  clear hK K
  have res := R.res
  have r0 := Box.cell res 0 _ rfl
  have r1 := Box.cell res 1 _ rfl
  have r2 := Box.cell res 2 _ rfl
  have r3 := Box.cell res 3 _ rfl
  have r4 := Box.cell res 4 _ rfl
  have r5 := Box.cell res 5 _ rfl
  have r6 := Box.cell res 6 _ rfl
  have r7 := Box.cell res 7 _ rfl
  have f0 := World.ownsRow.frozenAt res 0
  have f1 := World.ownsRow.frozenAt res 1
  have f2 := World.ownsRow.frozenAt res 2
  have f3 := World.ownsRow.frozenAt res 3
  have f4 := World.ownsRow.frozenAt res 4
  have f5 := World.ownsRow.frozenAt res 5
  have f6 := World.ownsRow.frozenAt res 6
  have f7 := World.ownsRow.frozenAt res 7
  have HP8 := Lib.hid (Box.put8 res (.int .i64 1) (.int .i64 0) (.int .i64 0) (.int .i64 FF) (.int .i64 3) (.int .i64 M) (.int .i64 0) (.string ⟨#[]⟩))
  refine MAny.ready (rs := [8]) (by kernel_rfl) (by simp) ?_
  refine MReady.cons rfl (fun K hK => ?_) MReady.nil
  go_simp
  refine hK.out _ _ (.inl rfl) ?_
  clear hK K
  refine MAny.done (by kernel_rfl) ?_ _
  try simp only [List.getElem_toArray, List.getElem_cons_succ, List.getElem_cons_zero]
  go_wp2
  have hp := HP8.out
  have hGf := RG.fin R hp.2
  generalize (((((((w5.setCell ⟨w.heap.size, 0, none⟩ (.int .i64 1)).setCell ⟨w.heap.size, 1, none⟩ (.int .i64 0)).setCell ⟨w.heap.size, 2, none⟩ (.int .i64 0)).setCell ⟨w.heap.size, 3, none⟩ (.int .i64 FF)).setCell ⟨w.heap.size, 4, none⟩ (.int .i64 3)).setCell ⟨w.heap.size, 5, none⟩ (.int .i64 M)).setCell ⟨w.heap.size, 6, none⟩ (.int .i64 0)).setCell ⟨w.heap.size, 7, none⟩ (.string ⟨#[]⟩) = Wf at hp hGf ⊢
  have z0 := hp.1.cell 0 _ rfl
  have z1 := hp.1.cell 1 _ rfl
  have z2 := hp.1.cell 2 _ rfl
  have z3 := hp.1.cell 3 _ rfl
  have z4 := hp.1.cell 4 _ rfl
  have z5 := hp.1.cell 5 _ rfl
  have z6 := hp.1.cell 6 _ rfl
  have z7 := hp.1.cell 7 _ rfl
  refine bodyPost_ret_by (v := .agg #[.int .i64 1, .int .i64 0, .int .i64 0, .int .i64 FF, .int .i64 3, .int .i64 M, .int .i64 0, .string ⟨#[]⟩]) ?_ rfl ⟨by rw [hE.out]; rfl, hGf⟩
  simp [results, go_sem, z0, z1, z2, z3, z4, z5, z6, z7]
set_option maxRecDepth 100000 in
set_option maxHeartbeats 4000000 in
theorem guess5b (a b x d y : ByteArray) (g c : Nat) (w : World) (hx : Rd encS w (some ⟨g, 0, none⟩) [a, b, x, d, y]) (q0 : (a.toList == [97, 116]) = false) (q1 : (a.toList == [111, 110]) = true) (q2 : (d.toList == [111, 102]) = false) (q3 : (d.toList == [98, 101, 102, 111, 114, 101]) = true) (hg : guS rnB [a, b, x, d, y] = ⟨1, 0, 0, fz feL y, 4, ix wkL x, 0, ⟨#[]⟩⟩) :
    Calls Tryz.prog 51 #[.slice (some ⟨g, 0, none⟩) 5 c] w fun e w' => e = .returned (clV (guS rnB [a, b, x, d, y])) ∧ Below w.heap.size w w' := by
  have hE := Lib.hid hg
  clear hg
  have R0 := RG.start hx
  have HFN := Lib.hid (fun W => specFeastNamed_any y W)
  have HI := Lib.hid (fun g c W (h : Rd encS W (some ⟨g, 0, none⟩) wkL) => (ix_fidx wkL x ▸ l01Text_any (some ⟨g, 0, none⟩) c 7 wkL x W rfl (by decide) h))
  generalize ix wkL x = M at HI hE
  generalize fz feL y = FF at hE HFN
  generalize decide (0 ≤ ix feL y) = ok at HFN
  go_enter Tryz.func51, Tryz.ntmps51
  go_upto_region 1 with (fail)
  have R := R0
  clear R0 hx
  generalize w.alloc (.cells #[.int .i64 0, .int .i64 0, .int .i64 0, .int .i64 0, .int .i64 0, .int .i64 0, .int .i64 0, .string ⟨#[]⟩] 31) = w2 at R ⊢
  have c0 := R.at (i := 0) rfl
  have c1 := R.at (i := 2) rfl
  have c2 := R.at (i := 3) rfl
  have c3 := R.at (i := 4) rfl
  go_wp2_with fail
  refine (HFN.out _).mono ?_
  rintro e w3 ⟨rfl, hB3⟩
  replace R := R.go hB3
  clear hB3 HFN c0 c1 c2 c3
  have c0 := R.at (i := 0) rfl
  have c1 := R.at (i := 2) rfl
  have c2 := R.at (i := 3) rfl
  have c3 := R.at (i := 4) rfl
  go_upto_region 19 with (fail)
  clear c0 c1 c2 c3
  refine MAny.region (S := fun w' => w'.cell? ⟨g, 2, none⟩ = some (.string x)) (last := 8) (by kernel_rfl) ?_
  replace R := R.drew
  have hHeld : w3.drew.cell? ⟨g, 2, none⟩ = some (.string x) := R.at (i := 2) rfl
  generalize w3.drew = W0 at R hHeld ⊢
  refine MAny.take (i := 0) (v := ?_) rfl (by kernel_rfl) (by kernel_rfl) (by kernel_rfl) (fun _ _ _ h => h) (by kernel_rfl) (Or.inl ⟨by rfl, ?_⟩) (by assumption) ?_
  rotate_left
  · (intro w' hSw; (try dsimp only at hSw); go_simp; try (with_reducible rfl))
  try simp only [Act.put, List.setIfInBounds_toArray]
  refine MAny.take (i := 1) (v := ?_) rfl (by kernel_rfl) (by kernel_rfl) (by kernel_rfl) (fun _ _ _ h => h) (by kernel_rfl) (Or.inl ⟨by rfl, ?_⟩) (by assumption) ?_
  rotate_left
  · (intro w' hSw; (try dsimp only at hSw); go_simp; try (with_reducible rfl))
  try simp only [Act.put]
  refine MAny.take (i := 3) (v := ?_) rfl (by kernel_rfl) (by kernel_rfl) (by kernel_rfl) (fun _ _ _ h => h) (by kernel_rfl) (Or.inl ⟨by rfl, ?_⟩) (by assumption) ?_
  rotate_left
  · (intro w' hSw; (try dsimp only at hSw); go_simp; try (with_reducible rfl))
  try simp only [Act.put]
  refine MAny.take (i := 4) (v := ?_) rfl (by kernel_rfl) (by kernel_rfl) (by kernel_rfl) (fun _ _ _ h => h) (by kernel_rfl) (Or.inl ⟨by rfl, ?_⟩) (by assumption) ?_
  rotate_left
  · (intro w' hSw; (try dsimp only at hSw); go_simp; try (with_reducible rfl))
  try simp only [Act.put]
  refine MAny.take (i := 5) (v := ?_) rfl (by kernel_rfl) (by kernel_rfl) (by kernel_rfl) (fun _ _ _ h => h) (by kernel_rfl) (Or.inl ⟨by rfl, ?_⟩) (by assumption) ?_
  rotate_left
  · (intro w' hSw; (try dsimp only at hSw); go_simp; try (with_reducible rfl))
  try simp only [Act.put]
  refine MAny.ready (rs := [2]) (by kernel_rfl) (by simp) ?_
  refine MReady.cons rfl (fun K hK => ?_) MReady.nil
  go_simp
  go_wp2_with (go_at_call 58; refine (l11Weekdays_any _).mono ?_; rintro e w5 ⟨g5, c5, rfl, own5, hB5⟩)
  replace R := R.go hB5
  have hHeld : w5.cell? ⟨g, 2, none⟩ = some (.string x) := R.at (i := 2) rfl
  refine hK.out _ _ (.inr hHeld) ?_
  clear hK K hB5
  refine MAny.ready (rs := [6]) (by kernel_rfl) (by simp) ?_
  refine MReady.cons rfl (fun K hK => ?_) MReady.nil
  go_simp
  go_wp2_with (go_at_call 113; refine (HI.out _ _ _ (Rd.of_own encS_len (by decide) own5)).mono ?_; rintro e w6 ⟨rfl, rfl⟩)
  refine hK.out _ _ (.inr hHeld) ?_
  clear hK K own5
  refine MAny.ready (rs := [7]) (by kernel_rfl) (by simp) ?_
  refine MReady.cons rfl (fun K hK => ?_) MReady.nil
  go_simp
  refine hK.out _ _ (.inr hHeld) ?_
  clear hK K
  have res := R.res
  have r0 := Box.cell res 0 _ rfl
  have r1 := Box.cell res 1 _ rfl
  have r2 := Box.cell res 2 _ rfl
  have r3 := Box.cell res 3 _ rfl
  have r4 := Box.cell res 4 _ rfl
  have r5 := Box.cell res 5 _ rfl
  have r6 := Box.cell res 6 _ rfl
  have r7 := Box.cell res 7 _ rfl
  have f0 := World.ownsRow.frozenAt res 0
  have f1 := World.ownsRow.frozenAt res 1
  have f2 := World.ownsRow.frozenAt res 2
  have f3 := World.ownsRow.frozenAt res 3
  have f4 := World.ownsRow.frozenAt res 4
  have f5 := World.ownsRow.frozenAt res 5
  have f6 := World.ownsRow.frozenAt res 6
  have f7 := World.ownsRow.frozenAt res 7
  have HP8 := Lib.hid (Box.put8 res (.int .i64 1) (.int .i64 0) (.int .i64 0) (.int .i64 FF) (.int .i64 4) (.int .i64 M) (.int .i64 0) (.string ⟨#[]⟩))
  refine MAny.ready (rs := [8]) (by kernel_rfl) (by simp) ?_
  refine MReady.cons rfl (fun K hK => ?_) MReady.nil
  go_simp
  refine hK.out _ _ (.inl rfl) ?_
  clear hK K
  refine MAny.done (by kernel_rfl) ?_ _
  try simp only [List.getElem_toArray, List.getElem_cons_succ, List.getElem_cons_zero]
  go_wp2
  have hp := HP8.out
  have hGf := RG.fin R hp.2
  generalize (((((((w5.setCell ⟨w.heap.size, 0, none⟩ (.int .i64 1)).setCell ⟨w.heap.size, 1, none⟩ (.int .i64 0)).setCell ⟨w.heap.size, 2, none⟩ (.int .i64 0)).setCell ⟨w.heap.size, 3, none⟩ (.int .i64 FF)).setCell ⟨w.heap.size, 4, none⟩ (.int .i64 4)).setCell ⟨w.heap.size, 5, none⟩ (.int .i64 M)).setCell ⟨w.heap.size, 6, none⟩ (.int .i64 0)).setCell ⟨w.heap.size, 7, none⟩ (.string ⟨#[]⟩) = Wf at hp hGf ⊢
  have z0 := hp.1.cell 0 _ rfl
  have z1 := hp.1.cell 1 _ rfl
  have z2 := hp.1.cell 2 _ rfl
  have z3 := hp.1.cell 3 _ rfl
  have z4 := hp.1.cell 4 _ rfl
  have z5 := hp.1.cell 5 _ rfl
  have z6 := hp.1.cell 6 _ rfl
  have z7 := hp.1.cell 7 _ rfl
  refine bodyPost_ret_by (v := .agg #[.int .i64 1, .int .i64 0, .int .i64 0, .int .i64 FF, .int .i64 4, .int .i64 M, .int .i64 0, .string ⟨#[]⟩]) ?_ rfl ⟨by rw [hE.out]; rfl, hGf⟩
  simp [results, go_sem, z0, z1, z2, z3, z4, z5, z6, z7]
set_option maxRecDepth 100000 in
set_option maxHeartbeats 4000000 in
theorem guess6i (a b c x u y : ByteArray) (g cp : Nat) (w : World) (hx : Rd encS w (some ⟨g, 0, none⟩) [a, b, c, x, u, y]) (q0 : (a.toList == [97, 116]) = false) (q1 : (a.toList == [111, 110]) = false) (q2 : (a.toList == [105, 110]) = true) (q3 : (c.toList == [105, 110, 100, 105, 99, 116, 105, 111, 110]) = true) (hg : guS rnB [a, b, c, x, u, y] = ⟨4, rnB x, 0, 0, 0, 0, ix inL y, ⟨#[]⟩⟩) :
    Calls Tryz.prog 51 #[.slice (some ⟨g, 0, none⟩) 6 cp] w fun e w' => e = .returned (clV (guS rnB [a, b, c, x, u, y])) ∧ Below w.heap.size w w' := by
  have hE := Lib.hid hg
  clear hg
  have R0 := RG.start hx
  have HFN := Lib.hid (fun W => specFeastNamed_any y W)
  have HI := Lib.hid (fun g c W (h : Rd encS W (some ⟨g, 0, none⟩) inL) => (ix_fidx inL y ▸ l01Text_any (some ⟨g, 0, none⟩) c 3 inL y W rfl (by decide) h))
  generalize ix inL y = M at HI hE
  have HO := Lib.hid (fun W => specReadNumber_any x W)
  generalize rnB x = N at HO hE
  generalize decide (1 ≤ N) = ok2 at HO
  have HSN := Lib.hid (fun W => specStyleNamed_any y W)
  generalize fz styL y = SS at HSN
  generalize decide (0 ≤ ix styL y) = ok3 at HSN
  generalize fz feL y = FF at HFN
  generalize decide (0 ≤ ix feL y) = ok at HFN
  go_enter Tryz.func51, Tryz.ntmps51
  go_upto_region 1 with (fail)
  have R := R0
  clear R0 hx
  generalize w.alloc (.cells #[.int .i64 0, .int .i64 0, .int .i64 0, .int .i64 0, .int .i64 0, .int .i64 0, .int .i64 0, .string ⟨#[]⟩] 31) = w2 at R ⊢
  have c0 := R.at (i := 0) rfl
  have c1 := R.at (i := 2) rfl
  have c2 := R.at (i := 3) rfl
  have c3 := R.at (i := 4) rfl
  have c4 := R.at (i := 5) rfl
  go_wp2_with fail
  refine (HFN.out _).mono ?_
  rintro e w3 ⟨rfl, hB3⟩
  replace R := R.go hB3
  clear hB3 HFN c0 c1 c2 c3 c4
  have c0 := R.at (i := 0) rfl
  have c1 := R.at (i := 2) rfl
  have c2 := R.at (i := 3) rfl
  have c3 := R.at (i := 4) rfl
  have c4 := R.at (i := 5) rfl
  go_wp2_with fail
  refine (HO.out _).mono ?_
  rintro e w4 ⟨rfl, hB4⟩
  replace R := R.go hB4
  clear hB4 HO
  go_wp2_with fail
  refine (HSN.out _).mono ?_
  rintro e w5 ⟨rfl, hB5⟩
  replace R := R.go hB5
  clear hB5 HSN c0 c1 c2 c3 c4
  have c0 := R.at (i := 0) rfl
  have c1 := R.at (i := 2) rfl
  have c2 := R.at (i := 3) rfl
  have c3 := R.at (i := 4) rfl
  have c4 := R.at (i := 5) rfl
  go_wp2_with fail
  refine (l11Indictions_any _).mono ?_
  rintro e w6 ⟨g5, c5, rfl, own5, hB5⟩
  replace R := R.go hB5
  clear hB5
  go_wp2_with fail
  refine (HI.out _ _ _ (Rd.of_own encS_len (by decide) own5)).mono ?_
  rintro e w7 ⟨rfl, rfl⟩
  clear own5
  have res := R.res
  have r0 := Box.cell res 0 _ rfl
  have r1 := Box.cell res 1 _ rfl
  have r2 := Box.cell res 2 _ rfl
  have r3 := Box.cell res 3 _ rfl
  have r4 := Box.cell res 4 _ rfl
  have r5 := Box.cell res 5 _ rfl
  have r6 := Box.cell res 6 _ rfl
  have r7 := Box.cell res 7 _ rfl
  have f0 := World.ownsRow.frozenAt res 0
  have f1 := World.ownsRow.frozenAt res 1
  have f2 := World.ownsRow.frozenAt res 2
  have f3 := World.ownsRow.frozenAt res 3
  have f4 := World.ownsRow.frozenAt res 4
  have f5 := World.ownsRow.frozenAt res 5
  have f6 := World.ownsRow.frozenAt res 6
  have f7 := World.ownsRow.frozenAt res 7
  have HP8 := Lib.hid (Box.put8 res (.int .i64 4) (.int .i64 N) (.int .i64 0) (.int .i64 0) (.int .i64 0) (.int .i64 0) (.int .i64 M) (.string ⟨#[]⟩))
  go_wp2
  have hp := HP8.out
  have hGf := RG.fin R hp.2
  generalize (((((((w6.setCell ⟨w.heap.size, 0, none⟩ (.int .i64 4)).setCell ⟨w.heap.size, 1, none⟩ (.int .i64 N)).setCell ⟨w.heap.size, 2, none⟩ (.int .i64 0)).setCell ⟨w.heap.size, 3, none⟩ (.int .i64 0)).setCell ⟨w.heap.size, 4, none⟩ (.int .i64 0)).setCell ⟨w.heap.size, 5, none⟩ (.int .i64 0)).setCell ⟨w.heap.size, 6, none⟩ (.int .i64 M)).setCell ⟨w.heap.size, 7, none⟩ (.string ⟨#[]⟩) = Wf at hp hGf ⊢
  have z0 := hp.1.cell 0 _ rfl
  have z1 := hp.1.cell 1 _ rfl
  have z2 := hp.1.cell 2 _ rfl
  have z3 := hp.1.cell 3 _ rfl
  have z4 := hp.1.cell 4 _ rfl
  have z5 := hp.1.cell 5 _ rfl
  have z6 := hp.1.cell 6 _ rfl
  have z7 := hp.1.cell 7 _ rfl
  refine bodyPost_ret_by (v := .agg #[.int .i64 4, .int .i64 N, .int .i64 0, .int .i64 0, .int .i64 0, .int .i64 0, .int .i64 M, .string ⟨#[]⟩]) ?_ rfl ⟨by rw [hE.out]; rfl, hGf⟩
  simp [results, go_sem, z0, z1, z2, z3, z4, z5, z6, z7]
set_option maxRecDepth 100000 in
set_option maxHeartbeats 4000000 in
theorem guess6k (a b c x u y : ByteArray) (g cp : Nat) (w : World) (hx : Rd encS w (some ⟨g, 0, none⟩) [a, b, c, x, u, y]) (q0 : (a.toList == [97, 116]) = false) (q1 : (a.toList == [111, 110]) = false) (q2 : (a.toList == [105, 110]) = true) (q3 : (c.toList == [105, 110, 100, 105, 99, 116, 105, 111, 110]) = false) (q4 : (u.toList == [111, 102]) = true) (hg : guS rnB [a, b, c, x, u, y] = ⟨2, rnB x, 0, 0, 0, 0, 0, y⟩) :
    Calls Tryz.prog 51 #[.slice (some ⟨g, 0, none⟩) 6 cp] w fun e w' => e = .returned (clV (guS rnB [a, b, c, x, u, y])) ∧ Below w.heap.size w w' := by
  have hE := Lib.hid hg
  clear hg
  have R0 := RG.start hx
  have HFN := Lib.hid (fun W => specFeastNamed_any y W)
  have HO := Lib.hid (fun W => specReadNumber_any x W)
  generalize rnB x = N at HO hE
  generalize decide (1 ≤ N) = ok2 at HO
  have HSN := Lib.hid (fun W => specStyleNamed_any y W)
  generalize fz styL y = SS at HSN
  generalize decide (0 ≤ ix styL y) = ok3 at HSN
  generalize fz feL y = FF at HFN
  generalize decide (0 ≤ ix feL y) = ok at HFN
  go_enter Tryz.func51, Tryz.ntmps51
  go_upto_region 1 with (fail)
  have R := R0
  clear R0 hx
  generalize w.alloc (.cells #[.int .i64 0, .int .i64 0, .int .i64 0, .int .i64 0, .int .i64 0, .int .i64 0, .int .i64 0, .string ⟨#[]⟩] 31) = w2 at R ⊢
  have c0 := R.at (i := 0) rfl
  have c1 := R.at (i := 2) rfl
  have c2 := R.at (i := 3) rfl
  have c3 := R.at (i := 4) rfl
  have c4 := R.at (i := 5) rfl
  go_wp2_with fail
  refine (HFN.out _).mono ?_
  rintro e w3 ⟨rfl, hB3⟩
  replace R := R.go hB3
  clear hB3 HFN c0 c1 c2 c3 c4
  have c0 := R.at (i := 0) rfl
  have c1 := R.at (i := 2) rfl
  have c2 := R.at (i := 3) rfl
  have c3 := R.at (i := 4) rfl
  have c4 := R.at (i := 5) rfl
  go_wp2_with fail
  refine (HO.out _).mono ?_
  rintro e w4 ⟨rfl, hB4⟩
  replace R := R.go hB4
  clear hB4 HO
  go_wp2_with fail
  refine (HSN.out _).mono ?_
  rintro e w5 ⟨rfl, hB5⟩
  replace R := R.go hB5
  clear hB5 HSN c0 c1 c2 c3 c4
  have c0 := R.at (i := 0) rfl
  have c1 := R.at (i := 2) rfl
  have c2 := R.at (i := 3) rfl
  have c3 := R.at (i := 4) rfl
  have c4 := R.at (i := 5) rfl
  have res := R.res
  have r0 := Box.cell res 0 _ rfl
  have r1 := Box.cell res 1 _ rfl
  have r2 := Box.cell res 2 _ rfl
  have r3 := Box.cell res 3 _ rfl
  have r4 := Box.cell res 4 _ rfl
  have r5 := Box.cell res 5 _ rfl
  have r6 := Box.cell res 6 _ rfl
  have r7 := Box.cell res 7 _ rfl
  have f0 := World.ownsRow.frozenAt res 0
  have f1 := World.ownsRow.frozenAt res 1
  have f2 := World.ownsRow.frozenAt res 2
  have f3 := World.ownsRow.frozenAt res 3
  have f4 := World.ownsRow.frozenAt res 4
  have f5 := World.ownsRow.frozenAt res 5
  have f6 := World.ownsRow.frozenAt res 6
  have f7 := World.ownsRow.frozenAt res 7
  have HP8 := Lib.hid (Box.put8 res (.int .i64 2) (.int .i64 N) (.int .i64 0) (.int .i64 0) (.int .i64 0) (.int .i64 0) (.int .i64 0) (.string y))
  go_wp2
  have hp := HP8.out
  have hGf := RG.fin R hp.2
  generalize (((((((w5.setCell ⟨w.heap.size, 0, none⟩ (.int .i64 2)).setCell ⟨w.heap.size, 1, none⟩ (.int .i64 N)).setCell ⟨w.heap.size, 2, none⟩ (.int .i64 0)).setCell ⟨w.heap.size, 3, none⟩ (.int .i64 0)).setCell ⟨w.heap.size, 4, none⟩ (.int .i64 0)).setCell ⟨w.heap.size, 5, none⟩ (.int .i64 0)).setCell ⟨w.heap.size, 6, none⟩ (.int .i64 0)).setCell ⟨w.heap.size, 7, none⟩ (.string y) = Wf at hp hGf ⊢
  have z0 := hp.1.cell 0 _ rfl
  have z1 := hp.1.cell 1 _ rfl
  have z2 := hp.1.cell 2 _ rfl
  have z3 := hp.1.cell 3 _ rfl
  have z4 := hp.1.cell 4 _ rfl
  have z5 := hp.1.cell 5 _ rfl
  have z6 := hp.1.cell 6 _ rfl
  have z7 := hp.1.cell 7 _ rfl
  refine bodyPost_ret_by (v := .agg #[.int .i64 2, .int .i64 N, .int .i64 0, .int .i64 0, .int .i64 0, .int .i64 0, .int .i64 0, .string y]) ?_ rfl ⟨by rw [hE.out]; rfl, hGf⟩
  simp [results, go_sem, z0, z1, z2, z3, z4, z5, z6, z7]
set_option maxRecDepth 100000 in
set_option maxHeartbeats 4000000 in
theorem guess6s (a b c x u y : ByteArray) (g cp : Nat) (w : World) (hx : Rd encS w (some ⟨g, 0, none⟩) [a, b, c, x, u, y]) (q0 : (a.toList == [97, 116]) = false) (q1 : (a.toList == [111, 110]) = false) (q2 : (a.toList == [105, 110]) = true) (q3 : (c.toList == [105, 110, 100, 105, 99, 116, 105, 111, 110]) = false) (q4 : (u.toList == [111, 102]) = false) (hg : guS rnB [a, b, c, x, u, y] = ⟨3, rnB x, 0, 0, 0, 0, fz styL y, ⟨#[]⟩⟩) :
    Calls Tryz.prog 51 #[.slice (some ⟨g, 0, none⟩) 6 cp] w fun e w' => e = .returned (clV (guS rnB [a, b, c, x, u, y])) ∧ Below w.heap.size w w' := by
  have hE := Lib.hid hg
  clear hg
  have R0 := RG.start hx
  have HFN := Lib.hid (fun W => specFeastNamed_any y W)
  have HO := Lib.hid (fun W => specReadNumber_any x W)
  generalize rnB x = N at HO hE
  generalize decide (1 ≤ N) = ok2 at HO
  have HSN := Lib.hid (fun W => specStyleNamed_any y W)
  generalize fz styL y = SS at HSN hE
  generalize decide (0 ≤ ix styL y) = ok3 at HSN
  generalize fz feL y = FF at HFN
  generalize decide (0 ≤ ix feL y) = ok at HFN
  go_enter Tryz.func51, Tryz.ntmps51
  go_upto_region 1 with (fail)
  have R := R0
  clear R0 hx
  generalize w.alloc (.cells #[.int .i64 0, .int .i64 0, .int .i64 0, .int .i64 0, .int .i64 0, .int .i64 0, .int .i64 0, .string ⟨#[]⟩] 31) = w2 at R ⊢
  have c0 := R.at (i := 0) rfl
  have c1 := R.at (i := 2) rfl
  have c2 := R.at (i := 3) rfl
  have c3 := R.at (i := 4) rfl
  have c4 := R.at (i := 5) rfl
  go_wp2_with fail
  refine (HFN.out _).mono ?_
  rintro e w3 ⟨rfl, hB3⟩
  replace R := R.go hB3
  clear hB3 HFN c0 c1 c2 c3 c4
  have c0 := R.at (i := 0) rfl
  have c1 := R.at (i := 2) rfl
  have c2 := R.at (i := 3) rfl
  have c3 := R.at (i := 4) rfl
  have c4 := R.at (i := 5) rfl
  go_wp2_with fail
  refine (HO.out _).mono ?_
  rintro e w4 ⟨rfl, hB4⟩
  replace R := R.go hB4
  clear hB4 HO
  go_wp2_with fail
  refine (HSN.out _).mono ?_
  rintro e w5 ⟨rfl, hB5⟩
  replace R := R.go hB5
  clear hB5 HSN c0 c1 c2 c3 c4
  have c0 := R.at (i := 0) rfl
  have c1 := R.at (i := 2) rfl
  have c2 := R.at (i := 3) rfl
  have c3 := R.at (i := 4) rfl
  have c4 := R.at (i := 5) rfl
  have res := R.res
  have r0 := Box.cell res 0 _ rfl
  have r1 := Box.cell res 1 _ rfl
  have r2 := Box.cell res 2 _ rfl
  have r3 := Box.cell res 3 _ rfl
  have r4 := Box.cell res 4 _ rfl
  have r5 := Box.cell res 5 _ rfl
  have r6 := Box.cell res 6 _ rfl
  have r7 := Box.cell res 7 _ rfl
  have f0 := World.ownsRow.frozenAt res 0
  have f1 := World.ownsRow.frozenAt res 1
  have f2 := World.ownsRow.frozenAt res 2
  have f3 := World.ownsRow.frozenAt res 3
  have f4 := World.ownsRow.frozenAt res 4
  have f5 := World.ownsRow.frozenAt res 5
  have f6 := World.ownsRow.frozenAt res 6
  have f7 := World.ownsRow.frozenAt res 7
  have HP8 := Lib.hid (Box.put8 res (.int .i64 3) (.int .i64 N) (.int .i64 0) (.int .i64 0) (.int .i64 0) (.int .i64 0) (.int .i64 SS) (.string ⟨#[]⟩))
  go_wp2
  have hp := HP8.out
  have hGf := RG.fin R hp.2
  generalize (((((((w5.setCell ⟨w.heap.size, 0, none⟩ (.int .i64 3)).setCell ⟨w.heap.size, 1, none⟩ (.int .i64 N)).setCell ⟨w.heap.size, 2, none⟩ (.int .i64 0)).setCell ⟨w.heap.size, 3, none⟩ (.int .i64 0)).setCell ⟨w.heap.size, 4, none⟩ (.int .i64 0)).setCell ⟨w.heap.size, 5, none⟩ (.int .i64 0)).setCell ⟨w.heap.size, 6, none⟩ (.int .i64 SS)).setCell ⟨w.heap.size, 7, none⟩ (.string ⟨#[]⟩) = Wf at hp hGf ⊢
  have z0 := hp.1.cell 0 _ rfl
  have z1 := hp.1.cell 1 _ rfl
  have z2 := hp.1.cell 2 _ rfl
  have z3 := hp.1.cell 3 _ rfl
  have z4 := hp.1.cell 4 _ rfl
  have z5 := hp.1.cell 5 _ rfl
  have z6 := hp.1.cell 6 _ rfl
  have z7 := hp.1.cell 7 _ rfl
  refine bodyPost_ret_by (v := .agg #[.int .i64 3, .int .i64 N, .int .i64 0, .int .i64 0, .int .i64 0, .int .i64 0, .int .i64 SS, .string ⟨#[]⟩]) ?_ rfl ⟨by rw [hE.out]; rfl, hGf⟩
  simp [results, go_sem, z0, z1, z2, z3, z4, z5, z6, z7]
end Go.Proofs.YteajkofgcmfaoaaGreatDoor
