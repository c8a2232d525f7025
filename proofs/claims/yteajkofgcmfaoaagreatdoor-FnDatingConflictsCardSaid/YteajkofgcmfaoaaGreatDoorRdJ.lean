/- Walk: readClause of the program. Printed by gen_rdj.py. -/
import Derived.Test.YteajkofgcmfaoaaGreatDoorRd4
import Derived.Test.YteajkofgcmfaoaaGreatDoorRs
import Derived.Test.YteajkofgcmfaoaaGreatDoorBB
namespace Go.Proofs.YteajkofgcmfaoaaGreatDoor
open Go.ChangeShapes Go.WideShapes Go.ChangeAt Go.RowKit Go.IntWalk

theorem own_str {W : World} {B g n c : Nat} {E : TypeId} {L : List ByteArray} (h : W.ownsRow B E 1 (.slice (some ⟨g, 0, none⟩) n c) n (L.flatMap encS)) {i : Nat} {x : ByteArray} (hx : L[i]? = some x) : W.cell? ⟨g, i, none⟩ = some (.string x) := by
  have h1 := flatMap_at encS 1 encS_len L i x 0 (.string x) hx rfl
  simp only [Nat.mul_one, Nat.add_zero] at h1
  have hl := h.1
  have h2 := (List.getElem?_eq_some_iff.1 h1).1
  rw [h.cellAt i (by omega), h1]
def clV (m : Cl) : Value := .agg #[.int .i64 m.kind, .int .i64 m.number, .int .i64 m.month, .int .i64 m.feast, .int .i64 m.relation, .int .i64 m.weekday, .int .i64 m.style, .string m.king]
/-- What stands while a clause is read: the result's box, the words' box and row. -/
structure RC (w : World) (g q : Nat) (L : List ByteArray) (W : World) : Prop where
  res : Box w.heap.size W 31 w.heap.size [.int .i64 0, .int .i64 0, .int .i64 0, .int .i64 0, .int .i64 0, .int .i64 0, .int .i64 0, .string ⟨#[]⟩]
  cq : W.cell? ⟨q, 0, none⟩ = some (.slice (some ⟨g, 0, none⟩) L.length L.length)
  hq : q < W.heap.size
  row : W.ownsRow w.heap.size 9 1 (.slice (some ⟨g, 0, none⟩) L.length L.length) L.length (L.flatMap encS)
  num : NumW W
  below : Below w.heap.size w W
theorem RC.go {w : World} {g q : Nat} {L : List ByteArray} {W W2 : World} (h : RC w g q L W) (hB : Below W.heap.size W W2) : RC w g q L W2 :=
  ⟨h.res.below hB, (hB.cell (p := ⟨q, 0, none⟩) h.hq).trans h.cq, Nat.lt_of_lt_of_le h.hq hB.size, own_below h.row hB, h.num.below hB, stepB h.below hB h.below.size⟩
theorem RC.at {w : World} {g q : Nat} {L : List ByteArray} {W : World} (h : RC w g q L W) {i : Nat} {x : ByteArray} (hx : L[i]? = some x) : W.cell? ⟨g, i, none⟩ = some (.string x) := own_str h.row hx
theorem RC.drew {w : World} {g q : Nat} {L : List ByteArray} {W : World} (h : RC w g q L W) : RC w g q L W.drew := h.go (Below.refl _ W).drew
theorem RC.fin {w : World} {g q : Nat} {L : List ByteArray} {W W2 : World} (h : RC w g q L W) (hg : W.grownBy W2 (some w.heap.size)) : Below w.heap.size w W2 :=
  h.below.trans ⟨hg.os, hg.tape, hg.output, hg.size, fun j hj => hg.block j (Nat.lt_of_lt_of_le hj h.below.size) (fun e => by cases e; omega)⟩
theorem ix_bd {L : List ByteArray} {x : ByteArray} {b : Int} (h : (L.length : Int) ≤ b) : -1 ≤ ix L x ∧ ix L x ≤ b := by
  rcases ix_or L x with e | ⟨j, e, hj, _⟩ <;> omega
theorem wsB_part (c : UInt8) (s : ByteArray) : ∀ x ∈ wsB c s, x.size ≤ s.size := by
  suffices h : ∀ l : List UInt8, ∀ x ∈ spl c l, x.length ≤ l.length by
    intro x hx
    unfold wsB at hx
    obtain ⟨l, hl, rfl⟩ := List.mem_map.1 hx
    have := h _ l hl
    rw [Lib.size_eq, Lib.size_eq]
    simpa using this
  intro l
  induction l with
  | nil => intro x hx; simp [spl] at hx; simp [hx]
  | cons b l ih =>
    intro x hx
    rw [spl_cons] at hx
    split at hx
    · rcases List.mem_cons.1 hx with rfl | hx
      · simp
      · have := ih x hx; simp only [List.length_cons]; omega
    · split at hx
      · rename_i e; exact absurd e (spl_ne c l)
      · rename_i p r e
        rcases List.mem_cons.1 hx with rfl | hx
        · have := ih p (by rw [e]; simp); simp only [List.length_cons]; omega
        · have := ih x (by rw [e]; simp [hx]); simp only [List.length_cons]; omega
set_option maxRecDepth 100000 in
set_option maxHeartbeats 16000000 in
theorem readClause_any (s : ByteArray) (hs : s.size ≤ 1048576) (w : World) (hN : NumW w) :
    Calls Tryz.prog 40 #[.string s] w fun e w' => e = .returned (clV (readI rnB (wsB 32 s))) ∧ Below w.heap.size w w' := by
  have hl := wsB_len 32 s
  have hne := wsB_ne 32 s
  have hsz : ∀ x ∈ wsB 32 s, x.size ≤ 1048576 := fun x hx => Nat.le_trans (wsB_part 32 s x hx) hs
  have HS := Lib.hid (fun W => split_ws s 32 W hs)
  replace hl : (wsB 32 s).length ≤ 1048577 := by omega
  generalize wsB 32 s = L at hl hne hsz HS ⊢
  obtain ⟨n, hn⟩ : ∃ n, L.length = n + 1 := by
    cases L with
    | nil => exact absurd rfl hne
    | cons a b => exact ⟨b.length, by simp⟩
  obtain ⟨last, hlast⟩ : ∃ x, L[n]? = some x := ⟨L[n], List.getElem?_eq_getElem (by omega)⟩
  replace hn := Lib.hid hn
  have res0 := Box.new w 31 [.int .i64 0, .int .i64 0, .int .i64 0, .int .i64 0, .int .i64 0, .int .i64 0, .int .i64 0, .string ⟨#[]⟩] w.heap.size (Nat.le_refl _) (by decide)
  have hB0 : Below w.heap.size w (w.alloc (.cells #[.int .i64 0, .int .i64 0, .int .i64 0, .int .i64 0, .int .i64 0, .int .i64 0, .int .i64 0, .string ⟨#[]⟩] 31)) := (Below.refl _ w).alloc (Nat.le_refl _) _
  go_enter Tryz.func40, Tryz.ntmps40
  go_wp2_with fail
  refine (HS.out _).mono ?_
  rintro e w1 ⟨g, rfl, ow, hB1⟩
  have hB := stepB hB0 hB1 hB0.size
  have res := res0.below hB1
  have ow := own_base ow hB0.size
  clear HS res0 hB0 hB1
  go_upto_region 2 with (fail)
  have hz : Below w1.heap.size w1 (w1.alloc (.cells #[.slice (some ⟨g, 0, none⟩) L.length L.length] 56)) := (Below.refl _ w1).alloc (Nat.le_refl _) _
  have R : RC w g w1.heap.size L (w1.alloc (.cells #[.slice (some ⟨g, 0, none⟩) L.length L.length] 56)) :=
    ⟨res.below hz, World.cell?_alloc_at _ _ _ _ rfl, by simp, own_below ow hz, hN.below (stepB hB hz hB.size), stepB hB hz hB.size⟩
  clear hz res ow hB
  generalize w1.alloc (.cells #[.slice (some ⟨g, 0, none⟩) L.length L.length] 56) = w2 at R ⊢
  generalize w1.heap.size = q at R ⊢
  have c0 := R.cq
  have c1 := R.at hlast
  have hnl : n < L.length := by have := hn.out; omega
  have v1 : IntKind.i64.wrap ((L.length : Int) - 1) = (n : Int) := by rw [IntKind.wrap_i64]; have := hn.out; omega
  have HI := Lib.hid (fun g c W (h : Rd encS W (some ⟨g, 0, none⟩) feL) => indexIn_any g c 20 feL last W rfl (by decide) h)
  go_wp2_with fail
  refine (feastNames_any _).mono ?_
  rintro e w3 ⟨g3, c3, rfl, own3, hB3⟩
  replace R := R.go hB3
  clear hB3 c0 c1 v1 hnl
  go_wp2_with fail
  refine (HI.out _ _ _ (Rd.of_own encS_len (by decide) own3)).mono ?_
  rintro e w4 ⟨rfl, rfl⟩
  clear own3 HI w2
  generalize w3 = w2 at R ⊢
  clear hs hN hne ow

  have HQ := Lib.hid (show ∀ W, RC w g q L W → Calls Tryz.prog 83 #[.string ⟨#[111, 110, 32, 116, 104, 101, 32, 42, 32, 111, 102, 32, 42]⟩, .pointer (some ⟨q, 0, none⟩)] W fun e w' => e = .returned (.bool (mt L pt0)) ∧ Below W.heap.size W w' from fun W h => by
    have h1 := isPat_any ⟨#[111, 110, 32, 116, 104, 101, 32, 42, 32, 111, 102, 32, 42]⟩ q (some ⟨g, 0, none⟩) L.length L W (by decide) hl (Rd.of_own encS_len (by decide) h.row) h.cq h.hq
    rw [ws_pt0] at h1
    exact h1)
  cases h0 : mt L pt0 with
  | true =>
    obtain ⟨x, y, rfl⟩ := is0 h0
    rw [h0] at HQ
    have hn2 := hn.out
    simp only [List.length_cons, List.length_nil] at hn2
    obtain rfl : n = 4 := by omega
    obtain rfl : y = last := Option.some.inj hlast
    clear h0 hlast hn hn2 hl
    go_wp2_with fail
    refine (HQ.out _ R).mono ?_
    rintro e w3 ⟨rfl, hB3⟩
    replace R := R.go hB3
    clear hB3 HQ
    have c0 := R.cq
    have c1 := R.at (i := 2) rfl
    have HO := Lib.hid (fun W => implReadOrdinal_any x W)
    have HI := Lib.hid (fun g c W (h : Rd encS W (some ⟨g, 0, none⟩) monL) => indexIn_any g c 12 monL y W rfl (by decide) h)
    have hM : -1 ≤ ix monL y ∧ ix monL y ≤ 12 := ix_bd (by decide)
    have hE := Lib.hid (readI_0 rnB x y)
    generalize rdOrd x = N at HO hE
    generalize ix monL y = M at HI hE hM
    have v0 : IntKind.i64.wrap (M + 1) = M + 1 := by rw [IntKind.wrap_i64]; omega
    go_wp2_with fail
    refine (HO.out _).mono ?_
    rintro e w4 ⟨rfl, hB4⟩
    replace R := R.go hB4
    clear hB4 c0 c1
    go_wp2_with fail
    refine (monthNames_any _).mono ?_
    rintro e w5 ⟨g5, c5, rfl, own5, hB5⟩
    replace R := R.go hB5
    clear hB5
    go_wp2_with fail
    refine (HI.out _ _ _ (Rd.of_own encS_len (by decide) own5)).mono ?_
    rintro e w6 ⟨rfl, rfl⟩
    clear own5
    have res := R.res
    have r0 := Box.cell res 0 _ rfl
    have r1 := Box.cell res 1 _ rfl
    have r2 := Box.cell res 2 _ rfl
    have r3 := Box.cell res 3 _ rfl
    have r4 := Box.cell res 4 _ rfl
    have r5 := Box.cell res 5 _ rfl
    have r6 := Box.cell res 6 _ rfl
    have r7 := Box.cell res 7 _ rfl
    have f0 := World.ownsRow.frozenAt res 0
    have f1 := World.ownsRow.frozenAt res 1
    have f2 := World.ownsRow.frozenAt res 2
    have f3 := World.ownsRow.frozenAt res 3
    have f4 := World.ownsRow.frozenAt res 4
    have f5 := World.ownsRow.frozenAt res 5
    have f6 := World.ownsRow.frozenAt res 6
    have f7 := World.ownsRow.frozenAt res 7
    have HP8 := Lib.hid (Box.put8 res (.int .i64 0) (.int .i64 N) (.int .i64 (M + 1)) (.int .i64 0) (.int .i64 0) (.int .i64 0) (.int .i64 0) (.string ⟨#[]⟩))
    go_wp2
    have hp := HP8.out
    have hGf := RC.fin R hp.2
    generalize (((((((w5.setCell ⟨w.heap.size, 0, none⟩ (.int .i64 0)).setCell ⟨w.heap.size, 1, none⟩ (.int .i64 N)).setCell ⟨w.heap.size, 2, none⟩ (.int .i64 (M + 1))).setCell ⟨w.heap.size, 3, none⟩ (.int .i64 0)).setCell ⟨w.heap.size, 4, none⟩ (.int .i64 0)).setCell ⟨w.heap.size, 5, none⟩ (.int .i64 0)).setCell ⟨w.heap.size, 6, none⟩ (.int .i64 0)).setCell ⟨w.heap.size, 7, none⟩ (.string ⟨#[]⟩) = Wf at hp hGf ⊢
    have z0 := hp.1.cell 0 _ rfl
    have z1 := hp.1.cell 1 _ rfl
    have z2 := hp.1.cell 2 _ rfl
    have z3 := hp.1.cell 3 _ rfl
    have z4 := hp.1.cell 4 _ rfl
    have z5 := hp.1.cell 5 _ rfl
    have z6 := hp.1.cell 6 _ rfl
    have z7 := hp.1.cell 7 _ rfl
    refine bodyPost_ret_by (v := .agg #[.int .i64 0, .int .i64 N, .int .i64 (M + 1), .int .i64 0, .int .i64 0, .int .i64 0, .int .i64 0, .string ⟨#[]⟩]) ?_ rfl ⟨by rw [hE.out]; rfl, hGf⟩
    simp [results, go_sem, z0, z1, z2, z3, z4, z5, z6, z7]
  | false =>
    rw [h0] at HQ
    go_wp2_with fail
    refine (HQ.out _ R).mono ?_
    rintro e w3 ⟨rfl, hB3⟩
    replace R := R.go hB3
    clear hB3 HQ
    generalize w3 = w2 at R ⊢
    have HQ := Lib.hid (show ∀ W, RC w g q L W → Calls Tryz.prog 83 #[.string ⟨#[97, 116, 32, 42]⟩, .pointer (some ⟨q, 0, none⟩)] W fun e w' => e = .returned (.bool (mt L pt1)) ∧ Below W.heap.size W w' from fun W h => by
      have h1 := isPat_any ⟨#[97, 116, 32, 42]⟩ q (some ⟨g, 0, none⟩) L.length L W (by decide) hl (Rd.of_own encS_len (by decide) h.row) h.cq h.hq
      rw [ws_pt1] at h1
      exact h1)
    cases h1 : mt L pt1 with
    | true =>
      obtain ⟨y, rfl⟩ := is1 h1
      rw [h1] at HQ
      have hn2 := hn.out
      simp only [List.length_cons, List.length_nil] at hn2
      obtain rfl : n = 1 := by omega
      obtain rfl : y = last := Option.some.inj hlast
      clear h1 hlast hn hn2 hl
      go_wp2_with fail
      refine (HQ.out _ R).mono ?_
      rintro e w3 ⟨rfl, hB3⟩
      replace R := R.go hB3
      clear hB3 HQ
      have hE := Lib.hid (readI_1 rnB y)
      generalize ix feL y = FF at hE
      have res := R.res
      have r0 := Box.cell res 0 _ rfl
      have r1 := Box.cell res 1 _ rfl
      have r2 := Box.cell res 2 _ rfl
      have r3 := Box.cell res 3 _ rfl
      have r4 := Box.cell res 4 _ rfl
      have r5 := Box.cell res 5 _ rfl
      have r6 := Box.cell res 6 _ rfl
      have r7 := Box.cell res 7 _ rfl
      have f0 := World.ownsRow.frozenAt res 0
      have f1 := World.ownsRow.frozenAt res 1
      have f2 := World.ownsRow.frozenAt res 2
      have f3 := World.ownsRow.frozenAt res 3
      have f4 := World.ownsRow.frozenAt res 4
      have f5 := World.ownsRow.frozenAt res 5
      have f6 := World.ownsRow.frozenAt res 6
      have f7 := World.ownsRow.frozenAt res 7
      have HP8 := Lib.hid (Box.put8 res (.int .i64 1) (.int .i64 0) (.int .i64 0) (.int .i64 FF) (.int .i64 0) (.int .i64 0) (.int .i64 0) (.string ⟨#[]⟩))
      go_wp2
      have hp := HP8.out
      have hGf := RC.fin R hp.2
      generalize (((((((w3.setCell ⟨w.heap.size, 0, none⟩ (.int .i64 1)).setCell ⟨w.heap.size, 1, none⟩ (.int .i64 0)).setCell ⟨w.heap.size, 2, none⟩ (.int .i64 0)).setCell ⟨w.heap.size, 3, none⟩ (.int .i64 FF)).setCell ⟨w.heap.size, 4, none⟩ (.int .i64 0)).setCell ⟨w.heap.size, 5, none⟩ (.int .i64 0)).setCell ⟨w.heap.size, 6, none⟩ (.int .i64 0)).setCell ⟨w.heap.size, 7, none⟩ (.string ⟨#[]⟩) = Wf at hp hGf ⊢
      have z0 := hp.1.cell 0 _ rfl
      have z1 := hp.1.cell 1 _ rfl
      have z2 := hp.1.cell 2 _ rfl
      have z3 := hp.1.cell 3 _ rfl
      have z4 := hp.1.cell 4 _ rfl
      have z5 := hp.1.cell 5 _ rfl
      have z6 := hp.1.cell 6 _ rfl
      have z7 := hp.1.cell 7 _ rfl
      refine bodyPost_ret_by (v := .agg #[.int .i64 1, .int .i64 0, .int .i64 0, .int .i64 FF, .int .i64 0, .int .i64 0, .int .i64 0, .string ⟨#[]⟩]) ?_ rfl ⟨by rw [hE.out]; rfl, hGf⟩
      simp [results, go_sem, z0, z1, z2, z3, z4, z5, z6, z7]
    | false =>
      rw [h1] at HQ
      go_wp2_with fail
      refine (HQ.out _ R).mono ?_
      rintro e w3 ⟨rfl, hB3⟩
      replace R := R.go hB3
      clear hB3 HQ
      generalize w3 = w2 at R ⊢
      have HQ := Lib.hid (show ∀ W, RC w g q L W → Calls Tryz.prog 83 #[.string ⟨#[97, 116, 32, 116, 104, 101, 32, 101, 118, 101, 32, 111, 102, 32, 42]⟩, .pointer (some ⟨q, 0, none⟩)] W fun e w' => e = .returned (.bool (mt L pt2)) ∧ Below W.heap.size W w' from fun W h => by
        have h1 := isPat_any ⟨#[97, 116, 32, 116, 104, 101, 32, 101, 118, 101, 32, 111, 102, 32, 42]⟩ q (some ⟨g, 0, none⟩) L.length L W (by decide) hl (Rd.of_own encS_len (by decide) h.row) h.cq h.hq
        rw [ws_pt2] at h1
        exact h1)
      cases h2 : mt L pt2 with
      | true =>
        obtain ⟨y, rfl⟩ := is2 h2
        rw [h2] at HQ
        have hn2 := hn.out
        simp only [List.length_cons, List.length_nil] at hn2
        obtain rfl : n = 4 := by omega
        obtain rfl : y = last := Option.some.inj hlast
        clear h2 hlast hn hn2 hl
        go_wp2_with fail
        refine (HQ.out _ R).mono ?_
        rintro e w3 ⟨rfl, hB3⟩
        replace R := R.go hB3
        clear hB3 HQ
        have hE := Lib.hid (readI_2 rnB y)
        generalize ix feL y = FF at hE
        have res := R.res
        have r0 := Box.cell res 0 _ rfl
        have r1 := Box.cell res 1 _ rfl
        have r2 := Box.cell res 2 _ rfl
        have r3 := Box.cell res 3 _ rfl
        have r4 := Box.cell res 4 _ rfl
        have r5 := Box.cell res 5 _ rfl
        have r6 := Box.cell res 6 _ rfl
        have r7 := Box.cell res 7 _ rfl
        have f0 := World.ownsRow.frozenAt res 0
        have f1 := World.ownsRow.frozenAt res 1
        have f2 := World.ownsRow.frozenAt res 2
        have f3 := World.ownsRow.frozenAt res 3
        have f4 := World.ownsRow.frozenAt res 4
        have f5 := World.ownsRow.frozenAt res 5
        have f6 := World.ownsRow.frozenAt res 6
        have f7 := World.ownsRow.frozenAt res 7
        have HP8 := Lib.hid (Box.put8 res (.int .i64 1) (.int .i64 0) (.int .i64 0) (.int .i64 FF) (.int .i64 1) (.int .i64 0) (.int .i64 0) (.string ⟨#[]⟩))
        go_wp2
        have hp := HP8.out
        have hGf := RC.fin R hp.2
        generalize (((((((w3.setCell ⟨w.heap.size, 0, none⟩ (.int .i64 1)).setCell ⟨w.heap.size, 1, none⟩ (.int .i64 0)).setCell ⟨w.heap.size, 2, none⟩ (.int .i64 0)).setCell ⟨w.heap.size, 3, none⟩ (.int .i64 FF)).setCell ⟨w.heap.size, 4, none⟩ (.int .i64 1)).setCell ⟨w.heap.size, 5, none⟩ (.int .i64 0)).setCell ⟨w.heap.size, 6, none⟩ (.int .i64 0)).setCell ⟨w.heap.size, 7, none⟩ (.string ⟨#[]⟩) = Wf at hp hGf ⊢
        have z0 := hp.1.cell 0 _ rfl
        have z1 := hp.1.cell 1 _ rfl
        have z2 := hp.1.cell 2 _ rfl
        have z3 := hp.1.cell 3 _ rfl
        have z4 := hp.1.cell 4 _ rfl
        have z5 := hp.1.cell 5 _ rfl
        have z6 := hp.1.cell 6 _ rfl
        have z7 := hp.1.cell 7 _ rfl
        refine bodyPost_ret_by (v := .agg #[.int .i64 1, .int .i64 0, .int .i64 0, .int .i64 FF, .int .i64 1, .int .i64 0, .int .i64 0, .string ⟨#[]⟩]) ?_ rfl ⟨by rw [hE.out]; rfl, hGf⟩
        simp [results, go_sem, z0, z1, z2, z3, z4, z5, z6, z7]
      | false =>
        rw [h2] at HQ
        go_wp2_with fail
        refine (HQ.out _ R).mono ?_
        rintro e w3 ⟨rfl, hB3⟩
        replace R := R.go hB3
        clear hB3 HQ
        generalize w3 = w2 at R ⊢
        have HQ := Lib.hid (show ∀ W, RC w g q L W → Calls Tryz.prog 83 #[.string ⟨#[97, 116, 32, 116, 104, 101, 32, 111, 99, 116, 97, 118, 101, 32, 111, 102, 32, 42]⟩, .pointer (some ⟨q, 0, none⟩)] W fun e w' => e = .returned (.bool (mt L pt3)) ∧ Below W.heap.size W w' from fun W h => by
          have h1 := isPat_any ⟨#[97, 116, 32, 116, 104, 101, 32, 111, 99, 116, 97, 118, 101, 32, 111, 102, 32, 42]⟩ q (some ⟨g, 0, none⟩) L.length L W (by decide) hl (Rd.of_own encS_len (by decide) h.row) h.cq h.hq
          rw [ws_pt3] at h1
          exact h1)
        cases h3 : mt L pt3 with
        | true =>
          obtain ⟨y, rfl⟩ := is3 h3
          rw [h3] at HQ
          have hn2 := hn.out
          simp only [List.length_cons, List.length_nil] at hn2
          obtain rfl : n = 4 := by omega
          obtain rfl : y = last := Option.some.inj hlast
          clear h3 hlast hn hn2 hl
          go_wp2_with fail
          refine (HQ.out _ R).mono ?_
          rintro e w3 ⟨rfl, hB3⟩
          replace R := R.go hB3
          clear hB3 HQ
          have hE := Lib.hid (readI_3 rnB y)
          generalize ix feL y = FF at hE
          have res := R.res
          have r0 := Box.cell res 0 _ rfl
          have r1 := Box.cell res 1 _ rfl
          have r2 := Box.cell res 2 _ rfl
          have r3 := Box.cell res 3 _ rfl
          have r4 := Box.cell res 4 _ rfl
          have r5 := Box.cell res 5 _ rfl
          have r6 := Box.cell res 6 _ rfl
          have r7 := Box.cell res 7 _ rfl
          have f0 := World.ownsRow.frozenAt res 0
          have f1 := World.ownsRow.frozenAt res 1
          have f2 := World.ownsRow.frozenAt res 2
          have f3 := World.ownsRow.frozenAt res 3
          have f4 := World.ownsRow.frozenAt res 4
          have f5 := World.ownsRow.frozenAt res 5
          have f6 := World.ownsRow.frozenAt res 6
          have f7 := World.ownsRow.frozenAt res 7
          have HP8 := Lib.hid (Box.put8 res (.int .i64 1) (.int .i64 0) (.int .i64 0) (.int .i64 FF) (.int .i64 2) (.int .i64 0) (.int .i64 0) (.string ⟨#[]⟩))
          go_wp2
          have hp := HP8.out
          have hGf := RC.fin R hp.2
          generalize (((((((w3.setCell ⟨w.heap.size, 0, none⟩ (.int .i64 1)).setCell ⟨w.heap.size, 1, none⟩ (.int .i64 0)).setCell ⟨w.heap.size, 2, none⟩ (.int .i64 0)).setCell ⟨w.heap.size, 3, none⟩ (.int .i64 FF)).setCell ⟨w.heap.size, 4, none⟩ (.int .i64 2)).setCell ⟨w.heap.size, 5, none⟩ (.int .i64 0)).setCell ⟨w.heap.size, 6, none⟩ (.int .i64 0)).setCell ⟨w.heap.size, 7, none⟩ (.string ⟨#[]⟩) = Wf at hp hGf ⊢
          have z0 := hp.1.cell 0 _ rfl
          have z1 := hp.1.cell 1 _ rfl
          have z2 := hp.1.cell 2 _ rfl
          have z3 := hp.1.cell 3 _ rfl
          have z4 := hp.1.cell 4 _ rfl
          have z5 := hp.1.cell 5 _ rfl
          have z6 := hp.1.cell 6 _ rfl
          have z7 := hp.1.cell 7 _ rfl
          refine bodyPost_ret_by (v := .agg #[.int .i64 1, .int .i64 0, .int .i64 0, .int .i64 FF, .int .i64 2, .int .i64 0, .int .i64 0, .string ⟨#[]⟩]) ?_ rfl ⟨by rw [hE.out]; rfl, hGf⟩
          simp [results, go_sem, z0, z1, z2, z3, z4, z5, z6, z7]
        | false =>
          rw [h3] at HQ
          go_wp2_with fail
          refine (HQ.out _ R).mono ?_
          rintro e w3 ⟨rfl, hB3⟩
          replace R := R.go hB3
          clear hB3 HQ
          generalize w3 = w2 at R ⊢
          have HQ := Lib.hid (show ∀ W, RC w g q L W → Calls Tryz.prog 83 #[.string ⟨#[111, 110, 32, 116, 104, 101, 32, 42, 32, 97, 102, 116, 101, 114, 32, 42]⟩, .pointer (some ⟨q, 0, none⟩)] W fun e w' => e = .returned (.bool (mt L pt4)) ∧ Below W.heap.size W w' from fun W h => by
            have h1 := isPat_any ⟨#[111, 110, 32, 116, 104, 101, 32, 42, 32, 97, 102, 116, 101, 114, 32, 42]⟩ q (some ⟨g, 0, none⟩) L.length L W (by decide) hl (Rd.of_own encS_len (by decide) h.row) h.cq h.hq
            rw [ws_pt4] at h1
            exact h1)
          cases h4 : mt L pt4 with
          | true =>
            obtain ⟨x, y, rfl⟩ := is4 h4
            rw [h4] at HQ
            have hn2 := hn.out
            simp only [List.length_cons, List.length_nil] at hn2
            obtain rfl : n = 4 := by omega
            obtain rfl : y = last := Option.some.inj hlast
            clear h4 hlast hn hn2 hl
            go_wp2_with fail
            refine (HQ.out _ R).mono ?_
            rintro e w3 ⟨rfl, hB3⟩
            replace R := R.go hB3
            clear hB3 HQ
            have hE := Lib.hid (readI_4 rnB x y)
            have HI := Lib.hid (fun g c W (h : Rd encS W (some ⟨g, 0, none⟩) wkL) => indexIn_any g c 7 wkL x W rfl (by decide) h)
            generalize ix feL y = FF at hE
            generalize ix wkL x = M at HI hE
            go_upto_region 15 with (fail)
            refine MAny.region (S := fun w' => w'.cell? ⟨q, 0, none⟩ = some (.slice (some ⟨g, 0, none⟩) 5 5) ∧ w'.cell? ⟨g, 2, none⟩ = some (.string x)) (last := 7) (by kernel_rfl) ?_
            replace R := R.drew
            have hHeld : w3.drew.cell? ⟨q, 0, none⟩ = some (.slice (some ⟨g, 0, none⟩) 5 5) ∧ w3.drew.cell? ⟨g, 2, none⟩ = some (.string x) := ⟨R.cq, R.at (i := 2) rfl⟩
            generalize w3.drew = W0 at R hHeld ⊢
            refine MAny.take (i := 0) (v := ?_) rfl (by kernel_rfl) (by kernel_rfl) (by kernel_rfl) (fun _ _ _ h => h) (by kernel_rfl) (Or.inl ⟨by rfl, ?_⟩) (by assumption) ?_
            rotate_left
            · (intro w' hSw; (try dsimp only at hSw); go_simp; try (with_reducible rfl))
            try simp only [Act.put, List.setIfInBounds_toArray]
            refine MAny.take (i := 2) (v := ?_) rfl (by kernel_rfl) (by kernel_rfl) (by kernel_rfl) (fun _ _ _ h => h) (by kernel_rfl) (Or.inl ⟨by rfl, ?_⟩) (by assumption) ?_
            rotate_left
            · (intro w' hSw; (try dsimp only at hSw); go_simp; try (with_reducible rfl))
            try simp only [Act.put]
            refine MAny.take (i := 3) (v := ?_) rfl (by kernel_rfl) (by kernel_rfl) (by kernel_rfl) (fun _ _ _ h => h) (by kernel_rfl) (Or.inl ⟨by rfl, ?_⟩) (by assumption) ?_
            rotate_left
            · (intro w' hSw; (try dsimp only at hSw); go_simp; try (with_reducible rfl))
            try simp only [Act.put]
            refine MAny.take (i := 4) (v := ?_) rfl (by kernel_rfl) (by kernel_rfl) (by kernel_rfl) (fun _ _ _ h => h) (by kernel_rfl) (Or.inl ⟨by rfl, ?_⟩) (by assumption) ?_
            rotate_left
            · (intro w' hSw; (try dsimp only at hSw); go_simp; try (with_reducible rfl))
            try simp only [Act.put]
            refine MAny.ready (rs := [1]) (by kernel_rfl) (by simp) ?_
            refine MReady.cons rfl (fun K hK => ?_) MReady.nil
            go_simp
            go_wp2_with (go_at_call 57; refine (weekdayNames_any _).mono ?_; rintro e w5 ⟨g5, c5, rfl, own5, hB5⟩)
            replace R := R.go hB5
            have hHeld : w5.cell? ⟨q, 0, none⟩ = some (.slice (some ⟨g, 0, none⟩) 5 5) ∧ w5.cell? ⟨g, 2, none⟩ = some (.string x) := ⟨R.cq, R.at (i := 2) rfl⟩
            refine hK.out _ _ (.inr hHeld) ?_
            clear hK K hB5
            refine MAny.ready (rs := [5]) (by kernel_rfl) (by simp) ?_
            refine MReady.cons rfl (fun K hK => ?_) MReady.nil
            go_simp
            go_wp2_with (go_at_call 86; refine (HI.out _ _ _ (Rd.of_own encS_len (by decide) own5)).mono ?_; rintro e w6 ⟨rfl, rfl⟩)
            refine hK.out _ _ (.inr hHeld) ?_
            clear hK K own5
            refine MAny.ready (rs := [6]) (by kernel_rfl) (by simp) ?_
            refine MReady.cons rfl (fun K hK => ?_) MReady.nil
            go_simp
            refine hK.out _ _ (.inr hHeld) ?_
            clear hK K
            have res := R.res
            have r0 := Box.cell res 0 _ rfl
            have r1 := Box.cell res 1 _ rfl
            have r2 := Box.cell res 2 _ rfl
            have r3 := Box.cell res 3 _ rfl
            have r4 := Box.cell res 4 _ rfl
            have r5 := Box.cell res 5 _ rfl
            have r6 := Box.cell res 6 _ rfl
            have r7 := Box.cell res 7 _ rfl
            have f0 := World.ownsRow.frozenAt res 0
            have f1 := World.ownsRow.frozenAt res 1
            have f2 := World.ownsRow.frozenAt res 2
            have f3 := World.ownsRow.frozenAt res 3
            have f4 := World.ownsRow.frozenAt res 4
            have f5 := World.ownsRow.frozenAt res 5
            have f6 := World.ownsRow.frozenAt res 6
            have f7 := World.ownsRow.frozenAt res 7
            have HP8 := Lib.hid (Box.put8 res (.int .i64 1) (.int .i64 0) (.int .i64 0) (.int .i64 FF) (.int .i64 3) (.int .i64 M) (.int .i64 0) (.string ⟨#[]⟩))
            refine MAny.ready (rs := [7]) (by kernel_rfl) (by simp) ?_
            refine MReady.cons rfl (fun K hK => ?_) MReady.nil
            go_simp
            refine hK.out _ _ (.inl rfl) ?_
            clear hK K
            refine MAny.done (by kernel_rfl) ?_ _
            try simp only [List.getElem_toArray, List.getElem_cons_succ, List.getElem_cons_zero]
            go_wp2
            have hp := HP8.out
            have hGf := RC.fin R hp.2
            generalize (((((((w5.setCell ⟨w.heap.size, 0, none⟩ (.int .i64 1)).setCell ⟨w.heap.size, 1, none⟩ (.int .i64 0)).setCell ⟨w.heap.size, 2, none⟩ (.int .i64 0)).setCell ⟨w.heap.size, 3, none⟩ (.int .i64 FF)).setCell ⟨w.heap.size, 4, none⟩ (.int .i64 3)).setCell ⟨w.heap.size, 5, none⟩ (.int .i64 M)).setCell ⟨w.heap.size, 6, none⟩ (.int .i64 0)).setCell ⟨w.heap.size, 7, none⟩ (.string ⟨#[]⟩) = Wf at hp hGf ⊢
            have z0 := hp.1.cell 0 _ rfl
            have z1 := hp.1.cell 1 _ rfl
            have z2 := hp.1.cell 2 _ rfl
            have z3 := hp.1.cell 3 _ rfl
            have z4 := hp.1.cell 4 _ rfl
            have z5 := hp.1.cell 5 _ rfl
            have z6 := hp.1.cell 6 _ rfl
            have z7 := hp.1.cell 7 _ rfl
            refine bodyPost_ret_by (v := .agg #[.int .i64 1, .int .i64 0, .int .i64 0, .int .i64 FF, .int .i64 3, .int .i64 M, .int .i64 0, .string ⟨#[]⟩]) ?_ rfl ⟨by rw [hE.out]; rfl, hGf⟩
            simp [results, go_sem, z0, z1, z2, z3, z4, z5, z6, z7]
          | false =>
            rw [h4] at HQ
            go_wp2_with fail
            refine (HQ.out _ R).mono ?_
            rintro e w3 ⟨rfl, hB3⟩
            replace R := R.go hB3
            clear hB3 HQ
            generalize w3 = w2 at R ⊢
            have HQ := Lib.hid (show ∀ W, RC w g q L W → Calls Tryz.prog 83 #[.string ⟨#[111, 110, 32, 116, 104, 101, 32, 42, 32, 98, 101, 102, 111, 114, 101, 32, 42]⟩, .pointer (some ⟨q, 0, none⟩)] W fun e w' => e = .returned (.bool (mt L pt5)) ∧ Below W.heap.size W w' from fun W h => by
              have h1 := isPat_any ⟨#[111, 110, 32, 116, 104, 101, 32, 42, 32, 98, 101, 102, 111, 114, 101, 32, 42]⟩ q (some ⟨g, 0, none⟩) L.length L W (by decide) hl (Rd.of_own encS_len (by decide) h.row) h.cq h.hq
              rw [ws_pt5] at h1
              exact h1)
            cases h5 : mt L pt5 with
            | true =>
              obtain ⟨x, y, rfl⟩ := is5 h5
              rw [h5] at HQ
              have hn2 := hn.out
              simp only [List.length_cons, List.length_nil] at hn2
              obtain rfl : n = 4 := by omega
              obtain rfl : y = last := Option.some.inj hlast
              clear h5 hlast hn hn2 hl
              go_wp2_with fail
              refine (HQ.out _ R).mono ?_
              rintro e w3 ⟨rfl, hB3⟩
              replace R := R.go hB3
              clear hB3 HQ
              have hE := Lib.hid (readI_5 rnB x y)
              have HI := Lib.hid (fun g c W (h : Rd encS W (some ⟨g, 0, none⟩) wkL) => indexIn_any g c 7 wkL x W rfl (by decide) h)
              generalize ix feL y = FF at hE
              generalize ix wkL x = M at HI hE
              go_upto_region 17 with (fail)
              refine MAny.region (S := fun w' => w'.cell? ⟨q, 0, none⟩ = some (.slice (some ⟨g, 0, none⟩) 5 5) ∧ w'.cell? ⟨g, 2, none⟩ = some (.string x)) (last := 7) (by kernel_rfl) ?_
              replace R := R.drew
              have hHeld : w3.drew.cell? ⟨q, 0, none⟩ = some (.slice (some ⟨g, 0, none⟩) 5 5) ∧ w3.drew.cell? ⟨g, 2, none⟩ = some (.string x) := ⟨R.cq, R.at (i := 2) rfl⟩
              generalize w3.drew = W0 at R hHeld ⊢
              refine MAny.take (i := 0) (v := ?_) rfl (by kernel_rfl) (by kernel_rfl) (by kernel_rfl) (fun _ _ _ h => h) (by kernel_rfl) (Or.inl ⟨by rfl, ?_⟩) (by assumption) ?_
              rotate_left
              · (intro w' hSw; (try dsimp only at hSw); go_simp; try (with_reducible rfl))
              try simp only [Act.put, List.setIfInBounds_toArray]
              refine MAny.take (i := 2) (v := ?_) rfl (by kernel_rfl) (by kernel_rfl) (by kernel_rfl) (fun _ _ _ h => h) (by kernel_rfl) (Or.inl ⟨by rfl, ?_⟩) (by assumption) ?_
              rotate_left
              · (intro w' hSw; (try dsimp only at hSw); go_simp; try (with_reducible rfl))
              try simp only [Act.put]
              refine MAny.take (i := 3) (v := ?_) rfl (by kernel_rfl) (by kernel_rfl) (by kernel_rfl) (fun _ _ _ h => h) (by kernel_rfl) (Or.inl ⟨by rfl, ?_⟩) (by assumption) ?_
              rotate_left
              · (intro w' hSw; (try dsimp only at hSw); go_simp; try (with_reducible rfl))
              try simp only [Act.put]
              refine MAny.take (i := 4) (v := ?_) rfl (by kernel_rfl) (by kernel_rfl) (by kernel_rfl) (fun _ _ _ h => h) (by kernel_rfl) (Or.inl ⟨by rfl, ?_⟩) (by assumption) ?_
              rotate_left
              · (intro w' hSw; (try dsimp only at hSw); go_simp; try (with_reducible rfl))
              try simp only [Act.put]
              refine MAny.ready (rs := [1]) (by kernel_rfl) (by simp) ?_
              refine MReady.cons rfl (fun K hK => ?_) MReady.nil
              go_simp
              go_wp2_with (go_at_call 57; refine (weekdayNames_any _).mono ?_; rintro e w5 ⟨g5, c5, rfl, own5, hB5⟩)
              replace R := R.go hB5
              have hHeld : w5.cell? ⟨q, 0, none⟩ = some (.slice (some ⟨g, 0, none⟩) 5 5) ∧ w5.cell? ⟨g, 2, none⟩ = some (.string x) := ⟨R.cq, R.at (i := 2) rfl⟩
              refine hK.out _ _ (.inr hHeld) ?_
              clear hK K hB5
              refine MAny.ready (rs := [5]) (by kernel_rfl) (by simp) ?_
              refine MReady.cons rfl (fun K hK => ?_) MReady.nil
              go_simp
              go_wp2_with (go_at_call 86; refine (HI.out _ _ _ (Rd.of_own encS_len (by decide) own5)).mono ?_; rintro e w6 ⟨rfl, rfl⟩)
              refine hK.out _ _ (.inr hHeld) ?_
              clear hK K own5
              refine MAny.ready (rs := [6]) (by kernel_rfl) (by simp) ?_
              refine MReady.cons rfl (fun K hK => ?_) MReady.nil
              go_simp
              refine hK.out _ _ (.inr hHeld) ?_
              clear hK K
              have res := R.res
              have r0 := Box.cell res 0 _ rfl
              have r1 := Box.cell res 1 _ rfl
              have r2 := Box.cell res 2 _ rfl
              have r3 := Box.cell res 3 _ rfl
              have r4 := Box.cell res 4 _ rfl
              have r5 := Box.cell res 5 _ rfl
              have r6 := Box.cell res 6 _ rfl
              have r7 := Box.cell res 7 _ rfl
              have f0 := World.ownsRow.frozenAt res 0
              have f1 := World.ownsRow.frozenAt res 1
              have f2 := World.ownsRow.frozenAt res 2
              have f3 := World.ownsRow.frozenAt res 3
              have f4 := World.ownsRow.frozenAt res 4
              have f5 := World.ownsRow.frozenAt res 5
              have f6 := World.ownsRow.frozenAt res 6
              have f7 := World.ownsRow.frozenAt res 7
              have HP8 := Lib.hid (Box.put8 res (.int .i64 1) (.int .i64 0) (.int .i64 0) (.int .i64 FF) (.int .i64 4) (.int .i64 M) (.int .i64 0) (.string ⟨#[]⟩))
              refine MAny.ready (rs := [7]) (by kernel_rfl) (by simp) ?_
              refine MReady.cons rfl (fun K hK => ?_) MReady.nil
              go_simp
              refine hK.out _ _ (.inl rfl) ?_
              clear hK K
              refine MAny.done (by kernel_rfl) ?_ _
              try simp only [List.getElem_toArray, List.getElem_cons_succ, List.getElem_cons_zero]
              go_wp2
              have hp := HP8.out
              have hGf := RC.fin R hp.2
              generalize (((((((w5.setCell ⟨w.heap.size, 0, none⟩ (.int .i64 1)).setCell ⟨w.heap.size, 1, none⟩ (.int .i64 0)).setCell ⟨w.heap.size, 2, none⟩ (.int .i64 0)).setCell ⟨w.heap.size, 3, none⟩ (.int .i64 FF)).setCell ⟨w.heap.size, 4, none⟩ (.int .i64 4)).setCell ⟨w.heap.size, 5, none⟩ (.int .i64 M)).setCell ⟨w.heap.size, 6, none⟩ (.int .i64 0)).setCell ⟨w.heap.size, 7, none⟩ (.string ⟨#[]⟩) = Wf at hp hGf ⊢
              have z0 := hp.1.cell 0 _ rfl
              have z1 := hp.1.cell 1 _ rfl
              have z2 := hp.1.cell 2 _ rfl
              have z3 := hp.1.cell 3 _ rfl
              have z4 := hp.1.cell 4 _ rfl
              have z5 := hp.1.cell 5 _ rfl
              have z6 := hp.1.cell 6 _ rfl
              have z7 := hp.1.cell 7 _ rfl
              refine bodyPost_ret_by (v := .agg #[.int .i64 1, .int .i64 0, .int .i64 0, .int .i64 FF, .int .i64 4, .int .i64 M, .int .i64 0, .string ⟨#[]⟩]) ?_ rfl ⟨by rw [hE.out]; rfl, hGf⟩
              simp [results, go_sem, z0, z1, z2, z3, z4, z5, z6, z7]
            | false =>
              rw [h5] at HQ
              go_wp2_with fail
              refine (HQ.out _ R).mono ?_
              rintro e w3 ⟨rfl, hB3⟩
              replace R := R.go hB3
              clear hB3 HQ
              generalize w3 = w2 at R ⊢
              have HQ := Lib.hid (show ∀ W, RC w g q L W → Calls Tryz.prog 83 #[.string ⟨#[105, 110, 32, 116, 104, 101, 32, 121, 101, 97, 114, 32, 42, 32, 111, 102, 32, 42]⟩, .pointer (some ⟨q, 0, none⟩)] W fun e w' => e = .returned (.bool (mt L pt6)) ∧ Below W.heap.size W w' from fun W h => by
                have h1 := isPat_any ⟨#[105, 110, 32, 116, 104, 101, 32, 121, 101, 97, 114, 32, 42, 32, 111, 102, 32, 42]⟩ q (some ⟨g, 0, none⟩) L.length L W (by decide) hl (Rd.of_own encS_len (by decide) h.row) h.cq h.hq
                rw [ws_pt6] at h1
                exact h1)
              cases h6 : mt L pt6 with
              | true =>
                obtain ⟨x, y, rfl⟩ := is6 h6
                rw [h6] at HQ
                have hn2 := hn.out
                simp only [List.length_cons, List.length_nil] at hn2
                obtain rfl : n = 5 := by omega
                obtain rfl : y = last := Option.some.inj hlast
                clear h6 hlast hn hn2 hl
                go_wp2_with fail
                refine (HQ.out _ R).mono ?_
                rintro e w3 ⟨rfl, hB3⟩
                replace R := R.go hB3
                clear hB3 HQ
                have hx3 : x.size ≤ 1048576 := hsz x (by simp)
                have c0 := R.cq
                have c1 := R.at (i := 3) rfl
                have HO := Lib.hid (implReadNumber_any x hx3 w3 R.num)
                have hE := Lib.hid (readI_6 rnB x y)
                generalize rnB x = N at HO hE
                generalize decide (1 ≤ N) = ok at HO
                go_wp2_with fail
                refine HO.out.mono ?_
                rintro e w4 ⟨rfl, hB4⟩
                replace R := R.go hB4
                clear hB4 c0 c1 HO
                have res := R.res
                have r0 := Box.cell res 0 _ rfl
                have r1 := Box.cell res 1 _ rfl
                have r2 := Box.cell res 2 _ rfl
                have r3 := Box.cell res 3 _ rfl
                have r4 := Box.cell res 4 _ rfl
                have r5 := Box.cell res 5 _ rfl
                have r6 := Box.cell res 6 _ rfl
                have r7 := Box.cell res 7 _ rfl
                have f0 := World.ownsRow.frozenAt res 0
                have f1 := World.ownsRow.frozenAt res 1
                have f2 := World.ownsRow.frozenAt res 2
                have f3 := World.ownsRow.frozenAt res 3
                have f4 := World.ownsRow.frozenAt res 4
                have f5 := World.ownsRow.frozenAt res 5
                have f6 := World.ownsRow.frozenAt res 6
                have f7 := World.ownsRow.frozenAt res 7
                have HP8 := Lib.hid (Box.put8 res (.int .i64 2) (.int .i64 N) (.int .i64 0) (.int .i64 0) (.int .i64 0) (.int .i64 0) (.int .i64 0) (.string y))
                go_wp2
                have hp := HP8.out
                have hGf := RC.fin R hp.2
                generalize (((((((w4.setCell ⟨w.heap.size, 0, none⟩ (.int .i64 2)).setCell ⟨w.heap.size, 1, none⟩ (.int .i64 N)).setCell ⟨w.heap.size, 2, none⟩ (.int .i64 0)).setCell ⟨w.heap.size, 3, none⟩ (.int .i64 0)).setCell ⟨w.heap.size, 4, none⟩ (.int .i64 0)).setCell ⟨w.heap.size, 5, none⟩ (.int .i64 0)).setCell ⟨w.heap.size, 6, none⟩ (.int .i64 0)).setCell ⟨w.heap.size, 7, none⟩ (.string y) = Wf at hp hGf ⊢
                have z0 := hp.1.cell 0 _ rfl
                have z1 := hp.1.cell 1 _ rfl
                have z2 := hp.1.cell 2 _ rfl
                have z3 := hp.1.cell 3 _ rfl
                have z4 := hp.1.cell 4 _ rfl
                have z5 := hp.1.cell 5 _ rfl
                have z6 := hp.1.cell 6 _ rfl
                have z7 := hp.1.cell 7 _ rfl
                refine bodyPost_ret_by (v := .agg #[.int .i64 2, .int .i64 N, .int .i64 0, .int .i64 0, .int .i64 0, .int .i64 0, .int .i64 0, .string y]) ?_ rfl ⟨by rw [hE.out]; rfl, hGf⟩
                simp [results, go_sem, z0, z1, z2, z3, z4, z5, z6, z7]
              | false =>
                rw [h6] at HQ
                go_wp2_with fail
                refine (HQ.out _ R).mono ?_
                rintro e w3 ⟨rfl, hB3⟩
                replace R := R.go hB3
                clear hB3 HQ
                generalize w3 = w2 at R ⊢
                have HQ := Lib.hid (show ∀ W, RC w g q L W → Calls Tryz.prog 83 #[.string ⟨#[105, 110, 32, 116, 104, 101, 32, 121, 101, 97, 114, 32, 42, 32, 98, 121, 32, 42]⟩, .pointer (some ⟨q, 0, none⟩)] W fun e w' => e = .returned (.bool (mt L pt7)) ∧ Below W.heap.size W w' from fun W h => by
                  have h1 := isPat_any ⟨#[105, 110, 32, 116, 104, 101, 32, 121, 101, 97, 114, 32, 42, 32, 98, 121, 32, 42]⟩ q (some ⟨g, 0, none⟩) L.length L W (by decide) hl (Rd.of_own encS_len (by decide) h.row) h.cq h.hq
                  rw [ws_pt7] at h1
                  exact h1)
                cases h7 : mt L pt7 with
                | true =>
                  obtain ⟨x, y, rfl⟩ := is7 h7
                  rw [h7] at HQ
                  have hn2 := hn.out
                  simp only [List.length_cons, List.length_nil] at hn2
                  obtain rfl : n = 5 := by omega
                  obtain rfl : y = last := Option.some.inj hlast
                  clear h7 hlast hn hn2 hl
                  go_wp2_with fail
                  refine (HQ.out _ R).mono ?_
                  rintro e w3 ⟨rfl, hB3⟩
                  replace R := R.go hB3
                  clear hB3 HQ
                  have hx3 : x.size ≤ 1048576 := hsz x (by simp)
                  have c0 := R.cq
                  have c1 := R.at (i := 3) rfl
                  have HO := Lib.hid (implReadNumber_any x hx3 w3 R.num)
                  have hE := Lib.hid (readI_7 rnB x y)
                  have HI := Lib.hid (fun g c W (h : Rd encS W (some ⟨g, 0, none⟩) styL) => indexIn_any g c 7 styL y W rfl (by decide) h)
                  generalize ix styL y = M at HI hE
                  generalize rnB x = N at HO hE
                  generalize decide (1 ≤ N) = ok at HO
                  go_wp2_with fail
                  refine HO.out.mono ?_
                  rintro e w4 ⟨rfl, hB4⟩
                  replace R := R.go hB4
                  clear hB4 c0 c1 HO
                  go_wp2_with fail
                  refine (styleNames_any _).mono ?_
                  rintro e w5 ⟨g5, c5, rfl, own5, hB5⟩
                  replace R := R.go hB5
                  clear hB5
                  go_wp2_with fail
                  refine (HI.out _ _ _ (Rd.of_own encS_len (by decide) own5)).mono ?_
                  rintro e w6 ⟨rfl, rfl⟩
                  clear own5
                  have res := R.res
                  have r0 := Box.cell res 0 _ rfl
                  have r1 := Box.cell res 1 _ rfl
                  have r2 := Box.cell res 2 _ rfl
                  have r3 := Box.cell res 3 _ rfl
                  have r4 := Box.cell res 4 _ rfl
                  have r5 := Box.cell res 5 _ rfl
                  have r6 := Box.cell res 6 _ rfl
                  have r7 := Box.cell res 7 _ rfl
                  have f0 := World.ownsRow.frozenAt res 0
                  have f1 := World.ownsRow.frozenAt res 1
                  have f2 := World.ownsRow.frozenAt res 2
                  have f3 := World.ownsRow.frozenAt res 3
                  have f4 := World.ownsRow.frozenAt res 4
                  have f5 := World.ownsRow.frozenAt res 5
                  have f6 := World.ownsRow.frozenAt res 6
                  have f7 := World.ownsRow.frozenAt res 7
                  have HP8 := Lib.hid (Box.put8 res (.int .i64 3) (.int .i64 N) (.int .i64 0) (.int .i64 0) (.int .i64 0) (.int .i64 0) (.int .i64 M) (.string ⟨#[]⟩))
                  go_wp2
                  have hp := HP8.out
                  have hGf := RC.fin R hp.2
                  generalize (((((((w5.setCell ⟨w.heap.size, 0, none⟩ (.int .i64 3)).setCell ⟨w.heap.size, 1, none⟩ (.int .i64 N)).setCell ⟨w.heap.size, 2, none⟩ (.int .i64 0)).setCell ⟨w.heap.size, 3, none⟩ (.int .i64 0)).setCell ⟨w.heap.size, 4, none⟩ (.int .i64 0)).setCell ⟨w.heap.size, 5, none⟩ (.int .i64 0)).setCell ⟨w.heap.size, 6, none⟩ (.int .i64 M)).setCell ⟨w.heap.size, 7, none⟩ (.string ⟨#[]⟩) = Wf at hp hGf ⊢
                  have z0 := hp.1.cell 0 _ rfl
                  have z1 := hp.1.cell 1 _ rfl
                  have z2 := hp.1.cell 2 _ rfl
                  have z3 := hp.1.cell 3 _ rfl
                  have z4 := hp.1.cell 4 _ rfl
                  have z5 := hp.1.cell 5 _ rfl
                  have z6 := hp.1.cell 6 _ rfl
                  have z7 := hp.1.cell 7 _ rfl
                  refine bodyPost_ret_by (v := .agg #[.int .i64 3, .int .i64 N, .int .i64 0, .int .i64 0, .int .i64 0, .int .i64 0, .int .i64 M, .string ⟨#[]⟩]) ?_ rfl ⟨by rw [hE.out]; rfl, hGf⟩
                  simp [results, go_sem, z0, z1, z2, z3, z4, z5, z6, z7]
                | false =>
                  rw [h7] at HQ
                  go_wp2_with fail
                  refine (HQ.out _ R).mono ?_
                  rintro e w3 ⟨rfl, hB3⟩
                  replace R := R.go hB3
                  clear hB3 HQ
                  generalize w3 = w2 at R ⊢
                  have HQ := Lib.hid (show ∀ W, RC w g q L W → Calls Tryz.prog 83 #[.string ⟨#[105, 110, 32, 116, 104, 101, 32, 105, 110, 100, 105, 99, 116, 105, 111, 110, 32, 42, 32, 98, 121, 32, 42]⟩, .pointer (some ⟨q, 0, none⟩)] W fun e w' => e = .returned (.bool (mt L pt8)) ∧ Below W.heap.size W w' from fun W h => by
                    have h1 := isPat_any ⟨#[105, 110, 32, 116, 104, 101, 32, 105, 110, 100, 105, 99, 116, 105, 111, 110, 32, 42, 32, 98, 121, 32, 42]⟩ q (some ⟨g, 0, none⟩) L.length L W (by decide) hl (Rd.of_own encS_len (by decide) h.row) h.cq h.hq
                    rw [ws_pt8] at h1
                    exact h1)
                  cases h8 : mt L pt8 with
                  | true =>
                    obtain ⟨x, y, rfl⟩ := is8 h8
                    rw [h8] at HQ
                    have hn2 := hn.out
                    simp only [List.length_cons, List.length_nil] at hn2
                    obtain rfl : n = 5 := by omega
                    obtain rfl : y = last := Option.some.inj hlast
                    clear h8 hlast hn hn2 hl
                    go_wp2_with fail
                    refine (HQ.out _ R).mono ?_
                    rintro e w3 ⟨rfl, hB3⟩
                    replace R := R.go hB3
                    clear hB3 HQ
                    have hx3 : x.size ≤ 1048576 := hsz x (by simp)
                    have c0 := R.cq
                    have c1 := R.at (i := 3) rfl
                    have HO := Lib.hid (implReadNumber_any x hx3 w3 R.num)
                    have hE := Lib.hid (readI_8 rnB x y)
                    have HI := Lib.hid (fun g c W (h : Rd encS W (some ⟨g, 0, none⟩) inL) => indexIn_any g c 3 inL y W rfl (by decide) h)
                    generalize ix inL y = M at HI hE
                    generalize rnB x = N at HO hE
                    generalize decide (1 ≤ N) = ok at HO
                    go_wp2_with fail
                    refine HO.out.mono ?_
                    rintro e w4 ⟨rfl, hB4⟩
                    replace R := R.go hB4
                    clear hB4 c0 c1 HO
                    go_wp2_with fail
                    refine (indictionNames_any _).mono ?_
                    rintro e w5 ⟨g5, c5, rfl, own5, hB5⟩
                    replace R := R.go hB5
                    clear hB5
                    go_wp2_with fail
                    refine (HI.out _ _ _ (Rd.of_own encS_len (by decide) own5)).mono ?_
                    rintro e w6 ⟨rfl, rfl⟩
                    clear own5
                    have res := R.res
                    have r0 := Box.cell res 0 _ rfl
                    have r1 := Box.cell res 1 _ rfl
                    have r2 := Box.cell res 2 _ rfl
                    have r3 := Box.cell res 3 _ rfl
                    have r4 := Box.cell res 4 _ rfl
                    have r5 := Box.cell res 5 _ rfl
                    have r6 := Box.cell res 6 _ rfl
                    have r7 := Box.cell res 7 _ rfl
                    have f0 := World.ownsRow.frozenAt res 0
                    have f1 := World.ownsRow.frozenAt res 1
                    have f2 := World.ownsRow.frozenAt res 2
                    have f3 := World.ownsRow.frozenAt res 3
                    have f4 := World.ownsRow.frozenAt res 4
                    have f5 := World.ownsRow.frozenAt res 5
                    have f6 := World.ownsRow.frozenAt res 6
                    have f7 := World.ownsRow.frozenAt res 7
                    have HP8 := Lib.hid (Box.put8 res (.int .i64 4) (.int .i64 N) (.int .i64 0) (.int .i64 0) (.int .i64 0) (.int .i64 0) (.int .i64 M) (.string ⟨#[]⟩))
                    go_wp2
                    have hp := HP8.out
                    have hGf := RC.fin R hp.2
                    generalize (((((((w5.setCell ⟨w.heap.size, 0, none⟩ (.int .i64 4)).setCell ⟨w.heap.size, 1, none⟩ (.int .i64 N)).setCell ⟨w.heap.size, 2, none⟩ (.int .i64 0)).setCell ⟨w.heap.size, 3, none⟩ (.int .i64 0)).setCell ⟨w.heap.size, 4, none⟩ (.int .i64 0)).setCell ⟨w.heap.size, 5, none⟩ (.int .i64 0)).setCell ⟨w.heap.size, 6, none⟩ (.int .i64 M)).setCell ⟨w.heap.size, 7, none⟩ (.string ⟨#[]⟩) = Wf at hp hGf ⊢
                    have z0 := hp.1.cell 0 _ rfl
                    have z1 := hp.1.cell 1 _ rfl
                    have z2 := hp.1.cell 2 _ rfl
                    have z3 := hp.1.cell 3 _ rfl
                    have z4 := hp.1.cell 4 _ rfl
                    have z5 := hp.1.cell 5 _ rfl
                    have z6 := hp.1.cell 6 _ rfl
                    have z7 := hp.1.cell 7 _ rfl
                    refine bodyPost_ret_by (v := .agg #[.int .i64 4, .int .i64 N, .int .i64 0, .int .i64 0, .int .i64 0, .int .i64 0, .int .i64 M, .string ⟨#[]⟩]) ?_ rfl ⟨by rw [hE.out]; rfl, hGf⟩
                    simp [results, go_sem, z0, z1, z2, z3, z4, z5, z6, z7]
                  | false =>
                    rw [h8] at HQ
                    go_wp2_with fail
                    refine (HQ.out _ R).mono ?_
                    rintro e w3 ⟨rfl, hB3⟩
                    replace R := R.go hB3
                    clear hB3 HQ
                    generalize w3 = w2 at R ⊢
                    have HQ := Lib.hid (show ∀ W, RC w g q L W → Calls Tryz.prog 83 #[.string ⟨#[111, 110, 32, 97, 32, 42]⟩, .pointer (some ⟨q, 0, none⟩)] W fun e w' => e = .returned (.bool (mt L pt9)) ∧ Below W.heap.size W w' from fun W h => by
                      have h1 := isPat_any ⟨#[111, 110, 32, 97, 32, 42]⟩ q (some ⟨g, 0, none⟩) L.length L W (by decide) hl (Rd.of_own encS_len (by decide) h.row) h.cq h.hq
                      rw [ws_pt9] at h1
                      exact h1)
                    cases h9 : mt L pt9 with
                    | true =>
                      obtain ⟨y, rfl⟩ := is9 h9
                      rw [h9] at HQ
                      have hn2 := hn.out
                      simp only [List.length_cons, List.length_nil] at hn2
                      obtain rfl : n = 2 := by omega
                      obtain rfl : y = last := Option.some.inj hlast
                      clear h9 hlast hn hn2 hl
                      go_wp2_with fail
                      refine (HQ.out _ R).mono ?_
                      rintro e w3 ⟨rfl, hB3⟩
                      replace R := R.go hB3
                      clear hB3 HQ
                      have hE := Lib.hid (readI_9 rnB y)
                      have HI := Lib.hid (fun g c W (h : Rd encS W (some ⟨g, 0, none⟩) wkL) => indexIn_any g c 7 wkL y W rfl (by decide) h)
                      generalize ix wkL y = M at HI hE
                      go_wp2_with fail
                      refine (weekdayNames_any _).mono ?_
                      rintro e w5 ⟨g5, c5, rfl, own5, hB5⟩
                      replace R := R.go hB5
                      clear hB5
                      go_wp2_with fail
                      refine (HI.out _ _ _ (Rd.of_own encS_len (by decide) own5)).mono ?_
                      rintro e w6 ⟨rfl, rfl⟩
                      clear own5
                      have res := R.res
                      have r0 := Box.cell res 0 _ rfl
                      have r1 := Box.cell res 1 _ rfl
                      have r2 := Box.cell res 2 _ rfl
                      have r3 := Box.cell res 3 _ rfl
                      have r4 := Box.cell res 4 _ rfl
                      have r5 := Box.cell res 5 _ rfl
                      have r6 := Box.cell res 6 _ rfl
                      have r7 := Box.cell res 7 _ rfl
                      have f0 := World.ownsRow.frozenAt res 0
                      have f1 := World.ownsRow.frozenAt res 1
                      have f2 := World.ownsRow.frozenAt res 2
                      have f3 := World.ownsRow.frozenAt res 3
                      have f4 := World.ownsRow.frozenAt res 4
                      have f5 := World.ownsRow.frozenAt res 5
                      have f6 := World.ownsRow.frozenAt res 6
                      have f7 := World.ownsRow.frozenAt res 7
                      have HP8 := Lib.hid (Box.put8 res (.int .i64 5) (.int .i64 0) (.int .i64 0) (.int .i64 0) (.int .i64 0) (.int .i64 M) (.int .i64 0) (.string ⟨#[]⟩))
                      go_wp2
                      have hp := HP8.out
                      have hGf := RC.fin R hp.2
                      generalize (((((((w5.setCell ⟨w.heap.size, 0, none⟩ (.int .i64 5)).setCell ⟨w.heap.size, 1, none⟩ (.int .i64 0)).setCell ⟨w.heap.size, 2, none⟩ (.int .i64 0)).setCell ⟨w.heap.size, 3, none⟩ (.int .i64 0)).setCell ⟨w.heap.size, 4, none⟩ (.int .i64 0)).setCell ⟨w.heap.size, 5, none⟩ (.int .i64 M)).setCell ⟨w.heap.size, 6, none⟩ (.int .i64 0)).setCell ⟨w.heap.size, 7, none⟩ (.string ⟨#[]⟩) = Wf at hp hGf ⊢
                      have z0 := hp.1.cell 0 _ rfl
                      have z1 := hp.1.cell 1 _ rfl
                      have z2 := hp.1.cell 2 _ rfl
                      have z3 := hp.1.cell 3 _ rfl
                      have z4 := hp.1.cell 4 _ rfl
                      have z5 := hp.1.cell 5 _ rfl
                      have z6 := hp.1.cell 6 _ rfl
                      have z7 := hp.1.cell 7 _ rfl
                      refine bodyPost_ret_by (v := .agg #[.int .i64 5, .int .i64 0, .int .i64 0, .int .i64 0, .int .i64 0, .int .i64 M, .int .i64 0, .string ⟨#[]⟩]) ?_ rfl ⟨by rw [hE.out]; rfl, hGf⟩
                      simp [results, go_sem, z0, z1, z2, z3, z4, z5, z6, z7]
                    | false =>
                      rw [h9] at HQ
                      go_wp2_with fail
                      refine (HQ.out _ R).mono ?_
                      rintro e w3 ⟨rfl, hB3⟩
                      replace R := R.go hB3
                      clear hB3 HQ
                      clear hn hlast hl hsz
                      have hE := Lib.hid (readI_no rnB h0 h1 h2 h3 h4 h5 h6 h7 h8 h9)
                      have res := R.res
                      have r0 := Box.cell res 0 _ rfl
                      have r1 := Box.cell res 1 _ rfl
                      have r2 := Box.cell res 2 _ rfl
                      have r3 := Box.cell res 3 _ rfl
                      have r4 := Box.cell res 4 _ rfl
                      have r5 := Box.cell res 5 _ rfl
                      have r6 := Box.cell res 6 _ rfl
                      have r7 := Box.cell res 7 _ rfl
                      have f0 := World.ownsRow.frozenAt res 0
                      have f1 := World.ownsRow.frozenAt res 1
                      have f2 := World.ownsRow.frozenAt res 2
                      have f3 := World.ownsRow.frozenAt res 3
                      have f4 := World.ownsRow.frozenAt res 4
                      have f5 := World.ownsRow.frozenAt res 5
                      have f6 := World.ownsRow.frozenAt res 6
                      have f7 := World.ownsRow.frozenAt res 7
                      have HP8 := Lib.hid (Box.put8 res (.int .i64 (-1)) (.int .i64 0) (.int .i64 0) (.int .i64 0) (.int .i64 0) (.int .i64 0) (.int .i64 0) (.string ⟨#[]⟩))
                      go_wp2
                      have hp := HP8.out
                      have hGf := RC.fin R hp.2
                      generalize (((((((w3.setCell ⟨w.heap.size, 0, none⟩ (.int .i64 (-1))).setCell ⟨w.heap.size, 1, none⟩ (.int .i64 0)).setCell ⟨w.heap.size, 2, none⟩ (.int .i64 0)).setCell ⟨w.heap.size, 3, none⟩ (.int .i64 0)).setCell ⟨w.heap.size, 4, none⟩ (.int .i64 0)).setCell ⟨w.heap.size, 5, none⟩ (.int .i64 0)).setCell ⟨w.heap.size, 6, none⟩ (.int .i64 0)).setCell ⟨w.heap.size, 7, none⟩ (.string ⟨#[]⟩) = Wf at hp hGf ⊢
                      have z0 := hp.1.cell 0 _ rfl
                      have z1 := hp.1.cell 1 _ rfl
                      have z2 := hp.1.cell 2 _ rfl
                      have z3 := hp.1.cell 3 _ rfl
                      have z4 := hp.1.cell 4 _ rfl
                      have z5 := hp.1.cell 5 _ rfl
                      have z6 := hp.1.cell 6 _ rfl
                      have z7 := hp.1.cell 7 _ rfl
                      refine bodyPost_ret_by (v := .agg #[.int .i64 (-1), .int .i64 0, .int .i64 0, .int .i64 0, .int .i64 0, .int .i64 0, .int .i64 0, .string ⟨#[]⟩]) ?_ rfl ⟨by rw [hE.out]; rfl, hGf⟩
                      simp [results, go_sem, z0, z1, z2, z3, z4, z5, z6, z7]
end Go.Proofs.YteajkofgcmfaoaaGreatDoor
