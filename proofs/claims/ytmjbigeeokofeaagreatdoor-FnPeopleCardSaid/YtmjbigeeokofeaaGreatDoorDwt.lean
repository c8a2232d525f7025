/- Walks: witnesses are drawn. Printed by gen_dwt.py. -/
import Derived.Test.YtmjbigeeokofeaaGreatDoorDrp
import Derived.Test.YtmjbigeeokofeaaGreatDoorTWt
import Derived.Laws.OwnMore
namespace Go.Proofs.YtmjbigeeokofeaaGreatDoor
open Go.ChangeShapes Go.WideShapes Go.ChangeAt Go.RowKit Go.IntWalk

theorem boxPut4 {B : Nat} {w : World} {T : TypeId} {g : Nat} {x y z u : Value} (h : Box B w T g [x, y, z, u]) (a b c d : Value) :
    Box B ((((w.setCell ⟨g, 0, none⟩ a).setCell ⟨g, 1, none⟩ b).setCell ⟨g, 2, none⟩ c).setCell ⟨g, 3, none⟩ d) T g [a, b, c, d] ∧ w.grownBy ((((w.setCell ⟨g, 0, none⟩ a).setCell ⟨g, 1, none⟩ b).setCell ⟨g, 2, none⟩ c).setCell ⟨g, 3, none⟩ d) (some g) := by
  have h1 := Box.put (i := 0) (pre := []) (post := [y, z, u]) h rfl a
  have h2 := Box.put (i := 1) (pre := [a]) (post := [z, u]) h1.1 rfl b
  have h3 := Box.put (i := 2) (pre := [a, b]) (post := [u]) h2.1 rfl c
  have h4 := Box.put (i := 3) (pre := [a, b, c]) (post := []) h3.1 rfl d
  exact ⟨h4.1, gT (gT h1.2 h2.2) (gT h3.2 h4.2)⟩
/-- What a draw reads of drawn people, now and later. -/
def PplK (B p : Nat) (w : World) (g g2 c c2 : Nat) (ps : List Ps) (ts : List Tm) : Prop := PplD B w g g2 c c2 ps ts ∧ p < B
theorem PplK.call {B p : Nat} {w w' : World} {g g2 c c2 : Nat} {ps : List Ps} {ts : List Tm} (h : PplK B p w g g2 c c2 ps ts) (hG : w.grownBy w' (some p)) : PplK B p w' g g2 c c2 ps ts := ⟨h.1.grown hG h.2, h.2⟩
theorem PplK.below {B p : Nat} {w w' : World} {g g2 c c2 : Nat} {ps : List Ps} {ts : List Tm} (h : PplK B p w g g2 c c2 ps ts) (hB : Below w.heap.size w w') : PplK B p w' g g2 c c2 ps ts := ⟨h.1.below hB, h.2⟩
theorem PplK.ps {B p : Nat} {w : World} {g g2 c c2 : Nat} {ps : List Ps} {ts : List Tm} (h : PplK B p w g g2 c c2 ps ts) (i : Nat) (m : Ps) (hm : ps[i]? = some m) : w.cell? ⟨g, i * 3, none⟩ = some (.string m.name) := (psCells h.1.2.2.2.2.1 i m hm).1
theorem PplK.ts {B p : Nat} {w : World} {g g2 c c2 : Nat} {ps : List Ps} {ts : List Tm} (h : PplK B p w g g2 c c2 ps ts) (i : Nat) (m : Tm) (hm : ts[i]? = some m) :
    w.cell? ⟨g2, i * 4, none⟩ = some (.string m.office) ∧ w.cell? ⟨g2, i * 4 + 1, none⟩ = some (.string m.person) ∧ w.cell? ⟨g2, i * 4 + 2, none⟩ = some (.int .i64 m.fr) ∧ w.cell? ⟨g2, i * 4 + 3, none⟩ = some (.int .i64 m.to) :=
  ⟨own_at encTm_len h.1.2.2.2.2.2 (i := i) hm (j := 0) rfl, own_at encTm_len h.1.2.2.2.2.2 (i := i) hm (j := 1) rfl, own_at encTm_len h.1.2.2.2.2.2 (i := i) hm (j := 2) rfl, own_at encTm_len h.1.2.2.2.2.2 (i := i) hm (j := 3) rfl⟩
theorem PplK.store {B p : Nat} {w w' : World} {x : Nat} {g g2 c c2 : Nat} {ps : List Ps} {ts : List Tm} (h : PplK B p w g g2 c c2 ps ts) (hG : w.grownBy w' (some x)) (h1 : x ≠ g) (h2 : x ≠ g2) : PplK B p w' g g2 c c2 ps ts :=
  ⟨h.1.keep hG (fun e => h1 (by injection e)) (fun e => h2 (by injection e)), h.2⟩

set_option maxRecDepth 100000 in
set_option maxHeartbeats 4000000 in
theorem l13DrawName_any (w0 : World) (cs : Option Addr) (cap : Nat) (bs : List Int) (p : Nat) (B : Nat) (g g2 c c2 : Nat) (ps : List Ps) (ts : List Tm) (w : World) (hx : Rd encB w0 cs bs) (hb : ∀ m ∈ bs, goodB m) (hl : bs.length ≤ 4096) (hs : Src w0 cs cap bs p w) (hK : PplK B p w g g2 c c2 ps ts) :
    Calls Tryz.prog 92 #[.pointer (some ⟨p, 0, none⟩), .agg #[.slice (some ⟨g, 0, none⟩) ps.length c, .slice (some ⟨g2, 0, none⟩) ts.length c2]] w fun e w' => ∃ k : ByteArray, e = .returned (.string k) ∧ k.size ≤ 13 ∧ Src w0 cs cap bs p w' ∧ w.grownBy w' (some p) := by
  have D := Drw.start hs
  have K0 := hK
  have loc := Box.new w 48 [.slice (some ⟨g, 0, none⟩) ps.length c, .slice (some ⟨g2, 0, none⟩) ts.length c2] w.heap.size (Nat.le_refl _) (by simp)
  have hBA := belowA w (.cells #[.slice (some ⟨g, 0, none⟩) ps.length c, .slice (some ⟨g2, 0, none⟩) ts.length c2] 48)
  have K0 := K0.below hBA
  have D := D.below hBA
  clear hBA
  have HN := Lib.hid (fun n W hn1 hn2 hs => l01Next_any w0 cs cap bs p n W hx hb hl hn1 hn2 hs)
  clear hs hK
  go_enter Tryz.func92, Tryz.ntmps92
  go_upto_region 1 with (fail)
  change Code.wp _ _ _ _ (w.alloc (.cells #[.slice (some ⟨g, 0, none⟩) ps.length c, .slice (some ⟨g2, 0, none⟩) ts.length c2] 48))
  generalize w.alloc (.cells #[.slice (some ⟨g, 0, none⟩) ps.length c, .slice (some ⟨g2, 0, none⟩) ts.length c2] 48) = w1 at loc K0 D ⊢
  have hpl := K0.1.1
  by_cases hp0 : ps = []
  · subst hp0
    have m0 := Box.cell loc 0 _ rfl
    go_wp2
    go_ret
    exact ⟨_, rfl, by decide, D.src, D.gr⟩
  · have hp1 : 0 < ps.length := List.length_pos_iff.2 hp0
    have hp2 : (ps.length == 0) = false := by simpa using hp0
    have hp3 : (((ps.length : Nat) : Int) == 0) = false := by simp; omega
    have m0 := Box.cell loc 0 _ rfl
    go_wp2_with fail
    refine (HN.out 30 _ (by decide) (by decide) D.src).mono ?_
    rintro e w2 ⟨r, rfl, hr0, hr1, hs, hG⟩
    have loc := Box.keepA loc hG D.hp
    have K0 := K0.call hG
    have D := D.call hs hG
    clear hs hG
    by_cases h0 : r = 0
    · subst h0
      go_wp2
      go_ret
      exact ⟨_, rfl, by decide, D.src, D.gr⟩
    · have h0' : (r == 0) = false := by simpa using h0
      go_upto_region 3 with (fail)
      clear m0
      refine MAny.region (S := fun w' => w'.cell? ⟨w.heap.size, 0, none⟩ = some (.slice (some ⟨g, 0, none⟩) ps.length c) ∧ ∀ i m, ps[i]? = some m → w'.cell? ⟨g, i * 3, none⟩ = some (.string m.name)) (last := 10) (by kernel_rfl) ?_
      have loc := Box.below loc (Below.refl _ w2).drew
      have K0 := K0.below (Below.refl _ w2).drew
      have D := D.below (Below.refl _ w2).drew
      generalize w2.drew = W0 at loc K0 D ⊢
      have hHeld := And.intro (Box.cell loc 0 _ rfl) K0.ps
      refine MAny.take (i := 0) (v := ?_) rfl (by kernel_rfl) (by kernel_rfl) (by kernel_rfl) (fun _ _ _ h => h) (by kernel_rfl) (Or.inl ⟨by rfl, ?_⟩) (by assumption) ?_
      rotate_left
      · (intro w' hSw; (try dsimp only at hSw); go_simp; try (with_reducible rfl))
      try simp only [Act.put, List.setIfInBounds_toArray]
      refine MAny.take (i := 1) (v := ?_) rfl (by kernel_rfl) (by kernel_rfl) (by kernel_rfl) (fun _ _ _ h => h) (by kernel_rfl) (Or.inl ⟨by rfl, ?_⟩) (by assumption) ?_
      rotate_left
      · (intro w' hSw; (try dsimp only at hSw); go_simp; try (with_reducible rfl))
      try simp only [Act.put]
      refine MAny.take (i := 2) (v := ?_) rfl (by kernel_rfl) (by kernel_rfl) (by kernel_rfl) (fun _ _ _ h => h) (by kernel_rfl) (Or.inl ⟨by rfl, ?_⟩) (by assumption) ?_
      rotate_left
      · (intro w' hSw; (try dsimp only at hSw); go_simp; try (with_reducible rfl))
      try simp only [Act.put]
      refine MAny.take (i := 3) (v := ?_) rfl (by kernel_rfl) (by kernel_rfl) (by kernel_rfl) (fun _ _ _ h => h) (by kernel_rfl) (Or.inl ⟨by rfl, ?_⟩) (by assumption) ?_
      rotate_left
      · (intro w' hSw; (try dsimp only at hSw); go_simp; try (with_reducible rfl))
      try simp only [Act.put]
      refine MAny.take (i := 4) (v := ?_) rfl (by kernel_rfl) (by kernel_rfl) (by kernel_rfl) (fun _ _ _ h => h) (by kernel_rfl) (Or.inl ⟨by rfl, ?_⟩) (by assumption) ?_
      rotate_left
      · (intro w' hSw; (try dsimp only at hSw); go_simp; try (with_reducible rfl))
      try simp only [Act.put]
      refine MAny.take (i := 5) (v := ?_) rfl (by kernel_rfl) (by kernel_rfl) (by kernel_rfl) (fun _ _ _ h => h) (by kernel_rfl) (Or.inl ⟨by rfl, ?_⟩) (by assumption) ?_
      rotate_left
      · (intro w' hSw; (try dsimp only at hSw); go_simp; try (with_reducible rfl))
      try simp only [Act.put]
      refine MAny.ready (rs := [6]) (by kernel_rfl) (by simp) ?_
      refine MReady.cons rfl (fun K hK => ?_) MReady.nil
      go_simp
      go_wp2_with (go_at_call 62; refine (HN.out ps.length W0 (by omega) (by omega) D.src).mono ?_; rintro e W1 ⟨q, rfl, hq0, hq1, hs, hG⟩)
      have loc := Box.keepA loc hG D.hp
      have K0 := K0.call hG
      have D := D.call hs hG
      clear hs hG
      obtain ⟨j, rfl⟩ : ∃ j : Nat, q = j := ⟨q.toNat, by omega⟩
      have hj : j < ps.length := by omega
      have hj1 : (j : Int) < (ps.length : Int) := by omega
      obtain ⟨m, hm⟩ : ∃ m, ps[j]? = some m := ⟨_, List.getElem?_eq_getElem hj⟩
      have hmo := K0.1.2.2.1 m (List.mem_of_getElem? hm)
      clear hq0 hq1
      have hHeld := And.intro (Box.cell loc 0 _ rfl) K0.ps
      refine hK.out _ _ (.inr hHeld) ?_
      clear hK K
      refine MAny.take (i := 7) (v := ?_) rfl (by kernel_rfl) (by kernel_rfl) (by kernel_rfl) (fun _ _ _ h => h) (by kernel_rfl) (Or.inl ⟨by rfl, ?_⟩) (by assumption) ?_
      rotate_left
      · (intro w' hSw; (try dsimp only at hSw); go_simp; try (with_reducible rfl))
      try simp only [Act.put, List.setIfInBounds_toArray]
      refine MAny.take (i := 8) (v := ?_) rfl (by kernel_rfl) (by kernel_rfl) (by kernel_rfl) (fun _ _ _ h => h) (by kernel_rfl) (Or.inl ⟨by rfl, ?_⟩) (by assumption) ?_
      rotate_left
      · (intro w' hSw; (try dsimp only at hSw); go_simp; try (with_reducible rfl))
      try simp only [Act.put]
      refine MAny.take (i := 9) (v := ?_) rfl (by kernel_rfl) (by kernel_rfl) (by kernel_rfl) (fun _ _ _ h => h) (by kernel_rfl) (Or.inl ⟨by rfl, ?_⟩) (by assumption) ?_
      rotate_left
      · (intro w' hSw; (try dsimp only at hSw); have e0 := hSw.2 j m hm; clear hSw; go_simp; try (with_reducible rfl))
      try simp only [Act.put]
      refine MAny.ready (rs := [10]) (by kernel_rfl) (by simp) ?_
      refine MReady.cons rfl (fun K hK => ?_) MReady.nil
      go_simp
      refine hK.out _ _ (.inl rfl) ?_
      clear hK K
      refine MAny.done (by kernel_rfl) ?_ _
      try simp only [List.getElem_toArray, List.getElem_cons_succ, List.getElem_cons_zero]
      go_wp2
      go_ret
      exact ⟨_, rfl, hmo.1, D.src, D.gr⟩
theorem madeWt (N : Nat) : (madeCells (Value.agg #[.string ⟨#[]⟩, .string ⟨#[]⟩]).cells (N * 2)).toList = (List.replicate N (⟨⟨#[]⟩, ⟨#[]⟩⟩ : Wt)).flatMap encWt := by
  have h1 : (madeCells (Value.agg #[.string ⟨#[]⟩, .string ⟨#[]⟩]).cells (N * 2)).toList = List.replicate (N * 2) (Value.string ⟨#[]⟩) := by
    rw [List.eq_replicate_iff]
    refine ⟨by rw [Array.length_toList, size_madeCells], fun b hb => ?_⟩
    unfold madeCells at hb
    simp only [Array.toList_map, Array.toList_range, List.mem_map, List.mem_range] at hb
    obtain ⟨i, _, rfl⟩ := hb
    have : i % 2 = 0 ∨ i % 2 = 1 := by omega
    rcases this with h | h <;> simp [Value.cells, h]
  rw [h1]
  clear h1
  induction N with
  | zero => rfl
  | succ N ih =>
    rw [Nat.add_mul, Nat.add_comm (N * 2), ← List.replicate_append_replicate, ih, List.replicate_succ (n := N), List.flatMap_cons]
    rfl
theorem cut_at {α : Type} {xs : List α} {k : Nat} (h : k < xs.length) : ∃ pre x post, xs = pre ++ x :: post ∧ pre.length = k := by
  refine ⟨xs.take k, xs[k], xs.drop (k + 1), ?_, by simp; omega⟩
  rw [← List.drop_eq_getElem_cons, List.take_append_drop]
def okWd (m : Wt) : Prop := m.person.size ≤ 13 ∧ m.office.size ≤ 13








































































































































































































































































































































































































































































































































































































































































































end Go.Proofs.YtmjbigeeokofeaaGreatDoor
