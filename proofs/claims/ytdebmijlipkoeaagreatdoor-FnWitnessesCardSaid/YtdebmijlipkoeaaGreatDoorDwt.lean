/- Walks: witnesses are drawn. Printed by gen_dwt.py. -/
import Derived.Test.YtdebmijlipkoeaaGreatDoorDrp
import Derived.Test.YtdebmijlipkoeaaGreatDoorTWt
import Derived.Laws.OwnMore
namespace Go.Proofs.YtdebmijlipkoeaaGreatDoor
open Go.ChangeShapes Go.WideShapes Go.ChangeAt Go.RowKit Go.IntWalk

theorem boxPut4 {B : Nat} {w : World} {T : TypeId} {g : Nat} {x y z u : Value} (h : Box B w T g [x, y, z, u]) (a b c d : Value) :
    Box B ((((w.setCell ⟨g, 0, none⟩ a).setCell ⟨g, 1, none⟩ b).setCell ⟨g, 2, none⟩ c).setCell ⟨g, 3, none⟩ d) T g [a, b, c, d] ∧ w.grownBy ((((w.setCell ⟨g, 0, none⟩ a).setCell ⟨g, 1, none⟩ b).setCell ⟨g, 2, none⟩ c).setCell ⟨g, 3, none⟩ d) (some g) := by
  have h1 := Box.put (i := 0) (pre := []) (post := [y, z, u]) h rfl a
  have h2 := Box.put (i := 1) (pre := [a]) (post := [z, u]) h1.1 rfl b
  have h3 := Box.put (i := 2) (pre := [a, b]) (post := [u]) h2.1 rfl c
  have h4 := Box.put (i := 3) (pre := [a, b, c]) (post := []) h3.1 rfl d
  exact ⟨h4.1, gT (gT h1.2 h2.2) (gT h3.2 h4.2)⟩
/-- What a draw reads of drawn people, now and later. -/
def PplK (B p : Nat) (w : World) (g g2 c c2 : Nat) (ps : List Ps) (ts : List Tm) : Prop := PplD B w g g2 c c2 ps ts ∧ p < B
theorem PplK.call {B p : Nat} {w w' : World} {g g2 c c2 : Nat} {ps : List Ps} {ts : List Tm} (h : PplK B p w g g2 c c2 ps ts) (hG : w.grownBy w' (some p)) : PplK B p w' g g2 c c2 ps ts := ⟨h.1.grown hG h.2, h.2⟩
theorem PplK.below {B p : Nat} {w w' : World} {g g2 c c2 : Nat} {ps : List Ps} {ts : List Tm} (h : PplK B p w g g2 c c2 ps ts) (hB : Below w.heap.size w w') : PplK B p w' g g2 c c2 ps ts := ⟨h.1.below hB, h.2⟩
theorem PplK.ps {B p : Nat} {w : World} {g g2 c c2 : Nat} {ps : List Ps} {ts : List Tm} (h : PplK B p w g g2 c c2 ps ts) (i : Nat) (m : Ps) (hm : ps[i]? = some m) : w.cell? ⟨g, i * 3, none⟩ = some (.string m.name) := (psCells h.1.2.2.2.2.1 i m hm).1
theorem PplK.ts {B p : Nat} {w : World} {g g2 c c2 : Nat} {ps : List Ps} {ts : List Tm} (h : PplK B p w g g2 c c2 ps ts) (i : Nat) (m : Tm) (hm : ts[i]? = some m) :
    w.cell? ⟨g2, i * 4, none⟩ = some (.string m.office) ∧ w.cell? ⟨g2, i * 4 + 1, none⟩ = some (.string m.person) ∧ w.cell? ⟨g2, i * 4 + 2, none⟩ = some (.int .i64 m.fr) ∧ w.cell? ⟨g2, i * 4 + 3, none⟩ = some (.int .i64 m.to) :=
  ⟨own_at encTm_len h.1.2.2.2.2.2 (i := i) hm (j := 0) rfl, own_at encTm_len h.1.2.2.2.2.2 (i := i) hm (j := 1) rfl, own_at encTm_len h.1.2.2.2.2.2 (i := i) hm (j := 2) rfl, own_at encTm_len h.1.2.2.2.2.2 (i := i) hm (j := 3) rfl⟩
theorem PplK.store {B p : Nat} {w w' : World} {x : Nat} {g g2 c c2 : Nat} {ps : List Ps} {ts : List Tm} (h : PplK B p w g g2 c c2 ps ts) (hG : w.grownBy w' (some x)) (h1 : x ≠ g) (h2 : x ≠ g2) : PplK B p w' g g2 c c2 ps ts :=
  ⟨h.1.keep hG (fun e => h1 (by injection e)) (fun e => h2 (by injection e)), h.2⟩

set_option maxRecDepth 100000 in
set_option maxHeartbeats 4000000 in
theorem l13DrawName_any (w0 : World) (cs : Option Addr) (cap : Nat) (bs : List Int) (p : Nat) (B : Nat) (g g2 c c2 : Nat) (ps : List Ps) (ts : List Tm) (w : World) (hx : Rd encB w0 cs bs) (hb : ∀ m ∈ bs, goodB m) (hl : bs.length ≤ 4096) (hs : Src w0 cs cap bs p w) (hK : PplK B p w g g2 c c2 ps ts) :
    Calls Tryz.prog 108 #[.pointer (some ⟨p, 0, none⟩), .agg #[.slice (some ⟨g, 0, none⟩) ps.length c, .slice (some ⟨g2, 0, none⟩) ts.length c2]] w fun e w' => ∃ k : ByteArray, e = .returned (.string k) ∧ k.size ≤ 13 ∧ Src w0 cs cap bs p w' ∧ w.grownBy w' (some p) := by
  have D := Drw.start hs
  have K0 := hK
  have loc := Box.new w 48 [.slice (some ⟨g, 0, none⟩) ps.length c, .slice (some ⟨g2, 0, none⟩) ts.length c2] w.heap.size (Nat.le_refl _) (by simp)
  have hBA := belowA w (.cells #[.slice (some ⟨g, 0, none⟩) ps.length c, .slice (some ⟨g2, 0, none⟩) ts.length c2] 48)
  have K0 := K0.below hBA
  have D := D.below hBA
  clear hBA
  have HN := Lib.hid (fun n W hn1 hn2 hs => l01Next_any w0 cs cap bs p n W hx hb hl hn1 hn2 hs)
  clear hs hK
  go_enter Tryz.func108, Tryz.ntmps108
  go_upto_region 1 with (fail)
  change Code.wp _ _ _ _ (w.alloc (.cells #[.slice (some ⟨g, 0, none⟩) ps.length c, .slice (some ⟨g2, 0, none⟩) ts.length c2] 48))
  generalize w.alloc (.cells #[.slice (some ⟨g, 0, none⟩) ps.length c, .slice (some ⟨g2, 0, none⟩) ts.length c2] 48) = w1 at loc K0 D ⊢
  have hpl := K0.1.1
  by_cases hp0 : ps = []
  · subst hp0
    have m0 := Box.cell loc 0 _ rfl
    go_wp2
    go_ret
    exact ⟨_, rfl, by decide, D.src, D.gr⟩
  · have hp1 : 0 < ps.length := List.length_pos_iff.2 hp0
    have hp2 : (ps.length == 0) = false := by simpa using hp0
    have hp3 : (((ps.length : Nat) : Int) == 0) = false := by simp; omega
    have m0 := Box.cell loc 0 _ rfl
    go_wp2_with fail
    refine (HN.out 30 _ (by decide) (by decide) D.src).mono ?_
    rintro e w2 ⟨r, rfl, hr0, hr1, hs, hG⟩
    have loc := Box.keepA loc hG D.hp
    have K0 := K0.call hG
    have D := D.call hs hG
    clear hs hG
    by_cases h0 : r = 0
    · subst h0
      go_wp2
      go_ret
      exact ⟨_, rfl, by decide, D.src, D.gr⟩
    · have h0' : (r == 0) = false := by simpa using h0
      go_upto_region 3 with (fail)
      clear m0
      refine MAny.region (S := fun w' => w'.cell? ⟨w.heap.size, 0, none⟩ = some (.slice (some ⟨g, 0, none⟩) ps.length c) ∧ ∀ i m, ps[i]? = some m → w'.cell? ⟨g, i * 3, none⟩ = some (.string m.name)) (last := 10) (by kernel_rfl) ?_
      have loc := Box.below loc (Below.refl _ w2).drew
      have K0 := K0.below (Below.refl _ w2).drew
      have D := D.below (Below.refl _ w2).drew
      generalize w2.drew = W0 at loc K0 D ⊢
      have hHeld := And.intro (Box.cell loc 0 _ rfl) K0.ps
      refine MAny.take (i := 0) (v := ?_) rfl (by kernel_rfl) (by kernel_rfl) (by kernel_rfl) (fun _ _ _ h => h) (by kernel_rfl) (Or.inl ⟨by rfl, ?_⟩) (by assumption) ?_
      rotate_left
      · (intro w' hSw; (try dsimp only at hSw); go_simp; try (with_reducible rfl))
      try simp only [Act.put, List.setIfInBounds_toArray]
      refine MAny.take (i := 1) (v := ?_) rfl (by kernel_rfl) (by kernel_rfl) (by kernel_rfl) (fun _ _ _ h => h) (by kernel_rfl) (Or.inl ⟨by rfl, ?_⟩) (by assumption) ?_
      rotate_left
      · (intro w' hSw; (try dsimp only at hSw); go_simp; try (with_reducible rfl))
      try simp only [Act.put]
      refine MAny.take (i := 2) (v := ?_) rfl (by kernel_rfl) (by kernel_rfl) (by kernel_rfl) (fun _ _ _ h => h) (by kernel_rfl) (Or.inl ⟨by rfl, ?_⟩) (by assumption) ?_
      rotate_left
      · (intro w' hSw; (try dsimp only at hSw); go_simp; try (with_reducible rfl))
      try simp only [Act.put]
      refine MAny.take (i := 3) (v := ?_) rfl (by kernel_rfl) (by kernel_rfl) (by kernel_rfl) (fun _ _ _ h => h) (by kernel_rfl) (Or.inl ⟨by rfl, ?_⟩) (by assumption) ?_
      rotate_left
      · (intro w' hSw; (try dsimp only at hSw); go_simp; try (with_reducible rfl))
      try simp only [Act.put]
      refine MAny.take (i := 4) (v := ?_) rfl (by kernel_rfl) (by kernel_rfl) (by kernel_rfl) (fun _ _ _ h => h) (by kernel_rfl) (Or.inl ⟨by rfl, ?_⟩) (by assumption) ?_
      rotate_left
      · (intro w' hSw; (try dsimp only at hSw); go_simp; try (with_reducible rfl))
      try simp only [Act.put]
      refine MAny.take (i := 5) (v := ?_) rfl (by kernel_rfl) (by kernel_rfl) (by kernel_rfl) (fun _ _ _ h => h) (by kernel_rfl) (Or.inl ⟨by rfl, ?_⟩) (by assumption) ?_
      rotate_left
      · (intro w' hSw; (try dsimp only at hSw); go_simp; try (with_reducible rfl))
      try simp only [Act.put]
      refine MAny.ready (rs := [6]) (by kernel_rfl) (by simp) ?_
      refine MReady.cons rfl (fun K hK => ?_) MReady.nil
      go_simp
      go_wp2_with (go_at_call 70; refine (HN.out ps.length W0 (by omega) (by omega) D.src).mono ?_; rintro e W1 ⟨q, rfl, hq0, hq1, hs, hG⟩)
      have loc := Box.keepA loc hG D.hp
      have K0 := K0.call hG
      have D := D.call hs hG
      clear hs hG
      obtain ⟨j, rfl⟩ : ∃ j : Nat, q = j := ⟨q.toNat, by omega⟩
      have hj : j < ps.length := by omega
      have hj1 : (j : Int) < (ps.length : Int) := by omega
      obtain ⟨m, hm⟩ : ∃ m, ps[j]? = some m := ⟨_, List.getElem?_eq_getElem hj⟩
      have hmo := K0.1.2.2.1 m (List.mem_of_getElem? hm)
      clear hq0 hq1
      have hHeld := And.intro (Box.cell loc 0 _ rfl) K0.ps
      refine hK.out _ _ (.inr hHeld) ?_
      clear hK K
      refine MAny.take (i := 7) (v := ?_) rfl (by kernel_rfl) (by kernel_rfl) (by kernel_rfl) (fun _ _ _ h => h) (by kernel_rfl) (Or.inl ⟨by rfl, ?_⟩) (by assumption) ?_
      rotate_left
      · (intro w' hSw; (try dsimp only at hSw); go_simp; try (with_reducible rfl))
      try simp only [Act.put, List.setIfInBounds_toArray]
      refine MAny.take (i := 8) (v := ?_) rfl (by kernel_rfl) (by kernel_rfl) (by kernel_rfl) (fun _ _ _ h => h) (by kernel_rfl) (Or.inl ⟨by rfl, ?_⟩) (by assumption) ?_
      rotate_left
      · (intro w' hSw; (try dsimp only at hSw); go_simp; try (with_reducible rfl))
      try simp only [Act.put]
      refine MAny.take (i := 9) (v := ?_) rfl (by kernel_rfl) (by kernel_rfl) (by kernel_rfl) (fun _ _ _ h => h) (by kernel_rfl) (Or.inl ⟨by rfl, ?_⟩) (by assumption) ?_
      rotate_left
      · (intro w' hSw; (try dsimp only at hSw); have e0 := hSw.2 j m hm; clear hSw; go_simp; try (with_reducible rfl))
      try simp only [Act.put]
      refine MAny.ready (rs := [10]) (by kernel_rfl) (by simp) ?_
      refine MReady.cons rfl (fun K hK => ?_) MReady.nil
      go_simp
      refine hK.out _ _ (.inl rfl) ?_
      clear hK K
      refine MAny.done (by kernel_rfl) ?_ _
      try simp only [List.getElem_toArray, List.getElem_cons_succ, List.getElem_cons_zero]
      go_wp2
      go_ret
      exact ⟨_, rfl, hmo.1, D.src, D.gr⟩
theorem madeWt (N : Nat) : (madeCells (Value.agg #[.string ⟨#[]⟩, .string ⟨#[]⟩]).cells (N * 2)).toList = (List.replicate N (⟨⟨#[]⟩, ⟨#[]⟩⟩ : Wt)).flatMap encWt := by
  have h1 : (madeCells (Value.agg #[.string ⟨#[]⟩, .string ⟨#[]⟩]).cells (N * 2)).toList = List.replicate (N * 2) (Value.string ⟨#[]⟩) := by
    rw [List.eq_replicate_iff]
    refine ⟨by rw [Array.length_toList, size_madeCells], fun b hb => ?_⟩
    unfold madeCells at hb
    simp only [Array.toList_map, Array.toList_range, List.mem_map, List.mem_range] at hb
    obtain ⟨i, _, rfl⟩ := hb
    have : i % 2 = 0 ∨ i % 2 = 1 := by omega
    rcases this with h | h <;> simp [Value.cells, h]
  rw [h1]
  clear h1
  induction N with
  | zero => rfl
  | succ N ih =>
    rw [Nat.add_mul, Nat.add_comm (N * 2), ← List.replicate_append_replicate, ih, List.replicate_succ (n := N), List.flatMap_cons]
    rfl
theorem cut_at {α : Type} {xs : List α} {k : Nat} (h : k < xs.length) : ∃ pre x post, xs = pre ++ x :: post ∧ pre.length = k := by
  refine ⟨xs.take k, xs[k], xs.drop (k + 1), ?_, by simp; omega⟩
  rw [← List.drop_eq_getElem_cons, List.take_append_drop]
def okWd (m : Wt) : Prop := m.person.size ≤ 13 ∧ m.office.size ≤ 13
set_option maxRecDepth 100000 in
set_option maxHeartbeats 8000000 in
theorem l13DrawWitnesses_any (w0 : World) (cs : Option Addr) (cap : Nat) (bs : List Int) (p : Nat) (B : Nat) (g g2 c c2 : Nat) (ps : List Ps) (ts : List Tm) (w : World) (hx : Rd encB w0 cs bs) (hb : ∀ m ∈ bs, goodB m) (hl : bs.length ≤ 4096) (hs : Src w0 cs cap bs p w) (hK : PplK B p w g g2 c c2 ps ts) :
    Calls Tryz.prog 82 #[.pointer (some ⟨p, 0, none⟩), .agg #[.slice (some ⟨g, 0, none⟩) ps.length c, .slice (some ⟨g2, 0, none⟩) ts.length c2]] w fun e w' => ∃ (g3 c3 : Nat) (ws : List Wt), e = .returned (.slice (some ⟨g3, 0, none⟩) ws.length c3) ∧ ws.length ≤ 13 ∧ (∀ m ∈ ws, okWd m) ∧ w'.ownsRow w.heap.size 110 2 (.slice (some ⟨g3, 0, none⟩) ws.length c3) ws.length (ws.flatMap encWt) ∧ Src w0 cs cap bs p w' ∧ w.grownBy w' (some p) := by
  obtain ⟨iw, hiw, hiw0, hiw1, hiw2⟩ := info_parts infoWt
  have D := Drw.start hs
  have K0 := hK
  have hgb := hK.1.lt
  have loc := Box.new w 48 [.slice (some ⟨g, 0, none⟩) ps.length c, .slice (some ⟨g2, 0, none⟩) ts.length c2] w.heap.size (Nat.le_refl _) (by simp)
  have hBA := belowA w (.cells #[.slice (some ⟨g, 0, none⟩) ps.length c, .slice (some ⟨g2, 0, none⟩) ts.length c2] 48)
  have K0 := K0.below hBA
  have D := D.below hBA
  clear hBA
  have HN := Lib.hid (fun n W hn1 hn2 hs => l01Next_any w0 cs cap bs p n W hx hb hl hn1 hn2 hs)
  have HM := Lib.hid (fun W hs hK => l13DrawName_any w0 cs cap bs p B g g2 c c2 ps ts W hx hb hl hs hK)
  clear hs hK
  go_enter Tryz.func82, Tryz.ntmps82
  go_upto_region 1 with (fail)
  change Code.wp _ _ _ _ (w.alloc (.cells #[.slice (some ⟨g, 0, none⟩) ps.length c, .slice (some ⟨g2, 0, none⟩) ts.length c2] 48))
  generalize w.alloc (.cells #[.slice (some ⟨g, 0, none⟩) ps.length c, .slice (some ⟨g2, 0, none⟩) ts.length c2] 48) = w1 at loc K0 D ⊢
  have hlb := (Box.lt loc).2
  have own : (w1.alloc (.cells #[] 110)).ownsRow w.heap.size 110 2 (.slice (some ⟨w1.heap.size, 0, none⟩) 0 0) 0 [] := World.ownsRow_made w1 #[] 0 D.size (by decide) rfl
  have hBA := belowA w1 (.cells #[] 110)
  have loc := Box.below loc hBA
  have K0 := K0.below hBA
  have D := D.below hBA
  clear hBA
  go_upto_region 2 with (fail)
  change Code.wp _ _ _ _ (w1.alloc (.cells #[] 110))
  generalize w1.alloc (.cells #[] 110) = wA at loc own K0 D ⊢
  generalize w1.heap.size = wb at own hlb ⊢
  go_wp2_with fail
  refine (HN.out 4 _ (by decide) (by decide) D.src).mono ?_
  rintro e w2 ⟨r, rfl, hr0, hr1, hs, hG⟩
  have loc := Box.keepA loc hG D.hp
  have own := own_keepA own hG D.hp
  have K0 := K0.call hG
  have D := D.call hs hG
  clear hs hG
  obtain ⟨k, rfl⟩ : ∃ k : Nat, r = k := ⟨r.toNat, by omega⟩
  have hk3 : k ≤ 3 := by omega
  clear hr0 hr1 hlb
  go_upto_block 0 with (fail)
  go_cut [5] from 6 to 47 (fun x5 wr => ∃ (g3 c3 : Nat) (ws : List Wt), x5 = .slice (some ⟨g3, 0, none⟩) ws.length c3 ∧ ws.length ≤ 3 ∧ (∀ m ∈ ws, okWd m) ∧ wr.ownsRow w.heap.size 110 2 (.slice (some ⟨g3, 0, none⟩) ws.length c3) ws.length (ws.flatMap encWt) ∧ Drw w0 cs cap bs p w wr)
  case first =>
    go_wp2
    go_loopw [5, 6] (fun x5 i wr => ∃ (k g3 c3 : Nat) (ws : List Wt), i = .int .i64 k ∧ ws.length + k ≤ 3 ∧ x5 = .slice (some ⟨g3, 0, none⟩) ws.length c3 ∧ (∀ m ∈ ws, okWd m) ∧ wr.ownsRow w.heap.size 110 2 (.slice (some ⟨g3, 0, none⟩) ws.length c3) ws.length (ws.flatMap encWt) ∧ Box w.heap.size wr 48 w.heap.size [.slice (some ⟨g, 0, none⟩) ps.length c, .slice (some ⟨g2, 0, none⟩) ts.length c2] ∧ PplK B p wr g g2 c c2 ps ts ∧ Drw w0 cs cap bs p w wr) (fun _ i _ => (intOf i).toNat)
    case atStart => exact ⟨k, wb, 0, [], rfl, by simpa using hk3, rfl, by simp, own, loc, K0, D⟩
    case round =>
      clear loc own K0 D hk3
      obtain ⟨k, g3, c3, ws, rfl, hwl, rfl, hwo, own, loc, K0, D⟩ := hrel
      by_cases hk : k = 0
      · subst hk
        go_wp2
        go_meet
        case rel => exact ⟨g3, c3, ws, rfl, by omega, hwo, own, D⟩
      · have hk1 : (0 : Int) < (k : Int) := by omega
        have m0 := Box.cell loc 0 _ rfl
        have m1 := Box.cell loc 1 _ rfl
        go_wp2_with fail
        refine (HM.out _ D.src K0).mono ?_
        rintro e w3 ⟨nm, rfl, hnm, hs, hG⟩
        have loc := Box.keepA loc hG D.hp
        have own := own_keepA own hG D.hp
        have K0 := K0.call hG
        have D := D.call hs hG
        clear hs hG
        clear m0 m1
        have xb := Box.new w3 110 [.string nm, .string ⟨#[]⟩] w.heap.size D.size (by simp)
        have hxo : w3.heap.size ≠ g3 := by have := (own_lt own).2; omega
        have hxg : w3.heap.size ≠ g ∧ w3.heap.size ≠ g2 := by have := K0.1.lt; omega
        have hBA := belowA w3 (.cells #[.string nm, .string ⟨#[]⟩] 110)
        have loc := Box.below loc hBA
        have own := own_below own hBA
        have K0 := K0.below hBA
        have D := D.below hBA
        clear hBA
        go_upto_region 6 with (fail)
        change Code.wp _ _ _ _ (w3.alloc (.cells #[.string nm, .string ⟨#[]⟩] 110))
        generalize w3.alloc (.cells #[.string nm, .string ⟨#[]⟩] 110) = W2 at loc own K0 D xb ⊢
        generalize w3.heap.size = xg at xb hxo hxg ⊢
        have m1 := Box.cell loc 1 _ rfl
        by_cases ht0 : ts = []
        · subst ht0
          have ha := hnm
          have hb2 : (⟨#[]⟩ : ByteArray).size ≤ 13 := by decide
          have hg3 : g3 ≠ g ∧ g3 ≠ g2 := ⟨fun e => own_apartV own K0.1.2.2.2.2.1 (by decide) g3 rfl (by rw [e]; rfl), fun e => own_apartV own K0.1.2.2.2.2.2 (by decide) g3 rfl (by rw [e]; rfl)⟩
          have x0 := Box.cell xb 0 _ rfl
          have x1 := Box.cell xb 1 _ rfl
          go_wp2_with (at_builtin; refine wpList_append_own _ rfl _ _ 49 rfl w.heap.size 110 iw (.agg #[.string ⟨#[]⟩, .string ⟨#[]⟩]) 2 32 Tryz.underlying49 hiw hiw0 hiw1 hiw2 rfl (by decide) _ _ _ rfl (World.ownsRow.alloc own _) ⟨W2.heap.size, 0, none⟩ 1 1 [.string nm, .string ⟨#[]⟩] rfl rfl (World.news_of_block (heap_alloc_new _ _)) ?c2 ?c3 ?c4 ?c5 ?_)
          case c2 => intro u hu; simp at hu; rcases hu with rfl | rfl <;> rfl
          case c3 => unfold maxLen; omega
          case c4 => omega
          case c5 => have := D.size; simp; omega
          intro v' W4 hown' hgr _
          have hBA := belowA W2 (.cells #[.string nm, .string ⟨#[]⟩] 110)
          have loc := Box.below loc hBA
          have K0 := K0.below hBA
          have D := D.below hBA
          clear hBA
          have hog := (own_lt own).1
          obtain ⟨g4, c4, rfl⟩ := formJ hown' (by omega)
          have loc := own_keepV loc hgr (fun g e e2 => own_apartV loc (World.ownsRow.alloc own (.cells #[.string nm, .string ⟨#[]⟩] 110)) (by decide) g e e2)
          have hgr2 : (W2.alloc (.cells #[.string nm, .string ⟨#[]⟩] 110)).grownBy W4 (some g3) := hgr
          have K0 := K0.store hgr2 hg3.1 hg3.2
          have D := D.store hgr2 hog
          have own : W4.ownsRow w.heap.size 110 2 (.slice (some ⟨g4, 0, none⟩) (ws.length + 1) c4) (ws.length + 1) ((ws ++ [(⟨nm, ⟨#[]⟩⟩ : Wt)]).flatMap encWt) := by rw [List.flatMap_append]; exact hown'
          clear hown' hgr hgr2 x0 x1 xb
          have v2 := i64_in ((k : Int) - 1) (by omega)
          have v3 : ((k - 1 : Nat) : Int) = (k : Int) - 1 := by omega
          go_wp2
          refine ⟨?_, ?measure⟩
          (repeat apply Exists.intro)
          refine ⟨?rel, rfl⟩
          case rel => exact ⟨k - 1, g4, c4, ws ++ [⟨nm, ⟨#[]⟩⟩], by rw [v3], by simp; omega, by rw [List.length_append]; rfl, fun x hx => by
              rcases List.mem_append.1 hx with hx | hx
              · exact hwo x hx
              · simp at hx; subst hx; exact ⟨ha, hb2⟩, by rw [List.length_append]; exact own, loc, K0, D⟩
          case measure => simp [intOf]; omega
        · have ht1 : 0 < ts.length := List.length_pos_iff.2 ht0
          have ht2 : (0 : Int) < (ts.length : Int) := by omega
          have htl := K0.1.2.1
          go_wp2_with fail
          refine (HN.out 2 _ (by decide) (by decide) D.src).mono ?_
          rintro e w4 ⟨r, rfl, hr0, hr1, hs, hG⟩
          have loc := Box.keepA loc hG D.hp
          have own := own_keepA own hG D.hp
          have K0 := K0.call hG
          have xb := Box.keepA xb hG D.hp
          have D := D.call hs hG
          clear hs hG
          go_upto_if 29 with (fail)
          go_cut [] from 30 to 43 (fun wr => ∃ (a b : ByteArray), a.size ≤ 13 ∧ b.size ≤ 13 ∧ Box w.heap.size wr 110 xg [.string a, .string b] ∧ wr.ownsRow w.heap.size 110 2 (.slice (some ⟨g3, 0, none⟩) ws.length c3) ws.length (ws.flatMap encWt) ∧ Box w.heap.size wr 48 w.heap.size [.slice (some ⟨g, 0, none⟩) ps.length c, .slice (some ⟨g2, 0, none⟩) ts.length c2] ∧ PplK B p wr g g2 c c2 ps ts ∧ Drw w0 cs cap bs p w wr)
          case first =>
            by_cases h0 : r = 0
            · subst h0
              go_upto_region 7 with (fail)
              clear m1
              refine MAny.region (S := fun w' => w'.cell? ⟨w.heap.size, 1, none⟩ = some (.slice (some ⟨g2, 0, none⟩) ts.length c2) ∧ ∀ i m, ts[i]? = some m → w'.cell? ⟨g2, i * 4, none⟩ = some (.string m.office) ∧ w'.cell? ⟨g2, i * 4 + 1, none⟩ = some (.string m.person) ∧ w'.cell? ⟨g2, i * 4 + 2, none⟩ = some (.int .i64 m.fr) ∧ w'.cell? ⟨g2, i * 4 + 3, none⟩ = some (.int .i64 m.to)) (last := 10) (by kernel_rfl) ?_
              have loc := Box.below loc (Below.refl _ w4).drew
              have own := own_below own (Below.refl _ w4).drew
              have K0 := K0.below (Below.refl _ w4).drew
              have xb := Box.below xb (Below.refl _ w4).drew
              have D := D.below (Below.refl _ w4).drew
              generalize w4.drew = W0 at loc own K0 xb D ⊢
              have hHeld := And.intro (Box.cell loc 1 _ rfl) K0.ts
              refine MAny.take (i := 0) (v := ?_) rfl (by kernel_rfl) (by kernel_rfl) (by kernel_rfl) (fun _ _ _ h => h) (by kernel_rfl) (Or.inl ⟨by rfl, ?_⟩) (by assumption) ?_
              rotate_left
              · (intro w' hSw; (try dsimp only at hSw); go_simp; try (with_reducible rfl))
              try simp only [Act.put, List.setIfInBounds_toArray]
              refine MAny.take (i := 1) (v := ?_) rfl (by kernel_rfl) (by kernel_rfl) (by kernel_rfl) (fun _ _ _ h => h) (by kernel_rfl) (Or.inl ⟨by rfl, ?_⟩) (by assumption) ?_
              rotate_left
              · (intro w' hSw; (try dsimp only at hSw); go_simp; try (with_reducible rfl))
              try simp only [Act.put]
              refine MAny.take (i := 2) (v := ?_) rfl (by kernel_rfl) (by kernel_rfl) (by kernel_rfl) (fun _ _ _ h => h) (by kernel_rfl) (Or.inl ⟨by rfl, ?_⟩) (by assumption) ?_
              rotate_left
              · (intro w' hSw; (try dsimp only at hSw); go_simp; try (with_reducible rfl))
              try simp only [Act.put]
              refine MAny.take (i := 3) (v := ?_) rfl (by kernel_rfl) (by kernel_rfl) (by kernel_rfl) (fun _ _ _ h => h) (by kernel_rfl) (Or.inl ⟨by rfl, ?_⟩) (by assumption) ?_
              rotate_left
              · (intro w' hSw; (try dsimp only at hSw); go_simp; try (with_reducible rfl))
              try simp only [Act.put]
              refine MAny.take (i := 4) (v := ?_) rfl (by kernel_rfl) (by kernel_rfl) (by kernel_rfl) (fun _ _ _ h => h) (by kernel_rfl) (Or.inl ⟨by rfl, ?_⟩) (by assumption) ?_
              rotate_left
              · (intro w' hSw; (try dsimp only at hSw); go_simp; try (with_reducible rfl))
              try simp only [Act.put]
              refine MAny.take (i := 5) (v := ?_) rfl (by kernel_rfl) (by kernel_rfl) (by kernel_rfl) (fun _ _ _ h => h) (by kernel_rfl) (Or.inl ⟨by rfl, ?_⟩) (by assumption) ?_
              rotate_left
              · (intro w' hSw; (try dsimp only at hSw); go_simp; try (with_reducible rfl))
              try simp only [Act.put]
              refine MAny.ready (rs := [6, 9]) (by kernel_rfl) (by simp) ?_
              refine MReady.cons rfl (fun K hK => ?_) (MReady.cons rfl (fun K hK => ?_) MReady.nil)
              · go_simp
                go_wp2_with (go_at_call 70; refine (HN.out ts.length W0 (by omega) (by omega) D.src).mono ?_; rintro e Wa ⟨q, rfl, hq0, hq1, hs, hG⟩)
                have loc := Box.keepA loc hG D.hp
                have own := own_keepA own hG D.hp
                have K0 := K0.call hG
                have xb := Box.keepA xb hG D.hp
                have D := D.call hs hG
                clear hs hG
                obtain ⟨j, rfl⟩ : ∃ j : Nat, q = j := ⟨q.toNat, by omega⟩
                have hj : j < ts.length := by omega
                have hj1 : (j : Int) < (ts.length : Int) := by omega
                obtain ⟨m, hm⟩ : ∃ m, ts[j]? = some m := ⟨_, List.getElem?_eq_getElem hj⟩
                have hmo := K0.1.2.2.2.1 m (List.mem_of_getElem? hm)
                clear hq0 hq1
                have hHeld := And.intro (Box.cell loc 1 _ rfl) K0.ts
                refine hK.out _ _ (.inr hHeld) ?_
                clear hK K
                refine MAny.take (i := 7) (v := ?_) rfl (by kernel_rfl) (by kernel_rfl) (by kernel_rfl) (fun _ _ _ h => h) (by kernel_rfl) (Or.inl ⟨by rfl, ?_⟩) (by assumption) ?_
                rotate_left
                · (intro w' hSw; (try dsimp only at hSw); go_simp; try (with_reducible rfl))
                try simp only [Act.put, List.setIfInBounds_toArray]
                refine MAny.take (i := 8) (v := ?_) rfl (by kernel_rfl) (by kernel_rfl) (by kernel_rfl) (fun _ _ _ h => h) (by kernel_rfl) (Or.inl ⟨by rfl, ?_⟩) (by assumption) ?_
                rotate_left
                · (intro w' hSw; (try dsimp only at hSw); obtain ⟨e0, e1, e2, e3⟩ := hSw.2 j m hm; clear hSw; go_simp; try (with_reducible rfl))
                try simp only [Act.put]
                refine MAny.ready (rs := [9]) (by kernel_rfl) (by simp) ?_
                refine MReady.cons rfl (fun K hK => ?_) MReady.nil
                go_simp
                have yb := Box.new Wa 125 [.string ⟨#[]⟩, .string ⟨#[]⟩, .int .i64 0, .int .i64 0] w.heap.size D.size (by simp)
                have hyg : Wa.heap.size ≠ g ∧ Wa.heap.size ≠ g2 := by have := K0.1.lt; omega
                have hyl : Wa.heap.size ≠ w.heap.size := by have := (Box.lt loc).2; omega
                have hBA := belowA Wa (.cells #[.string ⟨#[]⟩, .string ⟨#[]⟩, .int .i64 0, .int .i64 0] 125)
                have loc := Box.below loc hBA
                have own := own_below own hBA
                have K0 := K0.below hBA
                have xb := Box.below xb hBA
                have D := D.below hBA
                clear hBA
                generalize hWW : Wa.alloc (.cells #[.string ⟨#[]⟩, .string ⟨#[]⟩, .int .i64 0, .int .i64 0] 125) = Wb at yb loc own K0 xb D ⊢
                clear hWW
                generalize Wa.heap.size = yg at yb hyg hyl ⊢
                have hHeld := And.intro (Box.cell loc 1 _ rfl) K0.ts
                refine hK.out _ _ (.inr hHeld) ?_
                clear hK K
                have y0 := Box.cell yb 0 _ rfl
                have f0 := World.ownsRow.frozenAt yb 0
                have y1 := Box.cell yb 1 _ rfl
                have f1 := World.ownsRow.frozenAt yb 1
                have y2 := Box.cell yb 2 _ rfl
                have f2 := World.ownsRow.frozenAt yb 2
                have y3 := Box.cell yb 3 _ rfl
                have f3 := World.ownsRow.frozenAt yb 3
                have HP4 := Lib.hid (boxPut4 yb (.string m.office) (.string m.person) (.int .i64 m.fr) (.int .i64 m.to))
                refine MAny.ready (rs := [10]) (by kernel_rfl) (by simp) ?_
                refine MReady.cons rfl (fun K hK => ?_) MReady.nil
                go_simp
                refine hK.out _ _ (.inl rfl) ?_
                clear hK K
                refine MAny.done (by kernel_rfl) ?_ _
                try simp only [List.getElem_toArray, List.getElem_cons_succ, List.getElem_cons_zero]
                have hp := HP4.out
                have own := own_keepV own hp.2 (fun g e e2 => own_apartV yb own (by decide) g e2 e)
                have xb := own_keepV xb hp.2 (fun g e e2 => own_apartV yb xb (by decide) g e2 e)
                have loc := Box.keep loc hp.2 (Ne.symm hyl)
                have K0 := K0.store hp.2 hyg.1 hyg.2
                have D := D.store hp.2 (Box.lt yb).1
                have yb := hp.1
                clear hp HP4 hHeld y0 y1 y2 y3 f0 f1 f2 f3
                generalize (((Wb.setCell ⟨yg, 0, none⟩ (.string m.office)).setCell ⟨yg, 1, none⟩ (.string m.person)).setCell ⟨yg, 2, none⟩ (.int .i64 m.fr)).setCell ⟨yg, 3, none⟩ (.int .i64 m.to) = Wf at own xb loc K0 D yb ⊢
                have y0 := Box.cell yb 0 _ rfl
                have y1 := Box.cell yb 1 _ rfl
                have y2 := Box.cell yb 2 _ rfl
                have y3 := Box.cell yb 3 _ rfl
                have x0 := Box.cell xb 0 _ rfl
                have x1 := Box.cell xb 1 _ rfl
                have f0 := World.ownsRow.frozenAt xb 0
                have f1 := World.ownsRow.frozenAt xb 1
                have HP2 := Lib.hid (Box.put2 xb (.string m.person) (.string m.office))
                go_wp2
                go_meet
                have hp := HP2.out
                have loc := own_keepV loc hp.2 (fun g e e2 => own_apartV xb loc (by decide) g e2 e)
                have own := own_keepOther own hp.2 (Ne.symm hxo)
                have K0 := K0.store hp.2 hxg.1 hxg.2
                have D := D.store hp.2 (Box.lt xb).1
                case rel => exact ⟨m.person, m.office, hmo.2.1, hmo.1, hp.1, own, loc, K0, D⟩
              · go_simp
                have yb := Box.new W0 125 [.string ⟨#[]⟩, .string ⟨#[]⟩, .int .i64 0, .int .i64 0] w.heap.size D.size (by simp)
                have hyg : W0.heap.size ≠ g ∧ W0.heap.size ≠ g2 := by have := K0.1.lt; omega
                have hyl : W0.heap.size ≠ w.heap.size := by have := (Box.lt loc).2; omega
                have hBA := belowA W0 (.cells #[.string ⟨#[]⟩, .string ⟨#[]⟩, .int .i64 0, .int .i64 0] 125)
                have loc := Box.below loc hBA
                have own := own_below own hBA
                have K0 := K0.below hBA
                have xb := Box.below xb hBA
                have D := D.below hBA
                clear hBA
                generalize hWW : W0.alloc (.cells #[.string ⟨#[]⟩, .string ⟨#[]⟩, .int .i64 0, .int .i64 0] 125) = Wa at yb loc own K0 xb D ⊢
                clear hWW
                generalize W0.heap.size = yg at yb hyg hyl ⊢
                have hHeld := And.intro (Box.cell loc 1 _ rfl) K0.ts
                refine hK.out _ _ (.inr hHeld) ?_
                clear hK K
                refine MAny.ready (rs := [6]) (by kernel_rfl) (by simp) ?_
                refine MReady.cons rfl (fun K hK => ?_) MReady.nil
                go_simp
                go_wp2_with (go_at_call 70; refine (HN.out ts.length Wa (by omega) (by omega) D.src).mono ?_; rintro e Wb ⟨q, rfl, hq0, hq1, hs, hG⟩)
                have loc := Box.keepA loc hG D.hp
                have own := own_keepA own hG D.hp
                have K0 := K0.call hG
                have xb := Box.keepA xb hG D.hp
                have yb := Box.keepA yb hG D.hp
                have D := D.call hs hG
                clear hs hG
                obtain ⟨j, rfl⟩ : ∃ j : Nat, q = j := ⟨q.toNat, by omega⟩
                have hj : j < ts.length := by omega
                have hj1 : (j : Int) < (ts.length : Int) := by omega
                obtain ⟨m, hm⟩ : ∃ m, ts[j]? = some m := ⟨_, List.getElem?_eq_getElem hj⟩
                have hmo := K0.1.2.2.2.1 m (List.mem_of_getElem? hm)
                clear hq0 hq1
                have hHeld := And.intro (Box.cell loc 1 _ rfl) K0.ts
                refine hK.out _ _ (.inr hHeld) ?_
                clear hK K
                refine MAny.take (i := 7) (v := ?_) rfl (by kernel_rfl) (by kernel_rfl) (by kernel_rfl) (fun _ _ _ h => h) (by kernel_rfl) (Or.inl ⟨by rfl, ?_⟩) (by assumption) ?_
                rotate_left
                · (intro w' hSw; (try dsimp only at hSw); go_simp; try (with_reducible rfl))
                try simp only [Act.put, List.setIfInBounds_toArray]
                refine MAny.take (i := 8) (v := ?_) rfl (by kernel_rfl) (by kernel_rfl) (by kernel_rfl) (fun _ _ _ h => h) (by kernel_rfl) (Or.inl ⟨by rfl, ?_⟩) (by assumption) ?_
                rotate_left
                · (intro w' hSw; (try dsimp only at hSw); obtain ⟨e0, e1, e2, e3⟩ := hSw.2 j m hm; clear hSw; go_simp; try (with_reducible rfl))
                try simp only [Act.put]
                have y0 := Box.cell yb 0 _ rfl
                have f0 := World.ownsRow.frozenAt yb 0
                have y1 := Box.cell yb 1 _ rfl
                have f1 := World.ownsRow.frozenAt yb 1
                have y2 := Box.cell yb 2 _ rfl
                have f2 := World.ownsRow.frozenAt yb 2
                have y3 := Box.cell yb 3 _ rfl
                have f3 := World.ownsRow.frozenAt yb 3
                have HP4 := Lib.hid (boxPut4 yb (.string m.office) (.string m.person) (.int .i64 m.fr) (.int .i64 m.to))
                refine MAny.ready (rs := [10]) (by kernel_rfl) (by simp) ?_
                refine MReady.cons rfl (fun K hK => ?_) MReady.nil
                go_simp
                refine hK.out _ _ (.inl rfl) ?_
                clear hK K
                refine MAny.done (by kernel_rfl) ?_ _
                try simp only [List.getElem_toArray, List.getElem_cons_succ, List.getElem_cons_zero]
                have hp := HP4.out
                have own := own_keepV own hp.2 (fun g e e2 => own_apartV yb own (by decide) g e2 e)
                have xb := own_keepV xb hp.2 (fun g e e2 => own_apartV yb xb (by decide) g e2 e)
                have loc := Box.keep loc hp.2 (Ne.symm hyl)
                have K0 := K0.store hp.2 hyg.1 hyg.2
                have D := D.store hp.2 (Box.lt yb).1
                have yb := hp.1
                clear hp HP4 hHeld y0 y1 y2 y3 f0 f1 f2 f3
                generalize (((Wb.setCell ⟨yg, 0, none⟩ (.string m.office)).setCell ⟨yg, 1, none⟩ (.string m.person)).setCell ⟨yg, 2, none⟩ (.int .i64 m.fr)).setCell ⟨yg, 3, none⟩ (.int .i64 m.to) = Wf at own xb loc K0 D yb ⊢
                have y0 := Box.cell yb 0 _ rfl
                have y1 := Box.cell yb 1 _ rfl
                have y2 := Box.cell yb 2 _ rfl
                have y3 := Box.cell yb 3 _ rfl
                have x0 := Box.cell xb 0 _ rfl
                have x1 := Box.cell xb 1 _ rfl
                have f0 := World.ownsRow.frozenAt xb 0
                have f1 := World.ownsRow.frozenAt xb 1
                have HP2 := Lib.hid (Box.put2 xb (.string m.person) (.string m.office))
                go_wp2
                go_meet
                have hp := HP2.out
                have loc := own_keepV loc hp.2 (fun g e e2 => own_apartV xb loc (by decide) g e2 e)
                have own := own_keepOther own hp.2 (Ne.symm hxo)
                have K0 := K0.store hp.2 hxg.1 hxg.2
                have D := D.store hp.2 (Box.lt xb).1
                case rel => exact ⟨m.person, m.office, hmo.2.1, hmo.1, hp.1, own, loc, K0, D⟩
            · have h0' : (r == 0) = false := by simpa using h0
              go_wp2
              go_meet
              case rel => exact ⟨nm, _, hnm, by decide, xb, own, loc, K0, D⟩
          case rest =>
            clear xb own loc K0 D hnm m1
            obtain ⟨a, b, ha, hb2, xb, own, loc, K0, D⟩ := hcut
            have hg3 : g3 ≠ g ∧ g3 ≠ g2 := ⟨fun e => own_apartV own K0.1.2.2.2.2.1 (by decide) g3 rfl (by rw [e]; rfl), fun e => own_apartV own K0.1.2.2.2.2.2 (by decide) g3 rfl (by rw [e]; rfl)⟩
            have x0 := Box.cell xb 0 _ rfl
            have x1 := Box.cell xb 1 _ rfl
            go_wp2_with (at_builtin; refine wpList_append_own _ rfl _ _ 49 rfl w.heap.size 110 iw (.agg #[.string ⟨#[]⟩, .string ⟨#[]⟩]) 2 32 Tryz.underlying49 hiw hiw0 hiw1 hiw2 rfl (by decide) _ _ _ rfl (World.ownsRow.alloc own _) ⟨wc.heap.size, 0, none⟩ 1 1 [.string a, .string b] rfl rfl (World.news_of_block (heap_alloc_new _ _)) ?c2 ?c3 ?c4 ?c5 ?_)
            case c2 => intro u hu; simp at hu; rcases hu with rfl | rfl <;> rfl
            case c3 => unfold maxLen; omega
            case c4 => omega
            case c5 => have := D.size; simp; omega
            intro v' W4 hown' hgr _
            have hBA := belowA wc (.cells #[.string a, .string b] 110)
            have loc := Box.below loc hBA
            have K0 := K0.below hBA
            have D := D.below hBA
            clear hBA
            have hog := (own_lt own).1
            obtain ⟨g4, c4, rfl⟩ := formJ hown' (by omega)
            have loc := own_keepV loc hgr (fun g e e2 => own_apartV loc (World.ownsRow.alloc own (.cells #[.string a, .string b] 110)) (by decide) g e e2)
            have hgr2 : (wc.alloc (.cells #[.string a, .string b] 110)).grownBy W4 (some g3) := hgr
            have K0 := K0.store hgr2 hg3.1 hg3.2
            have D := D.store hgr2 hog
            have own : W4.ownsRow w.heap.size 110 2 (.slice (some ⟨g4, 0, none⟩) (ws.length + 1) c4) (ws.length + 1) ((ws ++ [(⟨a, b⟩ : Wt)]).flatMap encWt) := by rw [List.flatMap_append]; exact hown'
            clear hown' hgr hgr2 x0 x1 xb
            have v2 := i64_in ((k : Int) - 1) (by omega)
            have v3 : ((k - 1 : Nat) : Int) = (k : Int) - 1 := by omega
            go_wp2
            go_roundw
            case rel => exact ⟨k - 1, g4, c4, ws ++ [⟨a, b⟩], by rw [v3], by simp; omega, by rw [List.length_append]; rfl, fun x hx => by
                rcases List.mem_append.1 hx with hx | hx
                · exact hwo x hx
                · simp at hx; subst hx; exact ⟨ha, hb2⟩, by rw [List.length_append]; exact own, loc, K0, D⟩
            case measure => simp [intOf]; omega
  case rest =>
    clear loc own K0 D hk3
    obtain ⟨g3, c3, ws, rfl, hwl, hwo, own, D⟩ := hcut
    go_wp2_with fail
    refine (HN.out 60 _ (by decide) (by decide) D.src).mono ?_
    rintro e w5 ⟨x, rfl, hx0, hx1, hs, hG⟩
    have own := own_keepA own hG D.hp
    have D := D.call hs hG
    clear hs hG
    by_cases x0 : x = 0
    · subst x0
      go_wp2_with fail
      refine (HN.out 2 _ (by decide) (by decide) D.src).mono ?_
      rintro e w6 ⟨y, rfl, hy0, hy1, hs, hG⟩
      have own := own_keepA own hG D.hp
      have D := D.call hs hG
      clear hs hG
      have v1 := i64_in (12 + y) (by omega)
      obtain ⟨N, hN⟩ : ∃ N : Nat, 12 + y = N := ⟨(12 + y).toNat, by omega⟩
      have hN13 : N ≤ 13 := by omega
      obtain ⟨W5, hmk, own, hmg⟩ := run_makeSlice_full (P := Tryz.prog) (w := w6) w.heap.size 49 110 iw (.agg #[.string ⟨#[]⟩, .string ⟨#[]⟩]) 2 Tryz.underlying49 hiw hiw0 hiw1 .i64 .i64 N (by omega) (by rw [hiw2]; omega) (by unfold maxLen; omega) D.size
      rw [← hN] at hmk
      clear hN hy0 hy1
      have D := D.grown hmg (fun g e => by cases e)
      rw [madeWt] at own
      have hwl' : (List.replicate N (⟨⟨#[]⟩, ⟨#[]⟩⟩ : Wt)).length = N := List.length_replicate
      have hwo' : ∀ m ∈ List.replicate N (⟨⟨#[]⟩, ⟨#[]⟩⟩ : Wt), okWd m := fun m hm => by
        obtain rfl := List.eq_of_mem_replicate hm
        exact ⟨by decide, by decide⟩
      generalize List.replicate N (⟨⟨#[]⟩, ⟨#[]⟩⟩ : Wt) = zs at own hwl' hwo'
      generalize w6.heap.size = zg at own hmk
      go_wp2
      go_loopw [9] (fun i wr => ∃ (k : Nat) (zs : List Wt), k ≤ N ∧ i = .int .i64 k ∧ zs.length = N ∧ (∀ m ∈ zs, okWd m) ∧ wr.ownsRow w.heap.size 110 2 (.slice (some ⟨zg, 0, none⟩) N N) N (zs.flatMap encWt) ∧ Drw w0 cs cap bs p w wr) (fun i _ => N - (intOf i).toNat)
      case atStart => exact ⟨0, zs, Nat.zero_le _, rfl, hwl', hwo', own, D⟩
      case round =>
        clear own D hwl' hwo'
        obtain ⟨k, zs, hk, rfl, hzl, hzo, own, D⟩ := hrel
        by_cases hlt : k < N
        · have hk1 : (k : Int) < (N : Int) := by omega
          obtain ⟨pre, x, post, rfl, hpl⟩ := cut_at (show k < zs.length by omega)
          have c0 := own_at encWt_len own (i := k) (x := x) (by simp [← hpl]) (j := 0) rfl
          have c0 : wr.cell? ⟨zg, k * 2, none⟩ = some (.string x.person) := c0
          have f0 := own.frozenAt (k * 2)
          have hpp : k * 2 = (pre.flatMap encWt).length := by rw [length_flatMap_enc encWt 2 encWt_len, hpl]
          have hp := own_put (i := k * 2) (pre := pre.flatMap encWt) (post := .string x.office :: post.flatMap encWt) (x := .string x.person) (by simpa [encWt] using own) hpp (.string ⟨#[97, 108, 97, 110]⟩)
          have HP1 : Hid ((wr.setCell ⟨zg, k * 2, none⟩ (.string ⟨#[97, 108, 97, 110]⟩)).ownsRow w.heap.size 110 2 (.slice (some ⟨zg, 0, none⟩) N N) N ((pre ++ (⟨⟨#[97, 108, 97, 110]⟩, x.office⟩ : Wt) :: post).flatMap encWt)) := by unfold Hid; simpa [encWt] using hp.1
          have HG1 := Lib.hid hp.2
          have hzo' : ∀ m ∈ pre ++ (⟨⟨#[97, 108, 97, 110]⟩, x.office⟩ : Wt) :: post, okWd m := fun m hm => by
            rcases List.mem_append.1 hm with hm | hm
            · exact hzo m (by simp [hm])
            · rcases List.mem_cons.1 hm with rfl | hm
              · exact ⟨(show (⟨#[97, 108, 97, 110]⟩ : ByteArray).size ≤ 13 by decide), (hzo x (by simp)).2⟩
              · exact hzo m (by simp [hm])
          clear hp hpp
          go_wp2
          go_roundw
          case rel => exact ⟨k + 1, _, by omega, by go_num, by simpa using hzl, hzo', HP1.out, D.store HG1.out (own_lt own).1⟩
          case measure => simp [intOf]; omega
        · have hk1 : decide ((k : Int) < (N : Int)) = false := by simp; omega
          obtain rfl : k = N := by omega
          subst hzl
          go_wp2
          go_ret
          exact ⟨zg, _, zs, rfl, hN13, hzo, own, D.src, D.gr⟩
    · have x0' : (x == 0) = false := by simpa using x0
      go_wp2
      go_ret
      exact ⟨g3, c3, ws, rfl, by omega, hwo, own, D.src, D.gr⟩
set_option maxRecDepth 100000 in
set_option maxHeartbeats 8000000 in
theorem drawSigningDays_any (cs : Option Addr) (cap : Nat) (bs : List Int) (w : World) (hx : Rd encB w cs bs) (hb : ∀ m ∈ bs, goodB m) (hl : bs.length ≤ 4096) :
    Calls Tryz.prog 20 #[.slice cs bs.length cap] w fun e w' => ∃ (g g2 c c2 : Nat) (ps : List Ps) (ts : List Tm) (g3 c3 : Nat) (ws : List Wt), e = .returned (.tuple #[.agg #[.slice (some ⟨g, 0, none⟩) ps.length c, .slice (some ⟨g2, 0, none⟩) ts.length c2], .slice (some ⟨g3, 0, none⟩) ws.length c3]) ∧ PplD w.heap.size w' g g2 c c2 ps ts ∧ ws.length ≤ 13 ∧ (∀ m ∈ ws, okWd m) ∧ w'.ownsRow w.heap.size 110 2 (.slice (some ⟨g3, 0, none⟩) ws.length c3) ws.length (ws.flatMap encWt) ∧ Below w.heap.size w w' := by
  have hr1 := Box.new w 48 [.slice none 0 0, .slice none 0 0] w.heap.size (Nat.le_refl _) (by simp)
  have hB1 := belowA w (.cells #[.slice none 0 0, .slice none 0 0] 48)
  generalize hW1 : w.alloc (.cells [.slice none 0 0, .slice none 0 0].toArray 48) = w1 at hr1
  have hW1' : w.alloc (.cells #[.slice none 0 0, .slice none 0 0] 48) = w1 := hW1
  rw [hW1'] at hB1
  have hrl := (Box.lt hr1).2
  have hx1 := hx.below hB1
  go_enter Tryz.func20, Tryz.ntmps20
  go_wp2_with fail

  clear hW1 hW1'
  refine (l01From_any cs cap bs w1 hx1 hb).mono ?_
  rintro e w2 ⟨p, rfl, hs⟩
  have res := Box.below hr1 hs.base
  have hpl := hs.lt
  have hwp : w.heap.size ≠ p := by omega
  have hw2 : w.heap.size ≤ w2.heap.size := by omega
  go_wp2_with fail
  refine (l13Draw_any w1 cs cap bs p w2 hx1 hb hl hs).mono ?_
  rintro e w3 ⟨g, g2, c, c2, ps, ts, rfl, K, hs3, hG⟩
  have res := Box.keep res hG hwp
  have D : Drw w1 cs cap bs p w2 w3 := ⟨hs3, hG, hpl.2⟩
  have K0 : PplK w2.heap.size p w3 g g2 c c2 ps ts := ⟨K, hpl.2⟩
  clear K hs3 hG hr1 hs
  have loc := Box.new w3 48 [.slice (some ⟨g, 0, none⟩) ps.length c, .slice (some ⟨g2, 0, none⟩) ts.length c2] w2.heap.size D.size (by simp)
  have hwl : w.heap.size ≠ w3.heap.size := by have := D.size; omega
  have hBA := belowA w3 (.cells #[.slice (some ⟨g, 0, none⟩) ps.length c, .slice (some ⟨g2, 0, none⟩) ts.length c2] 48)
  have res := Box.below res hBA
  have K0 := K0.below hBA
  have D := D.below hBA
  clear hBA
  go_upto_region 3 with (fail)
  change Code.wp _ _ _ _ (w3.alloc (.cells #[.slice (some ⟨g, 0, none⟩) ps.length c, .slice (some ⟨g2, 0, none⟩) ts.length c2] 48))
  generalize w3.alloc (.cells #[.slice (some ⟨g, 0, none⟩) ps.length c, .slice (some ⟨g2, 0, none⟩) ts.length c2] 48) = w4 at res loc K0 D ⊢
  generalize w3.heap.size = lb at loc hwl ⊢
  have HW := Lib.hid (fun W hs hK => l13DrawWitnesses_any w1 cs cap bs p w2.heap.size g g2 c c2 ps ts W hx1 hb hl hs hK)
  refine MAny.region (S := fun w' => w'.cell? ⟨lb, 0, none⟩ = some (.slice (some ⟨g, 0, none⟩) ps.length c) ∧ w'.cell? ⟨lb, 1, none⟩ = some (.slice (some ⟨g2, 0, none⟩) ts.length c2)) (last := 5) (by kernel_rfl) ?_
  have loc := Box.below loc (Below.refl _ w4).drew
  have K0 := K0.below (Below.refl _ w4).drew
  have D := D.below (Below.refl _ w4).drew
  have res := Box.below res (Below.refl _ w4).drew
  generalize w4.drew = W0 at loc K0 D res ⊢
  have hHeld := And.intro (Box.cell loc 0 _ rfl) (Box.cell loc 1 _ rfl)
  refine MAny.take (i := 0) (v := ?_) rfl (by kernel_rfl) (by kernel_rfl) (by kernel_rfl) (fun _ _ _ h => h) (by kernel_rfl) (Or.inl ⟨by rfl, ?_⟩) (by assumption) ?_
  rotate_left
  · (intro w' hSw; (try dsimp only at hSw); go_simp; try (with_reducible rfl))
  try simp only [Act.put, List.setIfInBounds_toArray]
  refine MAny.take (i := 1) (v := ?_) rfl (by kernel_rfl) (by kernel_rfl) (by kernel_rfl) (fun _ _ _ h => h) (by kernel_rfl) (Or.inl ⟨by rfl, ?_⟩) (by assumption) ?_
  rotate_left
  · (intro w' hSw; (try dsimp only at hSw); go_simp; try (with_reducible rfl))
  try simp only [Act.put]
  refine MAny.take (i := 2) (v := ?_) rfl (by kernel_rfl) (by kernel_rfl) (by kernel_rfl) (fun _ _ _ h => h) (by kernel_rfl) (Or.inl ⟨by rfl, ?_⟩) (by assumption) ?_
  rotate_left
  · (intro w' hSw; (try dsimp only at hSw); go_simp; try (with_reducible rfl))
  try simp only [Act.put]
  refine MAny.ready (rs := [3]) (by kernel_rfl) (by simp) ?_
  refine MReady.cons rfl (fun K hK => ?_) MReady.nil
  go_simp
  go_wp2_with (go_at_call 82; refine (HW.out W0 D.src K0).mono ?_; rintro e W1 ⟨g3, c3, ws, rfl, hwl3, hwo, own, hs, hG⟩)
  have res := Box.keep res hG hwp
  have own := own_base own D.size
  have loc := Box.keepA loc hG D.hp
  have K0 := K0.call hG
  have D := D.call hs hG
  clear hs hG
  have hHeld := And.intro (Box.cell loc 0 _ rfl) (Box.cell loc 1 _ rfl)
  refine hK.out _ _ (.inr hHeld) ?_
  clear hK K
  have r0 := Box.cell res 0 _ rfl
  have f0 := World.ownsRow.frozenAt res 0
  have r1 := Box.cell res 1 _ rfl
  have f1 := World.ownsRow.frozenAt res 1
  have hp := Box.put2 res (.slice (some ⟨g, 0, none⟩) ps.length c) (.slice (some ⟨g2, 0, none⟩) ts.length c2)
  have y0 : ((W1.setCell ⟨w.heap.size, 0, none⟩ (.slice (some ⟨g, 0, none⟩) ps.length c)).cell? ⟨w.heap.size, 1, none⟩) = some (.slice none 0 0) := by have := Box.cell (Box.put (i := 0) (pre := []) (post := [.slice none 0 0]) res rfl (.slice (some ⟨g, 0, none⟩) ps.length c)).1 1 _ rfl; exact this
  have loc2 := Box.keep loc hp.2 (Ne.symm hwl)
  have hHeld2 := And.intro (Box.cell loc2 0 _ rfl) (Box.cell loc2 1 _ rfl)
  have z0 := Box.cell hp.1 0 _ rfl
  have z1 := Box.cell hp.1 1 _ rfl
  have hKP := K0.1.keep hp.2 (fun e => by injection e with e; have := K0.1.lt; omega) (fun e => by injection e with e; have := K0.1.lt; omega)
  have own2 := Lib.hid (own_base (own_keepOther own hp.2 (by have := (own_lt own).1; omega)) hw2)
  have hBW : Below w.heap.size w ((W1.setCell ⟨w.heap.size, 0, none⟩ (.slice (some ⟨g, 0, none⟩) ps.length c)).setCell ⟨w.heap.size, 1, none⟩ (.slice (some ⟨g2, 0, none⟩) ts.length c2)) := (stepB hB1 D.base hB1.size).grown hp.2 (stepB hB1 D.base hB1.size).size (fun g e => by cases e; exact Nat.le_refl _)
  have HF := Lib.hid (And.intro hKP hBW)
  clear hp hKP hBW loc2
  refine MAny.ready (rs := [4]) (by kernel_rfl) (by simp) ?_
  refine MReady.cons rfl (fun K hK => ?_) MReady.nil
  go_simp
  refine hK.out _ _ (.inr hHeld2) ?_
  clear hK K
  refine MAny.ready (rs := [5]) (by kernel_rfl) (by simp) ?_
  refine MReady.cons rfl (fun K hK => ?_) MReady.nil
  go_simp
  refine hK.out _ _ (.inl rfl) ?_
  clear hK K
  refine MAny.done (by kernel_rfl) ?_ _
  try simp only [List.getElem_toArray, List.getElem_cons_succ, List.getElem_cons_zero]
  go_wp2
  refine bodyPost_ret_by (v := .tuple #[.agg #[.slice (some ⟨g, 0, none⟩) ps.length c, .slice (some ⟨g2, 0, none⟩) ts.length c2], .slice (some ⟨g3, 0, none⟩) ws.length c3]) ?_ rfl ?_
  · simp [results, go_sem, z0, z1]
  · exact ⟨g, g2, c, c2, ps, ts, g3, c3, ws, rfl, HF.out.1.base hw2, hwl3, hwo, own2.out, HF.out.2⟩
set_option maxRecDepth 100000 in
set_option maxHeartbeats 8000000 in
theorem drawAbsentWitnesses_any (cs : Option Addr) (cap : Nat) (bs : List Int) (w : World) (hx : Rd encB w cs bs) (hb : ∀ m ∈ bs, goodB m) (hl : bs.length ≤ 4096) :
    Calls Tryz.prog 23 #[.slice cs bs.length cap] w fun e w' => ∃ (g g2 c c2 : Nat) (ps : List Ps) (ts : List Tm) (g3 c3 : Nat) (ws : List Wt) (n : Int), e = .returned (.tuple #[.agg #[.slice (some ⟨g, 0, none⟩) ps.length c, .slice (some ⟨g2, 0, none⟩) ts.length c2], .slice (some ⟨g3, 0, none⟩) ws.length c3, .int .i64 n]) ∧ PplD w.heap.size w' g g2 c c2 ps ts ∧ ws.length ≤ 13 ∧ (∀ m ∈ ws, okWd m) ∧ w'.ownsRow w.heap.size 110 2 (.slice (some ⟨g3, 0, none⟩) ws.length c3) ws.length (ws.flatMap encWt) ∧ (-1 ≤ n ∧ n ≤ 730500) ∧ Below w.heap.size w w' := by
  have hr1 := Box.new w 48 [.slice none 0 0, .slice none 0 0] w.heap.size (Nat.le_refl _) (by simp)
  have hB1 := belowA w (.cells #[.slice none 0 0, .slice none 0 0] 48)
  generalize hW1 : w.alloc (.cells [.slice none 0 0, .slice none 0 0].toArray 48) = w1 at hr1
  have hW1' : w.alloc (.cells #[.slice none 0 0, .slice none 0 0] 48) = w1 := hW1
  rw [hW1'] at hB1
  have hrl := (Box.lt hr1).2
  have hx1 := hx.below hB1
  go_enter Tryz.func23, Tryz.ntmps23
  go_wp2_with fail

  clear hW1 hW1'
  refine (l01From_any cs cap bs w1 hx1 hb).mono ?_
  rintro e w2 ⟨p, rfl, hs⟩
  have res := Box.below hr1 hs.base
  have hpl := hs.lt
  have hwp : w.heap.size ≠ p := by omega
  have hw2 : w.heap.size ≤ w2.heap.size := by omega
  go_wp2_with fail
  refine (l13Draw_any w1 cs cap bs p w2 hx1 hb hl hs).mono ?_
  rintro e w3 ⟨g, g2, c, c2, ps, ts, rfl, K, hs3, hG⟩
  have res := Box.keep res hG hwp
  have D : Drw w1 cs cap bs p w2 w3 := ⟨hs3, hG, hpl.2⟩
  have K0 : PplK w2.heap.size p w3 g g2 c c2 ps ts := ⟨K, hpl.2⟩
  clear K hs3 hG hr1 hs
  have loc := Box.new w3 48 [.slice (some ⟨g, 0, none⟩) ps.length c, .slice (some ⟨g2, 0, none⟩) ts.length c2] w2.heap.size D.size (by simp)
  have hwl : w.heap.size ≠ w3.heap.size := by have := D.size; omega
  have hBA := belowA w3 (.cells #[.slice (some ⟨g, 0, none⟩) ps.length c, .slice (some ⟨g2, 0, none⟩) ts.length c2] 48)
  have res := Box.below res hBA
  have K0 := K0.below hBA
  have D := D.below hBA
  clear hBA
  go_upto_region 3 with (fail)
  change Code.wp _ _ _ _ (w3.alloc (.cells #[.slice (some ⟨g, 0, none⟩) ps.length c, .slice (some ⟨g2, 0, none⟩) ts.length c2] 48))
  generalize w3.alloc (.cells #[.slice (some ⟨g, 0, none⟩) ps.length c, .slice (some ⟨g2, 0, none⟩) ts.length c2] 48) = w4 at res loc K0 D ⊢
  generalize w3.heap.size = lb at loc hwl ⊢
  have HW := Lib.hid (fun W hs hK => l13DrawWitnesses_any w1 cs cap bs p w2.heap.size g g2 c c2 ps ts W hx1 hb hl hs hK)
  have HD := Lib.hid (fun W hs => l07DrawDay_any w1 cs cap bs p W hx1 hb hl hs)
  refine MAny.region (S := fun w' => w'.cell? ⟨lb, 0, none⟩ = some (.slice (some ⟨g, 0, none⟩) ps.length c) ∧ w'.cell? ⟨lb, 1, none⟩ = some (.slice (some ⟨g2, 0, none⟩) ts.length c2)) (last := 8) (by kernel_rfl) ?_
  have loc := Box.below loc (Below.refl _ w4).drew
  have K0 := K0.below (Below.refl _ w4).drew
  have D := D.below (Below.refl _ w4).drew
  have res := Box.below res (Below.refl _ w4).drew
  generalize w4.drew = W0 at loc K0 D res ⊢
  have hHeld := And.intro (Box.cell loc 0 _ rfl) (Box.cell loc 1 _ rfl)
  refine MAny.take (i := 0) (v := ?_) rfl (by kernel_rfl) (by kernel_rfl) (by kernel_rfl) (fun _ _ _ h => h) (by kernel_rfl) (Or.inl ⟨by rfl, ?_⟩) (by assumption) ?_
  rotate_left
  · (intro w' hSw; (try dsimp only at hSw); go_simp; try (with_reducible rfl))
  try simp only [Act.put, List.setIfInBounds_toArray]
  refine MAny.take (i := 1) (v := ?_) rfl (by kernel_rfl) (by kernel_rfl) (by kernel_rfl) (fun _ _ _ h => h) (by kernel_rfl) (Or.inl ⟨by rfl, ?_⟩) (by assumption) ?_
  rotate_left
  · (intro w' hSw; (try dsimp only at hSw); go_simp; try (with_reducible rfl))
  try simp only [Act.put]
  refine MAny.take (i := 2) (v := ?_) rfl (by kernel_rfl) (by kernel_rfl) (by kernel_rfl) (fun _ _ _ h => h) (by kernel_rfl) (Or.inl ⟨by rfl, ?_⟩) (by assumption) ?_
  rotate_left
  · (intro w' hSw; (try dsimp only at hSw); go_simp; try (with_reducible rfl))
  try simp only [Act.put]
  refine MAny.take (i := 4) (v := ?_) rfl (by kernel_rfl) (by kernel_rfl) (by kernel_rfl) (fun _ _ _ h => h) (by kernel_rfl) (Or.inl ⟨by rfl, ?_⟩) (by assumption) ?_
  rotate_left
  · (intro w' hSw; (try dsimp only at hSw); go_simp; try (with_reducible rfl))
  try simp only [Act.put]
  refine MAny.ready (rs := [3]) (by kernel_rfl) (by simp) ?_
  refine MReady.cons rfl (fun K hK => ?_) MReady.nil
  go_simp
  go_wp2_with (go_at_call 82; refine (HW.out W0 D.src K0).mono ?_; rintro e W1 ⟨g3, c3, ws, rfl, hwl3, hwo, own, hs, hG⟩)
  have res := Box.keep res hG hwp
  have own := own_base own D.size
  have loc := Box.keepA loc hG D.hp
  have K0 := K0.call hG
  have D := D.call hs hG
  clear hs hG
  have hHeld := And.intro (Box.cell loc 0 _ rfl) (Box.cell loc 1 _ rfl)
  refine hK.out _ _ (.inr hHeld) ?_
  clear hK K
  refine MAny.ready (rs := [5]) (by kernel_rfl) (by simp) ?_
  refine MReady.cons rfl (fun K hK => ?_) MReady.nil
  go_simp
  go_wp2_with (go_at_call 88; refine (HD.out W1 D.src).mono ?_; rintro e W2 ⟨n, rfl, hn, hs, hG⟩)
  have res := Box.keep res hG hwp
  have loc := Box.keepA loc hG D.hp
  have K0 := K0.call hG
  have own := own_keepA own hG D.hp
  have D := D.call hs hG
  clear hs hG
  have hHeld := And.intro (Box.cell loc 0 _ rfl) (Box.cell loc 1 _ rfl)
  refine hK.out _ _ (.inr hHeld) ?_
  clear hK K
  have r0 := Box.cell res 0 _ rfl
  have f0 := World.ownsRow.frozenAt res 0
  have r1 := Box.cell res 1 _ rfl
  have f1 := World.ownsRow.frozenAt res 1
  have hp := Box.put2 res (.slice (some ⟨g, 0, none⟩) ps.length c) (.slice (some ⟨g2, 0, none⟩) ts.length c2)
  have y0 : ((W2.setCell ⟨w.heap.size, 0, none⟩ (.slice (some ⟨g, 0, none⟩) ps.length c)).cell? ⟨w.heap.size, 1, none⟩) = some (.slice none 0 0) := by have := Box.cell (Box.put (i := 0) (pre := []) (post := [.slice none 0 0]) res rfl (.slice (some ⟨g, 0, none⟩) ps.length c)).1 1 _ rfl; exact this
  have loc2 := Box.keep loc hp.2 (Ne.symm hwl)
  have hHeld2 := And.intro (Box.cell loc2 0 _ rfl) (Box.cell loc2 1 _ rfl)
  have z0 := Box.cell hp.1 0 _ rfl
  have z1 := Box.cell hp.1 1 _ rfl
  have hKP := K0.1.keep hp.2 (fun e => by injection e with e; have := K0.1.lt; omega) (fun e => by injection e with e; have := K0.1.lt; omega)
  have own2 := Lib.hid (own_base (own_keepOther own hp.2 (by have := (own_lt own).1; omega)) hw2)
  have hBW : Below w.heap.size w ((W2.setCell ⟨w.heap.size, 0, none⟩ (.slice (some ⟨g, 0, none⟩) ps.length c)).setCell ⟨w.heap.size, 1, none⟩ (.slice (some ⟨g2, 0, none⟩) ts.length c2)) := (stepB hB1 D.base hB1.size).grown hp.2 (stepB hB1 D.base hB1.size).size (fun g e => by cases e; exact Nat.le_refl _)
  have HF := Lib.hid (And.intro hKP hBW)
  clear hp hKP hBW loc2
  refine MAny.ready (rs := [6]) (by kernel_rfl) (by simp) ?_
  refine MReady.cons rfl (fun K hK => ?_) MReady.nil
  go_simp
  refine hK.out _ _ (.inr hHeld2) ?_
  clear hK K
  refine MAny.ready (rs := [7]) (by kernel_rfl) (by simp) ?_
  refine MReady.cons rfl (fun K hK => ?_) MReady.nil
  go_simp
  refine hK.out _ _ (.inr hHeld2) ?_
  clear hK K
  refine MAny.ready (rs := [8]) (by kernel_rfl) (by simp) ?_
  refine MReady.cons rfl (fun K hK => ?_) MReady.nil
  go_simp
  refine hK.out _ _ (.inl rfl) ?_
  clear hK K
  refine MAny.done (by kernel_rfl) ?_ _
  try simp only [List.getElem_toArray, List.getElem_cons_succ, List.getElem_cons_zero]
  go_wp2
  refine bodyPost_ret_by (v := .tuple #[.agg #[.slice (some ⟨g, 0, none⟩) ps.length c, .slice (some ⟨g2, 0, none⟩) ts.length c2], .slice (some ⟨g3, 0, none⟩) ws.length c3, .int .i64 n]) ?_ rfl ?_
  · simp [results, go_sem, z0, z1]
  · exact ⟨g, g2, c, c2, ps, ts, g3, c3, ws, n, rfl, HF.out.1.base hw2, hwl3, hwo, own2.out, hn, HF.out.2⟩
end Go.Proofs.YtdebmijlipkoeaaGreatDoor
