/- Walks: SharedDays. Printed by gen_shared.py. -/
import Derived.Test.YtmjbigeeokofeaaGreatDoorRSp
import Derived.Deep.AppendLies
import Derived.Test.YtmjbigeeokofeaaGreatDoorOffice
namespace Go.Proofs.YtmjbigeeokofeaaGreatDoor
section
open Go.ChangeShapes Go.WideShapes Go.ChangeAt Go.RowKit

section
variable {P : Program} (w : World)
theorem run_append_any (t ty : TypeId) (base : Nat) (e : TypeId) (i : TypeInfo) (z : Value) (size bytes : Nat) (ht : P.underlying t = some (.slice e)) (hi : P.info? e = some i) (hz : i.zero = some z)
    (hsize : i.size = size) (hby : i.bytes = bytes) (hzs : z.cells.size = size) (hsz : 0 < size)
    (g0 c0 : Nat) (n : Nat) (xs : List Value) (hown : w.ownsRow base e size (.slice (some ⟨g0, 0, none⟩) n c0) n xs)
    (ad : Addr) (m c : Nat) (news : List Value) (hl : news.length = m * size) (hnews : ∀ j u, news[j]? = some u → w.cell? (ad.add j) = some u) (h1 : ∀ u ∈ news, u.oneCell' = true)
    (h63 : n + m ≤ maxLen) (hbytes : (n + m) * bytes ≤ 140737488355328) (hbase : base ≤ w.heap.size) :
    ∃ g cap w', (Builtin.append_ #[t, t] ty #[.slice (some ⟨g0, 0, none⟩) n c0, .slice (some ad) m c]).run P w = .ok (.slice (some ⟨g, 0, none⟩) (n + m) cap) w' ∧
      w'.ownsRow base e size (.slice (some ⟨g, 0, none⟩) (n + m) cap) (n + m) (xs ++ news) ∧ w.grownBy w' (some g0) ∧ (g = g0 ∨ g = w.heap.size) := by
  obtain ⟨v', w', hr, h2, h3, h4, h5⟩ := run_append_own_at (P := P) w base t ty e i z size bytes ht hi hz hsize hby hzs hsz (.slice (some ⟨g0, 0, none⟩) n c0) n xs hown ad m c news hl hnews h1 h63 hbytes hbase
  rcases h2.2 with ⟨h0, _⟩ | ⟨g, cap, cur, rfl, _⟩
  · have := (h4.1 h0).1
    cases this
  · refine ⟨g, cap, w', hr, h2, h3, ?_⟩
    rcases h5 with h5 | h5
    · exact .inl (by simpa [Value.ownBlock] using h5)
    · exact .inr (by simpa [Value.ownBlock] using h5)
theorem step_append_any {ops : Array Oper} {o : Oper} {a : Act} {K : Act → World → Prop} {Q : Exit → Act → World → Prop} {E : Prop} (hgd : o.guard = none) (s x : Operand) (t : TypeId)
    (ho : o.op = .call { callee := .builtin .append, args := #[s, x], argTypes := #[t, t] })
    (base : Nat) (e : TypeId) (i : TypeInfo) (z : Value) (size bytes : Nat) (ht : P.underlying t = some (.slice e)) (hi : P.info? e = some i) (hz : i.zero = some z)
    (hsize : i.size = size) (hby : i.bytes = bytes) (hzs : z.cells.size = size) (hsz : 0 < size)
    (g0 c0 : Nat) (n : Nat) (xs : List Value) (hs : a.eval s = .slice (some ⟨g0, 0, none⟩) n c0) (hown : w.ownsRow base e size (.slice (some ⟨g0, 0, none⟩) n c0) n xs)
    (ad : Addr) (m c : Nat) (news : List Value) (hx : a.eval x = .slice (some ad) m c) (hl : news.length = m * size) (hnews : ∀ j u, news[j]? = some u → w.cell? (ad.add j) = some u) (h1 : ∀ u ∈ news, u.oneCell' = true)
    (h63 : n + m ≤ maxLen) (hbytes : (n + m) * bytes ≤ 140737488355328) (hbase : base ≤ w.heap.size)
    (h : ∀ g cap w', w'.ownsRow base e size (.slice (some ⟨g, 0, none⟩) (n + m) cap) (n + m) (xs ++ news) → w.grownBy w' (some g0) → (g = g0 ∨ g = w.heap.size) → K (a.put o.dst (.slice (some ⟨g, 0, none⟩) (n + m) cap)) w') :
    if Region.wanted o (yielded ops a.tmps) = true then Oper.wp P o a w K Q else E := by
  have hw : Region.wanted o (yielded ops a.tmps) = true := by simp [Region.wanted, hgd]
  rw [if_pos hw]
  obtain ⟨g, cap, w', hr, h2, h3, h4⟩ := run_append_any (P := P) w t o.type base e i z size bytes ht hi hz hsize hby hzs hsz g0 c0 n xs hown ad m c news hl hnews h1 h63 hbytes hbase
  unfold Oper.wp execOp
  simp only [ho, resolve, invoke, builtin, Sem.run_bind, Sem.run_pure, Result.andThen_ok, List.map_toArray, List.map_cons, List.map_nil, hs, hx, hr]
  exact h g cap w' h2 h3 h4
end
theorem rd_sub {w : World} {base : Nat} {E : TypeId} {g n cap : Nat} {xs : List Sp} (h : w.ownsRow base E 2 (.slice (some ⟨g, 0, none⟩) n cap) n (xs.flatMap encSp)) {i : Nat} {a : Sp} (ha : xs[i]? = some a) : Rd encSp w (some ⟨g, i * 2, none⟩) [a] := by
  have c0 := own_at encSp_len h ha (j := 0) rfl
  have c1 := own_at encSp_len h ha (j := 1) rfl
  intro q x hq
  refine ⟨g, i * 2, rfl, (own_lt h).2, fun j v hv => ?_⟩
  match q, hq with
  | 0, hq =>
    cases hq
    match j, hv with
    | 0, hv => cases hv; exact c0
    | 1, hv => cases hv; exact c1
end

section
open Go.ChangeShapes Go.WideShapes Go.ChangeAt Go.RowKit

def sharedR (ps : List Ps) (ts : List Tm) (o : ByteArray) : List Sp × Int :=
  if isPeopleB ps ts then (uni (shAll (tsp (isO o) ts) (tsp (isO o) ts).length), 0) else ([], 1)
theorem sharedR_len (ps : List Ps) (ts : List Tm) (o : ByteArray) : (sharedR ps ts o).1.length ≤ 1048576 := by
  unfold sharedR
  split
  · rename_i h
    have h1 := uni_len (shAll (tsp (isO o) ts) (tsp (isO o) ts).length)
    have h2 := tsp_len (isO o) ts
    have h0 := (people_bd h).2
    have h3 := shAll_len (tsp (isO o) ts) (tsp (isO o) ts).length (by omega)
    show (uni (shAll (tsp (isO o) ts) (tsp (isO o) ts).length)).length ≤ 1048576
    omega
  · simp

set_option maxRecDepth 100000 in
set_option maxHeartbeats 4000000 in
theorem specShared_any (a0 a1 : Option Addr) (cap0 cap1 : Nat) (xs0 : List Ps) (xs1 : List Tm) (o : ByteArray) (w : World) (hl0 : xs0.length ≤ 1048576) (hx0 : Rd encPs w a0 xs0) (hs0 : ∀ m ∈ xs0, szPs m ≤ 1048576) (hl1 : xs1.length ≤ 1048576) (hx1 : Rd encTm w a1 xs1) (hs1 : ∀ m ∈ xs1, szTm m ≤ 1048576) :
    Calls Tryz.prog 23 #[.agg #[.slice a0 xs0.length cap0, .slice a1 xs1.length cap1], .string o] w fun e w' => ∃ b c, e = .returned (.tuple #[.slice b (sharedR xs0 xs1 o).1.length c, .int .i64 (sharedR xs0 xs1 o).2]) ∧
      w'.ownsRow w.heap.size 64 2 (.slice b (sharedR xs0 xs1 o).1.length c) (sharedR xs0 xs1 o).1.length ((sharedR xs0 xs1 o).1.flatMap encSp) ∧ Below w.heap.size w w' := by
  have hA0 : At w [.slice a0 xs0.length cap0, .slice a1 xs1.length cap1] (w.alloc (.cells #[.slice a0 xs0.length cap0, .slice a1 xs1.length cap1] 48)) := At.start _ _ _
  have HM := Lib.hid (fun W (hAt : At w [.slice a0 xs0.length cap0, .slice a1 xs1.length cap1] W) => specIsPeople_any a0 a1 cap0 cap1 xs0 xs1 W hl0 (hx0.below hAt.below) hs0 hl1 (hx1.below hAt.below) hs1)
  cases hA : isPeopleB xs0 xs1
  · have HM := Lib.hid (fun W h => hA ▸ HM.out W h)
    have hR : Hid (sharedR xs0 xs1 o = ([], 1)) := by unfold Hid sharedR; rw [hA]; rfl
    clear hA
    go_enter Tryz.func23, Tryz.ntmps23
    go_wp2_with fail
    refine (HM.out _ hA0).mono ?_
    rintro e w1 ⟨rfl, hB1⟩
    go_wp2
    go_ret2
    rw [hR.out]
    exact ⟨none, 0, rfl, World.ownsRow_nil _ _ _ _, (hA0.step hB1).below⟩
  · have HM := Lib.hid (fun W h => hA ▸ HM.out W h)
    obtain ⟨i0, hi, hz0, hz1, hz2⟩ := info_parts infoSp
    have hbd := people_bd hA
    have hok := tsp_ok hA (isO o)
    have HT := Lib.hid (fun W (hAt : At w [.slice a0 xs0.length cap0, .slice a1 xs1.length cap1] W) => l13Spans_any a0 a1 cap0 cap1 xs0 xs1 o W (by omega) (hx1.below hAt.below))
    have hlt := tsp_len (isO o) xs1
    have hR : Hid (sharedR xs0 xs1 o = (uni (shAll (tsp (isO o) xs1) (tsp (isO o) xs1).length), 0)) := by unfold Hid sharedR; rw [if_pos hA]
    generalize tsp (isO o) xs1 = ts at HT hR hlt hok
    have hl60 : ts.length ≤ 60 := by omega
    clear hA hbd hlt
    have HU := Lib.hid (fun (ys : List Sp) (hy : ys.length ≤ 3600) (ho : ∀ s ∈ ys, OkSp 0 730499 s) g cap W (h : Rd encSp W (some ⟨g, 0, none⟩) ys) => l02Make_any (some ⟨g, 0, none⟩) cap _ ys W rfl (by omega) h ho)
    go_enter Tryz.func23, Tryz.ntmps23
    go_wp2_with fail
    refine (HM.out _ hA0).mono ?_
    rintro e w1 ⟨rfl, hB1⟩
    have hA1 := hA0.step hB1
    have b0 := hA1.cell 0 _ rfl
    have b1 := hA1.cell 1 _ rfl
    clear hA0 hB1 HM
    go_wp2_with fail
    refine (HT.out _ hA1).mono ?_
    rintro e w2 ⟨gs, cs, rfl, ho2, hB2⟩
    have hA2 := hA1.step hB2
    have hBo := (Below.refl _ w2).alloc (Nat.le_refl _) (.cells #[] 64)
    have hso := own_base (own_below ho2 hBo) hA1.below.size
    have hown0 := World.ownsRow_made w2 #[] 0 (show w.heap.size + 1 ≤ w2.heap.size from hA2.size) (by decide) rfl (e := 64) (size := 2)
    have hne0 : w2.heap.size ≠ gs := Nat.ne_of_gt (own_lt ho2).2
    have hA3 := hA2.step hBo
    clear HT hA1 hA2 b0 b1 hB2 ho2 hBo
    go_wp2
    go_loopw [7, 8] (fun s i wr => ∃ (k g c : Nat) (out : List Sp), k ≤ ts.length ∧ i = .int .i64 k ∧ s = .slice (some ⟨g, 0, none⟩) out.length c ∧ g ≠ gs ∧ wr.ownsRow (w.heap.size + 1) 64 2 (.slice (some ⟨g, 0, none⟩) out.length c) out.length (out.flatMap encSp) ∧ wr.ownsRow w.heap.size 64 2 (.slice (some ⟨gs, 0, none⟩) ts.length cs) ts.length (ts.flatMap encSp) ∧ At w [.slice a0 xs0.length cap0, .slice a1 xs1.length cap1] wr ∧ Hid (shAll ts k = out)) (fun _ i _ => ts.length - (intOf i).toNat)
    case atStart => exact ⟨0, _, _, [], Nat.zero_le _, rfl, rfl, hne0, hown0, hso, hA3, rfl⟩
    case round =>
      clear hown0 hso hA3 hne0
      obtain ⟨i, g, c, out, hi1, rfl, rfl, hne, hown, hso, hAt, hM⟩ := hrel
      by_cases hlt : i < ts.length
      · have ha := List.getElem?_eq_getElem hlt
        generalize ts[i] = a at ha
        have hk1 : (i : Int) < (ts.length : Int) := by omega
        have hal := shAll_len ts i (by omega)
        rw [hM.out] at hal
        go_wp2
        go_loopw [7, 9] (fun s q wr => ∃ (k g c : Nat) (out : List Sp), k ≤ i ∧ q = .int .i64 k ∧ s = .slice (some ⟨g, 0, none⟩) out.length c ∧ g ≠ gs ∧ wr.ownsRow (w.heap.size + 1) 64 2 (.slice (some ⟨g, 0, none⟩) out.length c) out.length (out.flatMap encSp) ∧ wr.ownsRow w.heap.size 64 2 (.slice (some ⟨gs, 0, none⟩) ts.length cs) ts.length (ts.flatMap encSp) ∧ At w [.slice a0 xs0.length cap0, .slice a1 xs1.length cap1] wr ∧ Hid (shAll ts i ++ shIn ts i k = out) ∧ out.length ≤ i * 60 + k) (fun _ q _ => i - (intOf q).toNat)
        case atStart => exact ⟨0, g, c, out, Nat.zero_le _, rfl, rfl, hne, hown, hso, hAt, by unfold Hid; rw [hM.out]; simp [shIn], by omega⟩
        case round =>
          clear hown hso hAt hne hM
          obtain ⟨k, g, c, out, hk, rfl, rfl, hne, hown, hso, hAt, hM, hlo⟩ := hrel
          by_cases hlt2 : k < i
          · have hb := List.getElem?_eq_getElem (show k < ts.length by omega)
            generalize ts[k] = b at hb
            have hk2 : (k : Int) < (i : Int) := by omega
            have hk3 : (k : Int) < (ts.length : Int) := by omega
            have hst : Hid (shAll ts i ++ shIn ts i (k + 1) = out ++ shC a b) := by unfold Hid; rw [show shIn ts i (k + 1) = shIn ts i k ++ shAt ts i k from rfl, shAt_at ha hb, ← List.append_assoc, hM.out]
            have hgs := own_lt hso
            have hgo := own_lt hown
            clear hM
            have c0 := own_at encSp_len hso ha (j := 0) rfl
            have c1 := own_at encSp_len hso ha (j := 1) rfl
            have d0 := own_at encSp_len hso hb (j := 0) rfl
            have d1 := own_at encSp_len hso hb (j := 1) rfl
            rw [Nat.add_zero] at c0 d0
            go_upto_region 11 with (fail)
            go_cut [10] from 29 to 51 (fun s8 wx => s8 = .pointer (some ⟨wr.heap.size, 0, none⟩) ∧ Below wr.heap.size wr wx ∧ wx.cell? ⟨wr.heap.size, 0, none⟩ = some (.int .i64 (max a.fr b.fr)) ∧ wx.cell? ⟨wr.heap.size, 1, none⟩ = some (.int .i64 (min a.to b.to)))
            case first =>
              go_region
              go_wp2_with fail
              go_meet
              exact ⟨rfl, ((Below.refl _ wr).alloc (Nat.le_refl _) _).drew, (show (wr.alloc _).cell? _ = _ from World.cell?_alloc_at _ _ _ _ rfl), (show (wr.alloc _).cell? _ = _ from World.cell?_alloc_at _ _ _ _ rfl)⟩
            case rest =>
              obtain ⟨rfl, hBW, s0, s1⟩ := hcut
              generalize wc = w9 at hBW s0 s1 ⊢
              have hown := own_below hown hBW
              have hso := own_below hso hBW
              have hAt := hAt.step hBW
              have hgo := own_lt hown
              have hgs := own_lt hso
              clear hBW c0 c1 d0 d1
              by_cases h1 : max a.fr b.fr ≤ min a.to b.to
              · have hst : Hid (shAll ts i ++ shIn ts i (k + 1) = out ++ [⟨max a.fr b.fr, min a.to b.to⟩]) := by unfold Hid; rw [hst.out]; unfold shC; rw [if_pos h1]
                go_wp2_with (at_builtin; refine wpList_append_lies _ rfl _ _ 38 rfl (w.heap.size + 1) 64 i0 (.agg #[.int .i64 0, .int .i64 0]) 2 16 Tryz.underlying38 hi hz0 hz1 hz2 rfl (by decide) _ _ _ rfl (hown.alloc _) ⟨w9.heap.size, 0, none⟩ 1 1 [.int .i64 (max a.fr b.fr), .int .i64 (min a.to b.to)] rfl rfl (cell_two_new _ _ _ _) ?c2 (by decide) ?c3 ?c4 ?c5 _ rfl ?_)
                case c2 => first | exact ⟨rfl, rfl⟩ | rfl | (intro u hu; simp at hu; rcases hu with rfl | rfl <;> rfl) | (intro u hu; simp at hu; subst hu; rfl)
                case c3 => unfold maxLen; omega
                case c4 => omega
                case c5 => have := hAt.size; first | omega | (simp; omega)
                intro g' c' w4 hown' hgr hat _
                have hA4 := (hAt.step ((Below.refl _ w9).alloc (Nat.le_refl _) (.cells #[.int .i64 (max a.fr b.fr), .int .i64 (min a.to b.to)] 64))).grown hgr (fun x hx => (hown.lt x hx).1)
                have hso' := own_keepOther (hso.alloc _) hgr (fun e => hne e.symm)
                have hne' : g' ≠ gs := by
                  rcases hat with h | h
                  · have : g = g' := by simpa [Value.ownBlock] using h
                    omega
                  · omega
                clear hgr hown hAt hso hat
                go_wp2
                go_roundw
                case rel => exact ⟨k + 1, g', c', out ++ [⟨max a.fr b.fr, min a.to b.to⟩], by omega, by go_num, by rw [List.length_append]; rfl, hne', by rw [List.length_append, List.flatMap_append]; exact hown', hso', hA4, hst, by simp; omega⟩
                case measure => simp [intOf]; omega
              · have hst : Hid (shAll ts i ++ shIn ts i (k + 1) = out) := by unfold Hid; rw [hst.out]; unfold shC; rw [if_neg h1, List.append_nil]
                go_wp2
                go_roundw
                case rel => exact ⟨k + 1, g, c, out, by omega, by go_num, rfl, hne, hown, hso, hAt, hst, by omega⟩
                case measure => simp [intOf]; omega
          · obtain rfl : k = i := by omega
            have hM : Hid (shAll ts (k + 1) = out) := by unfold Hid; rw [← hM.out]; rfl
            go_wp2
            go_roundw
            case rel => exact ⟨k + 1, g, c, out, by omega, by go_num, rfl, hne, hown, hso, hAt, hM⟩
            case measure => simp [intOf]; omega
      · obtain rfl : i = ts.length := by omega
        have hal := shAll_len ts ts.length hl60
        have hoa := shAll_ok hok ts.length
        rw [hM.out] at hal hoa
        have HU := Lib.hid (HU.out out (by omega) hoa)
        have hrd := Rd.of_own encSp_len (by decide) hown
        go_wp2_with fail
        refine (HU.out _ _ _ hrd).mono ?_
        rintro e w5 ⟨g5, c5, rfl, ho5, hB5⟩
        go_wp2
        go_ret2
        rw [hR.out, hM.out]
        exact ⟨_, _, rfl, own_base ho5 hAt.below.size, (hAt.step hB5).below⟩

set_option maxRecDepth 100000 in
set_option maxHeartbeats 4000000 in
theorem implShared_any (a0 a1 : Option Addr) (cap0 cap1 : Nat) (xs0 : List Ps) (xs1 : List Tm) (o : ByteArray) (w : World) (hl0 : xs0.length ≤ 1048576) (hx0 : Rd encPs w a0 xs0) (hs0 : ∀ m ∈ xs0, szPs m ≤ 1048576) (hl1 : xs1.length ≤ 1048576) (hx1 : Rd encTm w a1 xs1) (hs1 : ∀ m ∈ xs1, szTm m ≤ 1048576) :
    Calls Tryz.prog 22 #[.agg #[.slice a0 xs0.length cap0, .slice a1 xs1.length cap1], .string o] w fun e w' => ∃ b c, e = .returned (.tuple #[.slice b (sharedR xs0 xs1 o).1.length c, .int .i64 (sharedR xs0 xs1 o).2]) ∧
      w'.ownsRow w.heap.size 64 2 (.slice b (sharedR xs0 xs1 o).1.length c) (sharedR xs0 xs1 o).1.length ((sharedR xs0 xs1 o).1.flatMap encSp) ∧ Below w.heap.size w w' := by
  have hA0 : At w [.slice a0 xs0.length cap0, .slice a1 xs1.length cap1] (w.alloc (.cells #[.slice a0 xs0.length cap0, .slice a1 xs1.length cap1] 48)) := At.start _ _ _
  have HM := Lib.hid (fun W (hAt : At w [.slice a0 xs0.length cap0, .slice a1 xs1.length cap1] W) => implIsPeople_any a0 a1 cap0 cap1 xs0 xs1 W hl0 (hx0.below hAt.below) hs0 hl1 (hx1.below hAt.below) hs1)
  cases hA : isPeopleB xs0 xs1
  · have HM := Lib.hid (fun W h => hA ▸ HM.out W h)
    have hR : Hid (sharedR xs0 xs1 o = ([], 1)) := by unfold Hid sharedR; rw [hA]; rfl
    clear hA
    go_enter Tryz.func22, Tryz.ntmps22
    go_wp2_with fail
    refine (HM.out _ hA0).mono ?_
    rintro e w1 ⟨rfl, hB1⟩
    go_wp2
    go_ret2
    rw [hR.out]
    exact ⟨none, 0, rfl, World.ownsRow_nil _ _ _ _, (hA0.step hB1).below⟩
  · have HM := Lib.hid (fun W h => hA ▸ HM.out W h)
    obtain ⟨i0, hi, hz0, hz1, hz2⟩ := info_parts infoSp
    have hbd := people_bd hA
    have hok := tsp_ok hA (isT o ⟨#[]⟩)
    have HT := Lib.hid (fun W (hAt : At w [.slice a0 xs0.length cap0, .slice a1 xs1.length cap1] W) => termsOf_any a0 a1 cap0 cap1 xs0 xs1 o ⟨#[]⟩ W (by omega) (hx1.below hAt.below))
    have hlt := tsp_len (isT o ⟨#[]⟩) xs1
    have hR : Hid (sharedR xs0 xs1 o = (uni (shAll (tsp (isT o ⟨#[]⟩) xs1) (tsp (isT o ⟨#[]⟩) xs1).length), 0)) := by unfold Hid sharedR; rw [if_pos hA, isT_none (ByteArray.toList_eq _)]
    generalize tsp (isT o ⟨#[]⟩) xs1 = ts at HT hR hlt hok
    have hl60 : ts.length ≤ 60 := by omega
    clear hA hbd hlt
    have HU := Lib.hid (fun (ys : List Sp) (hy : ys.length ≤ 3600) (ho : ∀ s ∈ ys, OkSp 0 730499 s) g cap W (h : Rd encSp W (some ⟨g, 0, none⟩) ys) => united_any g 0 cap _ ys W rfl (by omega) h ho)
    go_enter Tryz.func22, Tryz.ntmps22
    go_wp2_with fail
    refine (HM.out _ hA0).mono ?_
    rintro e w1 ⟨rfl, hB1⟩
    have hA1 := hA0.step hB1
    have b0 := hA1.cell 0 _ rfl
    have b1 := hA1.cell 1 _ rfl
    clear hA0 hB1 HM
    go_wp2_with fail
    refine (HT.out _ hA1).mono ?_
    rintro e w2 ⟨gs, cs, rfl, ho2, hB2⟩
    have hA2 := hA1.step hB2
    have hBo := (Below.refl _ w2).alloc (Nat.le_refl _) (.cells #[] 64)
    have hso := own_base (own_below ho2 hBo) hA1.below.size
    have hown0 := World.ownsRow_made w2 #[] 0 (show w.heap.size + 1 ≤ w2.heap.size from hA2.size) (by decide) rfl (e := 64) (size := 2)
    have hne0 : w2.heap.size ≠ gs := Nat.ne_of_gt (own_lt ho2).2
    have hA3 := hA2.step hBo
    clear HT hA1 hA2 b0 b1 hB2 ho2 hBo
    go_wp2
    go_loopw [7, 19] (fun s i wr => ∃ (k g c : Nat) (out : List Sp), k ≤ ts.length ∧ i = .int .i64 k ∧ s = .slice (some ⟨g, 0, none⟩) out.length c ∧ g ≠ gs ∧ wr.ownsRow (w.heap.size + 1) 64 2 (.slice (some ⟨g, 0, none⟩) out.length c) out.length (out.flatMap encSp) ∧ wr.ownsRow w.heap.size 64 2 (.slice (some ⟨gs, 0, none⟩) ts.length cs) ts.length (ts.flatMap encSp) ∧ At w [.slice a0 xs0.length cap0, .slice a1 xs1.length cap1] wr ∧ Hid (shAll ts k = out)) (fun _ i _ => ts.length - (intOf i).toNat)
    case atStart => exact ⟨0, _, _, [], Nat.zero_le _, rfl, rfl, hne0, hown0, hso, hA3, rfl⟩
    case round =>
      clear hown0 hso hA3 hne0
      obtain ⟨i, g, c, out, hi1, rfl, rfl, hne, hown, hso, hAt, hM⟩ := hrel
      by_cases hlt : i < ts.length
      · have ha := List.getElem?_eq_getElem hlt
        generalize ts[i] = a at ha
        have hk1 : (i : Int) < (ts.length : Int) := by omega
        have hal := shAll_len ts i (by omega)
        rw [hM.out] at hal
        go_wp2
        go_loopw [7, 23] (fun s q wr => ∃ (k g c : Nat) (out : List Sp), k ≤ i ∧ q = .int .i64 k ∧ s = .slice (some ⟨g, 0, none⟩) out.length c ∧ g ≠ gs ∧ wr.ownsRow (w.heap.size + 1) 64 2 (.slice (some ⟨g, 0, none⟩) out.length c) out.length (out.flatMap encSp) ∧ wr.ownsRow w.heap.size 64 2 (.slice (some ⟨gs, 0, none⟩) ts.length cs) ts.length (ts.flatMap encSp) ∧ At w [.slice a0 xs0.length cap0, .slice a1 xs1.length cap1] wr ∧ Hid (shAll ts i ++ shIn ts i k = out) ∧ out.length ≤ i * 60 + k) (fun _ q _ => i - (intOf q).toNat)
        case atStart => exact ⟨0, g, c, out, Nat.zero_le _, rfl, rfl, hne, hown, hso, hAt, by unfold Hid; rw [hM.out]; simp [shIn], by omega⟩
        case round =>
          clear hown hso hAt hne hM
          obtain ⟨k, g, c, out, hk, rfl, rfl, hne, hown, hso, hAt, hM, hlo⟩ := hrel
          by_cases hlt2 : k < i
          · have hb := List.getElem?_eq_getElem (show k < ts.length by omega)
            generalize ts[k] = b at hb
            have hk2 : (k : Int) < (i : Int) := by omega
            have hk3 : (k : Int) < (ts.length : Int) := by omega
            have hst : Hid (shAll ts i ++ shIn ts i (k + 1) = out ++ shC a b) := by unfold Hid; rw [show shIn ts i (k + 1) = shIn ts i k ++ shAt ts i k from rfl, shAt_at ha hb, ← List.append_assoc, hM.out]
            have hgs := own_lt hso
            have hgo := own_lt hown
            clear hM
            have ra := rd_sub hso ha
            have rb := rd_sub hso hb
            have HMT := Lib.hid (fun ca cb W (h1 : Rd encSp W (some ⟨gs, i * 2, none⟩) [a]) (h2 : Rd encSp W (some ⟨gs, k * 2, none⟩) [b]) => met_one a b ▸ met_any (some ⟨gs, i * 2, none⟩) (some ⟨gs, k * 2, none⟩) ca cb 1 1 [a] [b] W rfl rfl (by omega) (by omega) h1 h2)
            have hcl := shC_len a b
            have hcs : ts.length ≤ cs ∧ cs ≤ 9223372036854775807 := by
              rcases hso.2 with ⟨h, _⟩ | ⟨_, cap, _, e, _, _, h1, h2, _⟩
              · cases h
              · cases e; unfold maxLen at h2; omega
            generalize shC a b = nw at hst HMT hcl
            have hs1 : IntKind.i64.wrap ((i : Int) + 1) = ((i + 1 : Nat) : Int) := by rw [IntKind.wrap_i64]; omega
            have hs2 : IntKind.i64.wrap ((k : Int) + 1) = ((k + 1 : Nat) : Int) := by rw [IntKind.wrap_i64]; omega
            have hz : Below wr.heap.size wr wr.drew := (Below.refl _ wr).drew
            go_wp2_with fail
            go_region_held_law (fun _ => True) (trivial) (first | (go_at_call 83; refine (HMT.out _ _ _ (ra.below hz) (rb.below hz)).mono ?_; rintro e w6 ⟨g6, c6, rfl, ho6, hB6⟩) | (refine step_append_any _ (by rfl) (.tmp 26) (.tmp 37) 38 (by rfl) (w.heap.size + 1) 64 i0 (.agg #[.int .i64 0, .int .i64 0]) 2 16 Tryz.underlying38 hi hz0 hz1 hz2 rfl (by decide) g c out.length (out.flatMap encSp) (by rfl) (own_below (own_below hown hz) hB6) ⟨g6, 0, none⟩ nw.length c6 (nw.flatMap encSp) (by rfl) (length_flatMap_enc encSp 2 encSp_len nw) (fun j u hu => by have := rd_cells encSp_len (by decide) (Rd.of_own encSp_len (by decide) ho6) j u hu; rw [Nat.zero_add] at this; rw [Addr.add_lit, Nat.zero_add]; exact this) (fun u hu => by obtain ⟨m, _, hm⟩ := List.mem_flatMap.1 hu; simp [encSp] at hm; rcases hm with rfl | rfl <;> rfl) (by unfold maxLen; omega) (by omega) (Nat.le_trans (show w.heap.size + 1 ≤ wr.heap.size from hAt.size) (Nat.le_trans hz.size hB6.size)) ?_; intro g' c' w4 hown' hgr hat) | fail)
            all_goals (
              have hz6 : Below wr.heap.size wr w6 := stepB hz hB6 (Nat.le_refl _)
              have hso' := own_keepOther (own_below hso hz6) hgr hne.symm
              have hA4 := (hAt.step hz6).grown hgr (fun x hx => by cases hx; exact hgo.1)
              have hne' : g' ≠ gs := by
                rcases hat with h | h
                · omega
                · have := hz6.size
                  omega
              go_wp2
              go_roundw
              case rel => exact ⟨k + 1, g', c', out ++ nw, by omega, by go_num, by rw [List.length_append], hne', by rw [List.length_append, List.flatMap_append]; exact hown', hso', hA4, hst, by simp; omega⟩
              case measure => simp [intOf]; omega)
          · obtain rfl : k = i := by omega
            have hM : Hid (shAll ts (k + 1) = out) := by unfold Hid; rw [← hM.out]; rfl
            go_wp2
            go_roundw
            case rel => exact ⟨k + 1, g, c, out, by omega, by go_num, rfl, hne, hown, hso, hAt, hM⟩
            case measure => simp [intOf]; omega
      · obtain rfl : i = ts.length := by omega
        have hal := shAll_len ts ts.length hl60
        have hoa := shAll_ok hok ts.length
        rw [hM.out] at hal hoa
        have HU := Lib.hid (HU.out out (by omega) hoa)
        have hrd := Rd.of_own encSp_len (by decide) hown
        go_wp2_with fail
        refine (HU.out _ _ _ hrd).mono ?_
        rintro e w5 ⟨g5, c5, rfl, ho5, hB5⟩
        go_wp2
        go_ret2
        rw [hR.out, hM.out]
        exact ⟨_, _, rfl, own_base ho5 hAt.below.size, (hAt.step hB5).below⟩
end
end Go.Proofs.YtmjbigeeokofeaaGreatDoor
