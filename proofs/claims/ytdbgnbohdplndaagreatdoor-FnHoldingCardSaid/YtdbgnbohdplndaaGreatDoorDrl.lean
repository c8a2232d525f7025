/- Walks: a list of reigns is drawn. Printed by gen_drl.py. -/
import Derived.Test.YtdbgnbohdplndaaGreatDoorDrg
import Derived.Test.YtdbgnbohdplndaaGreatDoorSpRow
import Derived.Deep.RegionHeldLaw
namespace Go.Proofs.YtdbgnbohdplndaaGreatDoor
open Go.ChangeShapes Go.WideShapes Go.ChangeAt Go.RowKit Go.IntWalk

theorem swap_split {α : Type} {ys : List α} {b : Nat} (h : b + 1 < ys.length) : ∃ pre q m post, ys = pre ++ q :: m :: post ∧ pre.length = b := by
  refine ⟨ys.take b, ys[b], ys[b + 1], ys.drop (b + 2), ?_, by simp; omega⟩
  rw [← List.drop_eq_getElem_cons, ← List.drop_eq_getElem_cons, List.take_append_drop]
theorem own_swap {w : World} {B g n c b : Nat} {pre post : List Rg} {q m : Rg} (h : w.ownsRow B 119 3 (.slice (some ⟨g, 0, none⟩) n c) n ((pre ++ q :: m :: post).flatMap encRg)) (hb : pre.length = b) :
    ((w.setCells g (b * 3) (encRg m)).setCells g ((b + 1) * 3) (encRg q)).ownsRow B 119 3 (.slice (some ⟨g, 0, none⟩) n c) n ((pre ++ m :: q :: post).flatMap encRg) ∧ w.grownBy ((w.setCells g (b * 3) (encRg m)).setCells g ((b + 1) * 3) (encRg q)) (some g) ∧
    (w.setCells g (b * 3) (encRg m)).ownsRow B 119 3 (.slice (some ⟨g, 0, none⟩) n c) n ((pre ++ m :: m :: post).flatMap encRg) := by
  have h1 := own_putRow encRg_len h hb.symm m
  have h2 := own_putRow (pre := pre ++ [m]) (x := m) (post := post) encRg_len (by simpa using h1.1) (i := b + 1) (by simp [hb]) q
  exact ⟨by simpa using h2.1, gT h1.2 h2.2, h1.1⟩
set_option maxRecDepth 100000 in
set_option maxHeartbeats 8000000 in
theorem l07Draw_any (w0 : World) (cs : Option Addr) (cap : Nat) (bs : List Int) (p : Nat) (w : World) (hx : Rd encB w0 cs bs) (hb : ∀ m ∈ bs, goodB m) (hl : bs.length ≤ 4096) (hs : Src w0 cs cap bs p w) :
    Calls Tryz.prog 104 #[.pointer (some ⟨p, 0, none⟩)] w fun e w' => ∃ (g c : Nat) (rs : List Rg), e = .returned (.slice (some ⟨g, 0, none⟩) rs.length c) ∧ rs.length ≤ 31 ∧ (∀ m ∈ rs, okD m) ∧ w'.ownsRow w.heap.size 119 3 (.slice (some ⟨g, 0, none⟩) rs.length c) rs.length (rs.flatMap encRg) ∧ Src w0 cs cap bs p w' ∧ w.grownBy w' (some p) := by
  obtain ⟨ir, hir, hr0, hr1, hr2⟩ := info_parts infoRg
  have D := Drw.start hs
  have hown : (w.alloc (.cells #[] 119)).ownsRow w.heap.size 119 3 (.slice (some ⟨w.heap.size, 0, none⟩) 0 0) 0 [] := World.ownsRow_made w #[] 0 (Nat.le_refl _) (by decide) rfl
  have D := D.below (belowA w (.cells #[] 119))
  have HN := Lib.hid (fun n W hn1 hn2 hs => l01Next_any w0 cs cap bs p n W hx hb hl hn1 hn2 hs)
  have HK := Lib.hid (fun W hs => l07DrawReign_any w0 cs cap bs p W hx hb hl hs)
  clear hs
  go_enter Tryz.func104, Tryz.ntmps104
  go_wp2_with fail
  refine (HN.out 5 _ (by decide) (by decide) D.src).mono ?_
  rintro e w1 ⟨r, rfl, hr0', hr1', hs, hG⟩
  have hown := own_keepA hown hG D.hp
  have D := D.call hs hG
  clear hs hG
  obtain ⟨k, rfl⟩ : ∃ k : Nat, r = k := ⟨r.toNat, by omega⟩
  have hk : k ≤ 4 := by omega
  clear hr0' hr1'
  go_wp2
  go_loopw [3, 4] (fun s i wr => ∃ (k g c : Nat) (out : List Rg), i = .int .i64 k ∧ out.length + k ≤ 4 ∧ s = .slice (some ⟨g, 0, none⟩) out.length c ∧ (∀ m ∈ out, okD m) ∧ wr.ownsRow w.heap.size 119 3 (.slice (some ⟨g, 0, none⟩) out.length c) out.length (out.flatMap encRg) ∧ Drw w0 cs cap bs p w wr) (fun _ i _ => (intOf i).toNat)
  case atStart => exact ⟨k, _, _, [], rfl, by simpa using hk, rfl, by simp, hown, D⟩
  case round =>
    clear hown D hk
    obtain ⟨k, g, c, out, rfl, hlen, rfl, hall, hown, D⟩ := hrel
    by_cases hk : k = 0
    · subst hk
      go_wp2_with fail
      refine (HN.out 60 _ (by decide) (by decide) D.src).mono ?_
      rintro e w2 ⟨x, rfl, hx0, hx1, hs, hG⟩
      have hown := own_keepA hown hG D.hp
      have D := D.call hs hG
      clear hs hG
      by_cases x0 : x = 0
      · subst x0
        have hown : (w2.alloc (.cells #[] 119)).ownsRow w.heap.size 119 3 (.slice (some ⟨w2.heap.size, 0, none⟩) 0 0) 0 [] := World.ownsRow_made w2 #[] 0 D.size (by decide) rfl
        have D := D.below (belowA w2 (.cells #[] 119))
        go_wp2_with fail
        refine (HN.out 2 _ (by decide) (by decide) D.src).mono ?_
        rintro e w3 ⟨y, rfl, hy0, hy1, hs, hG⟩
        have hown := own_keepA hown hG D.hp
        have D := D.call hs hG
        clear hs hG
        have v1 := i64_in (30 + y) (by omega)
        obtain ⟨k, hk⟩ : ∃ k : Nat, 30 + y = k := ⟨(30 + y).toNat, by omega⟩
        have hk31 : k ≤ 31 := by omega
        rw [hk] at v1
        clear hall
        go_wp2
        try rw [hk]
        go_loopw [3, 8] (fun s i wr => ∃ (k g c : Nat) (out : List Rg), i = .int .i64 k ∧ out.length + k ≤ 31 ∧ s = .slice (some ⟨g, 0, none⟩) out.length c ∧ (∀ m ∈ out, okD m) ∧ wr.ownsRow w.heap.size 119 3 (.slice (some ⟨g, 0, none⟩) out.length c) out.length (out.flatMap encRg) ∧ Drw w0 cs cap bs p w wr) (fun _ i _ => (intOf i).toNat)
        case atStart => exact ⟨k, _, _, [], rfl, by simpa using hk31, rfl, by simp, hown, D⟩
        case round =>
          clear hown D hk31 hk v1
          obtain ⟨k, g, c, out, rfl, hlen, rfl, hall, hown, D⟩ := hrel
          by_cases hk : k = 0
          · subst hk
            go_wp2
            go_ret
            exact ⟨g, c, out, rfl, by omega, hall, hown, D.src, D.gr⟩
          · have hk1 : (0 : Int) < (k : Int) := by omega
            have v1 := i64_in (1000 + (k : Int)) (by omega)
            have v2 := i64_in ((k : Int) - 1) (by omega)
            have v3 : ((k - 1 : Nat) : Int) = (k : Int) - 1 := by omega
            go_wp2_with (at_builtin; refine wpList_append_own _ rfl _ _ 30 rfl w.heap.size 119 ir (.agg #[.string ⟨#[]⟩, .int .i64 0, .int .i64 0]) 3 32 Tryz.underlying30 hir hr0 hr1 hr2 rfl (by decide) _ _ _ rfl (hown.alloc _) ⟨wr.heap.size, 0, none⟩ 1 1 [.string ⟨#[120]⟩, .int .i64 1000, .int .i64 (1000 + (k : Int))] rfl rfl (World.news_of_block (heap_alloc_new _ _)) ?c2 ?c3 ?c4 ?c5 ?_)
            case c2 => intro u hu; simp at hu; rcases hu with rfl | rfl | rfl <;> rfl
            case c3 => unfold maxLen; omega
            case c4 => omega
            case c5 => have := D.size; simp; omega
            intro v' w4 hown' hgr _
            have D' := (D.below (belowA wr (.cells #[.string ⟨#[120]⟩, .int .i64 1000, .int .i64 (1000 + (k : Int))] 119))).grown hgr (fun g e => (hown.lt g e).1)
            obtain ⟨g', c', rfl⟩ := formJ hown' (by omega)
            clear hgr hown D
            go_wp2
            go_roundw
            case rel => exact ⟨k - 1, g', c', out ++ [⟨⟨#[120]⟩, 1000, 1000 + (k : Int)⟩], by rw [v3], by simp; omega, by rw [List.length_append]; rfl, fun m hm => by rcases List.mem_append.1 hm with hm | hm; exact hall m hm; simp at hm; subst hm; exact okD_mk (by decide) (by decide) (by omega), by rw [List.length_append, List.flatMap_append]; exact hown', D'⟩
            case measure => simp [intOf]; omega
      · have x0' : (x == 0) = false := by simpa using x0
        go_wp2
        go_ret
        exact ⟨g, c, out, rfl, by omega, hall, hown, D.src, D.gr⟩
    · have hk1 : (0 : Int) < (k : Int) := by omega
      have v2 := i64_in ((k : Int) - 1) (by omega)
      have v3 : ((k - 1 : Nat) : Int) = (k : Int) - 1 := by omega
      go_wp2_with fail
      refine (HK.out _ D.src).mono ?_
      rintro e w4 ⟨m, rfl, hm, hs, hG⟩
      have hown := own_keepA hown hG D.hp
      have D := D.call hs hG
      clear hs hG
      have loc := Box.new w4 119 [.string m.king, .int .i64 m.fr, .int .i64 m.to] w.heap.size D.size (by simp)
      have hlr : w4.heap.size ≠ g := by have := (own_lt hown).2; omega
      have hown := own_below hown (belowA w4 (.cells #[.string m.king, .int .i64 m.fr, .int .i64 m.to] 119))
      have D := D.below (belowA w4 (.cells #[.string m.king, .int .i64 m.fr, .int .i64 m.to] 119))
      go_upto_region 7 with (fail)
      generalize w4.alloc (.cells #[.string m.king, .int .i64 m.fr, .int .i64 m.to] 119) = w4a at hown D loc ⊢
      have m0 := Box.cell loc 0 _ rfl
      have m1 := Box.cell loc 1 _ rfl
      have m2 := Box.cell loc 2 _ rfl
      go_wp2_with (at_builtin; refine wpList_append_own _ rfl _ _ 30 rfl w.heap.size 119 ir (.agg #[.string ⟨#[]⟩, .int .i64 0, .int .i64 0]) 3 32 Tryz.underlying30 hir hr0 hr1 hr2 rfl (by decide) _ _ _ rfl (hown.alloc _) ⟨w4a.heap.size, 0, none⟩ 1 1 [.string m.king, .int .i64 m.fr, .int .i64 m.to] rfl rfl (World.news_of_block (heap_alloc_new _ _)) ?c2 ?c3 ?c4 ?c5 ?_)
      case c2 => intro u hu; simp at hu; rcases hu with rfl | rfl | rfl <;> rfl
      case c3 => unfold maxLen; omega
      case c4 => omega
      case c5 => have := D.size; simp; omega
      intro v' w4 hown' hgr _
      have D' := (D.below (belowA w4a (.cells #[.string m.king, .int .i64 m.fr, .int .i64 m.to] 119))).grown hgr (fun g e => (hown.lt g e).1)
      obtain ⟨g', c', rfl⟩ := formJ hown' (by omega)
      have hown' : w4.ownsRow w.heap.size 119 3 (.slice (some ⟨g', 0, none⟩) (out.length + 1) c') (out.length + 1) ((out ++ [m]).flatMap encRg) := by rw [List.flatMap_append]; exact hown'
      have hall' : ∀ x ∈ out ++ [m], okD x := fun x hx => by
        rcases List.mem_append.1 hx with hx | hx
        · exact hall x hx
        · simp at hx; subst hx; exact hm
      have hl1 : (out ++ [m]).length = out.length + 1 := by simp
      generalize out ++ [m] = ys at hown' hall' hl1
      clear hgr hown D loc m0 m1 m2 hlr hall hm
      generalize hN : out.length = N at hown' hl1 hlen ⊢
      clear hN
      go_wp2
      go_loopw [6] (fun i wr => ∃ (a : Nat) (z : Int) (ys : List Rg), i = .int .i64 z ∧ z = a ∧ a < ys.length ∧ ys.length = N + 1 ∧ (∀ m ∈ ys, okD m) ∧ wr.ownsRow w.heap.size 119 3 (.slice (some ⟨g', 0, none⟩) (N + 1) c') (N + 1) (ys.flatMap encRg) ∧ Drw w0 cs cap bs p w wr) (fun i _ => (intOf i).toNat)
      case atStart => exact ⟨N, _, ys, rfl, rfl, by omega, hl1, hall', hown', D'⟩
      case round =>
        clear hown' D' hall' hl1
        obtain ⟨a, z, ys, rfl, hz, ha, hl1, hall', hown, D⟩ := hrel
        rcases Nat.eq_zero_or_pos a with rfl | ha0
        · obtain rfl : z = 0 := hz
          go_wp2_with fail
          refine wp_region_later _ (by kernel_rfl) (by kernel_rfl) ?_
          repeat (go_big_quiet_step (fail))
          refine wpQuiet_nil ?_
          intro zz
          have hzz := zz.prop
          generalize zz.val = w5 at hzz
          have hown := own_below hown hzz
          have D := D.below hzz
          clear hzz
          go_wp2
          go_roundw
          case rel => exact ⟨k - 1, g', c', ys, by rw [v3], by omega, by rw [hl1], hall', by rw [hl1]; exact hown, D⟩
          case measure => simp [intOf]; omega
        · obtain ⟨b, rfl⟩ : ∃ b, a = b + 1 := ⟨a - 1, by omega⟩
          obtain rfl : z = (b : Int) + 1 := by omega
          clear hz
          have hb1 : (0 : Int) < (b : Int) + 1 := by omega
          have hb2 : (b : Int) < (N : Int) + 1 := by omega
          have hb3 : (b : Int) < (N : Int) := by omega
          have v4 := i64_in (b : Int) (by omega)
          obtain ⟨pre, q, m, post, rfl, hpl⟩ := swap_split ha
          have hq := own_at encRg_len hown (i := b) (x := q) (by simp [← hpl]) (j := 1) rfl
          have hm := own_at encRg_len hown (i := b + 1) (x := m) (by simp [← hpl]) (j := 1) rfl
          have hgl := own_lt hown
          by_cases hls : m.fr < q.fr
          · have D0 := D.below (Below.refl _ wr).drew
            have hown0 := own_below hown (Below.refl _ wr).drew
            have hgp : g' ≠ p := by have := D.hp; omega
            go_wp2_with fail
            go_region_held_law (fun w' => w'.cell? ⟨g', b * 3 + 1, none⟩ = some (.int .i64 q.fr) ∧ w'.cell? ⟨g', (b + 1) * 3 + 1, none⟩ = some (.int .i64 m.fr)) (first | exact ⟨hq, hm⟩ | exact ⟨D0.cell hG hq hgl.2 hgp, D0.cell hG hm hgl.2 hgp⟩) (first | (go_at_call 76; refine (HN.out 60 _ (by decide) (by decide) D0.src).mono ?_; rintro e w5 ⟨x, rfl, hx0, hx1, hs, hG⟩) | fail)
            have hown := own_keepA hown0 hG D0.hp
            have D := D0.call hs hG
            clear hs hG D0 hown0 hq hm
            by_cases hx : x = 0
            · have hx' : decide (0 < x) = false := by simp; omega
              go_wp2
              go_roundw
              case rel => exact ⟨k - 1, g', c', _, by rw [v3], by omega, by rw [hl1], hall', by rw [hl1]; exact hown, D⟩
              case measure => simp [intOf]; omega
            · have hx' : 0 < x := by omega
              have e0 : w5.cell? ⟨g', b * 3, none⟩ = some (.string q.king) := own_at encRg_len hown (i := b) (x := q) (by simp [← hpl]) (j := 0) rfl
              have e1 : w5.cell? ⟨g', b * 3 + 1, none⟩ = some (.int .i64 q.fr) := own_at encRg_len hown (i := b) (x := q) (by simp [← hpl]) (j := 1) rfl
              have e2 : w5.cell? ⟨g', b * 3 + 2, none⟩ = some (.int .i64 q.to) := own_at encRg_len hown (i := b) (x := q) (by simp [← hpl]) (j := 2) rfl
              have loc := Box.new w5 119 [.string q.king, .int .i64 q.fr, .int .i64 q.to] w.heap.size D.size (by simp)
              have hne : g' ≠ w5.heap.size := by have := (own_lt hown).2; omega
              have hBA := belowA w5 (.cells #[.string q.king, .int .i64 q.fr, .int .i64 q.to] 119)
              go_upto_region 10 with (fail)
              have hown := own_below hown hBA
              have D := D.below hBA
              generalize w5.alloc (.cells #[.string q.king, .int .i64 q.fr, .int .i64 q.to] 119) = w6 at hown D loc ⊢
              generalize w5.heap.size = lb at loc hne ⊢
              clear e0 e1 e2 hBA
              have m0 : w6.cell? ⟨g', (b + 1) * 3, none⟩ = some (.string m.king) := own_at encRg_len hown (i := b + 1) (x := m) (by simp [← hpl]) (j := 0) rfl
              have m1 : w6.cell? ⟨g', (b + 1) * 3 + 1, none⟩ = some (.int .i64 m.fr) := own_at encRg_len hown (i := b + 1) (x := m) (by simp [← hpl]) (j := 1) rfl
              have m2 : w6.cell? ⟨g', (b + 1) * 3 + 2, none⟩ = some (.int .i64 m.to) := own_at encRg_len hown (i := b + 1) (x := m) (by simp [← hpl]) (j := 2) rfl
              have q0 : w6.cell? ⟨g', b * 3, none⟩ = some (.string q.king) := own_at encRg_len hown (i := b) (x := q) (by simp [← hpl]) (j := 0) rfl
              have q1 : w6.cell? ⟨g', b * 3 + 1, none⟩ = some (.int .i64 q.fr) := own_at encRg_len hown (i := b) (x := q) (by simp [← hpl]) (j := 1) rfl
              have q2 : w6.cell? ⟨g', b * 3 + 2, none⟩ = some (.int .i64 q.to) := own_at encRg_len hown (i := b) (x := q) (by simp [← hpl]) (j := 2) rfl
              have f0 := hown.frozenAt (b * 3)
              have f1 := hown.frozenAt (b * 3 + 1)
              have f2 := hown.frozenAt (b * 3 + 2)
              have hput := own_putRow encRg_len hown hpl.symm m
              have hpu : (((w6.setCell ⟨g', b * 3, none⟩ (.string m.king)).setCell ⟨g', b * 3 + 1, none⟩ (.int .i64 m.fr)).setCell ⟨g', b * 3 + 2, none⟩ (.int .i64 m.to)).ownsRow w.heap.size 119 3 (.slice (some ⟨g', 0, none⟩) (N + 1) c') (N + 1) ((pre ++ m :: m :: post).flatMap encRg) := hput.1
              have hpg : w6.grownBy (((w6.setCell ⟨g', b * 3, none⟩ (.string m.king)).setCell ⟨g', b * 3 + 1, none⟩ (.int .i64 m.fr)).setCell ⟨g', b * 3 + 2, none⟩ (.int .i64 m.to)) (some g') := hput.2
              clear hput
              go_upto_region 11 with (fail)
              have D := D.store hpg (own_lt hown).1
              have loc := Box.keep loc hpg (Ne.symm hne)
              clear m0 m1 m2 q0 q1 q2 f0 f1 f2 hown hpg
              generalize ((w6.setCell ⟨g', b * 3, none⟩ (.string m.king)).setCell ⟨g', b * 3 + 1, none⟩ (.int .i64 m.fr)).setCell ⟨g', b * 3 + 2, none⟩ (.int .i64 m.to) = w7 at hpu D loc ⊢
              have hpu : w7.ownsRow w.heap.size 119 3 (.slice (some ⟨g', 0, none⟩) (N + 1) c') (N + 1) (((pre ++ [m]) ++ m :: post).flatMap encRg) := by simpa using hpu
              have hpl2 : b + 1 = (pre ++ [m]).length := by simp [hpl]
              have m0 : w7.cell? ⟨g', (b + 1) * 3, none⟩ = some (.string m.king) := own_at encRg_len hpu (i := b + 1) (x := m) (by rw [hpl2]; simp) (j := 0) rfl
              have m1 : w7.cell? ⟨g', (b + 1) * 3 + 1, none⟩ = some (.int .i64 m.fr) := own_at encRg_len hpu (i := b + 1) (x := m) (by rw [hpl2]; simp) (j := 1) rfl
              have m2 : w7.cell? ⟨g', (b + 1) * 3 + 2, none⟩ = some (.int .i64 m.to) := own_at encRg_len hpu (i := b + 1) (x := m) (by rw [hpl2]; simp) (j := 2) rfl
              have f0 := hpu.frozenAt ((b + 1) * 3)
              have f1 := hpu.frozenAt ((b + 1) * 3 + 1)
              have f2 := hpu.frozenAt ((b + 1) * 3 + 2)
              have l0 := Box.cell loc 0 _ rfl
              have l1 := Box.cell loc 1 _ rfl
              have l2 := Box.cell loc 2 _ rfl
              have hput := own_putRow encRg_len hpu hpl2 q
              have HPU : Hid ((((w7.setCell ⟨g', (b + 1) * 3, none⟩ (.string q.king)).setCell ⟨g', (b + 1) * 3 + 1, none⟩ (.int .i64 q.fr)).setCell ⟨g', (b + 1) * 3 + 2, none⟩ (.int .i64 q.to)).ownsRow w.heap.size 119 3 (.slice (some ⟨g', 0, none⟩) (N + 1) c') (N + 1) (((pre ++ [m]) ++ q :: post).flatMap encRg)) := hput.1
              have HPG : Hid (w7.grownBy (((w7.setCell ⟨g', (b + 1) * 3, none⟩ (.string q.king)).setCell ⟨g', (b + 1) * 3 + 1, none⟩ (.int .i64 q.fr)).setCell ⟨g', (b + 1) * 3 + 2, none⟩ (.int .i64 q.to)) (some g')) := hput.2
              have v5 : IntKind.i64.wrap ((b : Int) + 1 - 1) = b := by rw [show (b : Int) + 1 - 1 = b by omega]; exact v4
              clear hput loc hne hpl2
              go_wp2

              go_roundw
              case rel => exact ⟨b, b, (pre ++ [m]) ++ q :: post, rfl, rfl, by simp; omega, by simpa using hl1, fun x hx => hall' x (by simp at hx ⊢; rcases hx with hx | hx | hx | hx <;> simp [hx]), HPU.out, D.store HPG.out (own_lt hpu).1⟩
              case measure => simp [intOf]
          · have hls' : decide (m.fr < q.fr) = false := by simpa using hls
            have Q := Later.cell hq hgl.2
            have M := Later.cell hm hgl.2
            go_wp2_with fail
            refine wp_region_later _ (by kernel_rfl) (by kernel_rfl) ?_
            repeat (go_big_quiet_step (fail))
            refine wpQuiet_nil ?_
            intro zz
            have hzz := zz.prop
            generalize zz.val = w5 at hzz
            clear Q M hq hm
            have hown := own_below hown hzz
            have D := D.below hzz
            clear hzz
            go_wp2
            go_roundw
            case rel => exact ⟨k - 1, g', c', _, by rw [v3], by omega, by rw [hl1], hall', by rw [hl1]; exact hown, D⟩
            case measure => simp [intOf]; omega
end Go.Proofs.YtdbgnbohdplndaaGreatDoor
