/- Walks: people are drawn. Printed by gen_drp.py. -/
import Derived.Test.YtmjbigeeokofeaaGreatDoorDrB
import Derived.Test.YtmjbigeeokofeaaGreatDoorTPs
import Derived.Test.YtmjbigeeokofeaaGreatDoorTTm
import Derived.Test.YtmjbigeeokofeaaGreatDoorRSp
import Derived.Deep.AppendLies
namespace Go.Proofs.YtmjbigeeokofeaaGreatDoor
open Go.ChangeShapes Go.WideShapes Go.ChangeAt Go.RowKit Go.IntWalk

def okPd (m : Ps) : Prop := m.name.size ≤ 13 ∧ 415000 ≤ m.fr ∧ m.fr ≤ 423000 ∧ m.fr - 1 ≤ m.to ∧ m.to ≤ 730500
def okTd (m : Tm) : Prop := m.office.size ≤ 13 ∧ m.person.size ≤ 13 ∧ 0 ≤ m.fr ∧ m.fr ≤ 1000000 ∧ 0 ≤ m.to ∧ m.to ≤ 1000000
theorem okPd_mk {a : ByteArray} {f t : Int} (h1 : a.size ≤ 13) (h2 : 415000 ≤ f ∧ f ≤ 423000) (h3 : f - 1 ≤ t ∧ t ≤ 730500) : okPd ⟨a, f, t⟩ := ⟨h1, h2.1, h2.2, h3.1, h3.2⟩
theorem okTd_mk {a b : ByteArray} {f t : Int} (h1 : a.size ≤ 13) (h0 : b.size ≤ 13) (h2 : 0 ≤ f ∧ f ≤ 1000000) (h3 : 0 ≤ t ∧ t ≤ 1000000) : okTd ⟨a, b, f, t⟩ := ⟨h1, h0, h2.1, h2.2, h3.1, h3.2⟩
/-- Drawn people's rows. -/
def PplD (B : Nat) (w : World) (g g2 c c2 : Nat) (ps : List Ps) (ts : List Tm) : Prop :=
  ps.length ≤ 6 ∧ ts.length ≤ 7 ∧ (∀ m ∈ ps, okPd m) ∧ (∀ m ∈ ts, okTd m) ∧ w.ownsRow B 110 3 (.slice (some ⟨g, 0, none⟩) ps.length c) ps.length (ps.flatMap encPs) ∧ w.ownsRow B 105 4 (.slice (some ⟨g2, 0, none⟩) ts.length c2) ts.length (ts.flatMap encTm)
theorem PplD.below {B : Nat} {w w' : World} {g g2 c c2 : Nat} {ps : List Ps} {ts : List Tm} (h : PplD B w g g2 c c2 ps ts) (hB : Below w.heap.size w w') : PplD B w' g g2 c c2 ps ts :=
  ⟨h.1, h.2.1, h.2.2.1, h.2.2.2.1, own_below h.2.2.2.2.1 hB, own_below h.2.2.2.2.2 hB⟩
theorem PplD.grown {B x : Nat} {w w' : World} {g g2 c c2 : Nat} {ps : List Ps} {ts : List Tm} (h : PplD B w g g2 c c2 ps ts) (hG : w.grownBy w' (some x)) (hx : x < B) : PplD B w' g g2 c c2 ps ts :=
  ⟨h.1, h.2.1, h.2.2.1, h.2.2.2.1, own_keepA h.2.2.2.2.1 hG hx, own_keepA h.2.2.2.2.2 hG hx⟩
theorem PplD.base {B B' : Nat} {w : World} {g g2 c c2 : Nat} {ps : List Ps} {ts : List Tm} (h : PplD B w g g2 c c2 ps ts) (hB : B' ≤ B) : PplD B' w g g2 c c2 ps ts :=
  ⟨h.1, h.2.1, h.2.2.1, h.2.2.2.1, own_base h.2.2.2.2.1 hB, own_base h.2.2.2.2.2 hB⟩
theorem PplD.keep {B : Nat} {r : Option Nat} {w w' : World} {g g2 c c2 : Nat} {ps : List Ps} {ts : List Tm} (h : PplD B w g g2 c c2 ps ts) (hG : w.grownBy w' r) (h1 : r ≠ some g) (h2 : r ≠ some g2) : PplD B w' g g2 c c2 ps ts :=
  ⟨h.1, h.2.1, h.2.2.1, h.2.2.2.1, own_keepV h.2.2.2.2.1 hG (fun x e => by injection e with e; subst e; exact h1), own_keepV h.2.2.2.2.2 hG (fun x e => by injection e with e; subst e; exact h2)⟩
theorem PplD.lt {B : Nat} {w : World} {g g2 c c2 : Nat} {ps : List Ps} {ts : List Tm} (h : PplD B w g g2 c c2 ps ts) : (B ≤ g ∧ g < w.heap.size) ∧ (B ≤ g2 ∧ g2 < w.heap.size) := ⟨own_lt h.2.2.2.2.1, own_lt h.2.2.2.2.2⟩
theorem PplD.rd {B : Nat} {w : World} {g g2 c c2 : Nat} {ps : List Ps} {ts : List Tm} (h : PplD B w g g2 c c2 ps ts) : Rd encPs w (some ⟨g, 0, none⟩) ps ∧ Rd encTm w (some ⟨g2, 0, none⟩) ts :=
  ⟨Rd.of_own encPs_len (by decide) h.2.2.2.2.1, Rd.of_own encTm_len (by decide) h.2.2.2.2.2⟩
theorem psCells {w : World} {B g n c : Nat} {ps : List Ps} (h : w.ownsRow B 110 3 (.slice (some ⟨g, 0, none⟩) n c) n (ps.flatMap encPs)) (i : Nat) (m : Ps) (hm : ps[i]? = some m) :
    w.cell? ⟨g, i * 3, none⟩ = some (.string m.name) ∧ w.cell? ⟨g, i * 3 + 1, none⟩ = some (.int .i64 m.fr) ∧ w.cell? ⟨g, i * 3 + 2, none⟩ = some (.int .i64 m.to) :=
  ⟨own_at encPs_len h (i := i) hm (j := 0) rfl, own_at encPs_len h (i := i) hm (j := 1) rfl, own_at encPs_len h (i := i) hm (j := 2) rfl⟩

set_option maxRecDepth 100000 in
set_option maxHeartbeats 1000000 in
theorem l13DrawOffice_any (w0 : World) (cs : Option Addr) (cap : Nat) (bs : List Int) (p : Nat) (w : World) (hx : Rd encB w0 cs bs) (hb : ∀ m ∈ bs, goodB m) (hl : bs.length ≤ 4096) (hs : Src w0 cs cap bs p w) :
    Calls Tryz.prog 74 #[.pointer (some ⟨p, 0, none⟩)] w fun e w' => ∃ k : ByteArray, e = .returned (.string k) ∧ k.size ≤ 13 ∧ Src w0 cs cap bs p w' ∧ w.grownBy w' (some p) := by
  have D := Drw.start hs
  have HN := Lib.hid (fun n W hn1 hn2 hs => l01Next_any w0 cs cap bs p n W hx hb hl hn1 hn2 hs)
  go_enter Tryz.func74, Tryz.ntmps74
  go_wp2_with fail
  generalize hW : w.alloc (.cells #[.string ⟨#[98, 105, 115, 104, 111, 112]⟩, .string ⟨#[115, 104, 101, 114, 105, 102, 102]⟩, .string ⟨#[115, 116, 101, 119, 97, 114, 100]⟩] 9) = W
  have D : Drw w0 cs cap bs p w W := hW ▸ D.below (belowA _ _)
  have hlt : w.heap.size < W.heap.size := by rw [← hW]; simp
  have c0 : W.cell? ⟨w.heap.size, 0, none⟩ = some (.string ⟨#[98, 105, 115, 104, 111, 112]⟩) := by rw [← hW]; exact World.cell?_alloc_at _ _ _ _ rfl
  have c1 : W.cell? ⟨w.heap.size, 1, none⟩ = some (.string ⟨#[115, 104, 101, 114, 105, 102, 102]⟩) := by rw [← hW]; exact World.cell?_alloc_at _ _ _ _ rfl
  have c2 : W.cell? ⟨w.heap.size, 2, none⟩ = some (.string ⟨#[115, 116, 101, 119, 97, 114, 100]⟩) := by rw [← hW]; exact World.cell?_alloc_at _ _ _ _ rfl
  clear hW
  have hne : w.heap.size ≠ p := Nat.ne_of_gt D.hp
  refine (HN.out 3 _ (by decide) (by decide) D.src).mono ?_
  rintro e W2 ⟨r, rfl, hr0, hr1, hs2, hG⟩
  have c0 := D.cell hG c0 hlt hne
  have c1 := D.cell hG c1 hlt hne
  have c2 := D.cell hG c2 hlt hne
  have D := D.call hs2 hG
  clear hs2 hG hs HN
  obtain rfl | rfl | rfl : r = 0 ∨ r = 1 ∨ r = 2 := by omega
  all_goals
    go_wp2
    go_ret
    exact ⟨_, rfl, by decide, D.src, D.gr⟩
def pplNames : List ByteArray := [⟨#[97, 108, 97, 110]⟩, ⟨#[98, 101, 97, 116, 114, 105, 120]⟩, ⟨#[99, 111, 110, 97, 110]⟩, ⟨#[101, 117, 100, 111]⟩, ⟨#[104, 117, 103, 104]⟩, ⟨#[109, 97, 117, 100]⟩]
theorem pplNames_ok : ∀ m ∈ pplNames, m.size ≤ 13 := by decide
set_option maxRecDepth 100000 in
set_option maxHeartbeats 16000000 in
theorem l13Draw_any (w0 : World) (cs : Option Addr) (cap : Nat) (bs : List Int) (p : Nat) (w : World) (hx : Rd encB w0 cs bs) (hb : ∀ m ∈ bs, goodB m) (hl : bs.length ≤ 4096) (hs : Src w0 cs cap bs p w) :
    Calls Tryz.prog 73 #[.pointer (some ⟨p, 0, none⟩)] w fun e w' => ∃ (g g2 c c2 : Nat) (ps : List Ps) (ts : List Tm), e = .returned (.agg #[.slice (some ⟨g, 0, none⟩) ps.length c, .slice (some ⟨g2, 0, none⟩) ts.length c2]) ∧ PplD w.heap.size w' g g2 c c2 ps ts ∧ Src w0 cs cap bs p w' ∧ w.grownBy w' (some p) := by
  obtain ⟨ip, hip, hip0, hip1, hip2⟩ := info_parts infoPs
  obtain ⟨it, hit, hit0, hit1, hit2⟩ := info_parts infoTm
  have D := Drw.start hs
  have HN := Lib.hid (fun n W hn1 hn2 hs => l01Next_any w0 cs cap bs p n W hx hb hl hn1 hn2 hs)
  have HP := Lib.hid (fun a ca xs W hs hxs h1 h2 => l01Pick_any w0 cs cap bs p a ca xs W hx hb hl hs hxs h1 h2)
  have HO := Lib.hid (fun W hs => l13DrawOffice_any w0 cs cap bs p W hx hb hl hs)
  clear hs
  go_enter Tryz.func73, Tryz.ntmps73
  go_upto_region 1 with (fail)
  have res := Box.new w 48 [.slice none 0 0, .slice none 0 0] w.heap.size (Nat.le_refl _) (by simp)
  have D := D.below (belowA w (.cells #[.slice none 0 0, .slice none 0 0] 48))
  change Code.wp _ _ _ _ (w.alloc (.cells #[.slice none 0 0, .slice none 0 0] 48))
  generalize w.alloc (.cells #[.slice none 0 0, .slice none 0 0] 48) = w1 at res D ⊢
  go_upto_region 2 with (fail)
  have e1 : (w1.alloc (.cells #[] 110)).heap.size = w1.heap.size + 1 := by simp
  have e2 : ((w1.alloc (.cells #[] 110)).alloc (.cells #[] 105)).heap.size = w1.heap.size + 1 + 1 := by simp
  have prs : (w1.alloc (.cells #[] 110)).ownsRow w.heap.size 110 3 (.slice (some ⟨w1.heap.size, 0, none⟩) 0 0) 0 [] := World.ownsRow_made w1 #[] 0 D.size (by decide) rfl
  have D1 := D.below (belowA w1 (.cells #[] 110))
  have trm : ((w1.alloc (.cells #[] 110)).alloc (.cells #[] 105)).ownsRow w.heap.size 105 4 (.slice (some ⟨(w1.alloc (.cells #[] 110)).heap.size, 0, none⟩) 0 0) 0 [] := World.ownsRow_made (w1.alloc (.cells #[] 110)) #[] 0 D1.size (by decide) rfl
  have D2 := D1.below (belowA (w1.alloc (.cells #[] 110)) (.cells #[] 105))
  have loc := Box.new ((w1.alloc (.cells #[] 110)).alloc (.cells #[] 105)) 48 [.slice (some ⟨w1.heap.size, 0, none⟩) 0 0, .slice (some ⟨w1.heap.size + 1, 0, none⟩) 0 0] w.heap.size D2.size (by simp)
  have D := D2.below (belowA ((w1.alloc (.cells #[] 110)).alloc (.cells #[] 105)) (.cells #[.slice (some ⟨w1.heap.size, 0, none⟩) 0 0, .slice (some ⟨w1.heap.size + 1, 0, none⟩) 0 0] 48))
  have res := Box.below (Box.below (Box.below res (belowA w1 (.cells #[] 110))) (belowA (w1.alloc (.cells #[] 110)) (.cells #[] 105))) (belowA ((w1.alloc (.cells #[] 110)).alloc (.cells #[] 105)) (.cells #[.slice (some ⟨w1.heap.size, 0, none⟩) 0 0, .slice (some ⟨w1.heap.size + 1, 0, none⟩) 0 0] 48))
  have prs := own_below (own_below prs (belowA (w1.alloc (.cells #[] 110)) (.cells #[] 105))) (belowA ((w1.alloc (.cells #[] 110)).alloc (.cells #[] 105)) (.cells #[.slice (some ⟨w1.heap.size, 0, none⟩) 0 0, .slice (some ⟨w1.heap.size + 1, 0, none⟩) 0 0] 48))
  have trm := own_below trm (belowA ((w1.alloc (.cells #[] 110)).alloc (.cells #[] 105)) (.cells #[.slice (some ⟨w1.heap.size, 0, none⟩) 0 0, .slice (some ⟨w1.heap.size + 1, 0, none⟩) 0 0] 48))
  clear D1 D2
  have hlr : w.heap.size ≠ ((w1.alloc (.cells #[] 110)).alloc (.cells #[] 105)).heap.size := by have := (own_lt res).2; rw [e2]; have := (own_lt prs).1; omega
  change Code.wp _ _ _ _ (((w1.alloc (.cells #[] 110)).alloc (.cells #[] 105)).alloc (.cells #[.slice (some ⟨w1.heap.size, 0, none⟩) 0 0, .slice (some ⟨w1.heap.size + 1, 0, none⟩) 0 0] 48))
  rw [e1] at trm
  rw [e2] at loc hlr
  generalize (((w1.alloc (.cells #[] 110)).alloc (.cells #[] 105)).alloc (.cells #[.slice (some ⟨w1.heap.size, 0, none⟩) 0 0, .slice (some ⟨w1.heap.size + 1, 0, none⟩) 0 0] 48)) = w2 at res loc prs trm D ⊢
  generalize w1.heap.size + 1 + 1 = lb at loc hlr ⊢
  generalize w1.heap.size + 1 = tb at loc trm ⊢
  generalize w1.heap.size = gb at loc prs ⊢
  clear e1 e2
  go_upto_region 3 with (fail)
  have nms := Box.new w2 9 [.string ⟨#[97, 108, 97, 110]⟩, .string ⟨#[98, 101, 97, 116, 114, 105, 120]⟩, .string ⟨#[99, 111, 110, 97, 110]⟩, .string ⟨#[101, 117, 100, 111]⟩, .string ⟨#[104, 117, 103, 104]⟩, .string ⟨#[109, 97, 117, 100]⟩] w.heap.size D.size (by simp)
  have hBA := belowA w2 (.cells #[.string ⟨#[97, 108, 97, 110]⟩, .string ⟨#[98, 101, 97, 116, 114, 105, 120]⟩, .string ⟨#[99, 111, 110, 97, 110]⟩, .string ⟨#[101, 117, 100, 111]⟩, .string ⟨#[104, 117, 103, 104]⟩, .string ⟨#[109, 97, 117, 100]⟩] 9)
  have res := Box.below res hBA
  have loc := Box.below loc hBA
  have prs := own_below prs hBA
  have trm := own_below trm hBA
  have D := D.below hBA
  clear hBA
  change Code.wp _ _ _ _ (w2.alloc (.cells #[.string ⟨#[97, 108, 97, 110]⟩, .string ⟨#[98, 101, 97, 116, 114, 105, 120]⟩, .string ⟨#[99, 111, 110, 97, 110]⟩, .string ⟨#[101, 117, 100, 111]⟩, .string ⟨#[104, 117, 103, 104]⟩, .string ⟨#[109, 97, 117, 100]⟩] 9))
  generalize w2.alloc (.cells #[.string ⟨#[97, 108, 97, 110]⟩, .string ⟨#[98, 101, 97, 116, 114, 105, 120]⟩, .string ⟨#[99, 111, 110, 97, 110]⟩, .string ⟨#[101, 117, 100, 111]⟩, .string ⟨#[104, 117, 103, 104]⟩, .string ⟨#[109, 97, 117, 100]⟩] 9) = w3 at res loc prs trm nms D ⊢
  generalize w2.heap.size = nb at nms ⊢
  go_wp2
  go_loopw [5] (fun i wr => ∃ (k g c : Nat) (ps : List Ps), k ≤ 6 ∧ i = .int .i64 k ∧ ps.length ≤ k ∧ (∀ m ∈ ps, okPd m) ∧ wr.ownsRow w.heap.size 110 3 (.slice (some ⟨g, 0, none⟩) ps.length c) ps.length (ps.flatMap encPs) ∧ wr.ownsRow w.heap.size 105 4 (.slice (some ⟨tb, 0, none⟩) 0 0) 0 [] ∧ Box w.heap.size wr 48 w.heap.size [.slice none 0 0, .slice none 0 0] ∧ Box w.heap.size wr 48 lb [.slice (some ⟨g, 0, none⟩) ps.length c, .slice (some ⟨tb, 0, none⟩) 0 0] ∧ Box w.heap.size wr 9 nb [.string ⟨#[97, 108, 97, 110]⟩, .string ⟨#[98, 101, 97, 116, 114, 105, 120]⟩, .string ⟨#[99, 111, 110, 97, 110]⟩, .string ⟨#[101, 117, 100, 111]⟩, .string ⟨#[104, 117, 103, 104]⟩, .string ⟨#[109, 97, 117, 100]⟩] ∧ Drw w0 cs cap bs p w wr) (fun i _ => 6 - (intOf i).toNat)
  case atStart => exact ⟨0, gb, 0, [], by omega, rfl, Nat.le_refl _, by simp, prs, trm, res, loc, nms, D⟩
  case round =>
    clear res loc prs trm nms D
    obtain ⟨k, g, c, ps, hk, rfl, hpl, hpo, prs, trm, res, loc, nms, D⟩ := hrel
    by_cases hlt : k < 6
    · have hk1 : (k : Int) < 6 := by omega
      go_wp2_with fail
      refine (HN.out 4 _ (by decide) (by decide) D.src).mono ?_
      rintro e w4 ⟨r, rfl, hr0, hr1, hs, hG⟩
      have res := Box.keepA res hG D.hp
      have loc := Box.keepA loc hG D.hp
      have prs := own_keepA prs hG D.hp
      have trm := own_keepA trm hG D.hp
      have nms := Box.keepA nms hG D.hp
      have D := D.call hs hG
      clear hs hG
      by_cases hr : 0 < r
      · go_wp2_with fail
        refine (HN.out 8000 _ (by decide) (by decide) D.src).mono ?_
        rintro e w5 ⟨f, rfl, hf0, hf1, hs, hG⟩
        have res := Box.keepA res hG D.hp
        have loc := Box.keepA loc hG D.hp
        have prs := own_keepA prs hG D.hp
        have trm := own_keepA trm hG D.hp
        have nms := Box.keepA nms hG D.hp
        have D := D.call hs hG
        clear hs hG
        obtain ⟨nm, hnm⟩ : ∃ nm, pplNames[k]? = some nm := ⟨_, List.getElem?_eq_getElem (show k < pplNames.length from hlt)⟩
        have hnmo := pplNames_ok nm (List.mem_of_getElem? hnm)
        have hnv : ([.string ⟨#[97, 108, 97, 110]⟩, .string ⟨#[98, 101, 97, 116, 114, 105, 120]⟩, .string ⟨#[99, 111, 110, 97, 110]⟩, .string ⟨#[101, 117, 100, 111]⟩, .string ⟨#[104, 117, 103, 104]⟩, .string ⟨#[109, 97, 117, 100]⟩] : List Value)[k]? = some (.string nm) := by
          rw [show ([.string ⟨#[97, 108, 97, 110]⟩, .string ⟨#[98, 101, 97, 116, 114, 105, 120]⟩, .string ⟨#[99, 111, 110, 97, 110]⟩, .string ⟨#[101, 117, 100, 111]⟩, .string ⟨#[104, 117, 103, 104]⟩, .string ⟨#[109, 97, 117, 100]⟩] : List Value) = pplNames.map Value.string from rfl, List.getElem?_map, hnm]; rfl
        have v1 := i64_in (415000 + f) (by omega)
        go_upto_region 8 with (fail)
        refine MAny.region (S := fun w' => w'.cell? ⟨lb, 0, none⟩ = some (.slice (some ⟨g, 0, none⟩) ps.length c) ∧ w'.cell? ⟨nb, k, none⟩ = some (.string nm)) (last := 16) (by kernel_rfl) ?_
        have res := Box.below res (Below.refl _ w5).drew
        have loc := Box.below loc (Below.refl _ w5).drew
        have prs := own_below prs (Below.refl _ w5).drew
        have trm := own_below trm (Below.refl _ w5).drew
        have nms := Box.below nms (Below.refl _ w5).drew
        have D := D.below (Below.refl _ w5).drew
        generalize w5.drew = W0 at res loc prs trm nms D ⊢
        have hHeld := And.intro (Box.cell loc 0 _ rfl) (Box.cell nms k _ hnv)
        have v2 := i64_in (415000 + f + 2000) (by omega)
        refine MAny.take (i := 0) (v := ?_) rfl (by kernel_rfl) (by kernel_rfl) (by kernel_rfl) (fun _ _ _ h => h) (by kernel_rfl) (Or.inl ⟨by rfl, ?_⟩) (by assumption) ?_
        rotate_left
        · (intro w' hSw; (try dsimp only at hSw); go_simp; try (with_reducible rfl))
        try simp only [Act.put, List.setIfInBounds_toArray]
        refine MAny.take (i := 1) (v := ?_) rfl (by kernel_rfl) (by kernel_rfl) (by kernel_rfl) (fun _ _ _ h => h) (by kernel_rfl) (Or.inl ⟨by rfl, ?_⟩) (by assumption) ?_
        rotate_left
        · (intro w' hSw; (try dsimp only at hSw); go_simp; try (with_reducible rfl))
        try simp only [Act.put]
        refine MAny.take (i := 2) (v := ?_) rfl (by kernel_rfl) (by kernel_rfl) (by kernel_rfl) (fun _ _ _ h => h) (by kernel_rfl) (Or.inl ⟨by rfl, ?_⟩) (by assumption) ?_
        rotate_left
        · (intro w' hSw; (try dsimp only at hSw); go_simp; try (with_reducible rfl))
        try simp only [Act.put]
        refine MAny.take (i := 3) (v := ?_) rfl (by kernel_rfl) (by kernel_rfl) (by kernel_rfl) (fun _ _ _ h => h) (by kernel_rfl) (Or.inl ⟨by rfl, ?_⟩) (by assumption) ?_
        rotate_left
        · (intro w' hSw; (try dsimp only at hSw); go_simp; try (with_reducible rfl))
        try simp only [Act.put]
        refine MAny.take (i := 4) (v := ?_) rfl (by kernel_rfl) (by kernel_rfl) (by kernel_rfl) (fun _ _ _ h => h) (by kernel_rfl) (Or.inl ⟨by rfl, ?_⟩) (by assumption) ?_
        rotate_left
        · (intro w' hSw; (try dsimp only at hSw); go_simp; try (with_reducible rfl))
        try simp only [Act.put]
        refine MAny.take (i := 5) (v := ?_) rfl (by kernel_rfl) (by kernel_rfl) (by kernel_rfl) (fun _ _ _ h => h) (by kernel_rfl) (Or.inl ⟨by rfl, ?_⟩) (by assumption) ?_
        rotate_left
        · (intro w' hSw; (try dsimp only at hSw); go_simp; try (with_reducible rfl))
        try simp only [Act.put]
        refine MAny.take (i := 6) (v := ?_) rfl (by kernel_rfl) (by kernel_rfl) (by kernel_rfl) (fun _ _ _ h => h) (by kernel_rfl) (Or.inl ⟨by rfl, ?_⟩) (by assumption) ?_
        rotate_left
        · (intro w' hSw; (try dsimp only at hSw); go_simp; try (with_reducible rfl))
        try simp only [Act.put]
        refine MAny.take (i := 7) (v := ?_) rfl (by kernel_rfl) (by kernel_rfl) (by kernel_rfl) (fun _ _ _ h => h) (by kernel_rfl) (Or.inl ⟨by rfl, ?_⟩) (by assumption) ?_
        rotate_left
        · (intro w' hSw; (try dsimp only at hSw); go_simp; try (with_reducible rfl))
        try simp only [Act.put]
        refine MAny.take (i := 8) (v := ?_) rfl (by kernel_rfl) (by kernel_rfl) (by kernel_rfl) (fun _ _ _ h => h) (by kernel_rfl) (Or.inl ⟨by rfl, ?_⟩) (by assumption) ?_
        rotate_left
        · (intro w' hSw; (try dsimp only at hSw); go_simp; try (with_reducible rfl))
        try simp only [Act.put]
        refine MAny.take (i := 9) (v := ?_) rfl (by kernel_rfl) (by kernel_rfl) (by kernel_rfl) (fun _ _ _ h => h) (by kernel_rfl) (Or.inl ⟨by rfl, ?_⟩) (by assumption) ?_
        rotate_left
        · (intro w' hSw; (try dsimp only at hSw); go_simp; try (with_reducible rfl))
        try simp only [Act.put]
        refine MAny.ready (rs := [10]) (by kernel_rfl) (by simp) ?_
        refine MReady.cons rfl (fun K hK => ?_) MReady.nil
        go_simp
        go_wp2_with (go_at_call 62; refine (HN.out 14000 W0 (by decide) (by decide) D.src).mono ?_; rintro e W1 ⟨q, rfl, hq0, hq1, hs, hG⟩)
        have res := Box.keepA res hG D.hp
        have loc := Box.keepA loc hG D.hp
        have prs := own_keepA prs hG D.hp
        have trm := own_keepA trm hG D.hp
        have nms := Box.keepA nms hG D.hp
        have D := D.call hs hG
        clear hs hG
        have hHeld := And.intro (Box.cell loc 0 _ rfl) (Box.cell nms k _ hnv)
        refine hK.out _ _ (.inr hHeld) ?_
        clear hK K
        have v3 := i64_in (415000 + f + 2000 + q) (by omega)
        refine MAny.take (i := 11) (v := ?_) rfl (by kernel_rfl) (by kernel_rfl) (by kernel_rfl) (fun _ _ _ h => h) (by kernel_rfl) (Or.inl ⟨by rfl, ?_⟩) (by assumption) ?_
        rotate_left
        · (intro w' hSw; (try dsimp only at hSw); go_simp; try (with_reducible rfl))
        try simp only [Act.put, List.setIfInBounds_toArray]
        refine MAny.take (i := 12) (v := ?_) rfl (by kernel_rfl) (by kernel_rfl) (by kernel_rfl) (fun _ _ _ h => h) (by kernel_rfl) (Or.inl ⟨by rfl, ?_⟩) (by assumption) ?_
        rotate_left
        · (intro w' hSw; (try dsimp only at hSw); go_simp; try (with_reducible rfl))
        try simp only [Act.put]
        refine MAny.ready (rs := [13]) (by kernel_rfl) (by simp) ?_
        refine MReady.cons rfl (fun K hK => ?_) MReady.nil
        go_simp
        have hBA := belowA W1 (.cells #[.string nm, .int .i64 (415000 + f), .int .i64 (415000 + f + 2000 + q)] 110)
        have res := Box.below res hBA
        have loc := Box.below loc hBA
        have prs := own_below prs hBA
        have trm := own_below trm hBA
        have nms := Box.below nms hBA
        have D := D.below hBA
        clear hBA
        have hHeld := And.intro (Box.cell loc 0 _ rfl) (Box.cell nms k _ hnv)
        refine hK.out _ _ (.inr hHeld) ?_
        clear hK K
        refine MAny.ready (rs := [14]) (by kernel_rfl) (by simp) ?_
        refine MReady.cons rfl (fun K hK => ?_) MReady.nil
        refine step_append_lies _ (by rfl) (.tmp 27) (.tmp 39) 45 (by rfl) w.heap.size 110 ip (.agg #[.string ⟨#[]⟩, .int .i64 0, .int .i64 0]) 3 32 Tryz.underlying45 hip hip0 hip1 hip2 rfl (by decide) _ _ _ (by rfl) prs ⟨W1.heap.size, 0, none⟩ 1 1 [.string nm, .int .i64 (415000 + f), .int .i64 (415000 + f + 2000 + q)] (by rfl) rfl ?n1 ?n2 (by decide) ?n3 ?n4 ?n5 _ rfl ?_
        case n1 => exact World.news_of_block (heap_alloc_new _ _)
        case n2 => intro u hu; simp at hu; rcases hu with rfl | rfl | rfl <;> rfl
        case n3 => unfold maxLen; omega
        case n4 => omega
        case n5 => have := D.size; simp at this ⊢; omega
        intro g' c' W4 hown4 hG4 _ _
        have hG4 : (W1.alloc (.cells #[.string nm, .int .i64 (415000 + f), .int .i64 (415000 + f + 2000 + q)] 110)).grownBy W4 (some g) := hG4
        have hown4' : W4.ownsRow w.heap.size 110 3 (.slice (some ⟨g', 0, none⟩) (ps.length + 1) c') (ps.length + 1) ((ps ++ [(⟨nm, 415000 + f, 415000 + f + 2000 + q⟩ : Ps)]).flatMap encPs) := by rw [List.flatMap_append]; exact hown4
        have res := own_keepV res hG4 (fun g e e2 => own_apartV res prs (by decide) g e e2)
        have loc := own_keepV loc hG4 (fun g e e2 => own_apartV loc prs (by decide) g e e2)
        have trm := own_keepV trm hG4 (fun g e e2 => own_apartV trm prs (by decide) g e e2)
        have nms := own_keepV nms hG4 (fun g e e2 => own_apartV nms prs (by decide) g e e2)
        have D := D.store hG4 (own_lt prs).1
        have prs := hown4'
        clear hown4 hown4' hG4
        have hHeld := And.intro (Box.cell loc 0 _ rfl) (Box.cell nms k _ hnv)
        refine hK.out _ _ (.inr hHeld) ?_
        clear hK K
        have f0 := World.ownsRow.frozenAt loc 0
        refine MAny.take (i := 15) (v := ?_) rfl (by kernel_rfl) (by kernel_rfl) (by kernel_rfl) (fun _ _ _ h => h) (by kernel_rfl) (Or.inl ⟨by rfl, ?_⟩) (by assumption) ?_
        rotate_left
        · (intro w' hSw; (try dsimp only at hSw); go_simp; try (with_reducible rfl))
        try simp only [Act.put, List.setIfInBounds_toArray]
        refine MAny.ready (rs := [16]) (by kernel_rfl) (by simp) ?_
        refine MReady.cons rfl (fun K hK => ?_) MReady.nil
        go_simp
        refine hK.out _ _ (.inl rfl) ?_
        clear hK K
        refine MAny.done (by kernel_rfl) ?_ _
        try simp only [List.getElem_toArray, List.getElem_cons_succ, List.getElem_cons_zero]
        have hp := Box.put (i := 0) (pre := []) (post := [.slice (some ⟨tb, 0, none⟩) 0 0]) loc rfl (.slice (some ⟨g', 0, none⟩) (ps.length + 1) c')
        have prs := own_keepV prs hp.2 (fun g e e2 => own_apartV loc prs (by decide) g e2 e)
        have trm := own_keepV trm hp.2 (fun g e e2 => own_apartV loc trm (by decide) g e2 e)
        have nms := own_keepV nms hp.2 (fun g e e2 => own_apartV loc nms (by decide) g e2 e)
        have res := Box.keep res hp.2 hlr
        have D := D.store hp.2 (Box.lt loc).1
        have loc := hp.1
        clear hp hHeld f0
        generalize W4.setCell ⟨lb, 0, none⟩ (.slice (some ⟨g', 0, none⟩) (ps.length + 1) c') = W5 at res prs trm nms loc D ⊢
        go_wp2
        go_roundw
        case rel => exact ⟨k + 1, g', c', ps ++ [⟨nm, 415000 + f, 415000 + f + 2000 + q⟩], by omega, by go_num, by simp; omega, fun m hm => by
            rcases List.mem_append.1 hm with hm | hm
            · exact hpo m hm
            · simp at hm; subst hm; exact okPd_mk hnmo (by omega) (by omega), by rw [List.length_append]; exact prs, trm, res, by rw [List.length_append]; exact loc, nms, D⟩
        case measure => simp [intOf]; omega
      · have hr' : decide (0 < r) = false := by simpa using hr
        go_wp2
        go_roundw
        case rel => exact ⟨k + 1, g, c, ps, by omega, by go_num, by omega, hpo, prs, trm, res, loc, nms, D⟩
        case measure => simp [intOf]; omega
    · obtain rfl : k = 6 := by omega
      go_wp2_with fail
      refine (HN.out 7 _ (by decide) (by decide) D.src).mono ?_
      rintro e w11 ⟨r, rfl, hr0, hr1, hs, hG⟩
      have res := Box.keepA res hG D.hp
      have loc := Box.keepA loc hG D.hp
      have prs := own_keepA prs hG D.hp
      have trm := own_keepA trm hG D.hp
      have nms := Box.keepA nms hG D.hp
      have D := D.call hs hG
      clear hs hG
      obtain ⟨k, rfl⟩ : ∃ k : Nat, r = k := ⟨r.toNat, by omega⟩
      have hk6 : k ≤ 6 := by omega
      clear hr0 hr1 nms hlt hk
      go_upto_block 2 with (fail)
      go_cut [] from 7 to 91 (fun wr => ∃ (g c : Nat) (ps : List Ps) (g2 c2 : Nat) (ts : List Tm), ps.length ≤ 6 ∧ ts.length ≤ 6 ∧ (∀ m ∈ ps, okPd m) ∧ (∀ m ∈ ts, okTd m) ∧ wr.ownsRow w.heap.size 110 3 (.slice (some ⟨g, 0, none⟩) ps.length c) ps.length (ps.flatMap encPs) ∧ wr.ownsRow w.heap.size 105 4 (.slice (some ⟨g2, 0, none⟩) ts.length c2) ts.length (ts.flatMap encTm) ∧ Box w.heap.size wr 48 w.heap.size [.slice none 0 0, .slice none 0 0] ∧ Box w.heap.size wr 48 lb [.slice (some ⟨g, 0, none⟩) ps.length c, .slice (some ⟨g2, 0, none⟩) ts.length c2] ∧ Drw w0 cs cap bs p w wr)
      case first =>
        go_wp2
        go_loopw [7] (fun i wr => ∃ (k g2 c2 : Nat) (ts : List Tm), i = .int .i64 k ∧ ts.length + k ≤ 6 ∧ (∀ m ∈ ts, okTd m) ∧ wr.ownsRow w.heap.size 110 3 (.slice (some ⟨g, 0, none⟩) ps.length c) ps.length (ps.flatMap encPs) ∧ wr.ownsRow w.heap.size 105 4 (.slice (some ⟨g2, 0, none⟩) ts.length c2) ts.length (ts.flatMap encTm) ∧ Box w.heap.size wr 48 w.heap.size [.slice none 0 0, .slice none 0 0] ∧ Box w.heap.size wr 48 lb [.slice (some ⟨g, 0, none⟩) ps.length c, .slice (some ⟨g2, 0, none⟩) ts.length c2] ∧ Drw w0 cs cap bs p w wr) (fun i _ => (intOf i).toNat)
        case atStart => exact ⟨k, tb, 0, [], rfl, by simpa using hk6, by simp, prs, trm, res, loc, D⟩
        case round =>
          clear res loc prs trm D hk6
          obtain ⟨k, g2, c2, ts, rfl, htl, hto, prs, trm, res, loc, D⟩ := hrel
          by_cases hk : k = 0
          · subst hk
            go_wp2
            go_meet
            case rel => exact ⟨g, c, ps, g2, c2, ts, by omega, by omega, hpo, hto, prs, trm, res, loc, D⟩
          · have hk1 : (0 : Int) < (k : Int) := by omega
            have hm0 := Box.cell loc 0 _ rfl
            by_cases hp0 : ps.length = 0
            · have hp2 : decide ((0 : Int) < (ps.length : Int)) = false := decide_eq_false (by omega)
              have hp0 := Lib.hid hp0
              go_wp2
              go_meet
              case rel => exact ⟨g, c, ps, g2, c2, ts, by omega, by omega, hpo, hto, prs, trm, res, loc, D⟩
            · have hp2 : (0 : Int) < (ps.length : Int) := by omega
              have hp3 : 0 < ps.length := by omega
              go_upto_region 12 with (fail)
              clear hm0
              go_cut [8] from 54 to 62 (fun x8 wr => ∃ (xg : Nat) (m : Ps), x8 = .pointer (some ⟨xg, 0, none⟩) ∧ okPd m ∧ Box w.heap.size wr 110 xg [.string m.name, .int .i64 m.fr, .int .i64 m.to] ∧ wr.ownsRow w.heap.size 110 3 (.slice (some ⟨g, 0, none⟩) ps.length c) ps.length (ps.flatMap encPs) ∧ wr.ownsRow w.heap.size 105 4 (.slice (some ⟨g2, 0, none⟩) ts.length c2) ts.length (ts.flatMap encTm) ∧ Box w.heap.size wr 48 w.heap.size [.slice none 0 0, .slice none 0 0] ∧ Box w.heap.size wr 48 lb [.slice (some ⟨g, 0, none⟩) ps.length c, .slice (some ⟨g2, 0, none⟩) ts.length c2] ∧ Drw w0 cs cap bs p w wr)
              case first =>
                refine MAny.region (S := fun w' => w'.cell? ⟨lb, 0, none⟩ = some (.slice (some ⟨g, 0, none⟩) ps.length c) ∧ ∀ i m, ps[i]? = some m → w'.cell? ⟨g, i * 3, none⟩ = some (.string m.name) ∧ w'.cell? ⟨g, i * 3 + 1, none⟩ = some (.int .i64 m.fr) ∧ w'.cell? ⟨g, i * 3 + 2, none⟩ = some (.int .i64 m.to)) (last := 10) (by kernel_rfl) ?_
                have res := Box.below res (Below.refl _ wr).drew
                have loc := Box.below loc (Below.refl _ wr).drew
                have prs := own_below prs (Below.refl _ wr).drew
                have trm := own_below trm (Below.refl _ wr).drew
                have D := D.below (Below.refl _ wr).drew
                generalize wr.drew = W0 at res loc prs trm D ⊢
                have hHeld := And.intro (Box.cell loc 0 _ rfl) (psCells prs)
                refine MAny.take (i := 0) (v := ?_) rfl (by kernel_rfl) (by kernel_rfl) (by kernel_rfl) (fun _ _ _ h => h) (by kernel_rfl) (Or.inl ⟨by rfl, ?_⟩) (by assumption) ?_
                rotate_left
                · (intro w' hSw; (try dsimp only at hSw); go_simp; try (with_reducible rfl))
                try simp only [Act.put, List.setIfInBounds_toArray]
                refine MAny.take (i := 1) (v := ?_) rfl (by kernel_rfl) (by kernel_rfl) (by kernel_rfl) (fun _ _ _ h => h) (by kernel_rfl) (Or.inl ⟨by rfl, ?_⟩) (by assumption) ?_
                rotate_left
                · (intro w' hSw; (try dsimp only at hSw); go_simp; try (with_reducible rfl))
                try simp only [Act.put]
                refine MAny.take (i := 2) (v := ?_) rfl (by kernel_rfl) (by kernel_rfl) (by kernel_rfl) (fun _ _ _ h => h) (by kernel_rfl) (Or.inl ⟨by rfl, ?_⟩) (by assumption) ?_
                rotate_left
                · (intro w' hSw; (try dsimp only at hSw); go_simp; try (with_reducible rfl))
                try simp only [Act.put]
                refine MAny.take (i := 3) (v := ?_) rfl (by kernel_rfl) (by kernel_rfl) (by kernel_rfl) (fun _ _ _ h => h) (by kernel_rfl) (Or.inl ⟨by rfl, ?_⟩) (by assumption) ?_
                rotate_left
                · (intro w' hSw; (try dsimp only at hSw); go_simp; try (with_reducible rfl))
                try simp only [Act.put]
                refine MAny.take (i := 4) (v := ?_) rfl (by kernel_rfl) (by kernel_rfl) (by kernel_rfl) (fun _ _ _ h => h) (by kernel_rfl) (Or.inl ⟨by rfl, ?_⟩) (by assumption) ?_
                rotate_left
                · (intro w' hSw; (try dsimp only at hSw); go_simp; try (with_reducible rfl))
                try simp only [Act.put]
                refine MAny.take (i := 5) (v := ?_) rfl (by kernel_rfl) (by kernel_rfl) (by kernel_rfl) (fun _ _ _ h => h) (by kernel_rfl) (Or.inl ⟨by rfl, ?_⟩) (by assumption) ?_
                rotate_left
                · (intro w' hSw; (try dsimp only at hSw); go_simp; try (with_reducible rfl))
                try simp only [Act.put]
                refine MAny.ready (rs := [6, 9]) (by kernel_rfl) (by simp) ?_
                refine MReady.cons rfl (fun K hK => ?_) (MReady.cons rfl (fun K hK => ?_) MReady.nil)
                · go_simp
                  go_wp2_with (go_at_call 62; refine (HN.out ps.length W0 (by omega) (by omega) D.src).mono ?_; rintro e W1 ⟨q, rfl, hq0, hq1, hs, hG⟩)
                  have res := Box.keepA res hG D.hp
                  have loc := Box.keepA loc hG D.hp
                  have prs := own_keepA prs hG D.hp
                  have trm := own_keepA trm hG D.hp
                  have D := D.call hs hG
                  clear hs hG
                  obtain ⟨j, rfl⟩ : ∃ j : Nat, q = j := ⟨q.toNat, by omega⟩
                  have hj : j < ps.length := by omega
                  have hj1 : (j : Int) < (ps.length : Int) := by omega
                  obtain ⟨m, hm⟩ : ∃ m, ps[j]? = some m := ⟨_, List.getElem?_eq_getElem hj⟩
                  have hmo := hpo m (List.mem_of_getElem? hm)
                  clear hq0 hq1
                  have hHeld := And.intro (Box.cell loc 0 _ rfl) (psCells prs)
                  refine hK.out _ _ (.inr hHeld) ?_
                  clear hK K
                  refine MAny.take (i := 7) (v := ?_) rfl (by kernel_rfl) (by kernel_rfl) (by kernel_rfl) (fun _ _ _ h => h) (by kernel_rfl) (Or.inl ⟨by rfl, ?_⟩) (by assumption) ?_
                  rotate_left
                  · (intro w' hSw; (try dsimp only at hSw); go_simp; try (with_reducible rfl))
                  try simp only [Act.put, List.setIfInBounds_toArray]
                  refine MAny.take (i := 8) (v := ?_) rfl (by kernel_rfl) (by kernel_rfl) (by kernel_rfl) (fun _ _ _ h => h) (by kernel_rfl) (Or.inl ⟨by rfl, ?_⟩) (by assumption) ?_
                  rotate_left
                  · (intro w' hSw; (try dsimp only at hSw); obtain ⟨e0, e1, e2⟩ := hSw.2 j m hm; clear hSw; go_simp; try (with_reducible rfl))
                  try simp only [Act.put]
                  refine MAny.ready (rs := [9]) (by kernel_rfl) (by simp) ?_
                  refine MReady.cons rfl (fun K hK => ?_) MReady.nil
                  go_simp
                  have xb := Box.new W1 110 [.string ⟨#[]⟩, .int .i64 0, .int .i64 0] w.heap.size D.size (by simp)
                  have hgx : g ≠ W1.heap.size := by have := (own_lt prs).2; omega
                  have hBA := belowA W1 (.cells #[.string ⟨#[]⟩, .int .i64 0, .int .i64 0] 110)
                  have res := Box.below res hBA
                  have loc := Box.below loc hBA
                  have prs := own_below prs hBA
                  have trm := own_below trm hBA
                  have D := D.below hBA
                  clear hBA
                  generalize hWW : W1.alloc (.cells #[.string ⟨#[]⟩, .int .i64 0, .int .i64 0] 110) = W2 at xb res loc prs trm D ⊢
                  clear hWW
                  generalize W1.heap.size = xg at xb hgx ⊢
                  have hHeld := And.intro (Box.cell loc 0 _ rfl) (psCells prs)
                  refine hK.out _ _ (.inr hHeld) ?_
                  clear hK K
                  have y0 := Box.cell xb 0 _ rfl
                  have f0 := World.ownsRow.frozenAt xb 0
                  have y1 := Box.cell xb 1 _ rfl
                  have f1 := World.ownsRow.frozenAt xb 1
                  have y2 := Box.cell xb 2 _ rfl
                  have f2 := World.ownsRow.frozenAt xb 2
                  have HP3 := Lib.hid (Box.put3 xb (.string m.name) (.int .i64 m.fr) (.int .i64 m.to))
                  refine MAny.ready (rs := [10]) (by kernel_rfl) (by simp) ?_
                  refine MReady.cons rfl (fun K hK => ?_) MReady.nil
                  go_simp
                  refine hK.out _ _ (.inl rfl) ?_
                  clear hK K
                  refine MAny.done (by kernel_rfl) ?_ _
                  try simp only [List.getElem_toArray, List.getElem_cons_succ, List.getElem_cons_zero]
                  have hp := HP3.out
                  have res := own_keepV res hp.2 (fun g e e2 => own_apartV xb res (by decide) g e2 e)
                  have loc := own_keepV loc hp.2 (fun g e e2 => own_apartV xb loc (by decide) g e2 e)
                  have trm := own_keepV trm hp.2 (fun g e e2 => own_apartV xb trm (by decide) g e2 e)
                  have prs := own_keepOther prs hp.2 hgx
                  have D := D.store hp.2 (Box.lt xb).1
                  go_wp2
                  go_meet
                  case rel => exact ⟨xg, m, rfl, hmo, hp.1, prs, trm, res, loc, D⟩
                · go_simp
                  have xb := Box.new W0 110 [.string ⟨#[]⟩, .int .i64 0, .int .i64 0] w.heap.size D.size (by simp)
                  have hgx : g ≠ W0.heap.size := by have := (own_lt prs).2; omega
                  have hBA := belowA W0 (.cells #[.string ⟨#[]⟩, .int .i64 0, .int .i64 0] 110)
                  have res := Box.below res hBA
                  have loc := Box.below loc hBA
                  have prs := own_below prs hBA
                  have trm := own_below trm hBA
                  have D := D.below hBA
                  clear hBA
                  generalize hWW : W0.alloc (.cells #[.string ⟨#[]⟩, .int .i64 0, .int .i64 0] 110) = W1 at xb res loc prs trm D ⊢
                  clear hWW
                  generalize W0.heap.size = xg at xb hgx ⊢
                  have hHeld := And.intro (Box.cell loc 0 _ rfl) (psCells prs)
                  refine hK.out _ _ (.inr hHeld) ?_
                  clear hK K
                  refine MAny.ready (rs := [6]) (by kernel_rfl) (by simp) ?_
                  refine MReady.cons rfl (fun K hK => ?_) MReady.nil
                  go_simp
                  go_wp2_with (go_at_call 62; refine (HN.out ps.length W1 (by omega) (by omega) D.src).mono ?_; rintro e W2 ⟨q, rfl, hq0, hq1, hs, hG⟩)
                  have res := Box.keepA res hG D.hp
                  have loc := Box.keepA loc hG D.hp
                  have prs := own_keepA prs hG D.hp
                  have trm := own_keepA trm hG D.hp
                  have xb := Box.keepA xb hG D.hp
                  have D := D.call hs hG
                  clear hs hG
                  obtain ⟨j, rfl⟩ : ∃ j : Nat, q = j := ⟨q.toNat, by omega⟩
                  have hj : j < ps.length := by omega
                  have hj1 : (j : Int) < (ps.length : Int) := by omega
                  obtain ⟨m, hm⟩ : ∃ m, ps[j]? = some m := ⟨_, List.getElem?_eq_getElem hj⟩
                  have hmo := hpo m (List.mem_of_getElem? hm)
                  clear hq0 hq1
                  have hHeld := And.intro (Box.cell loc 0 _ rfl) (psCells prs)
                  refine hK.out _ _ (.inr hHeld) ?_
                  clear hK K
                  refine MAny.take (i := 7) (v := ?_) rfl (by kernel_rfl) (by kernel_rfl) (by kernel_rfl) (fun _ _ _ h => h) (by kernel_rfl) (Or.inl ⟨by rfl, ?_⟩) (by assumption) ?_
                  rotate_left
                  · (intro w' hSw; (try dsimp only at hSw); go_simp; try (with_reducible rfl))
                  try simp only [Act.put, List.setIfInBounds_toArray]
                  refine MAny.take (i := 8) (v := ?_) rfl (by kernel_rfl) (by kernel_rfl) (by kernel_rfl) (fun _ _ _ h => h) (by kernel_rfl) (Or.inl ⟨by rfl, ?_⟩) (by assumption) ?_
                  rotate_left
                  · (intro w' hSw; (try dsimp only at hSw); obtain ⟨e0, e1, e2⟩ := hSw.2 j m hm; clear hSw; go_simp; try (with_reducible rfl))
                  try simp only [Act.put]
                  have y0 := Box.cell xb 0 _ rfl
                  have f0 := World.ownsRow.frozenAt xb 0
                  have y1 := Box.cell xb 1 _ rfl
                  have f1 := World.ownsRow.frozenAt xb 1
                  have y2 := Box.cell xb 2 _ rfl
                  have f2 := World.ownsRow.frozenAt xb 2
                  have HP3 := Lib.hid (Box.put3 xb (.string m.name) (.int .i64 m.fr) (.int .i64 m.to))
                  refine MAny.ready (rs := [10]) (by kernel_rfl) (by simp) ?_
                  refine MReady.cons rfl (fun K hK => ?_) MReady.nil
                  go_simp
                  refine hK.out _ _ (.inl rfl) ?_
                  clear hK K
                  refine MAny.done (by kernel_rfl) ?_ _
                  try simp only [List.getElem_toArray, List.getElem_cons_succ, List.getElem_cons_zero]
                  have hp := HP3.out
                  have res := own_keepV res hp.2 (fun g e e2 => own_apartV xb res (by decide) g e2 e)
                  have loc := own_keepV loc hp.2 (fun g e e2 => own_apartV xb loc (by decide) g e2 e)
                  have trm := own_keepV trm hp.2 (fun g e e2 => own_apartV xb trm (by decide) g e2 e)
                  have prs := own_keepOther prs hp.2 hgx
                  have D := D.store hp.2 (Box.lt xb).1
                  go_wp2
                  go_meet
                  case rel => exact ⟨xg, m, rfl, hmo, hp.1, prs, trm, res, loc, D⟩
              case rest =>
                clear res loc prs trm D
                obtain ⟨xg, m, rfl, hmo, xb, prs, trm, res, loc, D⟩ := hcut
                obtain ⟨hn13, hf0, hf1, ht0, ht1⟩ := hmo
                have v1 := i64_in (m.to - m.fr) (by omega)
                have v2 := i64_in (m.to - m.fr + 1) (by omega)
                go_upto_region 13 with (fail)
                refine MAny.region (S := fun w' => w'.cell? ⟨xg, 1, none⟩ = some (.int .i64 m.fr) ∧ w'.cell? ⟨xg, 2, none⟩ = some (.int .i64 m.to)) (last := 11) (by kernel_rfl) ?_
                have res := Box.below res (Below.refl _ wc).drew
                have loc := Box.below loc (Below.refl _ wc).drew
                have prs := own_below prs (Below.refl _ wc).drew
                have trm := own_below trm (Below.refl _ wc).drew
                have xb := Box.below xb (Below.refl _ wc).drew
                have D := D.below (Below.refl _ wc).drew
                generalize wc.drew = W0 at res loc prs trm xb D ⊢
                have hHeld := And.intro (Box.cell xb 1 _ rfl) (Box.cell xb 2 _ rfl)
                refine MAny.take (i := 0) (v := ?_) rfl (by kernel_rfl) (by kernel_rfl) (by kernel_rfl) (fun _ _ _ h => h) (by kernel_rfl) (Or.inl ⟨by rfl, ?_⟩) (by assumption) ?_
                rotate_left
                · (intro w' hSw; (try dsimp only at hSw); go_simp; try (with_reducible rfl))
                try simp only [Act.put, List.setIfInBounds_toArray]
                refine MAny.take (i := 1) (v := ?_) rfl (by kernel_rfl) (by kernel_rfl) (by kernel_rfl) (fun _ _ _ h => h) (by kernel_rfl) (Or.inl ⟨by rfl, ?_⟩) (by assumption) ?_
                rotate_left
                · (intro w' hSw; (try dsimp only at hSw); go_simp; try (with_reducible rfl))
                try simp only [Act.put]
                refine MAny.take (i := 2) (v := ?_) rfl (by kernel_rfl) (by kernel_rfl) (by kernel_rfl) (fun _ _ _ h => h) (by kernel_rfl) (Or.inl ⟨by rfl, ?_⟩) (by assumption) ?_
                rotate_left
                · (intro w' hSw; (try dsimp only at hSw); go_simp; try (with_reducible rfl))
                try simp only [Act.put]
                refine MAny.take (i := 3) (v := ?_) rfl (by kernel_rfl) (by kernel_rfl) (by kernel_rfl) (fun _ _ _ h => h) (by kernel_rfl) (Or.inl ⟨by rfl, ?_⟩) (by assumption) ?_
                rotate_left
                · (intro w' hSw; (try dsimp only at hSw); go_simp; try (with_reducible rfl))
                try simp only [Act.put]
                refine MAny.take (i := 4) (v := ?_) rfl (by kernel_rfl) (by kernel_rfl) (by kernel_rfl) (fun _ _ _ h => h) (by kernel_rfl) (Or.inl ⟨by rfl, ?_⟩) (by assumption) ?_
                rotate_left
                · (intro w' hSw; (try dsimp only at hSw); go_simp; try (with_reducible rfl))
                try simp only [Act.put]
                refine MAny.take (i := 5) (v := ?_) rfl (by kernel_rfl) (by kernel_rfl) (by kernel_rfl) (fun _ _ _ h => h) (by kernel_rfl) (Or.inl ⟨by rfl, ?_⟩) (by assumption) ?_
                rotate_left
                · (intro w' hSw; (try dsimp only at hSw); go_simp; try (with_reducible rfl))
                try simp only [Act.put]
                refine MAny.take (i := 6) (v := ?_) rfl (by kernel_rfl) (by kernel_rfl) (by kernel_rfl) (fun _ _ _ h => h) (by kernel_rfl) (Or.inl ⟨by rfl, ?_⟩) (by assumption) ?_
                rotate_left
                · (intro w' hSw; (try dsimp only at hSw); go_simp; try (with_reducible rfl))
                try simp only [Act.put]
                refine MAny.take (i := 7) (v := ?_) rfl (by kernel_rfl) (by kernel_rfl) (by kernel_rfl) (fun _ _ _ h => h) (by kernel_rfl) (Or.inl ⟨by rfl, ?_⟩) (by assumption) ?_
                rotate_left
                · (intro w' hSw; (try dsimp only at hSw); go_simp; try (with_reducible rfl))
                try simp only [Act.put]
                refine MAny.take (i := 8) (v := ?_) rfl (by kernel_rfl) (by kernel_rfl) (by kernel_rfl) (fun _ _ _ h => h) (by kernel_rfl) (Or.inl ⟨by rfl, ?_⟩) (by assumption) ?_
                rotate_left
                · (intro w' hSw; (try dsimp only at hSw); go_simp; try (with_reducible rfl))
                try simp only [Act.put]
                refine MAny.ready (rs := [9]) (by kernel_rfl) (by simp) ?_
                refine MReady.cons rfl (fun K hK => ?_) MReady.nil
                go_simp
                go_wp2_with (go_at_call 62; refine (HN.out (m.to - m.fr + 1) W0 (by omega) (by omega) D.src).mono ?_; rintro e W1 ⟨q, rfl, hq0, hq1, hs, hG⟩)
                have res := Box.keepA res hG D.hp
                have loc := Box.keepA loc hG D.hp
                have prs := own_keepA prs hG D.hp
                have trm := own_keepA trm hG D.hp
                have xb := Box.keepA xb hG D.hp
                have D := D.call hs hG
                clear hs hG
                have hHeld := And.intro (Box.cell xb 1 _ rfl) (Box.cell xb 2 _ rfl)
                refine hK.out _ _ (.inr hHeld) ?_
                clear hK K
                have v3 := i64_in (m.fr + q) (by omega)
                refine MAny.take (i := 10) (v := ?_) rfl (by kernel_rfl) (by kernel_rfl) (by kernel_rfl) (fun _ _ _ h => h) (by kernel_rfl) (Or.inl ⟨by rfl, ?_⟩) (by assumption) ?_
                rotate_left
                · (intro w' hSw; (try dsimp only at hSw); go_simp; try (with_reducible rfl))
                try simp only [Act.put, List.setIfInBounds_toArray]
                refine MAny.ready (rs := [11]) (by kernel_rfl) (by simp) ?_
                refine MReady.cons rfl (fun K hK => ?_) MReady.nil
                go_simp
                refine hK.out _ _ (.inl rfl) ?_
                clear hK K
                refine MAny.done (by kernel_rfl) ?_ _
                try simp only [List.getElem_toArray, List.getElem_cons_succ, List.getElem_cons_zero]
                have hfr : 0 ≤ m.fr + q ∧ m.fr + q ≤ 900000 := by omega
                generalize m.fr + q = fr at hfr ⊢
                clear hq0 hq1 hHeld v1 v2 v3
                go_upto_region 14 with (fail)
                refine MAny.region (S := fun w' => w'.cell? ⟨lb, 1, none⟩ = some (.slice (some ⟨g2, 0, none⟩) ts.length c2) ∧ w'.cell? ⟨xg, 0, none⟩ = some (.string m.name) ∧ w'.cell? ⟨xg, 2, none⟩ = some (.int .i64 m.to)) (last := 18) (by kernel_rfl) ?_
                have res := Box.below res (Below.refl _ W1).drew
                have loc := Box.below loc (Below.refl _ W1).drew
                have prs := own_below prs (Below.refl _ W1).drew
                have trm := own_below trm (Below.refl _ W1).drew
                have xb := Box.below xb (Below.refl _ W1).drew
                have D := D.below (Below.refl _ W1).drew
                generalize W1.drew = W0 at res loc prs trm xb D ⊢
                have hHeld := And.intro (Box.cell loc 1 _ rfl) (And.intro (Box.cell xb 0 _ rfl) (Box.cell xb 2 _ rfl))
                refine MAny.take (i := 0) (v := ?_) rfl (by kernel_rfl) (by kernel_rfl) (by kernel_rfl) (fun _ _ _ h => h) (by kernel_rfl) (Or.inl ⟨by rfl, ?_⟩) (by assumption) ?_
                rotate_left
                · (intro w' hSw; (try dsimp only at hSw); go_simp; try (with_reducible rfl))
                try simp only [Act.put, List.setIfInBounds_toArray]
                refine MAny.take (i := 1) (v := ?_) rfl (by kernel_rfl) (by kernel_rfl) (by kernel_rfl) (fun _ _ _ h => h) (by kernel_rfl) (Or.inl ⟨by rfl, ?_⟩) (by assumption) ?_
                rotate_left
                · (intro w' hSw; (try dsimp only at hSw); go_simp; try (with_reducible rfl))
                try simp only [Act.put]
                refine MAny.take (i := 2) (v := ?_) rfl (by kernel_rfl) (by kernel_rfl) (by kernel_rfl) (fun _ _ _ h => h) (by kernel_rfl) (Or.inl ⟨by rfl, ?_⟩) (by assumption) ?_
                rotate_left
                · (intro w' hSw; (try dsimp only at hSw); go_simp; try (with_reducible rfl))
                try simp only [Act.put]
                refine MAny.take (i := 4) (v := ?_) rfl (by kernel_rfl) (by kernel_rfl) (by kernel_rfl) (fun _ _ _ h => h) (by kernel_rfl) (Or.inl ⟨by rfl, ?_⟩) (by assumption) ?_
                rotate_left
                · (intro w' hSw; (try dsimp only at hSw); go_simp; try (with_reducible rfl))
                try simp only [Act.put]
                refine MAny.take (i := 5) (v := ?_) rfl (by kernel_rfl) (by kernel_rfl) (by kernel_rfl) (fun _ _ _ h => h) (by kernel_rfl) (Or.inl ⟨by rfl, ?_⟩) (by assumption) ?_
                rotate_left
                · (intro w' hSw; (try dsimp only at hSw); go_simp; try (with_reducible rfl))
                try simp only [Act.put]
                refine MAny.take (i := 6) (v := ?_) rfl (by kernel_rfl) (by kernel_rfl) (by kernel_rfl) (fun _ _ _ h => h) (by kernel_rfl) (Or.inl ⟨by rfl, ?_⟩) (by assumption) ?_
                rotate_left
                · (intro w' hSw; (try dsimp only at hSw); go_simp; try (with_reducible rfl))
                try simp only [Act.put]
                refine MAny.take (i := 7) (v := ?_) rfl (by kernel_rfl) (by kernel_rfl) (by kernel_rfl) (fun _ _ _ h => h) (by kernel_rfl) (Or.inl ⟨by rfl, ?_⟩) (by assumption) ?_
                rotate_left
                · (intro w' hSw; (try dsimp only at hSw); go_simp; try (with_reducible rfl))
                try simp only [Act.put]
                refine MAny.take (i := 8) (v := ?_) rfl (by kernel_rfl) (by kernel_rfl) (by kernel_rfl) (fun _ _ _ h => h) (by kernel_rfl) (Or.inl ⟨by rfl, ?_⟩) (by assumption) ?_
                rotate_left
                · (intro w' hSw; (try dsimp only at hSw); go_simp; try (with_reducible rfl))
                try simp only [Act.put]
                refine MAny.take (i := 9) (v := ?_) rfl (by kernel_rfl) (by kernel_rfl) (by kernel_rfl) (fun _ _ _ h => h) (by kernel_rfl) (Or.inl ⟨by rfl, ?_⟩) (by assumption) ?_
                rotate_left
                · (intro w' hSw; (try dsimp only at hSw); go_simp; try (with_reducible rfl))
                try simp only [Act.put]
                refine MAny.take (i := 10) (v := ?_) rfl (by kernel_rfl) (by kernel_rfl) (by kernel_rfl) (fun _ _ _ h => h) (by kernel_rfl) (Or.inl ⟨by rfl, ?_⟩) (by assumption) ?_
                rotate_left
                · (intro w' hSw; (try dsimp only at hSw); go_simp; try (with_reducible rfl))
                try simp only [Act.put]
                refine MAny.ready (rs := [3]) (by kernel_rfl) (by simp) ?_
                refine MReady.cons rfl (fun K hK => ?_) MReady.nil
                go_simp
                go_wp2_with (go_at_call 74; refine (HO.out W0 D.src).mono ?_; rintro e W2 ⟨o, rfl, ho13, hs, hG⟩)
                have res := Box.keepA res hG D.hp
                have loc := Box.keepA loc hG D.hp
                have prs := own_keepA prs hG D.hp
                have trm := own_keepA trm hG D.hp
                have xb := Box.keepA xb hG D.hp
                have D := D.call hs hG
                clear hs hG
                have hHeld := And.intro (Box.cell loc 1 _ rfl) (And.intro (Box.cell xb 0 _ rfl) (Box.cell xb 2 _ rfl))
                refine hK.out _ _ (.inr hHeld) ?_
                clear hK K
                refine MAny.ready (rs := [11]) (by kernel_rfl) (by simp) ?_
                refine MReady.cons rfl (fun K hK => ?_) MReady.nil
                go_simp
                go_wp2_with (go_at_call 62; refine (HN.out 4000 W2 (by decide) (by decide) D.src).mono ?_; rintro e W3 ⟨u, rfl, hu0, hu1, hs, hG⟩)
                have res := Box.keepA res hG D.hp
                have loc := Box.keepA loc hG D.hp
                have prs := own_keepA prs hG D.hp
                have trm := own_keepA trm hG D.hp
                have xb := Box.keepA xb hG D.hp
                have D := D.call hs hG
                clear hs hG
                have hHeld := And.intro (Box.cell loc 1 _ rfl) (And.intro (Box.cell xb 0 _ rfl) (Box.cell xb 2 _ rfl))
                refine hK.out _ _ (.inr hHeld) ?_
                clear hK K
                have v4 := i64_in (fr + u) (by omega)
                refine MAny.take (i := 12) (v := ?_) rfl (by kernel_rfl) (by kernel_rfl) (by kernel_rfl) (fun _ _ _ h => h) (by kernel_rfl) (Or.inl ⟨by rfl, ?_⟩) (by assumption) ?_
                rotate_left
                · (intro w' hSw; (try dsimp only at hSw); go_simp; try (with_reducible rfl))
                try simp only [Act.put, List.setIfInBounds_toArray]
                refine MAny.take (i := 13) (v := ?_) rfl (by kernel_rfl) (by kernel_rfl) (by kernel_rfl) (fun _ _ _ h => h) (by kernel_rfl) (Or.inl ⟨by rfl, ?_⟩) (by assumption) ?_
                rotate_left
                · (intro w' hSw; (try dsimp only at hSw); go_simp; try (with_reducible rfl))
                try simp only [Act.put]
                refine MAny.take (i := 14) (v := ?_) rfl (by kernel_rfl) (by kernel_rfl) (by kernel_rfl) (fun _ _ _ h => h) (by kernel_rfl) (Or.inl ⟨by rfl, ?_⟩) (by assumption) ?_
                rotate_left
                · (intro w' hSw; (try dsimp only at hSw); go_simp; try (with_reducible rfl))
                try simp only [Act.put]
                refine MAny.ready (rs := [15]) (by kernel_rfl) (by simp) ?_
                refine MReady.cons rfl (fun K hK => ?_) MReady.nil
                go_simp
                have hBA := belowA W3 (.cells #[.string o, .string m.name, .int .i64 fr, .int .i64 (min m.to (fr + u))] 105)
                have res := Box.below res hBA
                have loc := Box.below loc hBA
                have prs := own_below prs hBA
                have trm := own_below trm hBA
                have xb := Box.below xb hBA
                have D := D.below hBA
                clear hBA
                have hHeld := And.intro (Box.cell loc 1 _ rfl) (And.intro (Box.cell xb 0 _ rfl) (Box.cell xb 2 _ rfl))
                refine hK.out _ _ (.inr hHeld) ?_
                clear hK K
                refine MAny.ready (rs := [16]) (by kernel_rfl) (by simp) ?_
                refine MReady.cons rfl (fun K hK => ?_) MReady.nil
                refine step_append_lies _ (by rfl) (.tmp 75) (.tmp 89) 46 (by rfl) w.heap.size 105 it (.agg #[.string ⟨#[]⟩, .string ⟨#[]⟩, .int .i64 0, .int .i64 0]) 4 48 Tryz.underlying46 hit hit0 hit1 hit2 rfl (by decide) _ _ _ (by rfl) trm ⟨W3.heap.size, 0, none⟩ 1 1 [.string o, .string m.name, .int .i64 fr, .int .i64 (min m.to (fr + u))] (by rfl) rfl ?n1 ?n2 (by decide) ?n3 ?n4 ?n5 _ rfl ?_
                case n1 => exact World.news_of_block (heap_alloc_new _ _)
                case n2 => intro u hu; simp at hu; rcases hu with rfl | rfl | rfl | rfl <;> rfl
                case n3 => unfold maxLen; omega
                case n4 => omega
                case n5 => have := D.size; simp at this ⊢; omega
                intro g' c' W4 hown4 hG4 _ _
                have hG4 : (W3.alloc (.cells #[.string o, .string m.name, .int .i64 fr, .int .i64 (min m.to (fr + u))] 105)).grownBy W4 (some g2) := hG4
                have hown4' : W4.ownsRow w.heap.size 105 4 (.slice (some ⟨g', 0, none⟩) (ts.length + 1) c') (ts.length + 1) ((ts ++ [(⟨o, m.name, fr, min m.to (fr + u)⟩ : Tm)]).flatMap encTm) := by rw [List.flatMap_append]; exact hown4
                have res := own_keepV res hG4 (fun g e e2 => own_apartV res trm (by decide) g e e2)
                have loc := own_keepV loc hG4 (fun g e e2 => own_apartV loc trm (by decide) g e e2)
                have prs := own_keepV prs hG4 (fun g e e2 => own_apartV prs trm (by decide) g e e2)
                have xb := own_keepV xb hG4 (fun g e e2 => own_apartV xb trm (by decide) g e e2)
                have D := D.store hG4 (own_lt trm).1
                have trm := hown4'
                clear hown4 hown4' hG4
                have hHeld := And.intro (Box.cell loc 1 _ rfl) (And.intro (Box.cell xb 0 _ rfl) (Box.cell xb 2 _ rfl))
                refine hK.out _ _ (.inr hHeld) ?_
                clear hK K
                have f0 := World.ownsRow.frozenAt loc 1
                refine MAny.take (i := 17) (v := ?_) rfl (by kernel_rfl) (by kernel_rfl) (by kernel_rfl) (fun _ _ _ h => h) (by kernel_rfl) (Or.inl ⟨by rfl, ?_⟩) (by assumption) ?_
                rotate_left
                · (intro w' hSw; (try dsimp only at hSw); go_simp; try (with_reducible rfl))
                try simp only [Act.put, List.setIfInBounds_toArray]
                refine MAny.ready (rs := [18]) (by kernel_rfl) (by simp) ?_
                refine MReady.cons rfl (fun K hK => ?_) MReady.nil
                go_simp
                refine hK.out _ _ (.inl rfl) ?_
                clear hK K
                refine MAny.done (by kernel_rfl) ?_ _
                try simp only [List.getElem_toArray, List.getElem_cons_succ, List.getElem_cons_zero]
                have hp := Box.put (i := 1) (pre := [.slice (some ⟨g, 0, none⟩) ps.length c]) (post := []) loc rfl (.slice (some ⟨g', 0, none⟩) (ts.length + 1) c')
                have prs := own_keepV prs hp.2 (fun g e e2 => own_apartV loc prs (by decide) g e2 e)
                have trm := own_keepV trm hp.2 (fun g e e2 => own_apartV loc trm (by decide) g e2 e)
                have res := Box.keep res hp.2 hlr
                have D := D.store hp.2 (Box.lt loc).1
                have loc := hp.1
                clear hp hHeld f0 xb
                generalize W4.setCell ⟨lb, 1, none⟩ (.slice (some ⟨g', 0, none⟩) (ts.length + 1) c') = W5 at res prs trm loc D ⊢
                have v5 := i64_in ((k : Int) - 1) (by omega)
                have v6 : ((k - 1 : Nat) : Int) = (k : Int) - 1 := by omega
                go_wp2
                go_roundw
                case rel => exact ⟨k - 1, g', c', ts ++ [⟨o, m.name, fr, min m.to (fr + u)⟩], by rw [v6], by simp; omega, fun x hx => by
                    rcases List.mem_append.1 hx with hx | hx
                    · exact hto x hx
                    · simp at hx; subst hx; exact okTd_mk ho13 hn13 (by omega) (by omega), prs, by rw [List.length_append]; exact trm, res, by rw [List.length_append]; exact loc, D⟩
                case measure => simp [intOf]; omega
      case rest =>
        clear res loc prs trm D hpo hpl hk6
        obtain ⟨g, c, ps, g2, c2, ts, hpl, htl, hpo, hto, prs, trm, res, loc, D⟩ := hcut
        go_wp2_with fail
        refine (HN.out 60 _ (by decide) (by decide) D.src).mono ?_
        rintro e w12 ⟨x, rfl, hx0, hx1, hs, hG⟩
        have res := Box.keepA res hG D.hp
        have loc := Box.keepA loc hG D.hp
        have prs := own_keepA prs hG D.hp
        have trm := own_keepA trm hG D.hp
        have D := D.call hs hG
        clear hs hG
        go_upto_block 4 with (fail)
        go_cut [] from 94 to 140 (fun wr => ∃ (g c : Nat) (ps : List Ps) (g2 c2 : Nat) (ts : List Tm), ps.length ≤ 6 ∧ ts.length ≤ 7 ∧ (∀ m ∈ ps, okPd m) ∧ (∀ m ∈ ts, okTd m) ∧ wr.ownsRow w.heap.size 110 3 (.slice (some ⟨g, 0, none⟩) ps.length c) ps.length (ps.flatMap encPs) ∧ wr.ownsRow w.heap.size 105 4 (.slice (some ⟨g2, 0, none⟩) ts.length c2) ts.length (ts.flatMap encTm) ∧ Box w.heap.size wr 48 w.heap.size [.slice none 0 0, .slice none 0 0] ∧ Box w.heap.size wr 48 lb [.slice (some ⟨g, 0, none⟩) ps.length c, .slice (some ⟨g2, 0, none⟩) ts.length c2] ∧ Drw w0 cs cap bs p w wr)
        case first =>
          by_cases x0 : x = 0
          · subst x0
            have hm0 := Box.cell loc 1 _ rfl
            have f1 := World.ownsRow.frozenAt loc 1
            go_wp2_with (at_builtin; refine wpList_append_own _ rfl _ _ 46 rfl w.heap.size 105 it (.agg #[.string ⟨#[]⟩, .string ⟨#[]⟩, .int .i64 0, .int .i64 0]) 4 48 Tryz.underlying46 hit hit0 hit1 hit2 rfl (by decide) _ _ _ rfl (World.ownsRow.alloc trm _) ⟨w12.heap.size, 0, none⟩ 1 1 [.string ⟨#[98, 105, 115, 104, 111, 112]⟩, .string ⟨#[110, 111, 98, 111, 100, 121]⟩, .int .i64 420000, .int .i64 420001] rfl rfl (World.news_of_block (heap_alloc_new _ _)) ?c2 ?c3 ?c4 ?c5 ?_)
            case c2 => exact ⟨rfl, rfl, rfl, rfl⟩
            case c3 => unfold maxLen; omega
            case c4 => omega
            case c5 => have := D.size; simp; omega
            intro v' W4 hown' hgr _
            have hBA := belowA w12 (.cells #[.string ⟨#[98, 105, 115, 104, 111, 112]⟩, .string ⟨#[110, 111, 98, 111, 100, 121]⟩, .int .i64 420000, .int .i64 420001] 105)
            have res := Box.below res hBA
            have loc := Box.below loc hBA
            have prs := own_below prs hBA
            have trm := own_below trm hBA
            have D := D.below hBA
            clear hBA
            obtain ⟨g3, c3, rfl⟩ := formJ hown' (by omega)
            have res := own_keepV res hgr (fun g e e2 => own_apartV res trm (by decide) g e e2)
            have loc := own_keepV loc hgr (fun g e e2 => own_apartV loc trm (by decide) g e e2)
            have prs := own_keepV prs hgr (fun g e e2 => own_apartV prs trm (by decide) g e e2)
            have D := D.grown hgr (fun g e => (trm.lt g e).1)
            have trm : W4.ownsRow w.heap.size 105 4 (.slice (some ⟨g3, 0, none⟩) (ts.length + 1) c3) (ts.length + 1) ((ts ++ [(⟨⟨#[98, 105, 115, 104, 111, 112]⟩, ⟨#[110, 111, 98, 111, 100, 121]⟩, 420000, 420001⟩ : Tm)]).flatMap encTm) := by rw [List.flatMap_append]; exact hown'
            clear hown' hgr hm0 f1
            have f1 := World.ownsRow.frozenAt loc 1
            have m1 := Box.cell loc 1 _ rfl
            have hp := Box.put (i := 1) (pre := [.slice (some ⟨g, 0, none⟩) ps.length c]) (post := []) loc rfl (.slice (some ⟨g3, 0, none⟩) (ts.length + 1) c3)
            have HP1 := Lib.hid hp.1
            have HG1 := Lib.hid hp.2
            clear hp
            go_wp2
            go_meet
            have hp := And.intro HP1.out HG1.out
            clear HP1 HG1
            have prs := own_keepV prs hp.2 (fun g e e2 => own_apartV loc prs (by decide) g e2 e)
            have trm := own_keepV trm hp.2 (fun g e e2 => own_apartV loc trm (by decide) g e2 e)
            have res := Box.keep res hp.2 hlr
            have D := D.store hp.2 (Box.lt loc).1
            have loc := hp.1
            have hl1 : ts.length + 1 = (ts ++ [(⟨⟨#[98, 105, 115, 104, 111, 112]⟩, ⟨#[110, 111, 98, 111, 100, 121]⟩, 420000, 420001⟩ : Tm)]).length := by simp
            have hto' : ∀ m ∈ ts ++ [(⟨⟨#[98, 105, 115, 104, 111, 112]⟩, ⟨#[110, 111, 98, 111, 100, 121]⟩, 420000, 420001⟩ : Tm)], okTd m := fun m hm => by
              rcases List.mem_append.1 hm with hm | hm
              · exact hto m hm
              · simp at hm; subst hm; exact okTd_mk (by decide) (by decide) (by decide) (by decide)
            case rel => exact ⟨g, c, ps, g3, c3, ts ++ [⟨⟨#[98, 105, 115, 104, 111, 112]⟩, ⟨#[110, 111, 98, 111, 100, 121]⟩, 420000, 420001⟩], hpl, by rw [← hl1]; omega, hpo, hto', prs, by rw [← hl1]; exact trm, res, by rw [← hl1]; exact loc, D⟩
          · have x0' : (x == 0) = false := by simpa using x0
            by_cases x1 : x = 1
            · subst x1
              rcases ps with _ | ⟨m, pt⟩
              · have hm0 := Box.cell loc 0 _ rfl
                go_wp2
                go_meet
                case rel => exact ⟨g, c, [], g2, c2, ts, hpl, by omega, hpo, hto, prs, trm, res, loc, D⟩
              · have hm0 := Box.cell loc 0 _ rfl
                have hl0 : (0 : Int) < (((m :: pt).length : Nat) : Int) := by simp
                go_upto_region 20 with (fail)
                clear hm0
                obtain ⟨hn13, hf0, hf1, ht0, ht1⟩ := hpo m (by simp)
                have v1 := i64_in (m.fr - 1) (by omega)
                refine MAny.region (S := fun w' => w'.cell? ⟨lb, 0, none⟩ = some (.slice (some ⟨g, 0, none⟩) (m :: pt).length c) ∧ w'.cell? ⟨g, 1, none⟩ = some (.int .i64 m.fr)) (last := 18) (by kernel_rfl) ?_
                have res := Box.below res (Below.refl _ w12).drew
                have loc := Box.below loc (Below.refl _ w12).drew
                have prs := own_below prs (Below.refl _ w12).drew
                have trm := own_below trm (Below.refl _ w12).drew
                have D := D.below (Below.refl _ w12).drew
                generalize w12.drew = W0 at res loc prs trm D ⊢
                have hHeld := And.intro (Box.cell loc 0 _ rfl) (by simpa using (psCells prs 0 m rfl).2.1)
                refine MAny.take (i := 0) (v := ?_) rfl (by kernel_rfl) (by kernel_rfl) (by kernel_rfl) (fun _ _ _ h => h) (by kernel_rfl) (Or.inl ⟨by rfl, ?_⟩) (by assumption) ?_
                rotate_left
                · (intro w' hSw; (try dsimp only at hSw); go_simp; try (with_reducible rfl))
                try simp only [Act.put, List.setIfInBounds_toArray]
                refine MAny.take (i := 1) (v := ?_) rfl (by kernel_rfl) (by kernel_rfl) (by kernel_rfl) (fun _ _ _ h => h) (by kernel_rfl) (Or.inl ⟨by rfl, ?_⟩) (by assumption) ?_
                rotate_left
                · (intro w' hSw; (try dsimp only at hSw); go_simp; try (with_reducible rfl))
                try simp only [Act.put]
                refine MAny.take (i := 2) (v := ?_) rfl (by kernel_rfl) (by kernel_rfl) (by kernel_rfl) (fun _ _ _ h => h) (by kernel_rfl) (Or.inl ⟨by rfl, ?_⟩) (by assumption) ?_
                rotate_left
                · (intro w' hSw; (try dsimp only at hSw); go_simp; try (with_reducible rfl))
                try simp only [Act.put]
                refine MAny.take (i := 3) (v := ?_) rfl (by kernel_rfl) (by kernel_rfl) (by kernel_rfl) (fun _ _ _ h => h) (by kernel_rfl) (Or.inl ⟨by rfl, ?_⟩) (by assumption) ?_
                rotate_left
                · (intro w' hSw; (try dsimp only at hSw); go_simp; try (with_reducible rfl))
                try simp only [Act.put]
                refine MAny.take (i := 4) (v := ?_) rfl (by kernel_rfl) (by kernel_rfl) (by kernel_rfl) (fun _ _ _ h => h) (by kernel_rfl) (Or.inl ⟨by rfl, ?_⟩) (by assumption) ?_
                rotate_left
                · (intro w' hSw; (try dsimp only at hSw); go_simp; try (with_reducible rfl))
                try simp only [Act.put]
                refine MAny.take (i := 5) (v := ?_) rfl (by kernel_rfl) (by kernel_rfl) (by kernel_rfl) (fun _ _ _ h => h) (by kernel_rfl) (Or.inl ⟨by rfl, ?_⟩) (by assumption) ?_
                rotate_left
                · (intro w' hSw; (try dsimp only at hSw); go_simp; try (with_reducible rfl))
                try simp only [Act.put]
                refine MAny.take (i := 6) (v := ?_) rfl (by kernel_rfl) (by kernel_rfl) (by kernel_rfl) (fun _ _ _ h => h) (by kernel_rfl) (Or.inl ⟨by rfl, ?_⟩) (by assumption) ?_
                rotate_left
                · (intro w' hSw; (try dsimp only at hSw); go_simp; try (with_reducible rfl))
                try simp only [Act.put]
                refine MAny.take (i := 7) (v := ?_) rfl (by kernel_rfl) (by kernel_rfl) (by kernel_rfl) (fun _ _ _ h => h) (by kernel_rfl) (Or.inl ⟨by rfl, ?_⟩) (by assumption) ?_
                rotate_left
                · (intro w' hSw; (try dsimp only at hSw); go_simp; try (with_reducible rfl))
                try simp only [Act.put]
                refine MAny.take (i := 8) (v := ?_) rfl (by kernel_rfl) (by kernel_rfl) (by kernel_rfl) (fun _ _ _ h => h) (by kernel_rfl) (Or.inl ⟨by rfl, ?_⟩) (by assumption) ?_
                rotate_left
                · (intro w' hSw; (try dsimp only at hSw); go_simp; try (with_reducible rfl))
                try simp only [Act.put]
                refine MAny.take (i := 9) (v := ?_) rfl (by kernel_rfl) (by kernel_rfl) (by kernel_rfl) (fun _ _ _ h => h) (by kernel_rfl) (Or.inl ⟨by rfl, ?_⟩) (by assumption) ?_
                rotate_left
                · (intro w' hSw; (try dsimp only at hSw); go_simp; try (with_reducible rfl))
                try simp only [Act.put]
                refine MAny.take (i := 10) (v := ?_) rfl (by kernel_rfl) (by kernel_rfl) (by kernel_rfl) (fun _ _ _ h => h) (by kernel_rfl) (Or.inl ⟨by rfl, ?_⟩) (by assumption) ?_
                rotate_left
                · (intro w' hSw; (try dsimp only at hSw); go_simp; try (with_reducible rfl))
                try simp only [Act.put]
                refine MAny.take (i := 11) (v := ?_) rfl (by kernel_rfl) (by kernel_rfl) (by kernel_rfl) (fun _ _ _ h => h) (by kernel_rfl) (Or.inl ⟨by rfl, ?_⟩) (by assumption) ?_
                rotate_left
                · (intro w' hSw; (try dsimp only at hSw); go_simp; try (with_reducible rfl))
                try simp only [Act.put]
                refine MAny.take (i := 12) (v := ?_) rfl (by kernel_rfl) (by kernel_rfl) (by kernel_rfl) (fun _ _ _ h => h) (by kernel_rfl) (Or.inl ⟨by rfl, ?_⟩) (by assumption) ?_
                rotate_left
                · (intro w' hSw; (try dsimp only at hSw); go_simp; try (with_reducible rfl))
                try simp only [Act.put]
                refine MAny.take (i := 13) (v := ?_) rfl (by kernel_rfl) (by kernel_rfl) (by kernel_rfl) (fun _ _ _ h => h) (by kernel_rfl) (Or.inl ⟨by rfl, ?_⟩) (by assumption) ?_
                rotate_left
                · (intro w' hSw; (try dsimp only at hSw); go_simp; try (with_reducible rfl))
                try simp only [Act.put]
                refine MAny.ready (rs := [14]) (by kernel_rfl) (by simp) ?_
                refine MReady.cons rfl (fun K hK => ?_) MReady.nil
                go_simp
                have hrd := rd_lit (w := W0) (c := #[.int .i64 (m.fr - 1), .int .i64 m.fr, .int .i64 730500]) (xs := [m.fr - 1, m.fr, 730500]) (p := p) rfl D.src.lt.2
                have hBA := belowA W0 (.cells #[.int .i64 (m.fr - 1), .int .i64 m.fr, .int .i64 730500] 2)
                have res := Box.below res hBA
                have loc := Box.below loc hBA
                have prs := own_below prs hBA
                have trm := own_below trm hBA
                have D := D.below hBA
                clear hBA
                have hHeld := And.intro (Box.cell loc 0 _ rfl) (by simpa using (psCells prs 0 m rfl).2.1)
                refine hK.out _ _ (.inr hHeld) ?_
                clear hK K
                refine MAny.ready (rs := [15]) (by kernel_rfl) (by simp) ?_
                refine MReady.cons rfl (fun K hK => ?_) MReady.nil
                go_simp
                go_wp2_with (go_at_call 84; refine (HP.out _ 3 [m.fr - 1, m.fr, 730500] _ D.src hrd (by simp) (by simp)).mono ?_; rintro e W1 ⟨v, rfl, hv, hs, hG⟩)
                have res := Box.keepA res hG D.hp
                have loc := Box.keepA loc hG D.hp
                have prs := own_keepA prs hG D.hp
                have trm := own_keepA trm hG D.hp
                have D := D.call hs hG
                clear hs hG
                have hHeld := And.intro (Box.cell loc 0 _ rfl) (by simpa using (psCells prs 0 m rfl).2.1)
                refine hK.out _ _ (.inr hHeld) ?_
                clear hK K
                have hv2 : m.fr - 1 ≤ v ∧ v ≤ 730500 := by simp at hv; omega
                clear hv hrd
                have e2 : W1.cell? ⟨g, 2, none⟩ = some (.int .i64 m.to) := by simpa using (psCells prs 0 m rfl).2.2
                have f2 := World.ownsRow.frozenAt prs 2
                refine MAny.ready (rs := [16]) (by kernel_rfl) (by simp) ?_
                refine MReady.cons rfl (fun K hK => ?_) MReady.nil
                go_simp
                refine hK.out _ _ (.inr hHeld) ?_
                clear hK K
                refine MAny.take (i := 17) (v := ?_) rfl (by kernel_rfl) (by kernel_rfl) (by kernel_rfl) (fun _ _ _ h => h) (by kernel_rfl) (Or.inl ⟨by rfl, ?_⟩) (by assumption) ?_
                rotate_left
                · (intro w' hSw; (try dsimp only at hSw); go_simp; try (with_reducible rfl))
                try simp only [Act.put, List.setIfInBounds_toArray]
                refine MAny.ready (rs := [18]) (by kernel_rfl) (by simp) ?_
                refine MReady.cons rfl (fun K hK => ?_) MReady.nil
                go_simp
                refine hK.out _ _ (.inl rfl) ?_
                clear hK K
                refine MAny.done (by kernel_rfl) ?_ _
                try simp only [List.getElem_toArray, List.getElem_cons_succ, List.getElem_cons_zero]
                have hp := own_put (i := 2) (pre := [.string m.name, .int .i64 m.fr]) (post := pt.flatMap encPs) (x := .int .i64 m.to) (by simpa [encPs] using prs) rfl (.int .i64 v)
                have res := own_keepV res hp.2 (fun g e e2 => own_apartV res prs (by decide) g e e2)
                have loc := own_keepV loc hp.2 (fun g e e2 => own_apartV loc prs (by decide) g e e2)
                have trm := own_keepV trm hp.2 (fun g e e2 => own_apartV trm prs (by decide) g e e2)
                have D := D.store hp.2 (own_lt prs).1
                have prs : (W1.setCell ⟨g, 2, none⟩ (.int .i64 v)).ownsRow w.heap.size 110 3 (.slice (some ⟨g, 0, none⟩) ((⟨m.name, m.fr, v⟩ : Ps) :: pt).length c) ((⟨m.name, m.fr, v⟩ : Ps) :: pt).length (((⟨m.name, m.fr, v⟩ : Ps) :: pt).flatMap encPs) := by simpa [encPs] using hp.1
                have hpo' : ∀ x ∈ ((⟨m.name, m.fr, v⟩ : Ps) :: pt), okPd x := fun x hx => by
                  rcases List.mem_cons.1 hx with rfl | hx
                  · exact okPd_mk hn13 (by omega) (by omega)
                  · exact hpo x (by simp [hx])
                go_wp2
                go_meet
                case rel => exact ⟨g, c, ⟨m.name, m.fr, v⟩ :: pt, g2, c2, ts, hpl, by omega, hpo', hto, prs, trm, res, loc, D⟩
            · have x1' : (x == 1) = false := by simpa using x1
              by_cases x2 : x = 2
              · subst x2
                rcases ps with _ | ⟨m, _ | ⟨m2, pt⟩⟩
                · have hm0 := Box.cell loc 0 _ rfl
                  go_wp2
                  go_meet
                  case rel => exact ⟨g, c, [], g2, c2, ts, hpl, by omega, hpo, hto, prs, trm, res, loc, D⟩
                · have hm0 := Box.cell loc 0 _ rfl
                  go_wp2
                  go_meet
                  case rel => exact ⟨g, c, [m], g2, c2, ts, hpl, by omega, hpo, hto, prs, trm, res, loc, D⟩
                · have hm0 := Box.cell loc 0 _ rfl
                  have hl0 : (1 : Int) < (((m :: m2 :: pt).length : Nat) : Int) := by simp only [List.length_cons]; omega
                  have hl2 : (0 : Int) < (pt.length : Int) + 1 + 1 := by omega
                  have hl3 : (1 : Int) < (pt.length : Int) + 1 + 1 := by omega
                  go_upto_region 23 with (fail)
                  clear hm0
                  refine MAny.region (S := fun w' => w'.cell? ⟨lb, 0, none⟩ = some (.slice (some ⟨g, 0, none⟩) (m :: m2 :: pt).length c) ∧ w'.cell? ⟨g, 0, none⟩ = some (.string m.name)) (last := 9) (by kernel_rfl) ?_
                  have res := Box.below res (Below.refl _ w12).drew
                  have loc := Box.below loc (Below.refl _ w12).drew
                  have prs := own_below prs (Below.refl _ w12).drew
                  have trm := own_below trm (Below.refl _ w12).drew
                  have D := D.below (Below.refl _ w12).drew
                  generalize w12.drew = W0 at res loc prs trm D ⊢
                  have hHeld := And.intro (Box.cell loc 0 _ rfl) (by simpa using (psCells prs 0 m rfl).1)
                  refine MAny.take (i := 0) (v := ?_) rfl (by kernel_rfl) (by kernel_rfl) (by kernel_rfl) (fun _ _ _ h => h) (by kernel_rfl) (Or.inl ⟨by rfl, ?_⟩) (by assumption) ?_
                  rotate_left
                  · (intro w' hSw; (try dsimp only at hSw); go_simp; try (with_reducible rfl))
                  try simp only [Act.put, List.setIfInBounds_toArray]
                  refine MAny.take (i := 1) (v := ?_) rfl (by kernel_rfl) (by kernel_rfl) (by kernel_rfl) (fun _ _ _ h => h) (by kernel_rfl) (Or.inl ⟨by rfl, ?_⟩) (by assumption) ?_
                  rotate_left
                  · (intro w' hSw; (try dsimp only at hSw); go_simp; try (with_reducible rfl))
                  try simp only [Act.put]
                  refine MAny.take (i := 2) (v := ?_) rfl (by kernel_rfl) (by kernel_rfl) (by kernel_rfl) (fun _ _ _ h => h) (by kernel_rfl) (Or.inl ⟨by rfl, ?_⟩) (by assumption) ?_
                  rotate_left
                  · (intro w' hSw; (try dsimp only at hSw); go_simp; try (with_reducible rfl))
                  try simp only [Act.put]
                  refine MAny.take (i := 3) (v := ?_) rfl (by kernel_rfl) (by kernel_rfl) (by kernel_rfl) (fun _ _ _ h => h) (by kernel_rfl) (Or.inl ⟨by rfl, ?_⟩) (by assumption) ?_
                  rotate_left
                  · (intro w' hSw; (try dsimp only at hSw); go_simp; try (with_reducible rfl))
                  try simp only [Act.put]
                  refine MAny.take (i := 4) (v := ?_) rfl (by kernel_rfl) (by kernel_rfl) (by kernel_rfl) (fun _ _ _ h => h) (by kernel_rfl) (Or.inl ⟨by rfl, ?_⟩) (by assumption) ?_
                  rotate_left
                  · (intro w' hSw; (try dsimp only at hSw); go_simp; try (with_reducible rfl))
                  try simp only [Act.put]
                  refine MAny.take (i := 5) (v := ?_) rfl (by kernel_rfl) (by kernel_rfl) (by kernel_rfl) (fun _ _ _ h => h) (by kernel_rfl) (Or.inl ⟨by rfl, ?_⟩) (by assumption) ?_
                  rotate_left
                  · (intro w' hSw; (try dsimp only at hSw); go_simp; try (with_reducible rfl))
                  try simp only [Act.put]
                  refine MAny.take (i := 6) (v := ?_) rfl (by kernel_rfl) (by kernel_rfl) (by kernel_rfl) (fun _ _ _ h => h) (by kernel_rfl) (Or.inl ⟨by rfl, ?_⟩) (by assumption) ?_
                  rotate_left
                  · (intro w' hSw; (try dsimp only at hSw); go_simp; try (with_reducible rfl))
                  try simp only [Act.put]
                  have e3 : W0.cell? ⟨g, 3, none⟩ = some (.string m2.name) := by simpa using (psCells prs 1 m2 rfl).1
                  have f3 := World.ownsRow.frozenAt prs 3
                  refine MAny.ready (rs := [7]) (by kernel_rfl) (by simp) ?_
                  refine MReady.cons rfl (fun K hK => ?_) MReady.nil
                  go_simp
                  refine hK.out _ _ (.inr hHeld) ?_
                  clear hK K
                  refine MAny.take (i := 8) (v := ?_) rfl (by kernel_rfl) (by kernel_rfl) (by kernel_rfl) (fun _ _ _ h => h) (by kernel_rfl) (Or.inl ⟨by rfl, ?_⟩) (by assumption) ?_
                  rotate_left
                  · (intro w' hSw; (try dsimp only at hSw); go_simp; try (with_reducible rfl))
                  try simp only [Act.put, List.setIfInBounds_toArray]
                  refine MAny.ready (rs := [9]) (by kernel_rfl) (by simp) ?_
                  refine MReady.cons rfl (fun K hK => ?_) MReady.nil
                  go_simp
                  refine hK.out _ _ (.inl rfl) ?_
                  clear hK K
                  refine MAny.done (by kernel_rfl) ?_ _
                  try simp only [List.getElem_toArray, List.getElem_cons_succ, List.getElem_cons_zero]
                  have hp := own_put (i := 3) (pre := [.string m.name, .int .i64 m.fr, .int .i64 m.to]) (post := .int .i64 m2.fr :: .int .i64 m2.to :: pt.flatMap encPs) (x := .string m2.name) (by simpa [encPs] using prs) rfl (.string m.name)
                  have res := own_keepV res hp.2 (fun g e e2 => own_apartV res prs (by decide) g e e2)
                  have loc := own_keepV loc hp.2 (fun g e e2 => own_apartV loc prs (by decide) g e e2)
                  have trm := own_keepV trm hp.2 (fun g e e2 => own_apartV trm prs (by decide) g e e2)
                  have D := D.store hp.2 (own_lt prs).1
                  have prs : (W0.setCell ⟨g, 3, none⟩ (.string m.name)).ownsRow w.heap.size 110 3 (.slice (some ⟨g, 0, none⟩) (m :: (⟨m.name, m2.fr, m2.to⟩ : Ps) :: pt).length c) (m :: (⟨m.name, m2.fr, m2.to⟩ : Ps) :: pt).length ((m :: (⟨m.name, m2.fr, m2.to⟩ : Ps) :: pt).flatMap encPs) := by simpa [encPs] using hp.1
                  have hpo' : ∀ x ∈ (m :: (⟨m.name, m2.fr, m2.to⟩ : Ps) :: pt), okPd x := fun x hx => by
                    have h1 := hpo m (by simp)
                    have h2 := hpo m2 (by simp)
                    rcases List.mem_cons.1 hx with rfl | hx
                    · exact h1
                    · rcases List.mem_cons.1 hx with rfl | hx
                      · exact ⟨h1.1, h2.2⟩
                      · exact hpo x (by simp [hx])
                  go_wp2
                  go_meet
                  case rel => exact ⟨g, c, m :: ⟨m.name, m2.fr, m2.to⟩ :: pt, g2, c2, ts, hpl, by omega, hpo', hto, prs, trm, res, loc, D⟩
              · have x2' : (x == 2) = false := by simpa using x2
                go_wp2
                go_meet
                case rel => exact ⟨g, c, ps, g2, c2, ts, hpl, by omega, hpo, hto, prs, trm, res, loc, D⟩
        case rest =>
          clear res loc prs trm D hpo hpl htl hto
          obtain ⟨g, c, ps, g2, c2, ts, hpl, htl, hpo, hto, prs, trm, res, loc, D⟩ := hcut
          have m0 := Box.cell loc 0 _ rfl
          have r0 := Box.cell res 0 _ rfl
          have f0 := World.ownsRow.frozenAt res 0
          have m1 := Box.cell loc 1 _ rfl
          have r1 := Box.cell res 1 _ rfl
          have f1 := World.ownsRow.frozenAt res 1
          have HP2 := Lib.hid (Box.put2 res (.slice (some ⟨g, 0, none⟩) ps.length c) (.slice (some ⟨g2, 0, none⟩) ts.length c2))
          go_wp2
          have hp := HP2.out
          have prs := own_keepV prs hp.2 (fun g e e2 => own_apartV res prs (by decide) g e2 e)
          have trm := own_keepV trm hp.2 (fun g e e2 => own_apartV res trm (by decide) g e2 e)
          have D := D.store hp.2 (Nat.le_refl _)
          generalize (wc.setCell ⟨w.heap.size, 0, none⟩ (.slice (some ⟨g, 0, none⟩) ps.length c)).setCell ⟨w.heap.size, 1, none⟩ (.slice (some ⟨g2, 0, none⟩) ts.length c2) = Wf at hp prs trm D ⊢
          have z0 := Box.cell hp.1 0 _ rfl
          have z1 := Box.cell hp.1 1 _ rfl
          refine bodyPost_ret_by (v := .agg #[.slice (some ⟨g, 0, none⟩) ps.length c, .slice (some ⟨g2, 0, none⟩) ts.length c2]) ?_ rfl ⟨g, g2, c, c2, ps, ts, rfl, ⟨hpl, htl, hpo, hto, prs, trm⟩, D.src, D.gr⟩
          simp [results, go_sem, z0, z1]
end Go.Proofs.YtmjbigeeokofeaaGreatDoor
