/- Walks: the days that fit a dating, by the program. Printed by gen_fiti.py. -/
import Derived.Test.YteajkofgcmfaoaaGreatDoorHd
import Derived.Test.YteajkofgcmfaoaaGreatDoorTt
import Derived.Test.YteajkofgcmfaoaaGreatDoorCh
import Derived.Test.YteajkofgcmfaoaaGreatDoorDt
import Derived.Test.YteajkofgcmfaoaaGreatDoorBB
import Derived.Deep.AppendLies
import Derived.Deep.LoopGhost
import Derived.WalkSmall
import Derived.BigRegion
import Derived.Deep.CutRange
import Derived.Test.YteajkofgcmfaoaaGreatDoorSq
import Derived.Test.YteajkofgcmfaoaaGreatDoorLi
namespace Go.Proofs.YteajkofgcmfaoaaGreatDoor
section
def fitB (rs : List Rg) (cs : List Cl) (n : Int) : Bool := cs.all (fun c => holdB rs c n)
/-- One more day at the end of a list of spans. -/
def spStep (out : List Sp) (n : Int) : List Sp := match out.getLast? with
  | some s => if s.to = n - 1 then out.dropLast ++ [⟨s.fr, n⟩] else out ++ [⟨n, n⟩]
  | none => [⟨n, n⟩]
def spRun (q : Int → Bool) (a : Int) : Nat → List Sp → List Sp
  | 0, out => out
  | k + 1, out => spRun q (a + 1) k (if q a = true then spStep out a else out)
theorem spRun_hit {q : Int → Bool} {a : Int} {out : List Sp} (k : Nat) (h : q a = true) : spRun q a (k + 1) out = spRun q (a + 1) k (spStep out a) := by
  show spRun q (a + 1) k (if q a = true then spStep out a else out) = _
  rw [if_pos h]
theorem spRun_no {q : Int → Bool} {a : Int} {out : List Sp} (k : Nat) (h : q a = false) : spRun q a (k + 1) out = spRun q (a + 1) k out := by
  show spRun q (a + 1) k (if q a = true then spStep out a else out) = _
  rw [if_neg (by simp [h])]
theorem spStep_nil (n : Int) : spStep [] n = [⟨n, n⟩] := rfl
theorem spStep_snoc (out : List Sp) (s : Sp) (n : Int) : spStep (out ++ [s]) n = if s.to = n - 1 then out ++ [⟨s.fr, n⟩] else out ++ [s] ++ [⟨n, n⟩] := by
  unfold spStep
  rw [List.getLast?_concat]
  simp
theorem spStep_len (out : List Sp) (n : Int) : (spStep out n).length ≤ out.length + 1 := by
  rcases List.eq_nil_or_concat out with rfl | ⟨ys, s, rfl⟩
  · simp [spStep_nil]
  · rw [List.concat_eq_append, spStep_snoc]
    split <;> simp
theorem spRun_len {q : Int → Bool} : ∀ (k : Nat) {a : Int} {out : List Sp}, (spRun q a k out).length ≤ out.length + k
  | 0, _, _ => Nat.le_refl _
  | k + 1, a, out => by
    cases hq : q a
    · rw [spRun_no k hq]
      have := spRun_len (q := q) k (a := a + 1) (out := out)
      omega
    · rw [spRun_hit k hq]
      have := spRun_len (q := q) k (a := a + 1) (out := spStep out a)
      have := spStep_len out a
      omega
/-- All spans lie in a range. -/
def inSp (lo hi : Int) (xs : List Sp) : Prop := ∀ s ∈ xs, lo ≤ s.fr ∧ s.fr ≤ hi ∧ lo ≤ s.to ∧ s.to ≤ hi
theorem inSp_step {lo hi n : Int} {out : List Sp} (h : inSp lo hi out) (h1 : lo ≤ n) (h2 : n ≤ hi) : inSp lo hi (spStep out n) := by
  rcases List.eq_nil_or_concat out with rfl | ⟨ys, s, rfl⟩
  · intro t ht
    simp [spStep_nil] at ht
    subst ht
    exact ⟨h1, h2, h1, h2⟩
  · rw [List.concat_eq_append] at h ⊢
    rw [spStep_snoc]
    have hs := h s (by simp)
    split
    · intro t ht
      rcases List.mem_append.1 ht with ht | ht
      · exact h t (by simp [ht])
      · simp at ht
        subst ht
        exact ⟨hs.1, hs.2.1, h1, h2⟩
    · intro t ht
      rcases List.mem_append.1 ht with ht | ht
      · exact h t ht
      · simp at ht
        subst ht
        exact ⟨h1, h2, h1, h2⟩
theorem inSp_run {q : Int → Bool} {lo hi : Int} : ∀ (k : Nat) {a : Int} {out : List Sp}, inSp lo hi out → lo ≤ a → a + k ≤ hi + 1 → inSp lo hi (spRun q a k out)
  | 0, _, _, h, _, _ => h
  | k + 1, a, out, h, h1, h2 => by
    cases hq : q a
    · rw [spRun_no k hq]; exact inSp_run k h (by omega) (by omega)
    · rw [spRun_hit k hq]; exact inSp_run k (inSp_step h h1 (by omega)) (by omega) (by omega)
end

section
open Go.ChangeShapes Go.WideShapes Go.ChangeAt Go.RowKit Go.IntWalk

def datedB (rs : List Rg) (f t : Int) (cs : List Cl) : Bool := isChanceryB rs f t && isDatingB cs
theorem l12Valid_any (a0 a1 : Option Addr) (cap0 cap1 : Nat) (rs : List Rg) (f t : Int) (cs : List Cl) (w : World) (hl0 : rs.length ≤ 1048576) (hx0 : Rd encRg w a0 rs) (hs0 : ∀ m ∈ rs, m.king.size ≤ 1048576) (hl1 : cs.length ≤ 1048576) (hx1 : Rd encCl w a1 cs) (hs1 : ∀ m ∈ cs, szCl m ≤ 1048576) :
    Calls Tryz.prog 72 #[.agg #[.slice a0 rs.length cap0, .int .i64 f, .int .i64 t], .slice a1 cs.length cap1] w fun e w' => e = .returned (.bool (datedB rs f t cs)) ∧ Below w.heap.size w w' := by
  have hA := At.start w [.slice a0 rs.length cap0, .int .i64 f, .int .i64 t] 43
  have HC := Lib.hid (fun W (h : At w [.slice a0 rs.length cap0, .int .i64 f, .int .i64 t] W) => specIsChancery_any a0 cap0 rs f t W hl0 (hx0.below h.below) hs0)
  have HD := Lib.hid (fun W (h : At w [.slice a0 rs.length cap0, .int .i64 f, .int .i64 t] W) => specIsDating_any a1 cap1 cs W hl1 (hx1.below h.below) hs1)
  have hV : Hid (datedB rs f t cs = (isChanceryB rs f t && isDatingB cs)) := rfl
  generalize datedB rs f t cs = V at hV ⊢
  generalize isDatingB cs = d at HD hV
  have c0 := hA.cell 0 _ rfl
  have c1 := hA.cell 1 _ rfl
  have c2 := hA.cell 2 _ rfl
  cases hc : isChanceryB rs f t
  · have hR : Hid (V = false) := by unfold Hid; rw [hV.out, hc]; rfl
    have HC := Lib.hid (fun W h => hc ▸ HC.out W h)
    go_enter Tryz.func72, Tryz.ntmps72
    go_wp2_with fail
    refine (HC.out _ hA).mono ?_
    rintro e w1 ⟨rfl, hB1⟩
    go_wp2
    go_ret
    exact ⟨ret_bool hR.out.symm, (hA.step hB1).below⟩
  · have hR : Hid (V = d) := by unfold Hid; rw [hV.out, hc]; rfl
    have HC := Lib.hid (fun W h => hc ▸ HC.out W h)
    go_enter Tryz.func72, Tryz.ntmps72
    go_wp2_with fail
    refine (HC.out _ hA).mono ?_
    rintro e w1 ⟨rfl, hB1⟩
    have hA := hA.step hB1
    go_wp2_with fail
    refine (HD.out _ hA).mono ?_
    rintro e w2 ⟨rfl, hB2⟩
    go_wp2
    go_ret
    exact ⟨ret_bool hR.out.symm, (hA.step hB2).below⟩
theorem dated_facts {rs : List Rg} {f t : Int} {cs : List Cl} (h : datedB rs f t cs = true) : (∀ r ∈ rs, 0 ≤ r.fr) ∧ (∀ c ∈ cs, okCl c = true) ∧ cs.length ≤ 8 ∧ 0 ≤ f ∧ f ≤ t ∧ t ≤ 730499 ∧ t ≤ f + 20000 := by
  unfold datedB isChanceryB isDatingB at h
  simp only [Bool.and_eq_true, dayB, inB, decide_eq_true_eq, List.all_eq_true] at h
  refine ⟨reigns_fr (by simp only [h]), ?_, ?_, ?_, ?_, ?_, ?_⟩
  · exact h.2.1
  all_goals omega
end

section
open Go.ChangeShapes Go.WideShapes Go.ChangeAt Go.RowKit

set_option maxHeartbeats 400000 in
theorem indexFunc_fittingDays_1_1 (q r : Addr) (a : Option Addr) (cap : Nat) (xs : List Cl) (p : Cl → Bool) (w : World) (hl : xs.length ≤ 1048576) (hx : Rd encCl w a xs)
    (hf : ∀ W, Below w.heap.size w W → ∀ m ∈ xs, Calls Tryz.prog 141 #[.agg #[.int .i64 m.kind, .int .i64 m.number, .int .i64 m.month, .int .i64 m.feast, .int .i64 m.relation, .int .i64 m.weekday, .int .i64 m.style, .string m.king], .pointer (some q), .pointer (some r)] W fun e w' => e = .returned (.bool (p m)) ∧ Below W.heap.size W w') :
    Calls Tryz.prog 138 #[.slice a xs.length cap, .func (.func 141) #[] #[.pointer (some q), .pointer (some r)]] w fun e w' => e = .returned (.int .i64 (fidx p xs 0)) ∧ Below w.heap.size w w' := by
  have HF := Lib.hid hf
  clear hf
  go_enter Tryz.func138, Tryz.ntmps138
  go_wp2
  go_loopw [8] (fun i wr => ∃ (k : Nat), k ≤ xs.length ∧ i = .int .i64 k ∧ Hid (fidx p xs 0 = fidx p (xs.drop k) k) ∧ Below w.heap.size w wr) (fun i _ => xs.length - (intOf i).toNat)
  case atStart => exact ⟨0, Nat.zero_le _, rfl, rfl, Below.refl _ _⟩
  case round =>
    obtain ⟨k, hk, rfl, hH, hB⟩ := hrel
    by_cases hlt : k < xs.length
    · have hm := List.getElem?_eq_getElem hlt
      generalize xs[k] = m at hm
      obtain ⟨b, off, rfl, hb, c0, c1, c2, c3, c4, c5, c6, c7⟩ := (hx.below hB).cl hm
      have hd := Lib.hid (fidx_drop p k k hm)
      have hc := HF.out wr hB m (List.mem_of_getElem? hm)
      have hk1 : (k : Int) < (xs.length : Int) := by omega
      clear hm
      cases hp : p m
      · rw [hp] at hc
        have HC := Lib.hid hc
        clear hc
        go_wp2_with fail
        refine HC.out.mono ?_
        rintro e w1 ⟨rfl, hB1⟩
        go_wp2
        go_roundw
        case rel => exact ⟨k + 1, by omega, by go_num, by unfold Hid; rw [hH.out, hd.out, hp]; rfl, stepB hB hB1 hB.size⟩
        case measure => simp [intOf]; omega
      · rw [hp] at hc
        have HC := Lib.hid hc
        clear hc
        go_wp2_with fail
        refine HC.out.mono ?_
        rintro e w1 ⟨rfl, hB1⟩
        go_wp2
        go_ret
        exact ⟨ret_int (by rw [hH.out, hd.out, hp]; rfl), stepB hB hB1 hB.size⟩
    · go_wp2
      go_ret
      exact ⟨ret_int (by rw [hH.out, List.drop_eq_nil_of_le (by omega)]; rfl), hB⟩
theorem containsFunc_fittingDays_1_1 (q r : Addr) (a : Option Addr) (cap : Nat) (xs : List Cl) (p : Cl → Bool) (w : World) (hl : xs.length ≤ 1048576) (hx : Rd encCl w a xs) (hf : ∀ W, Below w.heap.size w W → ∀ m ∈ xs, Calls Tryz.prog 141 #[.agg #[.int .i64 m.kind, .int .i64 m.number, .int .i64 m.month, .int .i64 m.feast, .int .i64 m.relation, .int .i64 m.weekday, .int .i64 m.style, .string m.king], .pointer (some q), .pointer (some r)] W fun e w' => e = .returned (.bool (p m)) ∧ Below W.heap.size W w') : Calls Tryz.prog 78 #[.slice a xs.length cap, .func (.func 141) #[] #[.pointer (some q), .pointer (some r)]] w fun e w' => e = .returned (.bool (xs.any p)) ∧ Below w.heap.size w w' := by
  have HC := Lib.hid (indexFunc_fittingDays_1_1 q r a cap xs p w hl hx hf)
  clear hf
  have hd := fidx_any p xs
  generalize fidx p xs 0 = r at *
  have HD := Lib.hid hd
  clear hd
  go_enter Tryz.func78, Tryz.ntmps78
  go_wp2_with fail
  refine HC.out.mono ?_
  rintro e w1 ⟨rfl, hB1⟩
  go_wp2
  go_ret
  exact ⟨ret_bool HD.out, hB1⟩
end

section
open Go.ChangeShapes Go.WideShapes Go.ChangeAt Go.RowKit Go.IntWalk

set_option maxHeartbeats 1000000 in
theorem fit11_any (a0 : Option Addr) (cap0 : Nat) (rs : List Rg) (p2 p3 : Nat) (c : Cl) (n : Int) (w : World) (hok : okCl c = true) (hl0 : rs.length ≤ 1048576) (hx0 : Rd encRg w a0 rs) (hfr : ∀ r ∈ rs, 0 ≤ r.fr) (hn0 : 0 ≤ n) (hn : n ≤ 730499) (c0 : w.cell? ⟨p2, 0, none⟩ = some (.slice a0 rs.length cap0)) (cn : w.cell? ⟨p3, 0, none⟩ = some (.int .i64 n)) (s2 : p2 < w.heap.size) (s3 : p3 < w.heap.size) :
    Calls Tryz.prog 141 #[.agg #[.int .i64 c.kind, .int .i64 c.number, .int .i64 c.month, .int .i64 c.feast, .int .i64 c.relation, .int .i64 c.weekday, .int .i64 c.style, .string c.king], .pointer (some ⟨p2, 0, none⟩), .pointer (some ⟨p3, 0, none⟩)] w fun e w' => e = .returned (.bool (!holdB rs c n)) ∧ Below w.heap.size w w' := by
  have hA := At.start w [.int .i64 c.kind, .int .i64 c.number, .int .i64 c.month, .int .i64 c.feast, .int .i64 c.relation, .int .i64 c.weekday, .int .i64 c.style, .string c.king] 31
  have HH := Lib.hid (fun W (h : Below w.heap.size w W) => holds_any a0 cap0 rs c n W hok hl0 (hx0.below h) hfr hn0 hn)
  have b0 := (hA.below.cell (p := ⟨p2, 0, none⟩) s2).trans c0
  have bn := (hA.below.cell (p := ⟨p3, 0, none⟩) s3).trans cn
  generalize holdB rs c n = V at HH ⊢
  clear c0 cn
  have x0 := hA.cell 0 _ rfl
  have x1 := hA.cell 1 _ rfl
  have x2 := hA.cell 2 _ rfl
  have x3 := hA.cell 3 _ rfl
  have x4 := hA.cell 4 _ rfl
  have x5 := hA.cell 5 _ rfl
  have x6 := hA.cell 6 _ rfl
  have x7 := hA.cell 7 _ rfl
  cases V
  all_goals
    go_enter Tryz.func141, Tryz.ntmps141
    go_wp2_with fail
    refine (HH.out _ hA.below).mono ?_
    rintro e w1 ⟨rfl, hB1⟩
    go_wp2
    go_ret
    exact ⟨rfl, (hA.step hB1).below⟩
set_option maxRecDepth 100000 in
set_option maxHeartbeats 4000000 in
theorem daysFor_any (p1 p2 : Nat) (f t : Int) (q : Int → Bool) (w : World) (hf : 0 ≤ f) (hft : f ≤ t) (ht : t ≤ 730499) (htf : t ≤ f + 20000)
    (hq : ∀ W, Below w.heap.size w W → ∀ n : Int, f ≤ n → n ≤ t → Calls Tryz.prog 140 #[.int .i64 n, .pointer (some ⟨p1, 0, none⟩), .pointer (some ⟨p2, 0, none⟩)] W fun e w' => e = .returned (.bool (q n)) ∧ Below W.heap.size W w') :
    Calls Tryz.prog 139 #[.int .i64 f, .int .i64 t, .func (.func 140) #[] #[.pointer (some ⟨p1, 0, none⟩), .pointer (some ⟨p2, 0, none⟩)]] w fun e w' => ∃ g c, e = .returned (.slice (some ⟨g, 0, none⟩) (spRun q f (t - f + 1).toNat []).length c) ∧ w'.ownsRow w.heap.size 126 2 (.slice (some ⟨g, 0, none⟩) (spRun q f (t - f + 1).toNat []).length c) (spRun q f (t - f + 1).toNat []).length ((spRun q f (t - f + 1).toNat []).flatMap encSp) ∧ Below w.heap.size w w' := by
  have HQ := Lib.hid hq
  clear hq
  obtain ⟨i0, hi, hz0, hz1, hz2⟩ := info_parts infoSp
  have hBs : Below w.heap.size w (w.alloc (.cells #[] 126)) := (Below.refl _ w).alloc (Nat.le_refl _) _
  have howns := World.ownsRow_made w #[] 0 (Nat.le_refl _) (by decide) rfl (e := 126) (size := 2)
  generalize hR : spRun q f (t - f + 1).toNat [] = R
  have hR := Lib.hid hR
  go_enter Tryz.func139, Tryz.ntmps139
  go_wp2
  go_loopw [7, 8] (fun s i wr => ∃ (g c : Nat) (out : List Sp) (y : Int) (k : Nat), f ≤ y ∧ y + k = t + 1 ∧ i = .int .i64 y ∧ s = .slice (some ⟨g, 0, none⟩) out.length c ∧ wr.ownsRow w.heap.size 126 2 (.slice (some ⟨g, 0, none⟩) out.length c) out.length (out.flatMap encSp) ∧ Below w.heap.size w wr ∧ Hid (spRun q y k out = R) ∧ out.length + k ≤ 20001) (fun _ i _ => (730500 - intOf i).toNat)
  case atStart => exact ⟨_, _, [], f, (t - f + 1).toNat, Int.le_refl _, by omega, rfl, rfl, howns, hBs, hR.out, by simp; omega⟩
  case round =>
    clear howns hBs hR
    obtain ⟨g, c, out, y, k, hfy, hyk, rfl, rfl, hown, hB, hM, hlen⟩ := hrel
    by_cases hlt : y ≤ t
    · obtain ⟨k, rfl⟩ : ∃ k', k = k' + 1 := ⟨k - 1, by omega⟩
      have v3 := i64_in (y + 1) (by omega)
      have v4 := i64_in (y - 1) (by omega)
      have HQy := Lib.hid (HQ.out wr hB y hfy hlt)
      cases hg : q y
      · have hM := Lib.hid (spRun_no (out := out) k hg ▸ hM.out)
        have HQy := Lib.hid (hg ▸ HQy.out)
        go_wp2_with fail
        refine HQy.out.mono ?_
        rintro e w2 ⟨rfl, hB2⟩
        go_wp2
        go_roundw
        case rel => exact ⟨g, c, out, y + 1, k, by omega, by omega, rfl, rfl, own_below hown hB2, stepB hB hB2 hB.size, hM.out, by omega⟩
        case measure => simp [intOf]; omega
      · have hM := Lib.hid (spRun_hit (out := out) k hg ▸ hM.out)
        have HQy := Lib.hid (hg ▸ HQy.out)
        rcases List.eq_nil_or_concat out with rfl | ⟨ys, s, rfl⟩
        · have hM : Hid (spRun q (y + 1) k [⟨y, y⟩] = R) := hM.out
          go_wp2_with fail
          refine HQy.out.mono ?_
          rintro e w2 ⟨rfl, hB2⟩
          have hown := own_below hown hB2
          have hB := stepB hB hB2 hB.size
          clear hB2
          go_wp2_with (at_builtin; refine wpList_append_own _ rfl _ _ 89 rfl w.heap.size 126 i0 (.agg #[.int .i64 0, .int .i64 0]) 2 16 Tryz.underlying89 hi hz0 hz1 hz2 rfl (by decide) _ _ _ rfl (hown.alloc _) ⟨w2.heap.size, 0, none⟩ 1 1 [.int .i64 y, .int .i64 y] rfl rfl (cell_two_new _ _ _ _) ?c2 ?c3 ?c4 ?c5 ?_)
          case c2 => intro u hu; simp at hu; subst hu; rfl
          case c3 => unfold maxLen; omega
          case c4 => omega
          case c5 => have := hB.size; simp; omega
          intro v' w4 hown' hgr _
          have hB' := (hB.alloc hB.size (.cells #[.int .i64 y, .int .i64 y] 126)).grown hgr (Nat.le_trans hB.size (by simp)) (fun x hx => (hown.lt x hx).1)
          obtain ⟨g', c', rfl⟩ := formJ hown' (by omega)
          clear hgr hown hB
          go_wp2
          go_roundw
          case rel => exact ⟨g', c', [⟨y, y⟩], y + 1, k, by omega, by omega, rfl, rfl, hown', hB', hM, by simp; omega⟩
          case measure => simp [intOf]; omega
        · rw [List.concat_eq_append] at hown hM hlen ⊢
          rw [spStep_snoc] at hM
          have hl : (ys ++ [s]).length = ys.length + 1 := by simp
          rw [hl] at hown hlen ⊢
          have v5 := i64_in (ys.length : Int) (by omega)
          have hli : (ys.length : Int) < ((ys.length : Int) + 1) := by omega
          by_cases h1 : s.to = y - 1
          · rw [if_pos h1] at hM
            have hM := Lib.hid hM.out
            have h1' : (s.to == y - 1) = true := by simpa using h1
            clear h1 hl
            go_wp2_with fail
            refine HQy.out.mono ?_
            rintro e w2 ⟨rfl, hB2⟩
            have hown := own_below hown hB2
            have hB := stepB hB hB2 hB.size
            clear hB2
            have e1 := own_at encSp_len hown (i := ys.length) (x := s) (by simp) (j := 1) rfl
            have f1 := hown.frozenAt (ys.length * 2 + 1)
            have hput := Lib.hid (own_putTo (pre := ys) (x := s) (post := []) hown rfl y)
            have hgo := own_lt hown
            go_wp2
            go_roundw
            case rel => exact ⟨g, c, ys ++ [⟨s.fr, y⟩], y + 1, k, by omega, by omega, rfl, by simp, by simpa using hput.out.1, hB.grown hput.out.2 hB.size (fun x e => by cases e; exact hgo.1), hM, by simp; omega⟩
            case measure => simp [intOf]; omega
          · rw [if_neg h1] at hM
            have hM := Lib.hid hM.out
            have h1' : (s.to == y - 1) = false := by simpa using h1
            clear h1
            go_wp2_with fail
            refine HQy.out.mono ?_
            rintro e w2 ⟨rfl, hB2⟩
            have hown := own_below hown hB2
            have hB := stepB hB hB2 hB.size
            clear hB2
            have e1 := own_at encSp_len hown (i := ys.length) (x := s) (by simp) (j := 1) rfl
            go_wp2_with (at_builtin; refine wpList_append_own _ rfl _ _ 89 rfl w.heap.size 126 i0 (.agg #[.int .i64 0, .int .i64 0]) 2 16 Tryz.underlying89 hi hz0 hz1 hz2 rfl (by decide) _ _ _ rfl (hown.alloc _) ⟨w2.heap.size, 0, none⟩ 1 1 [.int .i64 y, .int .i64 y] rfl rfl (cell_two_new _ _ _ _) ?c2 ?c3 ?c4 ?c5 ?_)
            case c2 => intro u hu; simp at hu; subst hu; rfl
            case c3 => unfold maxLen; omega
            case c4 => omega
            case c5 => have := hB.size; simp; omega
            intro v' w4 hown' hgr _
            have hB' := (hB.alloc hB.size (.cells #[.int .i64 y, .int .i64 y] 126)).grown hgr (Nat.le_trans hB.size (by simp)) (fun x hx => (hown.lt x hx).1)
            obtain ⟨g', c', rfl⟩ := formJ hown' (by omega)
            clear hgr hown hB
            go_wp2
            go_roundw
            case rel => exact ⟨g', c', ys ++ [s] ++ [⟨y, y⟩], y + 1, k, by omega, by omega, rfl, by simp, by have h := hown'; simp [encSp] at h ⊢; exact h, hB', hM, by simp; omega⟩
            case measure => simp [intOf]; omega
    · have hlt' : decide (y ≤ t) = false := by simpa using hlt
      obtain rfl : k = 0 := by omega
      have hM : out = R := hM.out
      subst hM
      go_wp2
      go_ret
      exact ⟨g, c, rfl, hown, hB⟩
theorem any_not_all {α : Type} (p : α → Bool) (xs : List α) : (xs.any fun m => !p m) = !xs.all p := by
  induction xs with
  | nil => rfl
  | cons x xs ih => simp only [List.any_cons, List.all_cons, Bool.not_and, ih]
set_option maxHeartbeats 1000000 in
theorem fit1_any (a0 a1 : Option Addr) (cap0 cap1 : Nat) (rs : List Rg) (cs : List Cl) (p1 p2 : Nat) (n : Int) (w : World) (hl0 : rs.length ≤ 1048576) (hx0 : Rd encRg w a0 rs) (hfr : ∀ r ∈ rs, 0 ≤ r.fr) (hl1 : cs.length ≤ 1048576) (hx1 : Rd encCl w a1 cs) (hok : ∀ c ∈ cs, okCl c = true) (hn0 : 0 ≤ n) (hn : n ≤ 730499) (c1 : w.cell? ⟨p1, 0, none⟩ = some (.slice a1 cs.length cap1)) (c2 : w.cell? ⟨p2, 0, none⟩ = some (.slice a0 rs.length cap0)) (s1 : p1 < w.heap.size) (s2 : p2 < w.heap.size) :
    Calls Tryz.prog 140 #[.int .i64 n, .pointer (some ⟨p1, 0, none⟩), .pointer (some ⟨p2, 0, none⟩)] w fun e w' => e = .returned (.bool (fitB rs cs n)) ∧ Below w.heap.size w w' := by
  have hA := At.start w [.int .i64 n] 2
  have HC := Lib.hid (fun W (h : At w [.int .i64 n] W) => containsFunc_fittingDays_1_1 ⟨p2, 0, none⟩ ⟨w.heap.size, 0, none⟩ a1 cap1 cs (fun c => !holdB rs c n) W hl1 (hx1.below h.below) (fun W2 hB2 c hc => fit11_any a0 cap0 rs p2 w.heap.size c n W2 (hok c hc) hl0 (hx0.below (h.step hB2).below) hfr hn0 hn (((h.step hB2).below.cell (p := ⟨p2, 0, none⟩) s2).trans c2) ((h.step hB2).cell 0 _ rfl) (Nat.lt_of_lt_of_le s2 (h.step hB2).below.size) (h.step hB2).size))
  have hF : Hid (fitB rs cs n = !(cs.any (fun c => !holdB rs c n))) := by unfold Hid; rw [any_not_all, Bool.not_not]; rfl
  generalize fitB rs cs n = V at hF ⊢
  generalize cs.any (fun c => !holdB rs c n) = U at HC hF
  have b1 := (hA.below.cell (p := ⟨p1, 0, none⟩) s1).trans c1
  clear c1 c2
  cases U
  all_goals
    go_enter Tryz.func140, Tryz.ntmps140
    go_wp2_with fail
    refine (HC.out _ hA).mono ?_
    rintro e w1 ⟨rfl, hB1⟩
    go_wp2
    go_ret
    exact ⟨ret_bool hF.out.symm, (hA.step hB1).below⟩
set_option maxHeartbeats 1000000 in
theorem fittingDays_any (a0 a1 : Option Addr) (cap0 cap1 : Nat) (rs : List Rg) (f t : Int) (cs : List Cl) (w : World) (hl0 : rs.length ≤ 1048576) (hx0 : Rd encRg w a0 rs) (hfr : ∀ r ∈ rs, 0 ≤ r.fr) (hl1 : cs.length ≤ 1048576) (hx1 : Rd encCl w a1 cs) (hok : ∀ c ∈ cs, okCl c = true) (hf : 0 ≤ f) (hft : f ≤ t) (ht : t ≤ 730499) (htf : t ≤ f + 20000) :
    Calls Tryz.prog 81 #[.agg #[.slice a0 rs.length cap0, .int .i64 f, .int .i64 t], .slice a1 cs.length cap1] w fun e w' => ∃ g c, e = .returned (.slice (some ⟨g, 0, none⟩) (spRun (fitB rs cs) f (t - f + 1).toNat []).length c) ∧ w'.ownsRow w.heap.size 126 2 (.slice (some ⟨g, 0, none⟩) (spRun (fitB rs cs) f (t - f + 1).toNat []).length c) (spRun (fitB rs cs) f (t - f + 1).toNat []).length ((spRun (fitB rs cs) f (t - f + 1).toNat []).flatMap encSp) ∧ Below w.heap.size w w' := by
  have s1 : (w.alloc (.cells #[.slice a0 rs.length cap0, .int .i64 f, .int .i64 t] 43)).heap.size = w.heap.size + 1 := by simp
  have h1 := Box.new w 43 [.slice a0 rs.length cap0, .int .i64 f, .int .i64 t] w.heap.size (Nat.le_refl _) (by simp)
  have h2 := Box.new (w.alloc (.cells #[.slice a0 rs.length cap0, .int .i64 f, .int .i64 t] 43)) 22 [.slice a1 cs.length cap1] w.heap.size (by simp) (by simp)
  rw [s1] at h2
  have b1 := (Below.refl _ (w.alloc (.cells #[.slice a0 rs.length cap0, .int .i64 f, .int .i64 t] 43))).alloc (Nat.le_refl _) (.cells #[.slice a1 cs.length cap1] 22)
  have h1 := h1.below b1
  have hB : Below w.heap.size w ((w.alloc (.cells #[.slice a0 rs.length cap0, .int .i64 f, .int .i64 t] 43)).alloc (.cells #[.slice a1 cs.length cap1] 22)) := by go_grown
  clear b1 s1
  go_enter Tryz.func81, Tryz.ntmps81
  go_wp2_with fail
  generalize (w.alloc (.cells #[.slice a0 rs.length cap0, .int .i64 f, .int .i64 t] 43)).alloc (.cells #[.slice a1 cs.length cap1] 22) = W at h1 h2 hB ⊢
  have c0 := h1.cell 0 _ rfl
  have c1 := h1.cell 1 _ rfl
  have c2 := h1.cell 2 _ rfl
  have d0 := h2.cell 0 _ rfl
  refine (daysFor_any (w.heap.size + 1) w.heap.size f t (fitB rs cs) W hf hft ht htf (fun W2 hB2 n h0 h4 => fit1_any a0 a1 cap0 cap1 rs cs (w.heap.size + 1) w.heap.size n W2 hl0 (hx0.below (stepB hB hB2 hB.size)) hfr hl1 (hx1.below (stepB hB hB2 hB.size)) hok (by omega) (by omega) ((hB2.cell (p := ⟨w.heap.size + 1, 0, none⟩) h2.lt.2).trans d0) ((hB2.cell (p := ⟨w.heap.size, 0, none⟩) h1.lt.2).trans c0) (Nat.lt_of_lt_of_le h2.lt.2 hB2.size) (Nat.lt_of_lt_of_le h1.lt.2 hB2.size))).mono ?_
  rintro e w1 ⟨g, c, rfl, hown, hB1⟩
  go_wp2
  go_ret
  exact ⟨g, c, rfl, own_base hown hB.size, stepB hB hB1 hB.size⟩
end
end Go.Proofs.YteajkofgcmfaoaaGreatDoor
