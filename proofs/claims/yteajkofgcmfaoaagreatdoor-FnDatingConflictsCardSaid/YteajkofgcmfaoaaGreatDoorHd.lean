/- Walks: NextHolding. Printed by gen_next.py. -/
import Derived.Test.YteajkofgcmfaoaaGreatDoorFe
import Derived.Test.YteajkofgcmfaoaaGreatDoorTt
import Derived.Test.YteajkofgcmfaoaaGreatDoorDr1
import Derived.Test.YteajkofgcmfaoaaGreatDoorCl
import Derived.Test.YteajkofgcmfaoaaGreatDoorQL
import Derived.Test.YteajkofgcmfaoaaGreatDoorBB
import Derived.Test.YteajkofgcmfaoaaGreatDoorRg
namespace Go.Proofs.YteajkofgcmfaoaaGreatDoor
section
def rgHit (c : Cl) (n : Int) (r : Rg) : Bool := (r.king.toList == c.king.toList) && (inB n r.fr r.to && decide (rgY r.fr n = c.number))
def holdB (rs : List Rg) (c : Cl) (n : Int) : Bool :=
  if c.kind = 0 then decide ((mnO n : Int) = c.month) && decide (dyO n = c.number)
  else if c.kind = 1 then fhO c.feast c.relation c.weekday n
  else if c.kind = 2 then rs.any (rgHit c n)
  else if c.kind = 3 then decide (yoO c.style n = some c.number)
  else if c.kind = 4 then decide (ioO c.style n = c.number)
  else decide ((n + 5) % 7 = c.weekday)
theorem holdB_0 {rs : List Rg} {c : Cl} {n : Int} (h : c.kind = 0) : holdB rs c n = (decide ((mnO n : Int) = c.month) && decide (dyO n = c.number)) := by unfold holdB; rw [if_pos h]
theorem holdB_1 {rs : List Rg} {c : Cl} {n : Int} (h : c.kind = 1) : holdB rs c n = fhO c.feast c.relation c.weekday n := by unfold holdB; rw [h]; rfl
theorem holdB_2 {rs : List Rg} {c : Cl} {n : Int} (h : c.kind = 2) : holdB rs c n = rs.any (rgHit c n) := by unfold holdB; rw [h]; rfl
theorem holdB_3 {rs : List Rg} {c : Cl} {n : Int} (h : c.kind = 3) : holdB rs c n = decide (yoO c.style n = some c.number) := by unfold holdB; rw [h]; rfl
theorem holdB_4 {rs : List Rg} {c : Cl} {n : Int} (h : c.kind = 4) : holdB rs c n = decide (ioO c.style n = c.number) := by unfold holdB; rw [h]; rfl
theorem holdB_5 {rs : List Rg} {c : Cl} {n : Int} (h : c.kind = 5) : holdB rs c n = decide ((n + 5) % 7 = c.weekday) := by unfold holdB; rw [h]; rfl
end

section
open Go.ChangeShapes Go.WideShapes Go.ChangeAt Go.RowKit

set_option maxHeartbeats 400000 in
theorem indexFunc_holds_1 (q r : Addr) (a : Option Addr) (cap : Nat) (xs : List Rg) (p : Rg → Bool) (w : World) (hl : xs.length ≤ 1048576) (hx : Rd encRg w a xs)
    (hf : ∀ W, Below w.heap.size w W → ∀ m ∈ xs, Calls Tryz.prog 179 #[.agg #[.string m.king, .int .i64 m.fr, .int .i64 m.to], .pointer (some q), .pointer (some r)] W fun e w' => e = .returned (.bool (p m)) ∧ Below W.heap.size W w') :
    Calls Tryz.prog 217 #[.slice a xs.length cap, .func (.func 179) #[] #[.pointer (some q), .pointer (some r)]] w fun e w' => e = .returned (.int .i64 (fidx p xs 0)) ∧ Below w.heap.size w w' := by
  have HF := Lib.hid hf
  clear hf
  go_enter Tryz.func217, Tryz.ntmps217
  go_wp2
  go_loopw [8] (fun i wr => ∃ (k : Nat), k ≤ xs.length ∧ i = .int .i64 k ∧ Hid (fidx p xs 0 = fidx p (xs.drop k) k) ∧ Below w.heap.size w wr) (fun i _ => xs.length - (intOf i).toNat)
  case atStart => exact ⟨0, Nat.zero_le _, rfl, rfl, Below.refl _ _⟩
  case round =>
    obtain ⟨k, hk, rfl, hH, hB⟩ := hrel
    by_cases hlt : k < xs.length
    · have hm := List.getElem?_eq_getElem hlt
      generalize xs[k] = m at hm
      obtain ⟨b, off, rfl, hb, c0, c1, c2⟩ := (hx.below hB).rg hm
      have hd := Lib.hid (fidx_drop p k k hm)
      have hc := HF.out wr hB m (List.mem_of_getElem? hm)
      have hk1 : (k : Int) < (xs.length : Int) := by omega
      clear hm
      cases hp : p m
      · rw [hp] at hc
        have HC := Lib.hid hc
        clear hc
        go_wp2_with fail
        refine HC.out.mono ?_
        rintro e w1 ⟨rfl, hB1⟩
        go_wp2
        go_roundw
        case rel => exact ⟨k + 1, by omega, by go_num, by unfold Hid; rw [hH.out, hd.out, hp]; rfl, stepB hB hB1 hB.size⟩
        case measure => simp [intOf]; omega
      · rw [hp] at hc
        have HC := Lib.hid hc
        clear hc
        go_wp2_with fail
        refine HC.out.mono ?_
        rintro e w1 ⟨rfl, hB1⟩
        go_wp2
        go_ret
        exact ⟨ret_int (by rw [hH.out, hd.out, hp]; rfl), stepB hB hB1 hB.size⟩
    · go_wp2
      go_ret
      exact ⟨ret_int (by rw [hH.out, List.drop_eq_nil_of_le (by omega)]; rfl), hB⟩
theorem containsFunc_holds_1 (q r : Addr) (a : Option Addr) (cap : Nat) (xs : List Rg) (p : Rg → Bool) (w : World) (hl : xs.length ≤ 1048576) (hx : Rd encRg w a xs) (hf : ∀ W, Below w.heap.size w W → ∀ m ∈ xs, Calls Tryz.prog 179 #[.agg #[.string m.king, .int .i64 m.fr, .int .i64 m.to], .pointer (some q), .pointer (some r)] W fun e w' => e = .returned (.bool (p m)) ∧ Below W.heap.size W w') : Calls Tryz.prog 178 #[.slice a xs.length cap, .func (.func 179) #[] #[.pointer (some q), .pointer (some r)]] w fun e w' => e = .returned (.bool (xs.any p)) ∧ Below w.heap.size w w' := by
  have HC := Lib.hid (indexFunc_holds_1 q r a cap xs p w hl hx hf)
  clear hf
  have hd := fidx_any p xs
  generalize fidx p xs 0 = r at *
  have HD := Lib.hid hd
  clear hd
  go_enter Tryz.func178, Tryz.ntmps178
  go_wp2_with fail
  refine HC.out.mono ?_
  rintro e w1 ⟨rfl, hB1⟩
  go_wp2
  go_ret
  exact ⟨ret_bool HD.out, hB1⟩
end

section
open Go.ChangeShapes Go.WideShapes Go.ChangeAt Go.RowKit Go.IntWalk

/-- The boxes of holds. -/
structure HbS (w0 : World) (box : List Value) (n : Int) (w : World) : Prop where
  below : Below w0.heap.size w0 w
  size : w0.heap.size + 1 < w.heap.size
  cell : ∀ j v, box[j]? = some v → w.cell? ⟨w0.heap.size, j, none⟩ = some v
  num : w.cell? ⟨w0.heap.size + 1, 0, none⟩ = some (.int .i64 n)
theorem HbS.step {w0 w w' : World} {box : List Value} {n : Int} (h : HbS w0 box n w) (hB : Below w.heap.size w w') : HbS w0 box n w' :=
  ⟨stepB h.below hB h.below.size, Nat.lt_of_lt_of_le h.size hB.size, fun j v hv => (hB.cell (p := ⟨w0.heap.size, j, none⟩) (Nat.lt_of_succ_lt h.size)).trans (h.cell j v hv), (hB.cell (p := ⟨w0.heap.size + 1, 0, none⟩) h.size).trans h.num⟩
theorem HbS.start (w : World) (box : List Value) (T : TypeId) (n : Int) : HbS w box n ((w.alloc (.cells box.toArray T)).alloc (.cells #[.int .i64 n] 2)) := by
  have s1 : (w.alloc (.cells box.toArray T)).heap.size = w.heap.size + 1 := by simp
  have b1 := (Below.refl _ (w.alloc (.cells box.toArray T))).alloc (Nat.le_refl _) (.cells #[.int .i64 n] 2)
  refine ⟨by go_grown, by simp, fun j v h => (b1.cell (p := ⟨w.heap.size, j, none⟩) (by simp)).trans (by rw [World.cell?_alloc_at _ _ _ _ rfl]; simpa using h), ?_⟩
  have := World.cell?_alloc_at (w := w.alloc (.cells box.toArray T)) #[.int .i64 n] 2 (w.heap.size + 1) 0 s1.symm
  rw [this]
  rfl
set_option maxRecDepth 100000 in
set_option maxHeartbeats 1000000 in
theorem holds1f_any (p4 p5 : Nat) (r : Rg) (m : Cl) (n : Int) (w : World) (hn : n ≤ 730499) (hf0 : 0 ≤ r.fr) (c1 : w.cell? ⟨p4, 1, none⟩ = some (.int .i64 m.number)) (c7 : w.cell? ⟨p4, 7, none⟩ = some (.string m.king)) (c5 : w.cell? ⟨p5, 0, none⟩ = some (.int .i64 n)) (s4 : p4 < w.heap.size) (s5 : p5 < w.heap.size) :
    Calls Tryz.prog 179 #[.agg #[.string r.king, .int .i64 r.fr, .int .i64 r.to], .pointer (some ⟨p4, 0, none⟩), .pointer (some ⟨p5, 0, none⟩)] w fun e w' => e = .returned (.bool (rgHit m n r)) ∧ Below w.heap.size w w' := by
  have hA := At.start w [.string r.king, .int .i64 r.fr, .int .i64 r.to] 115
  have hb := hA.below
  have E1 := Later.cell ((hb.cell (p := ⟨p4, 1, none⟩) s4).trans c1) (Nat.lt_of_lt_of_le s4 hb.size)
  have E7 := Later.cell ((hb.cell (p := ⟨p4, 7, none⟩) s4).trans c7) (Nat.lt_of_lt_of_le s4 hb.size)
  have E5 := Later.cell ((hb.cell (p := ⟨p5, 0, none⟩) s5).trans c5) (Nat.lt_of_lt_of_le s5 hb.size)
  have A0 := Later.cell (hA.cell 0 _ rfl) hA.size
  have A1 := Later.cell (hA.cell 1 _ rfl) hA.size
  have A2 := Later.cell (hA.cell 2 _ rfl) hA.size
  have hH : Hid (rgHit m n r = ((r.king.toList == m.king.toList) && (inB n r.fr r.to && decide (rgY r.fr n = m.number)))) := rfl
  generalize rgHit m n r = V at hH ⊢
  have HC := Lib.hid (fun W => covers_any r n W)
  clear c1 c7 c5
  cases hk : (r.king.toList == m.king.toList)
  · have hR : Hid (V = false) := by unfold Hid; rw [hH.out, hk]; rfl
    go_enter Tryz.func179, Tryz.ntmps179
    go_wp2_with fail
    refine wp_region_later _ (by kernel_rfl) (by kernel_rfl) ?_
    repeat (go_big_quiet_step (fail))
    refine wpQuiet_nil ?_
    intro z
    have hz := z.prop
    generalize z.val = w2 at hz
    clear E1 E5 E7 A0 A1 A2
    go_wp2
    go_ret
    exact ⟨ret_bool hR.out.symm, stepB hb hz hb.size⟩
  · cases hi : inB n r.fr r.to
    · have hR : Hid (V = false) := by unfold Hid; rw [hH.out, hk, hi]; rfl
      have HC := Lib.hid (fun W => hi ▸ HC.out W)
      go_enter Tryz.func179, Tryz.ntmps179
      go_wp2_with fail
      refine wp_region_later _ (by kernel_rfl) (by kernel_rfl) ?_
      repeat (go_big_quiet_step (fail))
      go_big_quiet_step ((go_at_call 180; exact Later.call (Nat.le_refl _) (HC.out _)))
      repeat (go_big_quiet_step (fail))
      refine wpQuiet_nil ?_
      intro z
      have hz := z.prop
      generalize z.val = w2 at hz
      clear E1 E5 E7 A0 A1 A2
      go_wp2
      go_ret
      exact ⟨ret_bool hR.out.symm, stepB hb hz hb.size⟩
    · have hR : Hid (V = decide (rgY r.fr n = m.number)) := by unfold Hid; rw [hH.out, hk, hi]; rfl
      have HC := Lib.hid (fun W => hi ▸ HC.out W)
      have hi2 : r.fr ≤ n := by have : r.fr ≤ n ∧ n ≤ r.to := by simpa [inB] using hi
                                exact this.1
      have HG := Lib.hid (fun W => regnalYear_any r n W hf0 hi2 hn)
      generalize rgY r.fr n = g at HG hR
      by_cases hg : g = m.number
      · have hR : Hid (V = true) := by unfold Hid; rw [hR.out]; exact decide_eq_true hg
        have hg2 : (g == m.number) = true := by simpa using hg
        clear hg
        go_enter Tryz.func179, Tryz.ntmps179
        go_wp2_with fail
        refine wp_region_later _ (by kernel_rfl) (by kernel_rfl) ?_
        repeat (go_big_quiet_step (fail))
        go_big_quiet_step ((go_at_call 180; exact Later.call (Nat.le_refl _) (HC.out _)))
        repeat (go_big_quiet_step (fail))
        go_big_quiet_step ((go_at_call 181; exact Later.call (Nat.le_refl _) (HG.out _)))
        repeat (go_big_quiet_step (fail))
        refine wpQuiet_nil ?_
        intro z
        have hz := z.prop
        generalize z.val = w2 at hz
        clear E1 E5 E7 A0 A1 A2
        go_wp2
        go_ret
        exact ⟨ret_bool hR.out.symm, stepB hb hz hb.size⟩
      · have hR : Hid (V = false) := by unfold Hid; rw [hR.out]; exact decide_eq_false hg
        have hg2 : (g == m.number) = false := by simpa using hg
        clear hg
        go_enter Tryz.func179, Tryz.ntmps179
        go_wp2_with fail
        refine wp_region_later _ (by kernel_rfl) (by kernel_rfl) ?_
        repeat (go_big_quiet_step (fail))
        go_big_quiet_step ((go_at_call 180; exact Later.call (Nat.le_refl _) (HC.out _)))
        repeat (go_big_quiet_step (fail))
        go_big_quiet_step ((go_at_call 181; exact Later.call (Nat.le_refl _) (HG.out _)))
        repeat (go_big_quiet_step (fail))
        refine wpQuiet_nil ?_
        intro z
        have hz := z.prop
        generalize z.val = w2 at hz
        clear E1 E5 E7 A0 A1 A2
        go_wp2
        go_ret
        exact ⟨ret_bool hR.out.symm, stepB hb hz hb.size⟩
set_option maxRecDepth 100000 in
set_option maxHeartbeats 1000000 in
theorem holds0_any (a : Option Addr) (cap : Nat) (rs : List Rg) (m : Cl) (n : Int) (w : World) (hk : m.kind = 0) (hn0 : 0 ≤ n) (hn : n ≤ 730499) :
    Calls Tryz.prog 130 #[.slice a rs.length cap, .agg #[.int .i64 m.kind, .int .i64 m.number, .int .i64 m.month, .int .i64 m.feast, .int .i64 m.relation, .int .i64 m.weekday, .int .i64 m.style, .string m.king], .int .i64 n] w fun e w' => e = .returned (.bool (holdB rs m n)) ∧ Below w.heap.size w w' := by
  have hH := Lib.hid (holdB_0 (rs := rs) (n := n) hk)
  generalize holdB rs m n = V at hH ⊢
  obtain ⟨kind, number, month, feast, relation, weekday, style, king⟩ := m
  dsimp only at *
  subst hk
  have hS := HbS.start w [.int .i64 0, .int .i64 number, .int .i64 month, .int .i64 feast, .int .i64 relation, .int .i64 weekday, .int .i64 style, .string king] 31 n
  have HD := Lib.hid (fun W => dateOf_any n W hn0 hn)
  generalize (mnO n : Int) = M at HD hH
  generalize dyO n = D at HD hH
  generalize yrO n = Y at HD
  have c0 := hS.cell 0 _ rfl
  have cn := hS.num

  by_cases h1 : M = month
  · have h1' : (M == month) = true := by simpa using h1
    by_cases h2 : D = number
    · have h2' : (D == number) = true := by simpa using h2
      have hR : Hid (V = true) := by unfold Hid; rw [hH.out, decide_eq_true h1, decide_eq_true h2]; rfl
      clear h1 h2
      go_enter Tryz.func130, Tryz.ntmps130
      go_wp2_with fail
      refine (HD.out _).mono ?_
      rintro e w1 ⟨rfl, hB1⟩
      have hS := (hS.step hB1).step ((Below.refl _ w1).alloc (Nat.le_refl _) (.cells #[.int .i64 Y, .int .i64 M, .int .i64 D] 104))
      have hd := World.cell?_alloc_at (w := w1) #[.int .i64 Y, .int .i64 M, .int .i64 D] 104
      go_upto_region 4 with (fail)
      have d1 := hd w1.heap.size 1 rfl
      have d2 := hd w1.heap.size 2 rfl
      clear hd hB1 c0 cn
      generalize w1.alloc (.cells #[.int .i64 Y, .int .i64 M, .int .i64 D] 104) = W2 at hS d1 d2 ⊢
      have c1 := hS.cell 1 _ rfl
      have c2 := hS.cell 2 _ rfl
      go_wp2
      go_ret
      exact ⟨ret_bool hR.out.symm, hS.below⟩
    · have h2' : (D == number) = false := by simpa using h2
      have hR : Hid (V = false) := by unfold Hid; rw [hH.out, decide_eq_true h1, decide_eq_false h2]; rfl
      clear h1 h2
      go_enter Tryz.func130, Tryz.ntmps130
      go_wp2_with fail
      refine (HD.out _).mono ?_
      rintro e w1 ⟨rfl, hB1⟩
      have hS := (hS.step hB1).step ((Below.refl _ w1).alloc (Nat.le_refl _) (.cells #[.int .i64 Y, .int .i64 M, .int .i64 D] 104))
      have hd := World.cell?_alloc_at (w := w1) #[.int .i64 Y, .int .i64 M, .int .i64 D] 104
      go_upto_region 4 with (fail)
      have d1 := hd w1.heap.size 1 rfl
      have d2 := hd w1.heap.size 2 rfl
      clear hd hB1 c0 cn
      generalize w1.alloc (.cells #[.int .i64 Y, .int .i64 M, .int .i64 D] 104) = W2 at hS d1 d2 ⊢
      have c1 := hS.cell 1 _ rfl
      have c2 := hS.cell 2 _ rfl
      go_wp2
      go_ret
      exact ⟨ret_bool hR.out.symm, hS.below⟩
  · have h1' : (M == month) = false := by simpa using h1
    have hR : Hid (V = false) := by unfold Hid; rw [hH.out, decide_eq_false h1]; rfl
    clear h1
    go_enter Tryz.func130, Tryz.ntmps130
    go_wp2_with fail
    refine (HD.out _).mono ?_
    rintro e w1 ⟨rfl, hB1⟩
    have hS := (hS.step hB1).step ((Below.refl _ w1).alloc (Nat.le_refl _) (.cells #[.int .i64 Y, .int .i64 M, .int .i64 D] 104))
    have hd := World.cell?_alloc_at (w := w1) #[.int .i64 Y, .int .i64 M, .int .i64 D] 104
    go_upto_region 4 with (fail)
    have d1 := hd w1.heap.size 1 rfl
    have d2 := hd w1.heap.size 2 rfl
    clear hd hB1 c0 cn
    generalize w1.alloc (.cells #[.int .i64 Y, .int .i64 M, .int .i64 D] 104) = W2 at hS d1 d2 ⊢
    have c1 := hS.cell 1 _ rfl
    have c2 := hS.cell 2 _ rfl
    go_wp2
    go_ret
    exact ⟨ret_bool hR.out.symm, hS.below⟩
set_option maxRecDepth 100000 in
set_option maxHeartbeats 1000000 in
theorem holds1_any (a : Option Addr) (cap : Nat) (rs : List Rg) (m : Cl) (n : Int) (w : World) (hk : m.kind = 1) (hn0 : 0 ≤ n) (hn : n ≤ 730499) (hf0 : 0 ≤ m.feast) (hf1 : m.feast ≤ 19) (hw0 : 0 ≤ m.weekday) (hw1 : m.weekday ≤ 6) :
    Calls Tryz.prog 130 #[.slice a rs.length cap, .agg #[.int .i64 m.kind, .int .i64 m.number, .int .i64 m.month, .int .i64 m.feast, .int .i64 m.relation, .int .i64 m.weekday, .int .i64 m.style, .string m.king], .int .i64 n] w fun e w' => e = .returned (.bool (holdB rs m n)) ∧ Below w.heap.size w w' := by
  have hH := Lib.hid (holdB_1 (rs := rs) (n := n) hk)
  generalize holdB rs m n = V at hH ⊢
  obtain ⟨kind, number, month, feast, relation, weekday, style, king⟩ := m
  dsimp only at *
  subst hk
  have hS := HbS.start w [.int .i64 1, .int .i64 number, .int .i64 month, .int .i64 feast, .int .i64 relation, .int .i64 weekday, .int .i64 style, .string king] 31 n
  have HD := Lib.hid (fun W => dateOf_any n W hn0 hn)
  have hy := yrO_bd hn0 hn
  have hH : Hid (V = (fstR (fun y => reO feast relation weekday y == n) (max 1 (yrO n - 1)) (min 2000 (yrO n + 1) - max 1 (yrO n - 1) + 1).toNat).isSome) := hH
  obtain ⟨f, rfl⟩ : ∃ f : Nat, feast = f := ⟨feast.toNat, by omega⟩
  have HR := Lib.hid (fun y W h0 h1 => relatedDay_any f relation weekday y W (by omega) hw0 hw1 h0 h1)
  generalize reO f relation weekday = g at HR hH
  have hfd := fldY (yrO n) (mnO n) (dyO n)
  generalize (mnO n : Int) = M at HD hfd
  generalize dyO n = D at HD hfd
  generalize yrO n = Y at HD hfd hH hy
  have v1 := i64_in (Y - 1) (by omega)
  have v2 := i64_in (Y + 1) (by omega)
  have hlo : ∃ lo : Int, lo = max 1 (Y - 1) := ⟨_, rfl⟩
  obtain ⟨lo, hlo⟩ := hlo
  obtain ⟨hi, hhi⟩ : ∃ hi : Int, hi = min 2000 (Y + 1) := ⟨_, rfl⟩
  rw [← hlo, ← hhi] at hH
  have hlb : 1 ≤ lo ∧ lo ≤ hi ∧ hi ≤ 2000 := by omega
  have hlo' := hlo.symm
  have hhi' := hhi.symm
  clear hlo hhi
  have cn := hS.num
  go_enter Tryz.func130, Tryz.ntmps130
  go_wp2_with fail
  refine (HD.out _).mono ?_
  rintro e w1 ⟨rfl, hB1⟩
  have hS := hS.step hB1
  clear hB1 cn
  go_wp2
  clear hfd v1
  go_loopw [9] (fun i wr => ∃ (y : Int) (k : Nat), lo ≤ y ∧ y + k = hi + 1 ∧ i = .int .i64 y ∧ Hid (fstR (fun y => g y == n) lo (hi - lo + 1).toNat = fstR (fun y => g y == n) y k) ∧ HbS w [.int .i64 1, .int .i64 number, .int .i64 month, .int .i64 (f : Int), .int .i64 relation, .int .i64 weekday, .int .i64 style, .string king] n wr) (fun i _ => (2001 - intOf i).toNat)
  case atStart => exact ⟨lo, (hi - lo + 1).toNat, Int.le_refl _, by omega, rfl, rfl, hS⟩
  case round =>
    clear hS
    obtain ⟨y, k, hly, hyk, rfl, hq, hS⟩ := hrel
    by_cases hlt : y ≤ hi
    · obtain ⟨k, rfl⟩ : ∃ k', k = k' + 1 := ⟨k - 1, by omega⟩
      have hyb : 1 ≤ y ∧ y ≤ 2000 := by omega
      have v3 := i64_in (y + 1) (by omega)
      have HRy := Lib.hid (fun W => HR.out y W hyb.1 (by omega))
      have hq : Hid (fstR (fun y => g y == n) lo (hi - lo + 1).toNat = if (g y == n) = true then some y else fstR (fun y => g y == n) (y + 1) k) := hq
      generalize g y = G at HRy hq
      have E3 := Later.cell (hS.cell 3 _ rfl) (Nat.lt_of_succ_lt hS.size)
      have E4 := Later.cell (hS.cell 4 _ rfl) (Nat.lt_of_succ_lt hS.size)
      have E5 := Later.cell (hS.cell 5 _ rfl) (Nat.lt_of_succ_lt hS.size)
      have EN := Later.cell hS.num hS.size
      go_upto_region 10 with (fail)
      refine wp_region_later _ (by kernel_rfl) (by kernel_rfl) ?_
      repeat (go_big_quiet_step (fail))
      go_big_quiet_step ((go_at_call 177; exact Later.call (Nat.le_refl _) (HRy.out _)))
      repeat (go_big_quiet_step (fail))
      refine wpQuiet_nil ?_
      intro z
      have hz := z.prop
      generalize z.val = w2 at hz
      clear E3 E4 E5 EN
      have hS := hS.step hz
      clear hz
      cases hg : (G == n)
      · rw [hg] at hq
        have hq := Lib.hid hq
        go_wp2
        go_roundw
        case rel => exact ⟨y + 1, k, by omega, by omega, rfl, hq.out, hS⟩
        case measure => simp [intOf]; omega
      · rw [hg] at hq
        have hR : Hid (V = true) := by unfold Hid; rw [hH.out, hq.out]; rfl
        go_wp2
        go_ret
        exact ⟨ret_bool hR.out.symm, hS.below⟩
    · have hlt' : decide (y ≤ hi) = false := by simpa using hlt
      have hR : Hid (V = false) := by
        unfold Hid
        rw [hH.out, hq.out]
        have : k = 0 := by omega
        rw [this]
        rfl
      go_wp2
      go_ret
      exact ⟨ret_bool hR.out.symm, hS.below⟩
set_option maxRecDepth 100000 in
set_option maxHeartbeats 1000000 in
theorem holds2_any (a : Option Addr) (cap : Nat) (rs : List Rg) (m : Cl) (n : Int) (w : World) (hk : m.kind = 2) (_hn0 : 0 ≤ n) (hn : n ≤ 730499) (hl : rs.length ≤ 1048576) (hx : Rd encRg w a rs) (hrs : ∀ r ∈ rs, 0 ≤ r.fr) :
    Calls Tryz.prog 130 #[.slice a rs.length cap, .agg #[.int .i64 m.kind, .int .i64 m.number, .int .i64 m.month, .int .i64 m.feast, .int .i64 m.relation, .int .i64 m.weekday, .int .i64 m.style, .string m.king], .int .i64 n] w fun e w' => e = .returned (.bool (holdB rs m n)) ∧ Below w.heap.size w w' := by
  have hH := Lib.hid (holdB_2 (rs := rs) (n := n) hk)
  generalize holdB rs m n = V at hH ⊢
  obtain ⟨kind, number, month, feast, relation, weekday, style, king⟩ := m
  dsimp only at *
  subst hk
  have hS := HbS.start w [.int .i64 2, .int .i64 number, .int .i64 month, .int .i64 feast, .int .i64 relation, .int .i64 weekday, .int .i64 style, .string king] 31 n
  have HC := Lib.hid (fun W (h : HbS w [.int .i64 2, .int .i64 number, .int .i64 month, .int .i64 feast, .int .i64 relation, .int .i64 weekday, .int .i64 style, .string king] n W) => containsFunc_holds_1 ⟨w.heap.size, 0, none⟩ ⟨w.heap.size + 1, 0, none⟩ a cap rs (rgHit ⟨2, number, month, feast, relation, weekday, style, king⟩ n) W hl (hx.below h.below) (fun W2 hB2 r hr => holds1f_any w.heap.size (w.heap.size + 1) r ⟨2, number, month, feast, relation, weekday, style, king⟩ n W2 hn (hrs r hr) ((h.step hB2).cell 1 _ rfl) ((h.step hB2).cell 7 _ rfl) (h.step hB2).num (Nat.lt_of_succ_lt (h.step hB2).size) (h.step hB2).size))
  generalize rs.any (rgHit ⟨2, number, month, feast, relation, weekday, style, king⟩ n) = U at HC hH
  go_enter Tryz.func130, Tryz.ntmps130
  go_wp2_with fail
  refine (HC.out _ hS).mono ?_
  rintro e w1 ⟨rfl, hB1⟩
  go_wp2
  go_ret
  exact ⟨ret_bool hH.out.symm, (hS.step hB1).below⟩
set_option maxRecDepth 100000 in
set_option maxHeartbeats 1000000 in
theorem holds3_any (a : Option Addr) (cap : Nat) (rs : List Rg) (m : Cl) (n : Int) (w : World) (hk : m.kind = 3) (hn0 : 0 ≤ n) (hn : n ≤ 730499) :
    Calls Tryz.prog 130 #[.slice a rs.length cap, .agg #[.int .i64 m.kind, .int .i64 m.number, .int .i64 m.month, .int .i64 m.feast, .int .i64 m.relation, .int .i64 m.weekday, .int .i64 m.style, .string m.king], .int .i64 n] w fun e w' => e = .returned (.bool (holdB rs m n)) ∧ Below w.heap.size w w' := by
  have hH := Lib.hid (holdB_3 (rs := rs) (n := n) hk)
  generalize holdB rs m n = V at hH ⊢
  obtain ⟨kind, number, month, feast, relation, weekday, style, king⟩ := m
  dsimp only at *
  subst hk
  have hS := HbS.start w [.int .i64 3, .int .i64 number, .int .i64 month, .int .i64 feast, .int .i64 relation, .int .i64 weekday, .int .i64 style, .string king] 31 n
  have HY := Lib.hid (fun W => yearOn_any style n W hn0 hn)
  have hr : yoR style n = match yoO style n with | some y => (y, true) | none => (0, false) := rfl
  generalize yoR style n = R at HY hr
  have cs := hS.cell 6 _ rfl
  have cn := hS.num
  cases hyo : yoO style n
  · rw [hyo] at hr hH
    have hR : Hid (V = false) := by unfold Hid; rw [hH.out]; rfl
    subst hr
    clear hyo
    go_enter Tryz.func130, Tryz.ntmps130
    go_wp2_with fail
    refine (HY.out _).mono ?_
    rintro e w1 ⟨rfl, hB1⟩
    have hS := hS.step hB1
    have cs := hS.cell 1 _ rfl
    go_wp2
    go_ret
    exact ⟨ret_bool hR.out.symm, hS.below⟩
  · rename_i y
    rw [hyo] at hr hH
    subst hr
    clear hyo
    by_cases hy : y = number
    · have hR : Hid (V = true) := by unfold Hid; rw [hH.out, hy]; simp
      have hy' : (y == number) = true := by simpa using hy
      clear hy
      go_enter Tryz.func130, Tryz.ntmps130
      go_wp2_with fail
      refine (HY.out _).mono ?_
      rintro e w1 ⟨rfl, hB1⟩
      have hS := hS.step hB1
      have cs := hS.cell 1 _ rfl
      go_wp2
      go_ret
      exact ⟨ret_bool hR.out.symm, hS.below⟩
    · have hR : Hid (V = false) := by unfold Hid; rw [hH.out]; simpa using hy
      have hy' : (y == number) = false := by simpa using hy
      clear hy
      go_enter Tryz.func130, Tryz.ntmps130
      go_wp2_with fail
      refine (HY.out _).mono ?_
      rintro e w1 ⟨rfl, hB1⟩
      have hS := hS.step hB1
      have cs := hS.cell 1 _ rfl
      go_wp2
      go_ret
      exact ⟨ret_bool hR.out.symm, hS.below⟩
set_option maxRecDepth 100000 in
set_option maxHeartbeats 1000000 in
theorem holds4_any (a : Option Addr) (cap : Nat) (rs : List Rg) (m : Cl) (n : Int) (w : World) (hk : m.kind = 4) (hn0 : 0 ≤ n) (hn : n ≤ 730499) :
    Calls Tryz.prog 130 #[.slice a rs.length cap, .agg #[.int .i64 m.kind, .int .i64 m.number, .int .i64 m.month, .int .i64 m.feast, .int .i64 m.relation, .int .i64 m.weekday, .int .i64 m.style, .string m.king], .int .i64 n] w fun e w' => e = .returned (.bool (holdB rs m n)) ∧ Below w.heap.size w w' := by
  have hH := Lib.hid (holdB_4 (rs := rs) (n := n) hk)
  generalize holdB rs m n = V at hH ⊢
  obtain ⟨kind, number, month, feast, relation, weekday, style, king⟩ := m
  dsimp only at *
  subst hk
  have hS := HbS.start w [.int .i64 4, .int .i64 number, .int .i64 month, .int .i64 feast, .int .i64 relation, .int .i64 weekday, .int .i64 style, .string king] 31 n
  have HY := Lib.hid (fun W => indictionOn_any style n W hn0 hn)
  generalize ioO style n = R at HY hH
  have EN := Later.cell hS.num hS.size
  have E6 := Later.cell (hS.cell 6 _ rfl) (Nat.lt_of_succ_lt hS.size)
  have E1 := Later.cell (hS.cell 1 _ rfl) (Nat.lt_of_succ_lt hS.size)
  by_cases hy : R = number
  · have hR : Hid (V = true) := by unfold Hid; rw [hH.out]; exact decide_eq_true hy
    have hy' : (R == number) = true := by simpa using hy
    clear hy
    go_enter Tryz.func130, Tryz.ntmps130
    go_wp2_with fail
    refine wp_region_later _ (by kernel_rfl) (by kernel_rfl) ?_
    repeat (go_big_quiet_step (fail))
    go_big_quiet_step ((go_at_call 183; exact Later.call (Nat.le_refl _) (HY.out _)))
    repeat (go_big_quiet_step (fail))
    refine wpQuiet_nil ?_
    intro z
    have hz := z.prop
    generalize z.val = w2 at hz
    clear EN E6 E1
    go_wp2
    go_ret
    exact ⟨ret_bool hR.out.symm, (hS.step hz).below⟩
  · have hR : Hid (V = false) := by unfold Hid; rw [hH.out]; exact decide_eq_false hy
    have hy' : (R == number) = false := by simpa using hy
    clear hy
    go_enter Tryz.func130, Tryz.ntmps130
    go_wp2_with fail
    refine wp_region_later _ (by kernel_rfl) (by kernel_rfl) ?_
    repeat (go_big_quiet_step (fail))
    go_big_quiet_step ((go_at_call 183; exact Later.call (Nat.le_refl _) (HY.out _)))
    repeat (go_big_quiet_step (fail))
    refine wpQuiet_nil ?_
    intro z
    have hz := z.prop
    generalize z.val = w2 at hz
    clear EN E6 E1
    go_wp2
    go_ret
    exact ⟨ret_bool hR.out.symm, (hS.step hz).below⟩
set_option maxRecDepth 100000 in
set_option maxHeartbeats 1000000 in
theorem holds5_any (a : Option Addr) (cap : Nat) (rs : List Rg) (m : Cl) (n : Int) (w : World) (hk : m.kind = 5) (hn0 : 0 ≤ n) (hn : n ≤ 730499) :
    Calls Tryz.prog 130 #[.slice a rs.length cap, .agg #[.int .i64 m.kind, .int .i64 m.number, .int .i64 m.month, .int .i64 m.feast, .int .i64 m.relation, .int .i64 m.weekday, .int .i64 m.style, .string m.king], .int .i64 n] w fun e w' => e = .returned (.bool (holdB rs m n)) ∧ Below w.heap.size w w' := by
  have hH := Lib.hid (holdB_5 (rs := rs) (n := n) hk)
  generalize holdB rs m n = V at hH ⊢
  obtain ⟨kind, number, month, feast, relation, weekday, style, king⟩ := m
  dsimp only at *
  subst hk
  have hS := HbS.start w [.int .i64 5, .int .i64 number, .int .i64 month, .int .i64 feast, .int .i64 relation, .int .i64 weekday, .int .i64 style, .string king] 31 n
  have HY := Lib.hid (fun W => weekdayOf_any n W (by omega) (by omega))
  generalize (n + 5) % 7 = R at HY hH
  have EN := Later.cell hS.num hS.size
  have E5 := Later.cell (hS.cell 5 _ rfl) (Nat.lt_of_succ_lt hS.size)
  by_cases hy : R = weekday
  · have hR : Hid (V = true) := by unfold Hid; rw [hH.out]; exact decide_eq_true hy
    have hy' : (R == weekday) = true := by simpa using hy
    clear hy
    go_enter Tryz.func130, Tryz.ntmps130
    go_wp2_with fail
    refine wp_region_later _ (by kernel_rfl) (by kernel_rfl) ?_
    repeat (go_big_quiet_step (fail))
    go_big_quiet_step ((go_at_call 184; exact Later.same (HY.out _)))
    repeat (go_big_quiet_step (fail))
    refine wpQuiet_nil ?_
    intro z
    have hz := z.prop
    generalize z.val = w2 at hz
    clear EN E5
    go_wp2
    go_ret
    exact ⟨ret_bool hR.out.symm, (hS.step hz).below⟩
  · have hR : Hid (V = false) := by unfold Hid; rw [hH.out]; exact decide_eq_false hy
    have hy' : (R == weekday) = false := by simpa using hy
    clear hy
    go_enter Tryz.func130, Tryz.ntmps130
    go_wp2_with fail
    refine wp_region_later _ (by kernel_rfl) (by kernel_rfl) ?_
    repeat (go_big_quiet_step (fail))
    go_big_quiet_step ((go_at_call 184; exact Later.same (HY.out _)))
    repeat (go_big_quiet_step (fail))
    refine wpQuiet_nil ?_
    intro z
    have hz := z.prop
    generalize z.val = w2 at hz
    clear EN E5
    go_wp2
    go_ret
    exact ⟨ret_bool hR.out.symm, (hS.step hz).below⟩
theorem okCl_kind {m : Cl} (h : okCl m = true) : (m.kind = 0 ∨ (m.kind = 1 ∧ 0 ≤ m.feast ∧ m.feast ≤ 19 ∧ 0 ≤ m.weekday ∧ m.weekday ≤ 6) ∨ m.kind = 2 ∨ m.kind = 3 ∨ (m.kind = 4 ∧ 0 ≤ m.style ∧ m.style ≤ 2) ∨ m.kind = 5) := by
  unfold okCl at h
  split at h
  · exact .inl (by assumption)
  split at h
  · rename_i h1
    simp only [okCl1, relB, inB, Bool.and_eq_true, decide_eq_true_eq] at h
    exact .inr (.inl ⟨h1, by omega, by omega, by omega, by omega⟩)
  split at h
  · exact .inr (.inr (.inl (by assumption)))
  split at h
  · exact .inr (.inr (.inr (.inl (by assumption))))
  split at h
  · rename_i h4
    simp only [okCl4, inB, Bool.and_eq_true, decide_eq_true_eq] at h
    exact .inr (.inr (.inr (.inr (.inl ⟨h4, by omega, by omega⟩))))
  split at h
  · exact .inr (.inr (.inr (.inr (.inr (by assumption)))))
  cases h
theorem holds_any (a : Option Addr) (cap : Nat) (rs : List Rg) (m : Cl) (n : Int) (w : World) (hok : okCl m = true) (hl : rs.length ≤ 1048576) (hx : Rd encRg w a rs) (hrs : ∀ r ∈ rs, 0 ≤ r.fr) (hn0 : 0 ≤ n) (hn : n ≤ 730499) :
    Calls Tryz.prog 130 #[.slice a rs.length cap, .agg #[.int .i64 m.kind, .int .i64 m.number, .int .i64 m.month, .int .i64 m.feast, .int .i64 m.relation, .int .i64 m.weekday, .int .i64 m.style, .string m.king], .int .i64 n] w fun e w' => e = .returned (.bool (holdB rs m n)) ∧ Below w.heap.size w w' := by
  rcases okCl_kind hok with h | ⟨h, h1, h2, h3, h4⟩ | h | h | ⟨h, _, _⟩ | h
  · exact holds0_any a cap rs m n w h hn0 hn
  · exact holds1_any a cap rs m n w h hn0 hn h1 h2 h3 h4
  · exact holds2_any a cap rs m n w h hn0 hn hl hx hrs
  · exact holds3_any a cap rs m n w h hn0 hn
  · exact holds4_any a cap rs m n w h hn0 hn
  · exact holds5_any a cap rs m n w h hn0 hn
end

section
open Go.ChangeShapes Go.WideShapes Go.ChangeAt Go.RowKit Go.IntWalk

/-- The boxes of l11Holds. -/
structure HsS (w0 : World) (box : List Value) (Y M D : Int) (q : Nat) (w : World) : Prop where
  at0 : At w0 box w
  lt : q < w.heap.size
  y : w.cell? ⟨q, 0, none⟩ = some (.int .i64 Y)
  m : w.cell? ⟨q, 1, none⟩ = some (.int .i64 M)
  d : w.cell? ⟨q, 2, none⟩ = some (.int .i64 D)
theorem HsS.step {w0 w w' : World} {box : List Value} {Y M D : Int} {q : Nat} (h : HsS w0 box Y M D q w) (hB : Below w.heap.size w w') : HsS w0 box Y M D q w' :=
  ⟨h.at0.step hB, Nat.lt_of_lt_of_le h.lt hB.size, (hB.cell (p := ⟨q, 0, none⟩) h.lt).trans h.y, (hB.cell (p := ⟨q, 1, none⟩) h.lt).trans h.m, (hB.cell (p := ⟨q, 2, none⟩) h.lt).trans h.d⟩
theorem HsS.start {w0 w1 : World} {box : List Value} {Y M D : Int} (h : At w0 box w1) : HsS w0 box Y M D w1.heap.size (w1.alloc (.cells #[.int .i64 Y, .int .i64 M, .int .i64 D] 104)) :=
  ⟨h.step ((Below.refl _ w1).alloc (Nat.le_refl _) _), by simp, World.cell?_alloc_at _ _ _ _ rfl, World.cell?_alloc_at _ _ _ _ rfl, World.cell?_alloc_at _ _ _ _ rfl⟩
set_option maxRecDepth 100000 in
set_option maxHeartbeats 1000000 in
theorem l11Holds0_any (a : Option Addr) (cap : Nat) (rs : List Rg) (m : Cl) (n : Int) (w : World) (hk : m.kind = 0) (hn0 : 0 ≤ n) (hn : n ≤ 730499) :
    Calls Tryz.prog 135 #[.slice a rs.length cap, .agg #[.int .i64 m.kind, .int .i64 m.number, .int .i64 m.month, .int .i64 m.feast, .int .i64 m.relation, .int .i64 m.weekday, .int .i64 m.style, .string m.king], .int .i64 n] w fun e w' => e = .returned (.bool (holdB rs m n)) ∧ Below w.heap.size w w' := by
  have hH := Lib.hid (holdB_0 (rs := rs) (n := n) hk)
  generalize holdB rs m n = V at hH ⊢
  obtain ⟨kind, number, month, feast, relation, weekday, style, king⟩ := m
  dsimp only at *
  subst hk
  have hA := At.start w [.int .i64 0, .int .i64 number, .int .i64 month, .int .i64 feast, .int .i64 relation, .int .i64 weekday, .int .i64 style, .string king] 31
  have HD := Lib.hid (fun W => l01Old_any n W hn0 hn)
  generalize (mnO n : Int) = M at HD hH
  generalize dyO n = D at HD hH
  generalize yrO n = Y at HD
  by_cases h1 : M = month
  · have h1' : (M == month) = true := by simpa using h1
    by_cases h2 : D = number
    · have h2' : (D == number) = true := by simpa using h2
      have hR : Hid (V = true) := by unfold Hid; rw [hH.out, decide_eq_true h1, decide_eq_true h2]; rfl
      clear h1 h2
      go_enter Tryz.func135, Tryz.ntmps135
      go_wp2_with fail
      refine (HD.out _).mono ?_
      rintro e w1 ⟨rfl, hB1⟩
      have hS := HsS.start (Y := Y) (M := M) (D := D) (hA.step hB1)
      have ck := hS.at0.cell 0 _ rfl
      clear hB1
      go_upto_region 4 with (fail)
      clear ck
      generalize w1.alloc (.cells #[.int .i64 Y, .int .i64 M, .int .i64 D] 104) = W at hS ⊢
      generalize w1.heap.size = q at hS ⊢
      have d1 := hS.m
      have d2 := hS.d
      have c1 := hS.at0.cell 1 _ rfl
      have c2 := hS.at0.cell 2 _ rfl
      go_wp2
      go_ret
      exact ⟨ret_bool hR.out.symm, hS.at0.below⟩
    · have h2' : (D == number) = false := by simpa using h2
      have hR : Hid (V = false) := by unfold Hid; rw [hH.out, decide_eq_true h1, decide_eq_false h2]; rfl
      clear h1 h2
      go_enter Tryz.func135, Tryz.ntmps135
      go_wp2_with fail
      refine (HD.out _).mono ?_
      rintro e w1 ⟨rfl, hB1⟩
      have hS := HsS.start (Y := Y) (M := M) (D := D) (hA.step hB1)
      have ck := hS.at0.cell 0 _ rfl
      clear hB1
      go_upto_region 4 with (fail)
      clear ck
      generalize w1.alloc (.cells #[.int .i64 Y, .int .i64 M, .int .i64 D] 104) = W at hS ⊢
      generalize w1.heap.size = q at hS ⊢
      have d1 := hS.m
      have d2 := hS.d
      have c1 := hS.at0.cell 1 _ rfl
      have c2 := hS.at0.cell 2 _ rfl
      go_wp2
      go_ret
      exact ⟨ret_bool hR.out.symm, hS.at0.below⟩
  · have h1' : (M == month) = false := by simpa using h1
    have hR : Hid (V = false) := by unfold Hid; rw [hH.out, decide_eq_false h1]; rfl
    clear h1
    go_enter Tryz.func135, Tryz.ntmps135
    go_wp2_with fail
    refine (HD.out _).mono ?_
    rintro e w1 ⟨rfl, hB1⟩
    have hS := HsS.start (Y := Y) (M := M) (D := D) (hA.step hB1)
    have ck := hS.at0.cell 0 _ rfl
    clear hB1
    go_upto_region 4 with (fail)
    clear ck
    generalize w1.alloc (.cells #[.int .i64 Y, .int .i64 M, .int .i64 D] 104) = W at hS ⊢
    generalize w1.heap.size = q at hS ⊢
    have d1 := hS.m
    have d2 := hS.d
    have c1 := hS.at0.cell 1 _ rfl
    have c2 := hS.at0.cell 2 _ rfl
    go_wp2
    go_ret
    exact ⟨ret_bool hR.out.symm, hS.at0.below⟩
set_option maxRecDepth 100000 in
set_option maxHeartbeats 1000000 in
theorem l11Holds1_any (a : Option Addr) (cap : Nat) (rs : List Rg) (m : Cl) (n : Int) (w : World) (hk : m.kind = 1) (hn0 : 0 ≤ n) (hn : n ≤ 730499) (hf0 : 0 ≤ m.feast) (hf1 : m.feast ≤ 19) (hw0 : 0 ≤ m.weekday) (hw1 : m.weekday ≤ 6) :
    Calls Tryz.prog 135 #[.slice a rs.length cap, .agg #[.int .i64 m.kind, .int .i64 m.number, .int .i64 m.month, .int .i64 m.feast, .int .i64 m.relation, .int .i64 m.weekday, .int .i64 m.style, .string m.king], .int .i64 n] w fun e w' => e = .returned (.bool (holdB rs m n)) ∧ Below w.heap.size w w' := by
  have hH := Lib.hid (holdB_1 (rs := rs) (n := n) hk)
  generalize holdB rs m n = V at hH ⊢
  obtain ⟨kind, number, month, feast, relation, weekday, style, king⟩ := m
  dsimp only at *
  subst hk
  have hA := At.start w [.int .i64 1, .int .i64 number, .int .i64 month, .int .i64 feast, .int .i64 relation, .int .i64 weekday, .int .i64 style, .string king] 31
  have HD := Lib.hid (fun W => l01Old_any n W hn0 hn)
  have hy := yrO_bd hn0 hn
  have hH : Hid (V = (fstR (fun y => reO feast relation weekday y == n) (max 1 (yrO n - 1)) (min 2000 (yrO n + 1) - max 1 (yrO n - 1) + 1).toNat).isSome) := hH
  obtain ⟨f, rfl⟩ : ∃ f : Nat, feast = f := ⟨feast.toNat, by omega⟩
  have HR := Lib.hid (fun y W h0 h1 => l05Related_any f relation weekday y W (by omega) hw0 hw1 h0 h1)
  generalize reO f relation weekday = g at HR hH
  generalize (mnO n : Int) = M at HD
  generalize dyO n = D at HD
  generalize yrO n = Y at HD hH hy
  have v1 := i64_in (Y - 1) (by omega)
  have v2 := i64_in (Y + 1) (by omega)
  obtain ⟨lo, hlo⟩ : ∃ lo : Int, lo = max 1 (Y - 1) := ⟨_, rfl⟩
  obtain ⟨hi, hhi⟩ : ∃ hi : Int, hi = min 2000 (Y + 1) := ⟨_, rfl⟩
  rw [← hlo, ← hhi] at hH
  have hlb : 1 ≤ lo ∧ lo ≤ hi ∧ hi ≤ 2000 := by omega
  have hlo' := hlo.symm
  have hhi' := hhi.symm
  clear hlo hhi
  go_enter Tryz.func135, Tryz.ntmps135
  go_wp2_with fail
  refine (HD.out _).mono ?_
  rintro e w1 ⟨rfl, hB1⟩
  have hS := HsS.start (Y := Y) (M := M) (D := D) (hA.step hB1)
  have ck := hS.at0.cell 0 _ rfl
  clear hB1
  go_upto_region 6 with (fail)
  clear ck
  generalize w1.alloc (.cells #[.int .i64 Y, .int .i64 M, .int .i64 D] 104) = W at hS ⊢
  generalize w1.heap.size = q at hS ⊢
  have dy := hS.y
  go_wp2
  clear v1 dy
  go_loopw [8] (fun i wr => ∃ (y : Int) (k : Nat), lo ≤ y ∧ y + k = hi + 1 ∧ i = .int .i64 y ∧ Hid (fstR (fun y => g y == n) lo (hi - lo + 1).toNat = fstR (fun y => g y == n) y k) ∧ HsS w [.int .i64 1, .int .i64 number, .int .i64 month, .int .i64 (f : Int), .int .i64 relation, .int .i64 weekday, .int .i64 style, .string king] Y M D q wr) (fun i _ => (2001 - intOf i).toNat)
  case atStart => exact ⟨lo, (hi - lo + 1).toNat, Int.le_refl _, by omega, rfl, rfl, hS⟩
  case round =>
    clear hS
    obtain ⟨y, k, hly, hyk, rfl, hq, hS⟩ := hrel
    have dy := hS.y
    by_cases hlt : y ≤ hi
    · obtain ⟨k, rfl⟩ : ∃ k', k = k' + 1 := ⟨k - 1, by omega⟩
      have hyb : 1 ≤ y ∧ y ≤ 2000 := by omega
      have v3 := i64_in (y + 1) (by omega)
      have HRy := Lib.hid (fun W => HR.out y W hyb.1 (by omega))
      have hq : Hid (fstR (fun y => g y == n) lo (hi - lo + 1).toNat = if (g y == n) = true then some y else fstR (fun y => g y == n) (y + 1) k) := hq
      generalize g y = G at HRy hq
      have c3 := hS.at0.cell 3 _ rfl
      have c4 := hS.at0.cell 4 _ rfl
      have c5 := hS.at0.cell 5 _ rfl
      cases hg : (G == n)
      · rw [hg] at hq
        have hq := Lib.hid hq
        go_wp2_with fail
        refine (HRy.out _).mono ?_
        rintro e w2 ⟨rfl, hB2⟩
        have hS := hS.step hB2
        go_wp2
        go_roundw
        case rel => exact ⟨y + 1, k, by omega, by omega, rfl, hq.out, hS⟩
        case measure => simp [intOf]; omega
      · rw [hg] at hq
        have hR : Hid (V = true) := by unfold Hid; rw [hH.out, hq.out]; rfl
        go_wp2_with fail
        refine (HRy.out _).mono ?_
        rintro e w2 ⟨rfl, hB2⟩
        have hS := hS.step hB2
        go_wp2
        go_ret
        exact ⟨ret_bool hR.out.symm, hS.at0.below⟩
    · have hlt' : decide (y ≤ hi) = false := by simpa using hlt
      have hR : Hid (V = false) := by
        unfold Hid
        rw [hH.out, hq.out]
        have : k = 0 := by omega
        rw [this]
        rfl
      go_wp2
      go_ret
      exact ⟨ret_bool hR.out.symm, hS.at0.below⟩
set_option maxRecDepth 100000 in
set_option maxHeartbeats 1000000 in
theorem l11Holds2_any (a : Option Addr) (cap : Nat) (rs : List Rg) (m : Cl) (n : Int) (w : World) (hk : m.kind = 2) (hn0 : 0 ≤ n) (hn : n ≤ 730499) (hl : rs.length ≤ 1048576) (hx : Rd encRg w a rs) (hrs : ∀ r ∈ rs, 0 ≤ r.fr) :
    Calls Tryz.prog 135 #[.slice a rs.length cap, .agg #[.int .i64 m.kind, .int .i64 m.number, .int .i64 m.month, .int .i64 m.feast, .int .i64 m.relation, .int .i64 m.weekday, .int .i64 m.style, .string m.king], .int .i64 n] w fun e w' => e = .returned (.bool (holdB rs m n)) ∧ Below w.heap.size w w' := by
  have hH := Lib.hid (holdB_2 (rs := rs) (n := n) hk)
  generalize holdB rs m n = V at hH ⊢
  obtain ⟨kind, number, month, feast, relation, weekday, style, king⟩ := m
  dsimp only at *
  subst hk
  have hA := At.start w [.int .i64 2, .int .i64 number, .int .i64 month, .int .i64 feast, .int .i64 relation, .int .i64 weekday, .int .i64 style, .string king] 31
  have HD := Lib.hid (fun W => l01Old_any n W hn0 hn)
  generalize (mnO n : Int) = M at HD
  generalize dyO n = D at HD
  generalize yrO n = Y at HD
  go_enter Tryz.func135, Tryz.ntmps135
  go_wp2_with fail
  refine (HD.out _).mono ?_
  rintro e w1 ⟨rfl, hB1⟩
  have hS := HsS.start (Y := Y) (M := M) (D := D) (hA.step hB1)
  have ck := hS.at0.cell 0 _ rfl
  clear hB1
  go_upto_region 13 with (fail)
  clear ck
  generalize w1.alloc (.cells #[.int .i64 Y, .int .i64 M, .int .i64 D] 104) = W at hS ⊢
  generalize w1.heap.size = q at hS ⊢
  have HG := Lib.hid (fun r W h0 h1 => l07Year_any r n W h0 h1 hn)
  have HP := Lib.hid (fun r => (show rgHit ⟨2, number, month, feast, relation, weekday, style, king⟩ n r = ((r.king.toList == king.toList) && (inB n r.fr r.to && decide (rgY r.fr n = number))) from rfl))
  generalize rgHit ⟨2, number, month, feast, relation, weekday, style, king⟩ n = p at hH HP
  go_wp2
  go_loopw [9] (fun i wr => ∃ k : Nat, k ≤ rs.length ∧ i = .int .i64 k ∧ Hid (rs.any p = (rs.drop k).any p) ∧ HsS w [.int .i64 2, .int .i64 number, .int .i64 month, .int .i64 feast, .int .i64 relation, .int .i64 weekday, .int .i64 style, .string king] Y M D q wr) (fun i _ => rs.length - (intOf i).toNat)
  case atStart => exact ⟨0, Nat.zero_le _, rfl, rfl, hS⟩
  case round =>
    clear hS
    obtain ⟨k, hk, rfl, hq, hS⟩ := hrel
    by_cases hlt : k < rs.length
    · have hlt' : (k : Int) < (rs.length : Int) := by omega
      have hm := List.getElem?_eq_getElem hlt
      have hmem := List.getElem_mem hlt
      have hdr : Hid (rs.any p = (p rs[k] || (rs.drop (k + 1)).any p)) := by unfold Hid; rw [hq.out, List.drop_eq_getElem_cons hlt]; rfl
      generalize rs[k] = r at hm hmem hdr
      have hf0 := hrs r hmem
      obtain ⟨b, off, rfl, hb, c0, c1, c2⟩ := (hx.below hS.at0.below).rg hm
      have HPr := Lib.hid (HP.out r)
      have E1 := Later.cell (hS.at0.cell 1 _ rfl) hS.at0.size
      have E7 := Later.cell (hS.at0.cell 7 _ rfl) hS.at0.size
      have G0 := Later.cell c0 hb
      have G1 := Later.cell c1 hb
      have G2 := Later.cell c2 hb
      clear hm hmem c0 c1 c2
      cases hkk : (r.king.toList == king.toList)
      · have hpr : Hid (p r = false) := by unfold Hid; rw [HPr.out, hkk]; rfl
        go_upto_region 16 with (fail)
        refine wp_region_later _ (by kernel_rfl) (by kernel_rfl) ?_
        repeat (go_big_quiet_step (fail))
        refine wpQuiet_nil ?_
        intro z
        have hz := z.prop
        generalize z.val = w2 at hz
        clear E1 E7 G0 G1 G2
        have hS := hS.step hz
        clear hz
        go_wp2
        go_roundw
        case rel => exact ⟨k + 1, by omega, by go_num, by unfold Hid; rw [hdr.out, hpr.out]; rfl, hS⟩
        case measure => simp [intOf]; omega
      · cases hi : inB n r.fr r.to
        · have hpr : Hid (p r = false) := by unfold Hid; rw [HPr.out, hkk, hi]; rfl
          have HI := Lib.hid (fun W => hi ▸ l01In_any n r.fr r.to W)
          go_upto_region 16 with (fail)
          refine wp_region_later _ (by kernel_rfl) (by kernel_rfl) ?_
          repeat (go_big_quiet_step (fail))
          go_big_quiet_step ((go_at_call 55; exact Later.same (HI.out _)))
          repeat (go_big_quiet_step (fail))
          refine wpQuiet_nil ?_
          intro z
          have hz := z.prop
          generalize z.val = w2 at hz
          clear E1 E7 G0 G1 G2
          have hS := hS.step hz
          clear hz
          go_wp2
          go_roundw
          case rel => exact ⟨k + 1, by omega, by go_num, by unfold Hid; rw [hdr.out, hpr.out]; rfl, hS⟩
          case measure => simp [intOf]; omega
        · have HI := Lib.hid (fun W => hi ▸ l01In_any n r.fr r.to W)
          have hi2 : r.fr ≤ n := by have : r.fr ≤ n ∧ n ≤ r.to := by simpa [inB] using hi
                                    exact this.1
          have hpg : Hid (p r = decide (rgY r.fr n = number)) := by unfold Hid; rw [HPr.out, hkk, hi]; rfl
          have HGr := Lib.hid (fun W => HG.out r W hf0 hi2)
          generalize rgY r.fr n = g at HGr hpg
          by_cases hg : g = number
          · have hR : Hid (V = true) := by unfold Hid; rw [hH.out, hdr.out, hpg.out, decide_eq_true hg]; rfl
            have hg2 : (g == number) = true := by simpa using hg
            clear hg
            go_upto_region 16 with (fail)
            refine wp_region_later _ (by kernel_rfl) (by kernel_rfl) ?_
            repeat (go_big_quiet_step (fail))
            go_big_quiet_step ((go_at_call 55; exact Later.same (HI.out _)))
            repeat (go_big_quiet_step (fail))
            go_big_quiet_step ((go_at_call 126; exact Later.call (Nat.le_refl _) (HGr.out _)))
            repeat (go_big_quiet_step (fail))
            refine wpQuiet_nil ?_
            intro z
            have hz := z.prop
            generalize z.val = w2 at hz
            clear E1 E7 G0 G1 G2
            have hS := hS.step hz
            clear hz
            go_wp2
            go_ret
            exact ⟨ret_bool hR.out.symm, hS.at0.below⟩
          · have hpr : Hid (p r = false) := by unfold Hid; rw [hpg.out]; exact decide_eq_false hg
            have hg2 : (g == number) = false := by simpa using hg
            clear hg
            go_upto_region 16 with (fail)
            refine wp_region_later _ (by kernel_rfl) (by kernel_rfl) ?_
            repeat (go_big_quiet_step (fail))
            go_big_quiet_step ((go_at_call 55; exact Later.same (HI.out _)))
            repeat (go_big_quiet_step (fail))
            go_big_quiet_step ((go_at_call 126; exact Later.call (Nat.le_refl _) (HGr.out _)))
            repeat (go_big_quiet_step (fail))
            refine wpQuiet_nil ?_
            intro z
            have hz := z.prop
            generalize z.val = w2 at hz
            clear E1 E7 G0 G1 G2
            have hS := hS.step hz
            clear hz
            go_wp2
            go_roundw
            case rel => exact ⟨k + 1, by omega, by go_num, by unfold Hid; rw [hdr.out, hpr.out]; rfl, hS⟩
            case measure => simp [intOf]; omega
    · have hlt' : decide ((k : Int) < (rs.length : Int)) = false := by simp; omega
      have hR : Hid (V = false) := by unfold Hid; rw [hH.out, hq.out, List.drop_eq_nil_of_le (by omega)]; rfl
      go_wp2
      go_ret
      exact ⟨ret_bool hR.out.symm, hS.at0.below⟩
set_option maxRecDepth 100000 in
set_option maxHeartbeats 1000000 in
theorem l11Holds3_any (a : Option Addr) (cap : Nat) (rs : List Rg) (m : Cl) (n : Int) (w : World) (hk : m.kind = 3) (hn0 : 0 ≤ n) (hn : n ≤ 730499) :
    Calls Tryz.prog 135 #[.slice a rs.length cap, .agg #[.int .i64 m.kind, .int .i64 m.number, .int .i64 m.month, .int .i64 m.feast, .int .i64 m.relation, .int .i64 m.weekday, .int .i64 m.style, .string m.king], .int .i64 n] w fun e w' => e = .returned (.bool (holdB rs m n)) ∧ Below w.heap.size w w' := by
  have hH := Lib.hid (holdB_3 (rs := rs) (n := n) hk)
  generalize holdB rs m n = V at hH ⊢
  obtain ⟨kind, number, month, feast, relation, weekday, style, king⟩ := m
  dsimp only at *
  subst hk
  have hA := At.start w [.int .i64 3, .int .i64 number, .int .i64 month, .int .i64 feast, .int .i64 relation, .int .i64 weekday, .int .i64 style, .string king] 31
  have HD := Lib.hid (fun W => l01Old_any n W hn0 hn)
  have HY := Lib.hid (fun W => l06On_any style n W hn0 hn)
  have hr : yoR style n = match yoO style n with | some y => (y, true) | none => (0, false) := rfl
  generalize yoR style n = R at HY hr
  generalize (mnO n : Int) = M at HD
  generalize dyO n = D at HD
  generalize yrO n = Y at HD
  cases hyo : yoO style n
  · rw [hyo] at hr hH
    have hR : Hid (V = false) := by unfold Hid; rw [hH.out]; rfl
    subst hr
    clear hyo
    go_enter Tryz.func135, Tryz.ntmps135
    go_wp2_with fail
    refine (HD.out _).mono ?_
    rintro e w1 ⟨rfl, hB1⟩
    have hS := HsS.start (Y := Y) (M := M) (D := D) (hA.step hB1)
    have ck := hS.at0.cell 0 _ rfl
    clear hB1
    go_upto_region 20 with (fail)
    clear ck
    generalize w1.alloc (.cells #[.int .i64 Y, .int .i64 M, .int .i64 D] 104) = W at hS ⊢
    generalize w1.heap.size = q at hS ⊢
    have cs := hS.at0.cell 6 _ rfl
    go_wp2_with fail
    refine (HY.out _).mono ?_
    rintro e w2 ⟨rfl, hB2⟩
    have hS := hS.step hB2
    clear cs
    have cs := hS.at0.cell 1 _ rfl
    go_wp2
    go_ret
    exact ⟨ret_bool hR.out.symm, hS.at0.below⟩
  · rename_i y
    rw [hyo] at hr hH
    subst hr
    clear hyo
    by_cases hy : y = number
    · have hR : Hid (V = true) := by unfold Hid; rw [hH.out, hy]; simp
      have hy' : (y == number) = true := by simpa using hy
      clear hy
      go_enter Tryz.func135, Tryz.ntmps135
      go_wp2_with fail
      refine (HD.out _).mono ?_
      rintro e w1 ⟨rfl, hB1⟩
      have hS := HsS.start (Y := Y) (M := M) (D := D) (hA.step hB1)
      have ck := hS.at0.cell 0 _ rfl
      clear hB1
      go_upto_region 20 with (fail)
      clear ck
      generalize w1.alloc (.cells #[.int .i64 Y, .int .i64 M, .int .i64 D] 104) = W at hS ⊢
      generalize w1.heap.size = q at hS ⊢
      have cs := hS.at0.cell 6 _ rfl
      go_wp2_with fail
      refine (HY.out _).mono ?_
      rintro e w2 ⟨rfl, hB2⟩
      have hS := hS.step hB2
      clear cs
      have cs := hS.at0.cell 1 _ rfl
      go_wp2
      go_ret
      exact ⟨ret_bool hR.out.symm, hS.at0.below⟩
    · have hR : Hid (V = false) := by unfold Hid; rw [hH.out]; simpa using hy
      have hy' : (y == number) = false := by simpa using hy
      clear hy
      go_enter Tryz.func135, Tryz.ntmps135
      go_wp2_with fail
      refine (HD.out _).mono ?_
      rintro e w1 ⟨rfl, hB1⟩
      have hS := HsS.start (Y := Y) (M := M) (D := D) (hA.step hB1)
      have ck := hS.at0.cell 0 _ rfl
      clear hB1
      go_upto_region 20 with (fail)
      clear ck
      generalize w1.alloc (.cells #[.int .i64 Y, .int .i64 M, .int .i64 D] 104) = W at hS ⊢
      generalize w1.heap.size = q at hS ⊢
      have cs := hS.at0.cell 6 _ rfl
      go_wp2_with fail
      refine (HY.out _).mono ?_
      rintro e w2 ⟨rfl, hB2⟩
      have hS := hS.step hB2
      clear cs
      have cs := hS.at0.cell 1 _ rfl
      go_wp2
      go_ret
      exact ⟨ret_bool hR.out.symm, hS.at0.below⟩
set_option maxRecDepth 100000 in
set_option maxHeartbeats 1000000 in
theorem l11Holds4_any (a : Option Addr) (cap : Nat) (rs : List Rg) (m : Cl) (n : Int) (w : World) (hk : m.kind = 4) (hn0 : 0 ≤ n) (hn : n ≤ 730499) (hs0 : 0 ≤ m.style) (hs1 : m.style ≤ 2) :
    Calls Tryz.prog 135 #[.slice a rs.length cap, .agg #[.int .i64 m.kind, .int .i64 m.number, .int .i64 m.month, .int .i64 m.feast, .int .i64 m.relation, .int .i64 m.weekday, .int .i64 m.style, .string m.king], .int .i64 n] w fun e w' => e = .returned (.bool (holdB rs m n)) ∧ Below w.heap.size w w' := by
  have hH := Lib.hid (holdB_4 (rs := rs) (n := n) hk)
  generalize holdB rs m n = V at hH ⊢
  obtain ⟨kind, number, month, feast, relation, weekday, style, king⟩ := m
  dsimp only at *
  subst hk
  have hA := At.start w [.int .i64 4, .int .i64 number, .int .i64 month, .int .i64 feast, .int .i64 relation, .int .i64 weekday, .int .i64 style, .string king] 31
  have HD := Lib.hid (fun W => l01Old_any n W hn0 hn)
  have HY := Lib.hid (fun W => l08On_any style n W hs0 hs1 hn0 hn)
  generalize ioO style n = R at HY hH
  generalize (mnO n : Int) = M at HD
  generalize dyO n = D at HD
  generalize yrO n = Y at HD
  by_cases hy : R = number
  · have hR : Hid (V = true) := by unfold Hid; rw [hH.out]; exact decide_eq_true hy
    have hy' : (R == number) = true := by simpa using hy
    clear hy
    go_enter Tryz.func135, Tryz.ntmps135
    go_wp2_with fail
    refine (HD.out _).mono ?_
    rintro e w1 ⟨rfl, hB1⟩
    have hS := HsS.start (Y := Y) (M := M) (D := D) (hA.step hB1)
    have ck := hS.at0.cell 0 _ rfl
    clear hB1
    go_upto_region 23 with (fail)
    clear ck
    generalize w1.alloc (.cells #[.int .i64 Y, .int .i64 M, .int .i64 D] 104) = W at hS ⊢
    generalize w1.heap.size = q at hS ⊢
    have E6 := Later.cell (hS.at0.cell 6 _ rfl) hS.at0.size
    have E1 := Later.cell (hS.at0.cell 1 _ rfl) hS.at0.size
    refine wp_region_later _ (by kernel_rfl) (by kernel_rfl) ?_
    repeat (go_big_quiet_step (fail))
    go_big_quiet_step ((go_at_call 128; exact Later.call (Nat.le_refl _) (HY.out _)))
    repeat (go_big_quiet_step (fail))
    refine wpQuiet_nil ?_
    intro z
    have hz := z.prop
    generalize z.val = w2 at hz
    clear E6 E1
    go_wp2
    go_ret
    exact ⟨ret_bool hR.out.symm, (hS.step hz).at0.below⟩
  · have hR : Hid (V = false) := by unfold Hid; rw [hH.out]; exact decide_eq_false hy
    have hy' : (R == number) = false := by simpa using hy
    clear hy
    go_enter Tryz.func135, Tryz.ntmps135
    go_wp2_with fail
    refine (HD.out _).mono ?_
    rintro e w1 ⟨rfl, hB1⟩
    have hS := HsS.start (Y := Y) (M := M) (D := D) (hA.step hB1)
    have ck := hS.at0.cell 0 _ rfl
    clear hB1
    go_upto_region 23 with (fail)
    clear ck
    generalize w1.alloc (.cells #[.int .i64 Y, .int .i64 M, .int .i64 D] 104) = W at hS ⊢
    generalize w1.heap.size = q at hS ⊢
    have E6 := Later.cell (hS.at0.cell 6 _ rfl) hS.at0.size
    have E1 := Later.cell (hS.at0.cell 1 _ rfl) hS.at0.size
    refine wp_region_later _ (by kernel_rfl) (by kernel_rfl) ?_
    repeat (go_big_quiet_step (fail))
    go_big_quiet_step ((go_at_call 128; exact Later.call (Nat.le_refl _) (HY.out _)))
    repeat (go_big_quiet_step (fail))
    refine wpQuiet_nil ?_
    intro z
    have hz := z.prop
    generalize z.val = w2 at hz
    clear E6 E1
    go_wp2
    go_ret
    exact ⟨ret_bool hR.out.symm, (hS.step hz).at0.below⟩
set_option maxRecDepth 100000 in
set_option maxHeartbeats 1000000 in
theorem l11Holds5_any (a : Option Addr) (cap : Nat) (rs : List Rg) (m : Cl) (n : Int) (w : World) (hk : m.kind = 5) (hn0 : 0 ≤ n) (hn : n ≤ 730499) :
    Calls Tryz.prog 135 #[.slice a rs.length cap, .agg #[.int .i64 m.kind, .int .i64 m.number, .int .i64 m.month, .int .i64 m.feast, .int .i64 m.relation, .int .i64 m.weekday, .int .i64 m.style, .string m.king], .int .i64 n] w fun e w' => e = .returned (.bool (holdB rs m n)) ∧ Below w.heap.size w w' := by
  have hH := Lib.hid (holdB_5 (rs := rs) (n := n) hk)
  generalize holdB rs m n = V at hH ⊢
  obtain ⟨kind, number, month, feast, relation, weekday, style, king⟩ := m
  dsimp only at *
  subst hk
  have hA := At.start w [.int .i64 5, .int .i64 number, .int .i64 month, .int .i64 feast, .int .i64 relation, .int .i64 weekday, .int .i64 style, .string king] 31
  have HD := Lib.hid (fun W => l01Old_any n W hn0 hn)
  have HY := Lib.hid (fun W => l01Weekday_any n W (by omega) (by omega))
  generalize (n + 5) % 7 = R at HY hH
  generalize (mnO n : Int) = M at HD
  generalize dyO n = D at HD
  generalize yrO n = Y at HD
  by_cases hy : R = weekday
  · have hR : Hid (V = true) := by unfold Hid; rw [hH.out]; exact decide_eq_true hy
    have hy' : (R == weekday) = true := by simpa using hy
    clear hy
    go_enter Tryz.func135, Tryz.ntmps135
    go_wp2_with fail
    refine (HD.out _).mono ?_
    rintro e w1 ⟨rfl, hB1⟩
    have hS := HsS.start (Y := Y) (M := M) (D := D) (hA.step hB1)
    have ck := hS.at0.cell 0 _ rfl
    clear hB1
    go_upto_region 24 with (fail)
    clear ck
    generalize w1.alloc (.cells #[.int .i64 Y, .int .i64 M, .int .i64 D] 104) = W at hS ⊢
    generalize w1.heap.size = q at hS ⊢
    have E5 := Later.cell (hS.at0.cell 5 _ rfl) hS.at0.size
    refine wp_region_later _ (by kernel_rfl) (by kernel_rfl) ?_
    repeat (go_big_quiet_step (fail))
    go_big_quiet_step ((go_at_call 124; exact Later.same (HY.out _)))
    repeat (go_big_quiet_step (fail))
    refine wpQuiet_nil ?_
    intro z
    have hz := z.prop
    generalize z.val = w2 at hz
    clear E5
    go_wp2
    go_ret
    exact ⟨ret_bool hR.out.symm, (hS.step hz).at0.below⟩
  · have hR : Hid (V = false) := by unfold Hid; rw [hH.out]; exact decide_eq_false hy
    have hy' : (R == weekday) = false := by simpa using hy
    clear hy
    go_enter Tryz.func135, Tryz.ntmps135
    go_wp2_with fail
    refine (HD.out _).mono ?_
    rintro e w1 ⟨rfl, hB1⟩
    have hS := HsS.start (Y := Y) (M := M) (D := D) (hA.step hB1)
    have ck := hS.at0.cell 0 _ rfl
    clear hB1
    go_upto_region 24 with (fail)
    clear ck
    generalize w1.alloc (.cells #[.int .i64 Y, .int .i64 M, .int .i64 D] 104) = W at hS ⊢
    generalize w1.heap.size = q at hS ⊢
    have E5 := Later.cell (hS.at0.cell 5 _ rfl) hS.at0.size
    refine wp_region_later _ (by kernel_rfl) (by kernel_rfl) ?_
    repeat (go_big_quiet_step (fail))
    go_big_quiet_step ((go_at_call 124; exact Later.same (HY.out _)))
    repeat (go_big_quiet_step (fail))
    refine wpQuiet_nil ?_
    intro z
    have hz := z.prop
    generalize z.val = w2 at hz
    clear E5
    go_wp2
    go_ret
    exact ⟨ret_bool hR.out.symm, (hS.step hz).at0.below⟩
theorem l11Holds_any (a : Option Addr) (cap : Nat) (rs : List Rg) (m : Cl) (n : Int) (w : World) (hok : okCl m = true) (hl : rs.length ≤ 1048576) (hx : Rd encRg w a rs) (hrs : ∀ r ∈ rs, 0 ≤ r.fr) (hn0 : 0 ≤ n) (hn : n ≤ 730499) :
    Calls Tryz.prog 135 #[.slice a rs.length cap, .agg #[.int .i64 m.kind, .int .i64 m.number, .int .i64 m.month, .int .i64 m.feast, .int .i64 m.relation, .int .i64 m.weekday, .int .i64 m.style, .string m.king], .int .i64 n] w fun e w' => e = .returned (.bool (holdB rs m n)) ∧ Below w.heap.size w w' := by
  rcases okCl_kind hok with h | ⟨h, h1, h2, h3, h4⟩ | h | h | ⟨h, h1, h2⟩ | h
  · exact l11Holds0_any a cap rs m n w h hn0 hn
  · exact l11Holds1_any a cap rs m n w h hn0 hn h1 h2 h3 h4
  · exact l11Holds2_any a cap rs m n w h hn0 hn hl hx hrs
  · exact l11Holds3_any a cap rs m n w h hn0 hn
  · exact l11Holds4_any a cap rs m n w h hn0 hn h1 h2
  · exact l11Holds5_any a cap rs m n w h hn0 hn
end

section
open Go.ChangeShapes Go.WideShapes Go.ChangeAt Go.RowKit Go.IntWalk

theorem reigns_fr {xs : List Rg} (h : areReignsB xs = true) : ∀ r ∈ xs, 0 ≤ r.fr := fun r hr => by
  unfold areReignsB at h
  simp only [Bool.and_eq_true] at h
  have := upGo_all h.1 r hr
  simp only [okRg, spanB, dayB, inB, Bool.and_eq_true, decide_eq_true_eq] at this
  omega
end
end Go.Proofs.YteajkofgcmfaoaaGreatDoor
