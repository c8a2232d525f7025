/- What the law of datings wants: the spans of the days that fit, the best day; plain. -/
import Derived.Test.YtdbgnbohdplndaaGreatDoorTSp
import Derived.Test.YtdbgnbohdplndaaGreatDoorFix
import Derived.Test.YtdbgnbohdplndaaGreatDoorSpPlain
import Derived.Test.YtdbgnbohdplndaaGreatDoorSetI
import Derived.Test.YtdbgnbohdplndaaGreatDoorFail
namespace Go.Proofs.YtdbgnbohdplndaaGreatDoor
section
open Go.ChangeShapes Go.WideShapes Go.ChangeAt Go.RowKit

set_option maxHeartbeats 400000 in
theorem indexFunc_hasDay_1 (q : Addr) (a : Option Addr) (cap : Nat) (xs : List Sp) (p : Sp → Bool) (w : World) (hl : xs.length ≤ 1048576) (hx : Rd encSp w a xs)
    (hf : ∀ W, Below w.heap.size w W → ∀ m ∈ xs, Calls Tryz.prog 134 #[.agg #[.int .i64 m.fr, .int .i64 m.to], .pointer (some q)] W fun e w' => e = .returned (.bool (p m)) ∧ Below W.heap.size W w') :
    Calls Tryz.prog 174 #[.slice a xs.length cap, .func (.func 134) #[] #[.pointer (some q)]] w fun e w' => e = .returned (.int .i64 (fidx p xs 0)) ∧ Below w.heap.size w w' := by
  have HF := Lib.hid hf
  clear hf
  go_enter Tryz.func174, Tryz.ntmps174
  go_wp2
  go_loopw [8] (fun i wr => ∃ (k : Nat), k ≤ xs.length ∧ i = .int .i64 k ∧ Hid (fidx p xs 0 = fidx p (xs.drop k) k) ∧ Below w.heap.size w wr) (fun i _ => xs.length - (intOf i).toNat)
  case atStart => exact ⟨0, Nat.zero_le _, rfl, rfl, Below.refl _ _⟩
  case round =>
    obtain ⟨k, hk, rfl, hH, hB⟩ := hrel
    by_cases hlt : k < xs.length
    · have hm := List.getElem?_eq_getElem hlt
      generalize xs[k] = m at hm
      obtain ⟨b, off, rfl, hb, c0, c1⟩ := (hx.below hB).sp hm
      have hd := Lib.hid (fidx_drop p k k hm)
      have hc := HF.out wr hB m (List.mem_of_getElem? hm)
      have hk1 : (k : Int) < (xs.length : Int) := by omega
      clear hm
      cases hp : p m
      · rw [hp] at hc
        have HC := Lib.hid hc
        clear hc
        go_wp2_with fail
        refine HC.out.mono ?_
        rintro e w1 ⟨rfl, hB1⟩
        go_wp2
        go_roundw
        case rel => exact ⟨k + 1, by omega, by go_num, by unfold Hid; rw [hH.out, hd.out, hp]; rfl, stepB hB hB1 hB.size⟩
        case measure => simp [intOf]; omega
      · rw [hp] at hc
        have HC := Lib.hid hc
        clear hc
        go_wp2_with fail
        refine HC.out.mono ?_
        rintro e w1 ⟨rfl, hB1⟩
        go_wp2
        go_ret
        exact ⟨ret_int (by rw [hH.out, hd.out, hp]; rfl), stepB hB hB1 hB.size⟩
    · go_wp2
      go_ret
      exact ⟨ret_int (by rw [hH.out, List.drop_eq_nil_of_le (by omega)]; rfl), hB⟩
theorem containsFunc_hasDay_1 (q : Addr) (a : Option Addr) (cap : Nat) (xs : List Sp) (p : Sp → Bool) (w : World) (hl : xs.length ≤ 1048576) (hx : Rd encSp w a xs) (hf : ∀ W, Below w.heap.size w W → ∀ m ∈ xs, Calls Tryz.prog 134 #[.agg #[.int .i64 m.fr, .int .i64 m.to], .pointer (some q)] W fun e w' => e = .returned (.bool (p m)) ∧ Below W.heap.size W w') : Calls Tryz.prog 133 #[.slice a xs.length cap, .func (.func 134) #[] #[.pointer (some q)]] w fun e w' => e = .returned (.bool (xs.any p)) ∧ Below w.heap.size w w' := by
  have HC := Lib.hid (indexFunc_hasDay_1 q a cap xs p w hl hx hf)
  clear hf
  have hd := fidx_any p xs
  generalize fidx p xs 0 = r at *
  have HD := Lib.hid hd
  clear hd
  go_enter Tryz.func133, Tryz.ntmps133
  go_wp2_with fail
  refine HC.out.mono ?_
  rintro e w1 ⟨rfl, hB1⟩
  go_wp2
  go_ret
  exact ⟨ret_bool HD.out, hB1⟩
end

section
open Go.ChangeShapes Go.WideShapes Go.ChangeAt Go.RowKit

theorem hasB_drop {xs : List Sp} {k : Nat} {m : Sp} (z : Int) (h : xs[k]? = some m) : hasB (xs.drop k) z = (inB z m.fr m.to || hasB (xs.drop (k + 1)) z) := by
  obtain ⟨hk, rfl⟩ := List.getElem?_eq_some_iff.1 h
  rw [List.drop_eq_getElem_cons hk]
  rfl



















































set_option maxHeartbeats 1000000 in
theorem hasDay1_any (q : Nat) (z : Int) (m : Sp) (w : World) (h0 : w.cell? ⟨q, 0, none⟩ = some (.int .i64 z)) :
    Calls Tryz.prog 134 #[.agg #[.int .i64 m.fr, .int .i64 m.to], .pointer (some ⟨q, 0, none⟩)] w fun e w' => e = .returned (.bool (inB z m.fr m.to)) ∧ Below w.heap.size w w' := by
  have hq := World.block_lt_of_cell? w _ h0
  simp only at hq
  have hb : Below w.heap.size w (w.alloc (.cells #[.int .i64 m.fr, .int .i64 m.to] 94)) := (Below.refl _ w).alloc (Nat.le_refl _) _
  have h0' := (hb.cell (p := ⟨q, 0, none⟩) hq).trans h0
  go_enter Tryz.func134, Tryz.ntmps134
  go_wp2_with fail
  refine (within_any _ _ _ _).mono ?_
  rintro e w1 ⟨rfl, rfl⟩
  go_wp2
  go_ret
  exact ⟨rfl, hb⟩
set_option maxHeartbeats 1000000 in
theorem hasDay_any (a : Option Addr) (cap n : Nat) (xs : List Sp) (z : Int) (w : World) (hn : xs.length = n) (hl : n ≤ 1048576) (hx : Rd encSp w a xs) :
    Calls Tryz.prog 88 #[.slice a n cap, .int .i64 z] w fun e w' => e = .returned (.bool (hasB xs z)) ∧ Below w.heap.size w w' := by
  subst hn
  have hmf : ∀ (fn : Fn) (first cap : Array Value) (w : World), (Instr.makeFunc fn first cap).run Tryz.prog w = .ok (.func fn first cap) w := fun _ _ _ _ => rfl
  go_enter Tryz.func88, Tryz.ntmps88
  go_wp2_with fail
  generalize hW : w.alloc (.cells #[.int .i64 z] 2) = W
  have hB : Below w.heap.size w W := by rw [← hW]; go_grown
  have hc : W.cell? ⟨w.heap.size, 0, none⟩ = some (.int .i64 z) := by rw [← hW]; exact World.cell?_alloc_at _ _ _ _ rfl
  have hn : w.heap.size < W.heap.size := by rw [← hW]; simp
  clear hW
  refine (containsFunc_hasDay_1 ⟨w.heap.size, 0, none⟩ a cap xs (fun m => inB z m.fr m.to) W hl (hx.below hB) (fun W' hW' m _ => hasDay1_any w.heap.size z m W' ((hW'.cell (p := ⟨w.heap.size, 0, none⟩) hn).trans hc))).mono ?_
  rintro e w1 ⟨rfl, hB1⟩
  go_wp2
  go_ret
  exact ⟨rfl, stepB hB hB1 hB.size⟩
end

section
open Go.ChangeShapes Go.WideShapes Go.ChangeAt Go.RowKit Go.IntWalk

/-- A list of spans of days, in order and apart. -/
def isSetP (xs : List Sp) : Prop := (∀ s ∈ xs, 0 ≤ s.fr ∧ s.fr ≤ s.to ∧ s.to ≤ 730499) ∧ ∀ (i : Nat) (a b : Sp), xs[i]? = some a → xs[i + 1]? = some b → a.to + 2 ≤ b.fr
set_option maxRecDepth 100000 in
set_option maxHeartbeats 2000000 in
theorem isSet_true (a : Option Addr) (cap : Nat) (xs : List Sp) (w : World) (hl : xs.length ≤ 300) (hx : Rd encSp w a xs) (hs : isSetP xs) :
    Calls Tryz.prog 87 #[.slice a xs.length cap] w fun e w' => e = .returned (.bool true) ∧ Below w.heap.size w w' := by
  have hB0 := Below.refl w.heap.size w
  go_enter Tryz.func87, Tryz.ntmps87
  go_wp2
  go_loopw [7] (fun i wr => ∃ k : Nat, k ≤ xs.length ∧ i = .int .i64 k ∧ Below w.heap.size w wr) (fun i _ => xs.length - (intOf i).toNat)
  case atStart => exact ⟨0, Nat.zero_le _, rfl, hB0⟩
  case round =>
    clear hB0
    obtain ⟨k, hk, rfl, hB⟩ := hrel
    by_cases hlt : k < xs.length
    · have hlt' : (k : Int) < (xs.length : Int) := by omega
      have hm := List.getElem?_eq_getElem hlt
      generalize xs[k] = m at hm
      obtain ⟨h1, h2, h3⟩ := hs.1 m (List.mem_of_getElem? hm)
      have hdF : dayB m.fr = true := by simp [dayB, inB]; omega
      have hF := Lib.hid (fun W => hdF ▸ isDay_any m.fr W)
      have hdT : dayB m.to = true := by simp [dayB, inB]; omega
      have hT := Lib.hid (fun W => hdT ▸ isDay_any m.to W)
      clear hdF hdT
      have q1 : decide (m.to < m.fr) = false := by simp; omega
      rcases Nat.eq_zero_or_pos k with rfl | hk0
      · obtain ⟨b, off, rfl, hb, c0, c1⟩ := (hx.below hB).sp hm
        rw [Nat.zero_mul, Nat.add_zero] at c0 c1
        clear hm
        go_upto_region 4 with (fail)
        generalize hW : wr.alloc (.cells #[.int .i64 m.fr, .int .i64 m.to] 94) = W
        have hBW : Below wr.heap.size wr W := by rw [← hW]; go_grown
        have D0 : W.cell? ⟨wr.heap.size, 0, none⟩ = some (.int .i64 m.fr) := by rw [← hW]; exact World.cell?_alloc_at _ _ _ _ rfl
        have D1 : W.cell? ⟨wr.heap.size, 1, none⟩ = some (.int .i64 m.to) := by rw [← hW]; exact World.cell?_alloc_at _ _ _ _ rfl
        have hd : wr.heap.size < W.heap.size := by rw [← hW]; simp
        have hB := stepB hB hBW hB.size
        have D0 := Later.cell D0 hd
        have D1 := Later.cell D1 hd
        clear hW hBW c0 c1 hd
        refine wp_region_later _ (by kernel_rfl) (by kernel_rfl) ?_
        repeat (go_big_quiet_step (fail))
        go_big_quiet_step ((go_at_call 79; exact Later.same (hF.out _)))
        repeat (go_big_quiet_step (fail))
        go_big_quiet_step ((go_at_call 79; exact Later.same (hT.out _)))
        repeat (go_big_quiet_step (fail))
        refine wpQuiet_nil ?_
        intro zz
        have hzz := zz.prop
        generalize zz.val = w5 at hzz
        clear D0 D1
        have hB := stepB hB hzz hB.size
        go_wp2
        go_roundw
        case rel => exact ⟨1, by omega, rfl, hB⟩
        case measure => simp [intOf]; omega
      · obtain ⟨j, hkj⟩ : ∃ j, k = j + 1 := ⟨k - 1, by omega⟩
        have hj : j < xs.length := by omega
        have hn := List.getElem?_eq_getElem hj
        generalize xs[j] = q at hn
        have hap := hs.2 j q m hn (hkj ▸ hm)
        obtain ⟨g1, g2, g3⟩ := hs.1 q (List.mem_of_getElem? hn)
        obtain ⟨b, off, rfl, hb, c0, c1⟩ := (hx.below hB).sp hm
        obtain ⟨b', off', e', _, _, e1⟩ := (hx.below hB).sp hn
        obtain ⟨rfl, rfl⟩ : b = b' ∧ off = off' := by simpa using e'
        have v1 : IntKind.i64.wrap ((k : Int) - 1) = j := (i64_in _ (by omega)).trans (by omega)
        have v2 := i64_in (q.to + 2) (by omega)
        have q2 : decide (m.fr < q.to + 2) = false := by simp; omega
        have q3 : (0 : Int) < (k : Int) := by omega
        have q4 : (j : Int) < (xs.length : Int) := by omega
        clear hkj
        clear hm hn e'
        go_upto_region 4 with (fail)
        generalize hW : wr.alloc (.cells #[.int .i64 m.fr, .int .i64 m.to] 94) = W
        have hBW : Below wr.heap.size wr W := by rw [← hW]; go_grown
        have D0 : W.cell? ⟨wr.heap.size, 0, none⟩ = some (.int .i64 m.fr) := by rw [← hW]; exact World.cell?_alloc_at _ _ _ _ rfl
        have D1 : W.cell? ⟨wr.heap.size, 1, none⟩ = some (.int .i64 m.to) := by rw [← hW]; exact World.cell?_alloc_at _ _ _ _ rfl
        have hd : wr.heap.size < W.heap.size := by rw [← hW]; simp
        have hB := stepB hB hBW hB.size
        have D0 := Later.cell D0 hd
        have D1 := Later.cell D1 hd
        have D2 := Later.cell ((hBW.cell (p := ⟨b, off + j * 2 + 1, none⟩) hb).trans e1) (Nat.lt_of_lt_of_le hb hBW.size)
        clear hW hBW c0 c1 e1 hd
        refine wp_region_later _ (by kernel_rfl) (by kernel_rfl) ?_
        repeat (go_big_quiet_step (fail))
        go_big_quiet_step ((go_at_call 79; exact Later.same (hF.out _)))
        repeat (go_big_quiet_step (fail))
        go_big_quiet_step ((go_at_call 79; exact Later.same (hT.out _)))
        repeat (go_big_quiet_step (fail))
        refine wpQuiet_nil ?_
        intro zz
        have hzz := zz.prop
        generalize zz.val = w5 at hzz
        clear D0 D1 D2
        have hB := stepB hB hzz hB.size
        go_wp2
        go_roundw
        case rel => exact ⟨k + 1, by omega, by go_num, hB⟩
        case measure => simp [intOf]; omega
    · have hlt' : decide ((k : Int) < (xs.length : Int)) = false := by simp; omega
      have h300 : (xs.length : Int) ≤ 300 := by omega
      go_wp2
      go_ret
      exact ⟨rfl, hB⟩
theorem countDaysC_any (a : Option Addr) (cap : Nat) (xs : List Sp) (w : World) (hl : xs.length ≤ 300) (hx : Rd encSp w a xs) (hs : isSetP xs) (ho : inSp 0 730499 xs) :
    Calls Tryz.prog 47 #[.slice a xs.length cap] w fun e w' => e = .returned (.tuple #[.int .i64 (cntSp xs), .int .i64 0]) ∧ Below w.heap.size w w' := by
  go_enter Tryz.func47, Tryz.ntmps47
  go_wp2_with fail
  refine (isSet_true a cap xs w hl hx hs).mono ?_
  rintro e w1 ⟨rfl, hB1⟩
  go_wp2_with fail
  refine (countDays_any a cap xs.length xs _ rfl (by omega) (hx.below hB1) ho).mono ?_
  rintro e w2 ⟨rfl, hB2⟩
  go_wp2
  go_ret2
  exact ⟨rfl, stepB hB1 hB2 hB1.size⟩
theorem hasDayC_any (a : Option Addr) (cap : Nat) (xs : List Sp) (z : Int) (w : World) (hl : xs.length ≤ 300) (hx : Rd encSp w a xs) (hs : isSetP xs) (hz : dayB z = true) :
    Calls Tryz.prog 48 #[.slice a xs.length cap, .int .i64 z] w fun e w' => e = .returned (.tuple #[.bool (hasB xs z), .int .i64 0]) ∧ Below w.heap.size w w' := by
  have HD := Lib.hid (fun W => hz ▸ isDay_any z W)
  go_enter Tryz.func48, Tryz.ntmps48
  go_wp2_with fail
  refine (isSet_true a cap xs w hl hx hs).mono ?_
  rintro e w1 ⟨rfl, hB1⟩
  go_wp2_with fail
  refine (HD.out _).mono ?_
  rintro e w2 ⟨rfl, rfl⟩
  go_wp2_with fail
  refine (hasDay_any a cap xs.length xs z _ rfl (by omega) (hx.below hB1)).mono ?_
  rintro e w3 ⟨rfl, hB3⟩
  go_wp2
  go_ret2
  exact ⟨rfl, stepB hB1 hB3 hB1.size⟩
set_option maxRecDepth 100000 in
set_option maxHeartbeats 2000000 in
theorem likeSpans_self (a b : Option Addr) (ca cb : Nat) (xs : List Sp) (w : World) (hl : xs.length ≤ 2097152) (hx : Rd encSp w a xs) (hy : Rd encSp w b xs) :
    Calls Tryz.prog 44 #[.slice a xs.length ca, .slice b xs.length cb] w fun e w' => e = .returned (.bool true) ∧ Below w.heap.size w w' := by
  have hne : (((xs.length : Nat) : Int) != (xs.length : Nat)) = false := by simp
  have hB0 := Below.refl w.heap.size w
  go_enter Tryz.func44, Tryz.ntmps44
  go_wp2
  go_loopw [5] (fun i wr => ∃ (k : Nat), k ≤ xs.length ∧ i = .int .i64 k ∧ Below w.heap.size w wr) (fun i _ => xs.length - (intOf i).toNat)
  case atStart => exact ⟨0, Nat.zero_le _, rfl, hB0⟩
  case round =>
    clear hB0
    obtain ⟨k, hk, rfl, hB⟩ := hrel
    by_cases hlt : k < xs.length
    · have hk1 : (k : Int) < (xs.length : Int) := by omega
      have hm := List.getElem?_eq_getElem hlt
      generalize xs[k] = m at hm
      obtain ⟨b, off, rfl, hb, c0, c1⟩ := (hx.below hB).sp hm
      obtain ⟨b', off', rfl, hb', e0, e1⟩ := (hy.below hB).sp hm
      have q1 : (m.fr != m.fr) = false := by simp
      have q2 : (m.to != m.to) = false := by simp
      clear hm
      go_wp2_with fail
      go_still (by kernel_rfl)
      go_wp2
      go_roundw
      case rel => exact ⟨k + 1, by omega, by go_num, hB.drew⟩
      case measure => simp [intOf]; omega
    · have hk' : decide ((k : Int) < (xs.length : Int)) = false := by simp; omega
      go_wp2
      go_ret
      exact ⟨rfl, hB⟩
end

section
/-- The spans of the days below a, from f on, that q takes. -/
structure RunI (q : Int → Bool) (f a : Int) (out : List Sp) : Prop where
  ok : ∀ s ∈ out, f ≤ s.fr ∧ s.fr ≤ s.to ∧ s.to ≤ a - 1
  sep : out.Pairwise (fun x y => x.to + 2 ≤ y.fr)
  has : ∀ d, (∃ s ∈ out, s.fr ≤ d ∧ d ≤ s.to) ↔ (f ≤ d ∧ d ≤ a - 1 ∧ q d = true)
theorem RunI.no {q : Int → Bool} {f a : Int} {out : List Sp} (h : RunI q f a out) (hq : q a = false) : RunI q f (a + 1) out where
  ok := fun s hs => by have := h.ok s hs; omega
  sep := h.sep
  has := fun d => by
    rw [h.has d]
    constructor
    · rintro ⟨h1, h2, h3⟩; exact ⟨h1, by omega, h3⟩
    · rintro ⟨h1, h2, h3⟩
      refine ⟨h1, ?_, h3⟩
      by_cases e : d = a
      · subst e; rw [hq] at h3; cases h3
      · omega
theorem RunI.hit {q : Int → Bool} {f a : Int} {out : List Sp} (h : RunI q f a out) (hq : q a = true) (hfa : f ≤ a) : RunI q f (a + 1) (spStep out a) := by
  have hnew : RunI q f (a + 1) (out ++ [⟨a, a⟩]) ∨ ∃ s ∈ out, s.to = a - 1 := by
    by_cases hc : ∃ s ∈ out, s.to = a - 1
    · exact .inr hc
    · refine .inl ⟨?_, ?_, ?_⟩
      · intro s hs
        rcases List.mem_append.1 hs with hs | hs
        · have := h.ok s hs; omega
        · simp at hs; subst hs; simp; omega
      · rw [List.pairwise_append]
        refine ⟨h.sep, List.pairwise_singleton _ _, fun x hx y hy => ?_⟩
        simp at hy; subst hy
        have := h.ok x hx
        have h2 : x.to ≠ a - 1 := fun e => hc ⟨x, hx, e⟩
        show x.to + 2 ≤ a
        omega
      · intro d
        constructor
        · rintro ⟨s, hs, h1, h2⟩
          rcases List.mem_append.1 hs with hs | hs
          · obtain ⟨g1, g2, g3⟩ := (h.has d).1 ⟨s, hs, h1, h2⟩
            exact ⟨g1, by omega, g3⟩
          · simp at hs; subst hs
            obtain rfl : d = a := by simp at h1 h2; omega
            exact ⟨hfa, by omega, hq⟩
        · rintro ⟨g1, g2, g3⟩
          by_cases e : d = a
          · subst e; exact ⟨⟨d, d⟩, by simp, by simp, by simp⟩
          · obtain ⟨s, hs, h12⟩ := (h.has d).2 ⟨g1, by omega, g3⟩
            exact ⟨s, by simp [hs], h12⟩
  rcases List.eq_nil_or_concat out with rfl | ⟨ys, s, rfl⟩
  · rcases hnew with hn | ⟨s, hs, _⟩
    · rw [spStep_nil]; exact hn
    · cases hs
  · rw [List.concat_eq_append] at h hnew ⊢
    rw [spStep_snoc]
    have hs := h.ok s (by simp)
    have hsep := h.sep
    rw [List.pairwise_append] at hsep
    by_cases e : s.to = a - 1
    · rw [if_pos e]
      refine ⟨?_, ?_, ?_⟩
      · intro t ht
        rcases List.mem_append.1 ht with ht | ht
        · have := h.ok t (by simp [ht]); omega
        · simp at ht; subst ht; simp; omega
      · rw [List.pairwise_append]
        refine ⟨hsep.1, List.pairwise_singleton _ _, fun x hx y hy => ?_⟩
        simp at hy; subst hy
        exact hsep.2.2 x hx s (by simp)
      · intro d
        constructor
        · rintro ⟨t, ht, h1, h2⟩
          rcases List.mem_append.1 ht with ht | ht
          · obtain ⟨g1, g2, g3⟩ := (h.has d).1 ⟨t, by simp [ht], h1, h2⟩
            exact ⟨g1, by omega, g3⟩
          · simp at ht; subst ht
            simp only at h1 h2
            by_cases e2 : d = a
            · subst e2; exact ⟨by omega, by omega, hq⟩
            · obtain ⟨g1, g2, g3⟩ := (h.has d).1 ⟨s, by simp, h1, by omega⟩
              exact ⟨g1, by omega, g3⟩
        · rintro ⟨g1, g2, g3⟩
          by_cases e2 : d = a
          · subst e2; exact ⟨⟨s.fr, d⟩, by simp, by simp; omega, by simp⟩
          · obtain ⟨t, ht, h1, h2⟩ := (h.has d).2 ⟨g1, by omega, g3⟩
            rcases List.mem_append.1 ht with ht | ht
            · exact ⟨t, by simp [ht], h1, h2⟩
            · simp at ht; subst ht
              exact ⟨⟨t.fr, a⟩, by simp, h1, by simp; omega⟩
    · rw [if_neg e]
      rcases hnew with hn | ⟨t, ht, he⟩
      · exact hn
      · exfalso
        rcases List.mem_append.1 ht with ht | ht
        · have := hsep.2.2 t ht s (by simp); omega
        · simp at ht; subst ht; exact e he
theorem run_inv {q : Int → Bool} {f : Int} : ∀ (k : Nat) {a : Int} {out : List Sp}, RunI q f a out → f ≤ a → RunI q f (a + k) (spRun q a k out)
  | 0, a, _, h, _ => by simpa [spRun] using h
  | k + 1, a, out, h, hf => by
    have e : a + ((k + 1 : Nat) : Int) = (a + 1) + (k : Nat) := by omega
    rw [e]
    cases hq : q a
    · rw [spRun_no k hq]; exact run_inv k (h.no hq) (by omega)
    · rw [spRun_hit k hq]; exact run_inv k (h.hit hq hf) (by omega)
theorem run_facts {q : Int → Bool} {f t : Int} (h0 : 0 ≤ f) (hft : f ≤ t) (ht : t ≤ 730499) : isSetP (spRun q f (t - f + 1).toNat []) ∧ ∀ d, f ≤ d → d ≤ t → hasB (spRun q f (t - f + 1).toNat []) d = q d := by
  have hi : RunI q f f [] := ⟨fun s hs => by (cases hs), .nil, fun d => ⟨fun ⟨s, hs, _⟩ => by (cases hs), fun h => by omega⟩⟩
  have h := run_inv (t - f + 1).toNat hi (Int.le_refl _)
  have e : f + ((t - f + 1).toNat : Int) = t + 1 := by omega
  rw [e] at h
  generalize spRun q f (t - f + 1).toNat [] = xs at h
  refine ⟨⟨fun s hs => by have := h.ok s hs; omega, fun i a b hia hib => ?_⟩, fun d h1 h2 => ?_⟩
  · obtain ⟨l1, rfl⟩ := List.getElem?_eq_some_iff.1 hia
    obtain ⟨l2, rfl⟩ := List.getElem?_eq_some_iff.1 hib
    exact List.pairwise_iff_getElem.1 h.sep i (i + 1) l1 l2 (by omega)
  · have := h.has d
    unfold hasB
    rw [Bool.eq_iff_iff, List.any_eq_true]
    constructor
    · rintro ⟨s, hs, hin⟩
      simp [inB] at hin
      exact (this.1 ⟨s, hs, hin⟩).2.2
    · intro hq
      obtain ⟨s, hs, h12⟩ := this.2 ⟨h1, by omega, hq⟩
      exact ⟨s, hs, by simpa [inB] using h12⟩
theorem idx_nil : ∀ (bs : List Bool) (k : Nat), (idxGo k bs).length = 0 ↔ ∀ b ∈ bs, b = false
  | [], _ => by simp [idxGo]
  | b :: bs, k => by
    have ih := idx_nil bs (k + 1)
    cases b
    · simp only [idxGo]; simp at ih ⊢; exact ih
    · simp [idxGo]
theorem failN_zero {rs : List Rg} {cs : List Cl} {n : Int} : failN rs cs n = 0 ↔ fitB rs cs n = true := by
  unfold failN fitB
  rw [idx_nil, List.all_eq_true]
  unfold failL
  constructor
  · intro h c hc
    have := h (!holdB rs c n) (List.mem_map.2 ⟨c, hc, rfl⟩)
    simpa using this
  · intro h b hb
    obtain ⟨c, hc, rfl⟩ := List.mem_map.1 hb
    simp [h c hc]
/-- The best day is the first with the fewest that fail. -/
theorem best_inv {q : Int → Nat} : ∀ (k : Nat) {a b : Int} {l : Nat}, ∃ b' l', bestGo q a k b l = (b', l') ∧ l' ≤ l ∧ (∀ z, a ≤ z → z < a + k → l' ≤ q z) ∧
    ((b' = b ∧ l' = l) ∨ (a ≤ b' ∧ b' < a + k ∧ q b' = l' ∧ l' < l ∧ ∀ z, a ≤ z → z < b' → l' < q z))
  | 0, a, b, l => ⟨b, l, rfl, Nat.le_refl _, fun z h1 h2 => by omega, .inl ⟨rfl, rfl⟩⟩
  | k + 1, a, b, l => by
    by_cases h : q a < l
    · rw [best_hit k h]
      obtain ⟨b', l', e, h1, h2, h3⟩ := best_inv k (a := a + 1) (b := a) (l := q a)
      refine ⟨b', l', e, by omega, fun z g1 g2 => ?_, ?_⟩
      · by_cases ez : z = a
        · subst ez; exact h1
        · exact h2 z (by omega) (by omega)
      · rcases h3 with ⟨e1, e2⟩ | ⟨g1, g2, g3, g4, g5⟩
        · subst e1; exact .inr ⟨by omega, by omega, e2.symm, by omega, fun z g1 g2 => by omega⟩
        · refine .inr ⟨by omega, by omega, g3, by omega, fun z y1 y2 => ?_⟩
          by_cases ez : z = a
          · subst ez; exact g4
          · exact g5 z (by omega) y2
    · rw [best_no k h]
      obtain ⟨b', l', e, h1, h2, h3⟩ := best_inv k (a := a + 1) (b := b) (l := l)
      refine ⟨b', l', e, h1, fun z g1 g2 => ?_, ?_⟩
      · by_cases ez : z = a
        · subst ez; omega
        · exact h2 z (by omega) (by omega)
      · rcases h3 with ⟨e1, e2⟩ | ⟨g1, g2, g3, g4, g5⟩
        · exact .inl ⟨e1, e2⟩
        · refine .inr ⟨by omega, by omega, g3, g4, fun z y1 y2 => ?_⟩
          by_cases ez : z = a
          · subst ez; omega
          · exact g5 z (by omega) y2
/-- The best day, beside the first that fits. -/
theorem best_first {rs : List Rg} {f t : Int} {cs : List Cl} (hd : datedB rs f t cs = true) : ∃ (b : Int) (l : Nat), bestF rs f t cs = (b, l, 0) ∧ f ≤ b ∧ b ≤ t ∧ l = failN rs cs b ∧
    ((l : Int) = 0 ↔ (firstF rs f t cs).2 = 0) ∧ ((l : Int) = 0 → b = (firstF rs f t cs).1) := by
  obtain ⟨_, _, h8, h0, hft, ht, _⟩ := dated_facts hd
  obtain ⟨b, l, e, h1, h2, h3⟩ := best_inv (q := failN rs cs) (t - f + 1).toNat (a := f) (b := f) (l := cs.length + 1)
  have hk : f + ((t - f + 1).toNat : Int) = t + 1 := by omega
  rw [hk] at h2 h3
  have hlf := h2 f (Int.le_refl _) (by omega)
  have hlc := failN_le rs cs f
  have h3 : f ≤ b ∧ b < t + 1 ∧ failN rs cs b = l ∧ l < cs.length + 1 ∧ ∀ z, f ≤ z → z < b → l < failN rs cs z := by
    rcases h3 with ⟨_, e2⟩ | h3
    · omega
    · exact h3
  obtain ⟨g1, g2, g3, g4, g5⟩ := h3
  refine ⟨b, l, ?_, g1, by omega, g3.symm, ?_, ?_⟩
  · unfold bestF; rw [if_pos hd, e]
  · unfold firstF
    rw [if_pos hd]
    cases hf : fstR (fitB rs cs) f (t - f + 1).toNat with
    | none =>
      have hn := fstR_none hf
      rw [hk] at hn
      constructor
      · intro hl
        have hb := failN_zero.1 (show failN rs cs b = 0 by omega)
        rw [hn b g1 g2] at hb; cases hb
      · intro h; cases h
    | some y =>
      obtain ⟨y1, y2, y3, _⟩ := fstR_some hf
      rw [hk] at y3
      have := h2 y y2 y3
      have := failN_zero.2 y1
      constructor
      · intro _; rfl
      · intro _; omega
  · intro hl
    unfold firstF
    rw [if_pos hd]
    have hb := failN_zero.1 (show failN rs cs b = 0 by omega)
    cases hf : fstR (fitB rs cs) f (t - f + 1).toNat with
    | none =>
      have hn := fstR_none hf
      rw [hk] at hn
      rw [hn b g1 g2] at hb; cases hb
    | some y =>
      obtain ⟨y1, y2, y3, y4⟩ := fstR_some hf
      show b = y
      rcases Int.lt_trichotomy b y with h | h | h
      · rw [y4 b g1 h] at hb; cases hb
      · exact h
      · have := g5 y y2 h
        have := failN_zero.2 y1
        omega
end
end Go.Proofs.YtdbgnbohdplndaaGreatDoor
