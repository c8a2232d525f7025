/- Common days of two sets: which they are, and that they are a set; plain. -/
import Derived.Test.YtipdcgfdejmjfaaGreatDoorRSp
import Derived.StillTailTactics
import Derived.Test.YtipdcgfdejmjfaaGreatDoorFix
import Derived.Test.YtipdcgfdejmjfaaGreatDoorSpHas
import Derived.Test.YtipdcgfdejmjfaaGreatDoorSpPlain
namespace Go.Proofs.YtipdcgfdejmjfaaGreatDoor
section
open Go.ChangeShapes Go.WideShapes Go.ChangeAt Go.RowKit Go.IntWalk

/-- A list of spans of days, in order and apart. -/
def isSetP (xs : List Sp) : Prop := (∀ s ∈ xs, 0 ≤ s.fr ∧ s.fr ≤ s.to ∧ s.to ≤ 730499) ∧ ∀ (i : Nat) (a b : Sp), xs[i]? = some a → xs[i + 1]? = some b → a.to + 2 ≤ b.fr
set_option maxRecDepth 100000 in
set_option maxHeartbeats 2000000 in
theorem isSet_true (a : Option Addr) (cap : Nat) (xs : List Sp) (w : World) (hl : xs.length ≤ 300) (hx : Rd encSp w a xs) (hs : isSetP xs) :
    Calls Tryz.prog 65 #[.slice a xs.length cap] w fun e w' => e = .returned (.bool true) ∧ Below w.heap.size w w' := by
  have hB0 := Below.refl w.heap.size w
  go_enter Tryz.func65, Tryz.ntmps65
  go_wp2
  go_loopw [7] (fun i wr => ∃ k : Nat, k ≤ xs.length ∧ i = .int .i64 k ∧ Below w.heap.size w wr) (fun i _ => xs.length - (intOf i).toNat)
  case atStart => exact ⟨0, Nat.zero_le _, rfl, hB0⟩
  case round =>
    clear hB0
    obtain ⟨k, hk, rfl, hB⟩ := hrel
    by_cases hlt : k < xs.length
    · have hlt' : (k : Int) < (xs.length : Int) := by omega
      have hm := List.getElem?_eq_getElem hlt
      generalize xs[k] = m at hm
      obtain ⟨h1, h2, h3⟩ := hs.1 m (List.mem_of_getElem? hm)
      have hdF : dayB m.fr = true := by simp [dayB, inB]; omega
      have hF := Lib.hid (fun W => hdF ▸ isDay_any m.fr W)
      have hdT : dayB m.to = true := by simp [dayB, inB]; omega
      have hT := Lib.hid (fun W => hdT ▸ isDay_any m.to W)
      clear hdF hdT
      have q1 : decide (m.to < m.fr) = false := by simp; omega
      rcases Nat.eq_zero_or_pos k with rfl | hk0
      · obtain ⟨b, off, rfl, hb, c0, c1⟩ := (hx.below hB).sp hm
        rw [Nat.zero_mul, Nat.add_zero] at c0 c1
        clear hm
        go_upto_region 4 with (fail)
        generalize hW : wr.alloc (.cells #[.int .i64 m.fr, .int .i64 m.to] 112) = W
        have hBW : Below wr.heap.size wr W := by rw [← hW]; go_grown
        have D0 : W.cell? ⟨wr.heap.size, 0, none⟩ = some (.int .i64 m.fr) := by rw [← hW]; exact World.cell?_alloc_at _ _ _ _ rfl
        have D1 : W.cell? ⟨wr.heap.size, 1, none⟩ = some (.int .i64 m.to) := by rw [← hW]; exact World.cell?_alloc_at _ _ _ _ rfl
        have hd : wr.heap.size < W.heap.size := by rw [← hW]; simp
        have hB := stepB hB hBW hB.size
        have D0 := Later.cell D0 hd
        have D1 := Later.cell D1 hd
        clear hW hBW c0 c1 hd
        refine wp_region_later _ (by kernel_rfl) (by kernel_rfl) ?_
        repeat (go_big_quiet_step (fail))
        go_big_quiet_step ((go_at_call 66; exact Later.same (hF.out _)))
        repeat (go_big_quiet_step (fail))
        go_big_quiet_step ((go_at_call 66; exact Later.same (hT.out _)))
        repeat (go_big_quiet_step (fail))
        refine wpQuiet_nil ?_
        intro zz
        have hzz := zz.prop
        generalize zz.val = w5 at hzz
        clear D0 D1
        have hB := stepB hB hzz hB.size
        go_wp2
        go_roundw
        case rel => exact ⟨1, by omega, rfl, hB⟩
        case measure => simp [intOf]; omega
      · obtain ⟨j, hkj⟩ : ∃ j, k = j + 1 := ⟨k - 1, by omega⟩
        have hj : j < xs.length := by omega
        have hn := List.getElem?_eq_getElem hj
        generalize xs[j] = q at hn
        have hap := hs.2 j q m hn (hkj ▸ hm)
        obtain ⟨g1, g2, g3⟩ := hs.1 q (List.mem_of_getElem? hn)
        obtain ⟨b, off, rfl, hb, c0, c1⟩ := (hx.below hB).sp hm
        obtain ⟨b', off', e', _, _, e1⟩ := (hx.below hB).sp hn
        obtain ⟨rfl, rfl⟩ : b = b' ∧ off = off' := by simpa using e'
        have v1 : IntKind.i64.wrap ((k : Int) - 1) = j := (i64_in _ (by omega)).trans (by omega)
        have v2 := i64_in (q.to + 2) (by omega)
        have q2 : decide (m.fr < q.to + 2) = false := by simp; omega
        have q3 : (0 : Int) < (k : Int) := by omega
        have q4 : (j : Int) < (xs.length : Int) := by omega
        clear hkj
        clear hm hn e'
        go_upto_region 4 with (fail)
        generalize hW : wr.alloc (.cells #[.int .i64 m.fr, .int .i64 m.to] 112) = W
        have hBW : Below wr.heap.size wr W := by rw [← hW]; go_grown
        have D0 : W.cell? ⟨wr.heap.size, 0, none⟩ = some (.int .i64 m.fr) := by rw [← hW]; exact World.cell?_alloc_at _ _ _ _ rfl
        have D1 : W.cell? ⟨wr.heap.size, 1, none⟩ = some (.int .i64 m.to) := by rw [← hW]; exact World.cell?_alloc_at _ _ _ _ rfl
        have hd : wr.heap.size < W.heap.size := by rw [← hW]; simp
        have hB := stepB hB hBW hB.size
        have D0 := Later.cell D0 hd
        have D1 := Later.cell D1 hd
        have D2 := Later.cell ((hBW.cell (p := ⟨b, off + j * 2 + 1, none⟩) hb).trans e1) (Nat.lt_of_lt_of_le hb hBW.size)
        clear hW hBW c0 c1 e1 hd
        refine wp_region_later _ (by kernel_rfl) (by kernel_rfl) ?_
        repeat (go_big_quiet_step (fail))
        go_big_quiet_step ((go_at_call 66; exact Later.same (hF.out _)))
        repeat (go_big_quiet_step (fail))
        go_big_quiet_step ((go_at_call 66; exact Later.same (hT.out _)))
        repeat (go_big_quiet_step (fail))
        refine wpQuiet_nil ?_
        intro zz
        have hzz := zz.prop
        generalize zz.val = w5 at hzz
        clear D0 D1 D2
        have hB := stepB hB hzz hB.size
        go_wp2
        go_roundw
        case rel => exact ⟨k + 1, by omega, by go_num, hB⟩
        case measure => simp [intOf]; omega
    · have hlt' : decide ((k : Int) < (xs.length : Int)) = false := by simp; omega
      have h300 : (xs.length : Int) ≤ 300 := by omega
      go_wp2
      go_ret
      exact ⟨rfl, hB⟩
theorem hasDayC_any (a : Option Addr) (cap : Nat) (xs : List Sp) (z : Int) (w : World) (hl : xs.length ≤ 300) (hx : Rd encSp w a xs) (hs : isSetP xs) (hz : dayB z = true) :
    Calls Tryz.prog 26 #[.slice a xs.length cap, .int .i64 z] w fun e w' => e = .returned (.tuple #[.bool (hasB xs z), .int .i64 0]) ∧ Below w.heap.size w w' := by
  have HD := Lib.hid (fun W => hz ▸ isDay_any z W)
  go_enter Tryz.func26, Tryz.ntmps26
  go_wp2_with fail
  refine (isSet_true a cap xs w hl hx hs).mono ?_
  rintro e w1 ⟨rfl, hB1⟩
  go_wp2_with fail
  refine (HD.out _).mono ?_
  rintro e w2 ⟨rfl, rfl⟩
  go_wp2_with fail
  refine (hasDay_any a cap xs.length xs z _ rfl (by omega) (hx.below hB1)).mono ?_
  rintro e w3 ⟨rfl, hB3⟩
  go_wp2
  go_ret2
  exact ⟨rfl, stepB hB1 hB3 hB1.size⟩
































end

section
theorem hs_cons {a : Sp} {as' : List Sp} {d : Int} : Hs (a :: as') d ↔ (a.fr ≤ d ∧ d ≤ a.to) ∨ Hs as' d := by
  rw [show a :: as' = [a] ++ as' from rfl, Hs_append, Hs_one]
theorem hs_nil {d : Int} : ¬ Hs [] d := fun ⟨s, hs, _⟩ => by cases hs
theorem hs_if {c : Prop} [Decidable c] {s : Sp} {d : Int} : Hs (if c then [s] else []) d ↔ c ∧ s.fr ≤ d ∧ d ≤ s.to := by
  by_cases h : c
  · rw [if_pos h, Hs_one]; exact ⟨fun g => ⟨h, g⟩, fun g => g.2⟩
  · rw [if_neg h]; exact ⟨fun g => absurd g hs_nil, fun g => absurd g.1 h⟩
theorem sep_low {a : Sp} {as' : List Sp} (h : Sep (a :: as')) {d : Int} (hd : Hs as' d) : a.to + 1 < d := by
  obtain ⟨s, hs, h1, _⟩ := hd
  have := (List.pairwise_cons.1 h).1 s hs
  omega
theorem met_has : ∀ {xs ys : List Sp}, Sep xs → Sep ys → ∀ d, Hs (met xs ys) d ↔ Hs xs d ∧ Hs ys d
  | [], ys, _, _, d => by
    rw [met_end (.inl rfl)]
    exact ⟨fun h => absurd h hs_nil, fun h => h.1⟩
  | x :: xs, [], _, _, d => by
    rw [met_end (.inr rfl)]
    exact ⟨fun h => absurd h hs_nil, fun h => h.2⟩
  | a :: as', b :: bs, ha, hb, d => by
    rw [met_cons, Hs_append, hs_if]
    have la := fun (g : Hs as' d) => sep_low ha g
    have lb := fun (g : Hs bs d) => sep_low hb g
    by_cases hc : a.to < b.to
    · rw [if_pos hc, met_has (List.pairwise_cons.1 ha).2 hb d, hs_cons, hs_cons]
      simp only
      constructor
      · rintro (⟨_, h1, h2⟩ | ⟨h1, h2⟩)
        · exact ⟨.inl (by omega), .inl (by omega)⟩
        · exact ⟨.inr h1, h2⟩
      · rintro ⟨h1 | h1, h2⟩
        · rcases h2 with h2 | h2
          · exact .inl (by omega)
          · have := lb h2; omega
        · exact .inr ⟨h1, h2⟩
    · rw [if_neg hc, met_has ha (List.pairwise_cons.1 hb).2 d, hs_cons, hs_cons]
      simp only
      constructor
      · rintro (⟨_, h1, h2⟩ | ⟨h1, h2⟩)
        · exact ⟨.inl (by omega), .inl (by omega)⟩
        · exact ⟨h1, .inr h2⟩
      · rintro ⟨h1, h2 | h2⟩
        · rcases h1 with h1 | h1
          · exact .inl (by omega)
          · have := la h1; omega
        · exact .inr ⟨h1, h2⟩
termination_by xs ys => xs.length + ys.length
theorem met_low : ∀ {xs ys : List Sp}, ∀ x ∈ met xs ys, (∃ s ∈ xs, s.fr ≤ x.fr) ∧ ∃ t ∈ ys, t.fr ≤ x.fr
  | [], ys, x, hx => by rw [met_end (.inl rfl)] at hx; cases hx
  | y :: ys, [], x, hx => by rw [met_end (.inr rfl)] at hx; cases hx
  | a :: as', b :: bs, x, hx => by
    rw [met_cons] at hx
    rcases List.mem_append.1 hx with hx | hx
    · split at hx
      · obtain rfl := List.mem_singleton.1 hx
        exact ⟨⟨a, by simp, by simp only; omega⟩, ⟨b, by simp, by simp only; omega⟩⟩
      · cases hx
    · split at hx
      · obtain ⟨⟨s, hs, h1⟩, h2⟩ := met_low x hx
        exact ⟨⟨s, by simp [hs], h1⟩, h2⟩
      · obtain ⟨h1, ⟨t, ht, h2⟩⟩ := met_low x hx
        exact ⟨h1, ⟨t, by simp [ht], h2⟩⟩
termination_by xs ys => xs.length + ys.length
theorem met_span : ∀ {xs ys : List Sp}, ∀ x ∈ met xs ys, x.fr ≤ x.to
  | [], ys, x, hx => by rw [met_end (.inl rfl)] at hx; cases hx
  | y :: ys, [], x, hx => by rw [met_end (.inr rfl)] at hx; cases hx
  | a :: as', b :: bs, x, hx => by
    rw [met_cons] at hx
    rcases List.mem_append.1 hx with hx | hx
    · split at hx
      · obtain rfl := List.mem_singleton.1 hx
        assumption
      · cases hx
    · split at hx
      · exact met_span x hx
      · exact met_span x hx
termination_by xs ys => xs.length + ys.length
theorem met_sep : ∀ {xs ys : List Sp}, Sep xs → Sep ys → Sep (met xs ys)
  | [], ys, _, _ => by rw [met_end (.inl rfl)]; exact List.Pairwise.nil
  | x :: xs, [], _, _ => by rw [met_end (.inr rfl)]; exact List.Pairwise.nil
  | a :: as', b :: bs, ha, hb => by
    rw [met_cons]
    unfold Sep
    rw [List.pairwise_append]
    have hr : Sep (if a.to < b.to then met as' (b :: bs) else met (a :: as') bs) := by
      split
      · exact met_sep (List.pairwise_cons.1 ha).2 hb
      · exact met_sep ha (List.pairwise_cons.1 hb).2
    refine ⟨by split <;> simp, hr, fun x hx y hy => ?_⟩
    split at hx
    · obtain rfl := List.mem_singleton.1 hx
      simp only
      split at hy
      · obtain ⟨⟨s, hs, h1⟩, _⟩ := met_low y hy
        have := (List.pairwise_cons.1 ha).1 s hs
        omega
      · obtain ⟨_, ⟨t, ht, h1⟩⟩ := met_low y hy
        have := (List.pairwise_cons.1 hb).1 t ht
        omega
    · cases hx
termination_by xs ys => xs.length + ys.length
theorem isSetP_of {xs : List Sp} (h : ∀ x ∈ xs, OkSp 0 730499 x) (hs : Sep xs) : isSetP xs := by
  refine ⟨fun s hx => ⟨(h s hx).1, (h s hx).2.1, (h s hx).2.2⟩, fun i a b hia hib => ?_⟩
  obtain ⟨l1, rfl⟩ := List.getElem?_eq_some_iff.1 hia
  obtain ⟨l2, rfl⟩ := List.getElem?_eq_some_iff.1 hib
  have := List.pairwise_iff_getElem.1 hs i (i + 1) l1 l2 (by omega)
  omega
end
end Go.Proofs.YtipdcgfdejmjfaaGreatDoor
