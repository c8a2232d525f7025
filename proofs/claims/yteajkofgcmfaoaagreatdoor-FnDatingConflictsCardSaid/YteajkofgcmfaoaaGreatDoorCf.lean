/- What the law of conflicts wants: a conflict has no day, and less of it has one; plain. -/
import Derived.Test.YteajkofgcmfaoaaGreatDoorMk
import Derived.Test.YteajkofgcmfaoaaGreatDoorShelf
import Derived.Maps.RangeWalk
import Derived.Lib.LazyBuf
import Derived.Carry
import Derived.Test.YteajkofgcmfaoaaGreatDoorCt
namespace Go.Proofs.YteajkofgcmfaoaaGreatDoor
section
def lexB : List Int → List Int → Bool
  | x :: xs, y :: ys => if x = y then lexB xs ys else decide (x < y)
  | _, _ => false
/-- Shorter, or as long and lexicographically smaller. -/
def betB (a b : List Int) : Bool := if a.length = b.length then lexB a b else decide (a.length < b.length)
/-- The places of the ones of a number. -/
def memL (s : Nat) : List Int := onesGo s 0 (Lib.bitLen s)
def hitB (ms : List Nat) (s : Nat) : Bool := ms.all fun m => decide (m &&& s ≠ 0)
def stepC (hits : Nat → Bool) (s : Nat) (b : Option (List Int)) : Option (List Int) :=
  if hits s = true then match b with
    | none => some (memL s)
    | some l => if betB (memL s) l = true then some (memL s) else some l
  else b
def bestC (hits : Nat → Bool) : Nat → Nat → Option (List Int) → Option (List Int)
  | _, 0, b => b
  | s, k + 1, b => bestC hits (s + 1) k (stepC hits s b)
/-- The sets of clauses that fail on the days from f on. -/
def mskD (rs : List Rg) (cs : List Cl) : Int → Nat → List Nat
  | _, 0 => []
  | f, k + 1 => maskB (failL rs cs f) :: mskD rs cs (f + 1) k
def confO (rs : List Rg) (f t : Int) (cs : List Cl) : Option (List Int) := bestC (hitB (mskD rs cs f (t - f + 1).toNat)) 0 (2 ^ cs.length) none
def confR (rs : List Rg) (f t : Int) (cs : List Cl) : List Int × Int :=
  if datedB rs f t cs = true then match confO rs f t cs with
    | some l => (l, 0)
    | none => ([], 4)
  else ([], 1)
theorem mskD_snoc {rs : List Rg} {cs : List Cl} : ∀ (k : Nat) (f : Int), mskD rs cs f (k + 1) = mskD rs cs f k ++ [maskB (failL rs cs (f + k))]
  | 0, f => by simp [mskD]
  | k + 1, f => by
    have h := mskD_snoc (rs := rs) (cs := cs) k (f + 1)
    rw [mskD, h]
    simp only [mskD, List.cons_append]
    rw [show f + 1 + (k : Int) = f + ((k + 1 : Nat) : Int) by omega]
theorem memL_len (s : Nat) (h : s < 256) : (memL s).length ≤ 8 := by
  have h1 := onesGo_len s (Lib.bitLen s) 0
  have h2 := Lib.bitLen_le s 8 (by decide) (by omega)
  exact Nat.le_trans h1 h2
theorem bestC_len {hits : Nat → Bool} : ∀ (k : Nat) {s : Nat} {b : Option (List Int)}, s + k ≤ 256 → (∀ l, b = some l → l.length ≤ 8) → ∀ l, bestC hits s k b = some l → l.length ≤ 8
  | 0, _, _, _, hb, l, h => hb l h
  | k + 1, s, b, hs, hb, l, h => by
    refine bestC_len k (s := s + 1) (b := stepC hits s b) (by omega) ?_ l h
    intro l' hl'
    have hm := memL_len s (by omega)
    unfold stepC at hl'
    split at hl'
    · cases b with
      | none => simp only [Option.some.injEq] at hl'; subst hl'; exact hm
      | some l0 =>
        simp only at hl'
        split at hl'
        · simp only [Option.some.injEq] at hl'; subst hl'; exact hm
        · simp only [Option.some.injEq] at hl'; subst hl'; exact hb l0 rfl
    · exact hb l' hl'
theorem confR_len (rs : List Rg) (f t : Int) (cs : List Cl) : (confR rs f t cs).1.length ≤ 1048576 := by
  unfold confR
  split
  · rename_i hd
    have h8 := (dated_facts hd).2.2.1
    cases h : confO rs f t cs with
    | none => simp
    | some l =>
      have := bestC_len (2 ^ cs.length) (s := 0) (b := none) (by have := (Nat.pow_le_pow_right (by decide) h8 : 2 ^ cs.length ≤ 2 ^ 8); omega) (fun l h => by cases h) l h
      simp; omega
  · simp
/-- A place is below the length of a number if what lies there and above is not nothing. -/
theorem bit_more (m k : Nat) (h : m < 256) : (0 < m / 2 ^ k) ↔ k < Lib.bitLen m := by
  have h1 := lt_bitLen m (by omega)
  constructor
  · intro h0
    rcases Nat.lt_or_ge k (Lib.bitLen m) with h2 | h2
    · exact h2
    · have : m < 2 ^ k := Nat.lt_of_lt_of_le h1 (Nat.pow_le_pow_right (by decide) h2)
      rw [Nat.div_eq_of_lt this] at h0
      cases h0
  · intro hk
    have hm : m ≠ 0 := by rintro rfl; simp [Lib.bitLen, Lib.bitLenAux] at hk
    have h2 := (Lib.bitLenAux_bounds 64 m (by omega) hm).2.1
    have h3 : 2 ^ k ≤ m := Nat.le_trans (Nat.pow_le_pow_right (by decide) (by unfold Lib.bitLen at hk; omega)) h2
    exact Nat.div_pos h3 (Nat.two_pow_pos _)
theorem and_i64 (m s : Nat) (hm : m < 256) (hs : s < 256) : bits .and .i64 (m : Int) (s : Int) = ((m &&& s : Nat) : Int) :=
  (bits_nat .i64 62 (by decide) (fun n h0 h1 => by rw [IntKind.wrap_i64]; omega) m s (by omega) (by omega)).1
theorem and_u64 (m s : Nat) (hm : m < 256) (hs : s < 256) : bits .and .u64 (m : Int) (s : Int) = ((m &&& s : Nat) : Int) :=
  (bits_nat .u64 63 (by decide) (fun n h0 h1 => by simp [IntKind.wrap, IntKind.bits, IntKind.signed]; omega) m s (by omega) (by omega)).1
theorem or_i64 (m k : Nat) (h : m < 2 ^ k) (hk : k < 62) : bits .or .i64 (m : Int) (IntKind.i64.wrap (2 ^ k)) = ((m + 2 ^ k : Nat) : Int) := by
  have hp : 2 ^ k < 2 ^ 62 := Nat.pow_lt_pow_right (by decide) hk
  have e : (2 : Int) ^ k = ((2 ^ k : Nat) : Int) := by simp
  have e2 : IntKind.i64.wrap ((2 ^ k : Nat) : Int) = ((2 ^ k : Nat) : Int) := by
    generalize 2 ^ k = p at hp
    rw [IntKind.wrap_i64]; omega
  rw [e, e2]
  have e3 := (bits_nat .i64 62 (by decide) (fun n h0 h1 => by rw [IntKind.wrap_i64]; omega) m (2 ^ k) (Nat.lt_trans h hp) hp).2
  rw [e3]
  have := Nat.two_pow_add_eq_or_of_lt h 1
  rw [Nat.mul_one] at this
  rw [Nat.or_comm, ← this, Nat.add_comm]
end

section
open Go.ChangeShapes Go.WideShapes Go.ChangeAt Go.RowKit Go.IntWalk

set_option maxRecDepth 100000 in
set_option maxHeartbeats 1000000 in
theorem l12Members_any (m : Nat) (w : World) (hm : m < 256) :
    Calls Tryz.prog 133 #[.int .i64 (m : Nat)] w fun e w' => ∃ g c, e = .returned (.slice (some ⟨g, 0, none⟩) (memL m).length c) ∧ w'.ownsRow w.heap.size 2 1 (.slice (some ⟨g, 0, none⟩) (memL m).length c) (memL m).length ((memL m).flatMap encI) ∧ Below w.heap.size w w' := by
  obtain ⟨i0, hi, hz0, hz1, hz2⟩ := info_parts infoI
  have hBs := (Below.refl _ w).alloc (Nat.le_refl _) (.cells #[] 2)
  have howns := World.ownsRow_made w #[] 0 (Nat.le_refl _) (by decide) rfl (e := 2) (size := 1)
  have hL := Lib.bitLen_le m 8 (by decide) (by omega)
  have hmore := Lib.hid (fun k => bit_more m k hm)
  unfold memL
  generalize hN : Lib.bitLen m = N at hL hmore ⊢
  go_enter Tryz.func133, Tryz.ntmps133
  go_wp2
  go_loopw [3, 4] (fun s i wr => ∃ (k g c : Nat) (out : List Int), k ≤ N ∧ i = .int .i64 k ∧ s = .slice (some ⟨g, 0, none⟩) out.length c ∧ wr.ownsRow w.heap.size 2 1 (.slice (some ⟨g, 0, none⟩) out.length c) out.length (out.flatMap encI) ∧ Below w.heap.size w wr ∧ Hid (out = onesGo m 0 k)) (fun _ i _ => N - (intOf i).toNat)
  case atStart => exact ⟨0, _, _, [], Nat.zero_le _, rfl, rfl, howns, hBs, rfl⟩
  case round =>
    clear howns hBs
    obtain ⟨k, g, c, out, hk, rfl, rfl, hown, hB, hM⟩ := hrel
    have hlen := onesGo_len m k 0
    rw [← hM.out] at hlen
    have vk := u64_in (k : Int) (by omega)
    have e2 : ((m : Int) / 2 ^ k) = ((m / 2 ^ k : Nat) : Int) := by simp
    by_cases hlt : k < N
    · have hlt' : (0 : Int) < (m : Int) / 2 ^ k := by rw [e2]; have := (hmore.out k).2 hlt; omega
      have hst := onesGo_snoc m k 0
      rw [← hM.out, Nat.zero_add] at hst
      have hb2 : ((m / 2 ^ k : Nat) : Int).tmod 2 = ((m / 2 ^ k % 2 : Nat) : Int) := by rw [Int.tmod_eq_emod_of_nonneg (by omega)]; simp
      clear e2
      by_cases h1 : m / 2 ^ k % 2 = 1
      · rw [if_pos h1] at hst
        have q1 : (m : Int) / 2 ^ k % 2 = 1 := by have : ((m : Int) / 2 ^ k) = ((m / 2 ^ k : Nat) : Int) := by simp
                                                  rw [this]; omega
        have hst := Lib.hid hst
        clear h1 hb2
        go_wp2_with (at_builtin; refine wpList_append_own _ rfl _ _ 46 rfl w.heap.size 2 i0 (.int .i64 0) 1 8 Tryz.underlying46 hi hz0 hz1 hz2 rfl (by decide) _ _ _ rfl (hown.alloc _) ⟨wr.heap.size, 0, none⟩ 1 1 [.int .i64 k] rfl rfl (cell_one_new _ _ _) ?c2 ?c3 ?c4 ?c5 ?_)
        case c2 => intro u hu; simp at hu; subst hu; rfl
        case c3 => unfold maxLen; omega
        case c4 => omega
        case c5 => have := hB.size; simp; omega
        intro v' w4 hown' hgr _
        have hB' := (hB.alloc hB.size (.cells #[.int .i64 k] 2)).grown hgr (Nat.le_trans hB.size (by simp)) (fun x hx => (hown.lt x hx).1)
        obtain ⟨g', c', rfl⟩ := formJ hown' (by omega)
        clear hgr hown hB hM
        go_wp2
        go_roundw
        case rel => exact ⟨k + 1, g', c', out ++ [(k : Int)], by omega, by go_num, by rw [List.length_append]; rfl, by rw [List.length_append, List.flatMap_append]; exact hown', hB', hst.out.symm⟩
        case measure => simp [intOf]; omega
      · rw [if_neg h1, List.append_nil] at hst
        have q1 : (m : Int) / 2 ^ k % 2 = 0 := by have : ((m : Int) / 2 ^ k) = ((m / 2 ^ k : Nat) : Int) := by simp
                                                  rw [this]; omega
        have hst := Lib.hid hst
        clear h1 hb2 hM
        go_wp2
        go_roundw
        case rel => exact ⟨k + 1, g, c, out, by omega, by go_num, rfl, hown, hB, hst.out.symm⟩
        case measure => simp [intOf]; omega
    · have hlt' : decide ((0 : Int) < (m : Int) / 2 ^ k) = false := by
        rw [e2]; simp
        have : ¬ 0 < m / 2 ^ k := fun h => hlt ((hmore.out k).1 h)
        omega
      obtain rfl : k = N := by omega
      have hM := hM.out
      subst hM
      clear e2
      go_wp2
      go_ret
      exact ⟨g, c, rfl, hown, hB⟩
def hasI (xs : List Int) (x : Int) : Bool := xs.any fun y => y == x
set_option maxHeartbeats 1000000 in
theorem l01Has_any (a : Option Addr) (cap : Nat) (xs : List Int) (x : Int) (w : World) (hl : xs.length ≤ 1048576) (hx : Rd encI w a xs) :
    Calls Tryz.prog 136 #[.slice a xs.length cap, .int .i64 x] w fun e w' => e = .returned (.bool (hasI xs x)) ∧ Below w.heap.size w w' := by
  have hB0 := Below.refl w.heap.size w
  have hV : Hid (hasI xs x = hasI (xs.drop 0) x) := rfl
  generalize hasI xs x = V at hV ⊢
  go_enter Tryz.func136, Tryz.ntmps136
  go_wp2
  go_loopw [5] (fun i wr => ∃ (k : Nat), k ≤ xs.length ∧ i = .int .i64 k ∧ Below w.heap.size w wr ∧ Hid (V = hasI (xs.drop k) x)) (fun i _ => xs.length - (intOf i).toNat)
  case atStart => exact ⟨0, Nat.zero_le _, rfl, hB0, hV⟩
  case round =>
    clear hB0 hV
    obtain ⟨k, hk, rfl, hB, hq⟩ := hrel
    by_cases hlt : k < xs.length
    · have hk1 : (k : Int) < (xs.length : Int) := by omega
      have hm := List.getElem?_eq_getElem hlt
      have hd : Hid (V = (xs[k] == x || hasI (xs.drop (k + 1)) x)) := by unfold Hid; rw [hq.out, List.drop_eq_getElem_cons hlt]; rfl
      generalize xs[k] = m at hm hd
      obtain ⟨b, off, rfl, hb, c0⟩ := (hx.below hB).i hm
      clear hm
      cases hg : (m == x)
      · have hd := Lib.hid (hd.out.trans (by rw [hg]; rfl : _ = hasI (xs.drop (k + 1)) x))
        go_wp2
        go_roundw
        case rel => exact ⟨k + 1, by omega, by go_num, hB, hd⟩
        case measure => simp [intOf]; omega
      · have hd := Lib.hid (hd.out.trans (by rw [hg]; rfl : _ = true))
        go_wp2
        go_ret
        exact ⟨ret_bool hd.out.symm, hB⟩
    · have hk' : decide ((k : Int) < (xs.length : Int)) = false := by simp; omega
      have hd : Hid (V = false) := by unfold Hid; rw [hq.out, List.drop_eq_nil_of_le (by omega)]; rfl
      go_wp2
      go_ret
      exact ⟨ret_bool hd.out.symm, hB⟩
set_option maxRecDepth 100000 in
set_option maxHeartbeats 1000000 in
theorem l12Better_any (a b : Option Addr) (ca cb : Nat) (xs ys : List Int) (w : World) (hl : xs.length ≤ 1048576) (hx : Rd encI w a xs) (hy : Rd encI w b ys) :
    Calls Tryz.prog 134 #[.slice a xs.length ca, .slice b ys.length cb] w fun e w' => e = .returned (.bool (betB xs ys)) ∧ Below w.heap.size w w' := by
  by_cases he : xs.length = ys.length
  · have hB0 := Below.refl w.heap.size w
    have hV : Hid (betB xs ys = lexB (xs.drop 0) (ys.drop 0)) := by unfold Hid betB; rw [if_pos he]; rfl
    have hne : (((xs.length : Nat) : Int) != (ys.length : Nat)) = false := by simp [he]
    generalize betB xs ys = V at hV ⊢
    go_enter Tryz.func134, Tryz.ntmps134
    have HE := Lib.hid he
    clear he
    go_wp2
    go_loopw [5] (fun i wr => ∃ (k : Nat), k ≤ xs.length ∧ i = .int .i64 k ∧ Below w.heap.size w wr ∧ Hid (V = lexB (xs.drop k) (ys.drop k))) (fun i _ => xs.length - (intOf i).toNat)
    case atStart => exact ⟨0, Nat.zero_le _, rfl, hB0, hV⟩
    case round =>
      clear hB0 hV
      obtain ⟨k, hk, rfl, hB, hq⟩ := hrel
      by_cases hlt : k < xs.length
      · have hk1 : (k : Int) < (xs.length : Int) := by omega
        have hlt2 : k < ys.length := by have := HE.out; omega
        have hk2 : (k : Int) < (ys.length : Int) := by omega
        have hm := List.getElem?_eq_getElem hlt
        have hn := List.getElem?_eq_getElem hlt2
        have hd : Hid (V = if xs[k] = ys[k] then lexB (xs.drop (k + 1)) (ys.drop (k + 1)) else decide (xs[k] < ys[k])) := by unfold Hid; rw [hq.out, List.drop_eq_getElem_cons hlt, List.drop_eq_getElem_cons hlt2]; rfl
        generalize xs[k] = m at hm hd
        generalize ys[k] = r at hn hd
        obtain ⟨b', off', rfl, hb', d0⟩ := (hy.below hB).i hn
        obtain ⟨b, off, rfl, hb, c0⟩ := (hx.below hB).i hm
        have C0 := Later.cell c0 hb
        have D0 := Later.cell d0 hb'
        by_cases hg : m = r
        · have hd := Lib.hid (hd.out.trans (if_pos hg))
          have hg' : (m != r) = false := by simpa using hg
          clear hm hn c0 d0 hg
          go_wp2_with fail
          refine wp_region_later wr (by kernel_rfl) (by kernel_rfl) ?_
          repeat (go_big_quiet_step (fail))
          refine wpQuiet_nil ?_
          intro z
          have hz := z.prop
          generalize z.val = w2 at hz
          clear C0 D0
          go_wp2
          go_roundw
          case rel => exact ⟨k + 1, by omega, by go_num, stepB hB hz hB.size, hd⟩
          case measure => simp [intOf]; omega
        · have hd := Lib.hid (hd.out.trans (if_neg hg))
          have hg' : (m != r) = true := by simpa using hg
          clear hm hn c0 d0 hg
          go_wp2_with fail
          refine wp_region_later wr (by kernel_rfl) (by kernel_rfl) ?_
          repeat (go_big_quiet_step (fail))
          refine wpQuiet_nil ?_
          intro z
          have hz := z.prop
          generalize hzw : z.val = w2 at hz
          have e0 := C0 z
          have e1 := D0 z
          rw [hzw] at e0 e1
          clear C0 D0 hzw
          have hB := stepB hB hz hB.size
          have hb := Nat.lt_of_lt_of_le hb hz.size
          have hb' := Nat.lt_of_lt_of_le hb' hz.size
          have C0 := Later.cell e0 hb
          have D0 := Later.cell e1 hb'
          go_wp2_with fail
          refine wp_region_later w2 (by kernel_rfl) (by kernel_rfl) ?_
          repeat (go_big_quiet_step (fail))
          refine wpQuiet_nil ?_
          intro z
          have hz := z.prop
          generalize z.val = w3 at hz
          clear C0 D0
          go_wp2
          go_ret
          exact ⟨ret_bool hd.out.symm, stepB hB hz hB.size⟩
      · have hk' : decide ((k : Int) < (xs.length : Int)) = false := by simp; omega
        have hd : Hid (V = false) := by unfold Hid; rw [hq.out, List.drop_eq_nil_of_le (by omega)]; rfl
        go_wp2
        go_ret
        exact ⟨ret_bool hd.out.symm, hB⟩
  · have hV : Hid (betB xs ys = decide (xs.length < ys.length)) := by unfold Hid betB; rw [if_neg he]
    have hne : (((xs.length : Nat) : Int) != (ys.length : Nat)) = true := by simp; omega
    generalize betB xs ys = V at hV ⊢
    clear he
    go_enter Tryz.func134, Tryz.ntmps134
    go_wp2
    go_ret
    exact ⟨ret_bool hV.out.symm, Below.refl _ _⟩
end

section
open Go.ChangeShapes Go.WideShapes Go.ChangeAt Go.RowKit Go.IntWalk

def natI (ms : List Nat) : List Int := ms.map fun (m : Nat) => (m : Int)
theorem natI_len (ms : List Nat) : (natI ms).length = ms.length := by simp [natI]
theorem natI_has {ms : List Nat} {m : Nat} : hasI (natI ms) m = true ↔ m ∈ ms := by
  unfold hasI natI
  rw [List.any_map, List.any_eq_true]
  constructor
  · rintro ⟨x, hx, h⟩
    have h : (x : Int) = m := by simpa using h
    have : x = m := by omega
    exact this ▸ hx
  · intro h
    exact ⟨m, h, by simp⟩
theorem hitB_snoc (ms : List Nat) (m s : Nat) : hitB (ms ++ [m]) s = (hitB ms s && decide (m &&& s ≠ 0)) := by simp [hitB]
theorem hitB_mem {ms : List Nat} {m s : Nat} (h : m ∈ ms) : (hitB ms s && decide (m &&& s ≠ 0)) = hitB ms s := by
  cases hb : hitB ms s
  · rfl
  · unfold hitB at hb
    rw [List.all_eq_true] at hb
    simpa using hb m h
theorem hitB_take {ms : List Nat} {k m s : Nat} (h : ms[k]? = some m) : hitB (ms.take (k + 1)) s = (hitB (ms.take k) s && decide (m &&& s ≠ 0)) := by
  obtain ⟨hk, rfl⟩ := List.getElem?_eq_some_iff.1 h
  rw [List.take_succ_eq_append_getElem hk, hitB_snoc]
theorem hitB_no {ms : List Nat} {k s : Nat} (h : hitB (ms.take k) s = false) : hitB ms s = false := by
  cases hb : hitB ms s
  · rfl
  · unfold hitB at hb h
    rw [List.all_eq_true] at hb
    rw [← h, List.all_eq_true.2 (fun m hm => hb m (List.mem_of_mem_take hm))]

set_option maxRecDepth 100000 in
set_option maxHeartbeats 4000000 in
theorem l12Masks_any (a0 a1 : Option Addr) (cap0 cap1 : Nat) (rs : List Rg) (f t : Int) (cs : List Cl) (w : World) (hl0 : rs.length ≤ 1048576) (hx0 : Rd encRg w a0 rs) (hfr : ∀ r ∈ rs, 0 ≤ r.fr) (hl1 : cs.length ≤ 1048576) (hx1 : Rd encCl w a1 cs) (hok : ∀ c ∈ cs, okCl c = true) (hf : 0 ≤ f) (hft : f ≤ t) (ht : t ≤ 730499) (htf : t ≤ f + 20000) (h8 : cs.length ≤ 8) :
    Calls Tryz.prog 74 #[.agg #[.slice a0 rs.length cap0, .int .i64 f, .int .i64 t], .slice a1 cs.length cap1] w fun e w' => ∃ (g c : Nat) (ms : List Nat), e = .returned (.slice (some ⟨g, 0, none⟩) ms.length c) ∧ ms.length ≤ 20001 ∧ (∀ m ∈ ms, m < 256) ∧ (∀ s, hitB ms s = hitB (mskD rs cs f (t - f + 1).toNat) s) ∧ w'.ownsRow w.heap.size 2 1 (.slice (some ⟨g, 0, none⟩) (ms).length c) (ms).length ((natI (ms)).flatMap encI) ∧ Below w.heap.size w w' := by
  have hA := At.start w [.slice a0 rs.length cap0, .int .i64 f, .int .i64 t] 43
  have HH := Lib.hid (fun c y W (h : At w [.slice a0 rs.length cap0, .int .i64 f, .int .i64 t] W) (hc : c ∈ cs) h0 h4 => l11Holds_any a0 cap0 rs c y W (hok c hc) hl0 (hx0.below h.below) hfr h0 h4)
  obtain ⟨i0, hi, hz0, hz1, hz2⟩ := info_parts infoI
  have hA0 := hA.step ((Below.refl _ (w.alloc (.cells #[.slice a0 rs.length cap0, .int .i64 f, .int .i64 t] 43))).alloc (Nat.le_refl _) (.cells #[] 2))
  have howns := World.ownsRow_made (w.alloc (.cells #[.slice a0 rs.length cap0, .int .i64 f, .int .i64 t] 43)) #[] 0 (base := w.heap.size + 1) (by simp) (by decide) rfl (e := 2) (size := 1)
  have c1 := hA.cell 1 _ rfl
  obtain ⟨K, hK⟩ : ∃ K, (t - f + 1).toNat = K := ⟨_, rfl⟩
  rw [hK]
  have hKt : f + (K : Int) = t + 1 := by omega
  clear hK
  go_enter Tryz.func74, Tryz.ntmps74
  go_wp2
  go_loopw [5, 6] (fun s i wr => ∃ (g c j : Nat) (ms : List Nat) (y : Int), f ≤ y ∧ Hid (y = f + j) ∧ j ≤ K ∧ i = .int .i64 y ∧ s = .slice (some ⟨g, 0, none⟩) ms.length c ∧ ms.length ≤ j ∧ (∀ m ∈ ms, m < 256) ∧ Hid (∀ s, hitB ms s = hitB (mskD rs cs f j) s) ∧ wr.ownsRow (w.heap.size + 1) 2 1 (.slice (some ⟨g, 0, none⟩) (ms).length c) (ms).length ((natI (ms)).flatMap encI) ∧ At w [.slice a0 rs.length cap0, .int .i64 f, .int .i64 t] wr) (fun _ i _ => (730500 - intOf i).toNat)
  case atStart => exact ⟨_, _, 0, [], f, Int.le_refl _, (by unfold Hid; omega), Nat.zero_le _, rfl, rfl, Nat.le_refl _, (fun m h => by cases h), (fun _ => rfl), by simpa [natI] using howns, hA0⟩
  case round =>
    clear howns hA hA0 c1
    obtain ⟨g, c, j, ms, y, hfy, hy, hj, rfl, rfl, hml, hmb, hM, hown, hA⟩ := hrel
    have c1 := hA.cell 1 _ rfl
    have c2 := hA.cell 2 _ rfl
    by_cases hlt : y ≤ t
    · have v3 := i64_in (y + 1) (by omega)
      have hlenL := failL_len rs cs y
      have hat := Lib.hid (fun k c h => failL_at (rs := rs) (cs := cs) (n := y) (k := k) (c := c) h)
      have hLe : Hid (maskB (failL rs cs y) = maskB ((failL rs cs y).take cs.length)) := by unfold Hid; rw [← hlenL, List.take_length]
      have hsn := mskD_snoc (rs := rs) (cs := cs) j f
      rw [← hy.out] at hsn
      have hjK : j < K := by have := hy.out; omega
      have hMb : maskB (failL rs cs y) < 256 := Nat.lt_of_lt_of_le (maskB_lt _) (by rw [hlenL]; exact (Nat.pow_le_pow_right (by decide) h8 : 2 ^ cs.length ≤ 2 ^ 8))
      generalize failL rs cs y = L at hat hLe hsn hMb hlenL
      have hy0 : 0 ≤ y ∧ y ≤ 730499 := by omega
      go_wp2
      go_loopw [7, 8] (fun s i wr => ∃ (k m : Nat), k ≤ cs.length ∧ i = .int .i64 k ∧ s = .int .i64 (m : Nat) ∧ Hid (m = maskB (L.take k)) ∧ wr.ownsRow (w.heap.size + 1) 2 1 (.slice (some ⟨g, 0, none⟩) (ms).length c) (ms).length ((natI (ms)).flatMap encI) ∧ At w [.slice a0 rs.length cap0, .int .i64 f, .int .i64 t] wr) (fun _ i _ => cs.length - (intOf i).toNat)
      case atStart => exact ⟨0, 0, Nat.zero_le _, rfl, rfl, rfl, hown, hA⟩
      case round =>
        clear hown hA c1 c2
        obtain ⟨k, m, hk, rfl, rfl, hq, hown, hA⟩ := hrel
        by_cases hlk : k < cs.length
        · have hlk' : (k : Int) < (cs.length : Int) := by omega
          have hm := List.getElem?_eq_getElem hlk
          have hmem := List.getElem_mem hlk
          generalize cs[k] = d at hm hmem
          have hst := Lib.hid (mask_take (hat.out k d hm))
          have hmb2 := mask_lt_take L k
          rw [← hq.out] at hmb2
          have hpw := pow_le_128 (k := k) (by omega)
          have hor : Hid (bits .or .i64 (m : Int) (RowKit.wrap64 (2 ^ k)) = ((m + 2 ^ k : Nat) : Int)) := by
            have h := or_i64 m k hmb2 (by omega)
            rw [IntWalk.i64_left] at h
            exact h
          have vk := u64_in (k : Int) (by omega)
          obtain ⟨b, off, rfl, hb, c0, c1, c2, c3, c4, c5, c6, c7⟩ := (hx1.below hA.below).cl hm
          have HHc := Lib.hid (fun W h => HH.out d y W h hmem hy0.1 hy0.2)
          have E0 := Later.cell (hA.cell 0 _ rfl) hA.size
          have G0 := Later.cell c0 hb
          have G1 := Later.cell c1 hb
          have G2 := Later.cell c2 hb
          have G3 := Later.cell c3 hb
          have G4 := Later.cell c4 hb
          have G5 := Later.cell c5 hb
          have G6 := Later.cell c6 hb
          have G7 := Later.cell c7 hb
          clear hm hmem c0 c1 c2 c3 c4 c5 c6 c7
          cases hg : holdB rs d y
          · have HHc := Lib.hid (fun W h => hg ▸ HHc.out W h)
            have hst := Lib.hid (hg ▸ hst.out)
            go_upto_region 9 with (fail)
            refine wp_region_later _ (by kernel_rfl) (by kernel_rfl) ?_
            repeat (go_big_quiet_step (fail))
            go_big_quiet_step ((go_at_call 135; exact Later.call (Nat.le_refl _) (HHc.out _ (hA.step (Later.prop _)))))
            repeat (go_big_quiet_step (fail))
            refine wpQuiet_nil ?_
            intro z
            have hz := z.prop
            generalize z.val = w2 at hz
            clear E0 G0 G1 G2 G3 G4 G5 G6 G7
            have hown := own_below hown hz
            have hA := hA.step hz
            go_wp2
            go_roundw
            case rel => exact ⟨k + 1, m + 2 ^ k, by omega, by go_num, congrArg (Value.int IntKind.i64) hor.out, by unfold Hid; rw [hst.out, ← hq.out]; simp, hown, hA⟩
            case measure => simp [intOf]; omega
          · have HHc := Lib.hid (fun W h => hg ▸ HHc.out W h)
            have hst := Lib.hid (hg ▸ hst.out)
            go_upto_region 9 with (fail)
            refine wp_region_later _ (by kernel_rfl) (by kernel_rfl) ?_
            repeat (go_big_quiet_step (fail))
            go_big_quiet_step ((go_at_call 135; exact Later.call (Nat.le_refl _) (HHc.out _ (hA.step (Later.prop _)))))
            repeat (go_big_quiet_step (fail))
            refine wpQuiet_nil ?_
            intro z
            have hz := z.prop
            generalize z.val = w2 at hz
            clear E0 G0 G1 G2 G3 G4 G5 G6 G7
            have hown := own_below hown hz
            have hA := hA.step hz
            go_wp2
            go_roundw
            case rel => exact ⟨k + 1, m, by omega, by go_num, rfl, by unfold Hid; rw [hst.out, ← hq.out]; simp, hown, hA⟩
            case measure => simp [intOf]; omega
        · have hlk' : decide ((k : Int) < (cs.length : Int)) = false := by simp; omega
          obtain rfl : k = cs.length := by omega
          obtain rfl : m = maskB L := hq.out.trans hLe.out.symm
          have hnl := natI_len ms
          have HHas := Lib.hid (fun W (h : Rd encI W (some ⟨g, 0, none⟩) (natI ms)) => l01Has_any (some ⟨g, 0, none⟩) c (natI ms) (maskB L : Nat) W (by omega) h)
          rw [hnl] at HHas
          have hRd : Rd encI wr (some ⟨g, 0, none⟩) (natI ms) := Rd.of_own encI_len (by decide) hown
          have hsn := Lib.hid hsn
          have hiff := natI_has (ms := ms) (m := maskB L)
          clear hnl hq hLe hat hlenL
          generalize maskB L = M at HHas hsn hiff hMb ⊢
          cases hin : hasI (natI ms) (M : Nat)
          · have HHas := Lib.hid (hin ▸ HHas.out _ hRd)
            have hnew : Hid (∀ s, hitB (ms ++ [M]) s = hitB (mskD rs cs f (j + 1)) s) := fun s => by rw [hsn.out, hitB_snoc, hitB_snoc, hM.out s]
            clear hsn hiff hin hRd
            go_wp2_with fail
            refine HHas.out.mono ?_
            rintro e w2 ⟨rfl, hB2⟩
            have hown := own_below hown hB2
            have hA := hA.step hB2
            clear hB2
            go_wp2_with (at_builtin; refine wpList_append_own _ rfl _ _ 46 rfl (w.heap.size + 1) 2 i0 (.int .i64 0) 1 8 Tryz.underlying46 hi hz0 hz1 hz2 rfl (by decide) _ _ _ rfl (hown.alloc _) ⟨w2.heap.size, 0, none⟩ 1 1 [.int .i64 (M : Nat)] rfl rfl (cell_one_new _ _ _) ?c2 ?c3 ?c4 ?c5 ?_)
            case c2 => intro u hu; simp at hu; subst hu; rfl
            case c3 => unfold maxLen; omega
            case c4 => omega
            case c5 => have := hA.size; simp; omega
            intro v' w4 hown' hgr _
            have hA' := (hA.step ((Below.refl _ w2).alloc (Nat.le_refl _) (.cells #[.int .i64 (M : Nat)] 2))).grown hgr (fun x hx => (hown.lt x hx).1)
            obtain ⟨g', c', rfl⟩ := formJ hown' (by omega)
            clear hgr hown hA
            go_wp2
            go_roundw
            case rel => exact ⟨g', c', j + 1, ms ++ [M], y + 1, by omega, (by have := hy.out; unfold Hid; omega), by omega, rfl, by rw [List.length_append]; rfl, by simp; omega, (fun x hx => by
              rcases List.mem_append.1 hx with hx | hx
              · exact hmb x hx
              · simp at hx; subst hx; exact hMb), hnew, by rw [List.length_append, natI, List.map_append, List.flatMap_append]; exact hown', hA'⟩
            case measure => simp [intOf]; omega
          · have HHas := Lib.hid (hin ▸ HHas.out _ hRd)
            have hmem := hiff.1 hin
            have hnew : Hid (∀ s, hitB ms s = hitB (mskD rs cs f (j + 1)) s) := fun s => by rw [hsn.out, hitB_snoc, ← hM.out s, hitB_mem hmem]
            clear hsn hiff hin hRd hmem
            go_wp2_with fail
            refine HHas.out.mono ?_
            rintro e w2 ⟨rfl, hB2⟩
            go_wp2
            go_roundw
            case rel => exact ⟨g, c, j + 1, ms, y + 1, by omega, (by have := hy.out; unfold Hid; omega), by omega, rfl, rfl, by omega, hmb, hnew, own_below hown hB2, hA.step hB2⟩
            case measure => simp [intOf]; omega
    · have hlt' : decide (y ≤ t) = false := by simpa using hlt
      obtain rfl : j = K := by have := hy.out; omega
      go_wp2
      go_ret
      exact ⟨g, c, ms, rfl, by omega, hmb, hM.out, own_base hown (by omega), hA.below⟩
theorem pow_i64 (n : Nat) (h : n ≤ 8) : IntKind.i64.wrap ((2 : Int) ^ n) = ((2 ^ n : Nat) : Int) := by
  have hp : 2 ^ n ≤ 2 ^ 8 := Nat.pow_le_pow_right (by decide) h
  have e : (2 : Int) ^ n = ((2 ^ n : Nat) : Int) := by simp
  rw [e]
  generalize 2 ^ n = p at hp
  rw [IntKind.wrap_i64]; omega
theorem step_no {hits : Nat → Bool} {s : Nat} {b : Option (List Int)} (h : hits s = false) : stepC hits s b = b := by unfold stepC; rw [h]; rfl
theorem step_new {hits : Nat → Bool} {s : Nat} (h : hits s = true) : stepC hits s none = some (memL s) := by unfold stepC; rw [if_pos h]
theorem step_bet {hits : Nat → Bool} {s : Nat} {l : List Int} (h : hits s = true) (hb : betB (memL s) l = true) : stepC hits s (some l) = some (memL s) := by unfold stepC; rw [if_pos h]; simp [hb]
theorem step_old {hits : Nat → Bool} {s : Nat} {l : List Int} (h : hits s = true) (hb : betB (memL s) l = false) : stepC hits s (some l) = some l := by unfold stepC; rw [if_pos h]; simp [hb]
set_option maxRecDepth 100000 in
set_option maxHeartbeats 4000000 in
theorem l12Conflict_any (a : Option Addr) (cap : Nat) (ms : List Nat) (n : Nat) (w : World) (hl : ms.length ≤ 20001) (hmb : ∀ m ∈ ms, m < 256) (hx : Rd encI w a (natI ms)) (hn : n ≤ 8) :
    Calls Tryz.prog 73 #[.slice a ms.length cap, .int .i64 (n : Nat)] w fun e w' => ∃ (g c : Nat) (l : List Int) (b : Bool), e = .returned (.tuple #[.slice (some ⟨g, 0, none⟩) l.length c, .bool b]) ∧ bestC (hitB ms) 0 (2 ^ n) none = (if b = true then some l else none) ∧ w'.ownsRow w.heap.size 2 1 (.slice (some ⟨g, 0, none⟩) (l).length c) (l).length ((l).flatMap encI) ∧ Below w.heap.size w w' := by
  have hBs := (Below.refl _ w).alloc (Nat.le_refl _) (.cells #[] 2)
  have howns := World.ownsRow_made w #[] 0 (Nat.le_refl _) (by decide) rfl (e := 2) (size := 1)
  have vn := u64_in (n : Int) (by omega)
  have vp := pow_i64 n hn
  have hp : 2 ^ n ≤ 2 ^ 8 := Nat.pow_le_pow_right (by decide) hn
  obtain ⟨R, hRR⟩ : ∃ R, bestC (hitB ms) 0 (2 ^ n) none = R := ⟨_, rfl⟩
  rw [hRR]
  have hR : Hid (bestC (hitB ms) 0 (2 ^ n) (if (false : Bool) = true then some [] else none) = R) := hRR
  clear hRR
  generalize 2 ^ n = N at vp hp hR
  go_enter Tryz.func73, Tryz.ntmps73
  go_wp2
  go_loopw [6, 7, 8] (fun bst fd i wr => ∃ (s k g c : Nat) (l : List Int) (b : Bool), s + k = N ∧ i = .int .i64 (s : Nat) ∧ bst = .slice (some ⟨g, 0, none⟩) l.length c ∧ fd = .bool b ∧ l.length ≤ 8 ∧ wr.ownsRow w.heap.size 2 1 (.slice (some ⟨g, 0, none⟩) (l).length c) (l).length ((l).flatMap encI) ∧ Below w.heap.size w wr ∧ Hid (bestC (hitB ms) s k (if b = true then some l else none) = R)) (fun _ _ i _ => N - (intOf i).toNat)
  case atStart => exact ⟨0, N, _, _, [], false, by omega, rfl, rfl, rfl, by simp, howns, hBs, hR⟩
  case round =>
    clear howns hBs hR
    obtain ⟨s, k, g, c, l, b, hsk, rfl, rfl, rfl, hl8, hown, hB, hR⟩ := hrel
    by_cases hlt : s < N
    · obtain ⟨k, rfl⟩ : ∃ k', k = k' + 1 := ⟨k - 1, by omega⟩
      have hlt' : (s : Int) < (N : Int) := by omega
      have hs256 : s < 256 := by omega
      replace hR : Hid (bestC (hitB ms) (s + 1) k (stepC (hitB ms) s (if b = true then some l else none)) = R) := hR
      go_wp2
      go_loopw [9, 10] (fun hh i wr => ∃ (j : Nat) (h : Bool), j ≤ ms.length ∧ hh = .bool h ∧ i = .int .i64 j ∧ Hid (h = hitB (ms.take j) s) ∧ wr.ownsRow w.heap.size 2 1 (.slice (some ⟨g, 0, none⟩) (l).length c) (l).length ((l).flatMap encI) ∧ Below w.heap.size w wr) (fun _ i _ => ms.length - (intOf i).toNat)
      case atStart => exact ⟨0, true, Nat.zero_le _, rfl, rfl, rfl, hown, hB⟩
      case round =>
        clear hown hB
        obtain ⟨j, h, hj, rfl, rfl, hq, hown, hB⟩ := hrel
        cases h
        · have hno : hitB ms s = false := hitB_no hq.out.symm
          replace hR : Hid (bestC (hitB ms) (s + 1) k (if b = true then some l else none) = R) := by have h := hR.out; rw [step_no hno] at h; exact h
          clear hno hq
          go_wp2_with fail
          refine (l12Members_any s _ hs256).mono ?_
          rintro e w2 ⟨g2, c2, rfl, _, hB2⟩
          have hown := own_below hown hB2
          have hB := stepB hB hB2 hB.size
          clear hB2
          go_wp2
          go_roundw
          case rel => exact ⟨s + 1, k, g, c, l, b, by omega, by go_num, rfl, rfl, hl8, hown, hB, hR⟩
          case measure => simp [intOf]; omega
        · by_cases hjl : j < ms.length
          · have hjl' : (j : Int) < (ms.length : Int) := by omega
            have hm := List.getElem?_eq_getElem hjl
            generalize ms[j] = m at hm
            have hm256 := hmb m (List.mem_of_getElem? hm)
            have hst := hitB_take (s := s) hm
            rw [← hq.out, Bool.true_and] at hst
            have hst := Lib.hid hst
            have hxj : (natI ms)[j]? = some (m : Int) := by simp [natI, hm]
            obtain ⟨b0, off, rfl, hb0, c0⟩ := (hx.below hB).i hxj
            have hand := and_i64 m s hm256 hs256
            clear hm hxj
            by_cases hz : m &&& s = 0
            · have hz' : (((m &&& s : Nat) : Int) != 0) = false := by simp [hz]
              have hst := Lib.hid (hst.out.trans (by simp [hz] : _ = false))
              generalize m &&& s = v at hand hz'
              clear hz
              go_wp2
              go_roundw
              case rel => exact ⟨j + 1, false, by omega, rfl, by go_num, hst.out.symm, hown, hB⟩
              case measure => simp [intOf]; omega
            · have hz' : (((m &&& s : Nat) : Int) != 0) = true := by simp; omega
              have hst := Lib.hid (hst.out.trans (by simp [hz] : _ = true))
              generalize m &&& s = v at hand hz'
              clear hz
              go_wp2
              go_roundw
              case rel => exact ⟨j + 1, true, by omega, rfl, by go_num, hst.out.symm, hown, hB⟩
              case measure => simp [intOf]; omega
          · have hjl' : decide ((j : Int) < (ms.length : Int)) = false := by simp; omega
            obtain rfl : j = ms.length := by omega
            have hyes : hitB ms s = true := by have := hq.out; rw [List.take_length] at this; exact this.symm
            clear hq
            have hml := memL_len s hs256
            cases b
            · replace hR : Hid (bestC (hitB ms) (s + 1) k (stepC (hitB ms) s none) = R) := hR.out
              replace hR : Hid (bestC (hitB ms) (s + 1) k (some (memL s)) = R) := by have h := hR.out; rw [step_new hyes] at h; exact h
              clear hyes
              go_wp2_with fail
              refine (l12Members_any s _ hs256).mono ?_
              rintro e w2 ⟨g2, c2, rfl, hown2, hB2⟩
              have hown2 := own_base hown2 hB.size
              have hB := stepB hB hB2 hB.size
              clear hB2 hown
              go_wp2
              go_roundw
              case rel => exact ⟨s + 1, k, g2, c2, memL s, true, by omega, by go_num, rfl, rfl, hml, hown2, hB, hR⟩
              case measure => simp [intOf]; omega
            · replace hR : Hid (bestC (hitB ms) (s + 1) k (stepC (hitB ms) s (some l)) = R) := hR.out
              cases hbet : betB (memL s) l
              · replace hR : Hid (bestC (hitB ms) (s + 1) k (some l) = R) := by have h := hR.out; rw [step_old hyes hbet] at h; exact h
                clear hyes
                go_wp2_with fail
                refine (l12Members_any s _ hs256).mono ?_
                rintro e w2 ⟨g2, c2, rfl, hown2, hB2⟩
                have hown := own_below hown hB2
                have hB := stepB hB hB2 hB.size
                clear hB2
                have HBet := Lib.hid (fun W h1 h2 => hbet ▸ l12Better_any (some ⟨g2, 0, none⟩) (some ⟨g, 0, none⟩) c2 c (memL s) l W (by omega) h1 h2)
                clear hbet
                go_wp2_with fail
                refine (HBet.out _ (Rd.of_own encI_len (by decide) hown2) (Rd.of_own encI_len (by decide) hown)).mono ?_
                rintro e w3 ⟨rfl, hB3⟩
                have hown := own_below hown hB3
                have hB := stepB hB hB3 hB.size
                clear hB3
                go_wp2
                go_roundw
                case rel => exact ⟨s + 1, k, g, c, l, true, by omega, by go_num, rfl, rfl, hl8, hown, hB, hR⟩
                case measure => simp [intOf]; omega
              · replace hR : Hid (bestC (hitB ms) (s + 1) k (some (memL s)) = R) := by have h := hR.out; rw [step_bet hyes hbet] at h; exact h
                clear hyes
                go_wp2_with fail
                refine (l12Members_any s _ hs256).mono ?_
                rintro e w2 ⟨g2, c2, rfl, hown2, hB2⟩
                have hown2 := own_base hown2 hB.size
                have hown := own_below hown hB2
                have hB := stepB hB hB2 hB.size
                clear hB2
                have HBet := Lib.hid (fun W h1 h2 => hbet ▸ l12Better_any (some ⟨g2, 0, none⟩) (some ⟨g, 0, none⟩) c2 c (memL s) l W (by omega) h1 h2)
                clear hbet
                go_wp2_with fail
                refine (HBet.out _ (Rd.of_own encI_len (by decide) hown2) (Rd.of_own encI_len (by decide) hown)).mono ?_
                rintro e w3 ⟨rfl, hB3⟩
                have hown2 := own_below hown2 hB3
                have hB := stepB hB hB3 hB.size
                clear hB3 hown
                go_wp2
                go_roundw
                case rel => exact ⟨s + 1, k, g2, c2, memL s, true, by omega, by go_num, rfl, rfl, hml, hown2, hB, hR⟩
                case measure => simp [intOf]; omega
    · have hlt' : decide ((s : Int) < (N : Int)) = false := by simp; omega
      have hRe : (if b = true then some l else none) = R := by have := hR.out; rw [show k = 0 by omega] at this; exact this
      go_wp2
      go_ret2
      exact ⟨g, c, l, b, rfl, hRe.symm, hown, hB⟩
set_option maxHeartbeats 1000000 in
theorem specSmall_any (a0 a1 : Option Addr) (cap0 cap1 : Nat) (rs : List Rg) (f t : Int) (cs : List Cl) (w : World) (hl0 : rs.length ≤ 1048576) (hx0 : Rd encRg w a0 rs) (hs0 : ∀ m ∈ rs, m.king.size ≤ 1048576) (hl1 : cs.length ≤ 1048576) (hx1 : Rd encCl w a1 cs) (hs1 : ∀ m ∈ cs, szCl m ≤ 1048576) :
    Calls Tryz.prog 28 #[.agg #[.slice a0 rs.length cap0, .int .i64 f, .int .i64 t], .slice a1 cs.length cap1] w fun e w' => ∃ b c, e = .returned (.tuple #[.slice b (confR rs f t cs).1.length c, .int .i64 (confR rs f t cs).2]) ∧ w'.ownsRow w.heap.size 2 1 (.slice b (confR rs f t cs).1.length c) (confR rs f t cs).1.length ((confR rs f t cs).1.flatMap encI) ∧ Below w.heap.size w w' := by
  have hA := At.start w [.slice a0 rs.length cap0, .int .i64 f, .int .i64 t] 43
  have HV := Lib.hid (fun W (h : At w [.slice a0 rs.length cap0, .int .i64 f, .int .i64 t] W) => l12Valid_any a0 a1 cap0 cap1 rs f t cs W hl0 (hx0.below h.below) hs0 hl1 (hx1.below h.below) hs1)
  have c0 := hA.cell 0 _ rfl
  have c1 := hA.cell 1 _ rfl
  have c2 := hA.cell 2 _ rfl
  cases hd : datedB rs f t cs
  · have hR : Hid (confR rs f t cs = ([], 1)) := by unfold Hid confR; rw [hd]; rfl
    generalize confR rs f t cs = V at hR ⊢
    have HV := Lib.hid (fun W h => hd ▸ HV.out W h)
    go_enter Tryz.func28, Tryz.ntmps28
    go_wp2_with fail
    refine (HV.out _ hA).mono ?_
    rintro e w1 ⟨rfl, hB1⟩
    go_wp2
    go_ret2
    rw [hR.out]
    exact ⟨none, 0, rfl, World.ownsRow_nil _ _ _ _, (hA.step hB1).below⟩
  obtain ⟨hfr, hok, h8, hf0, hft, ht, htf⟩ := dated_facts hd
  have HV := Lib.hid (fun W h => hd ▸ HV.out W h)
  have HF := Lib.hid (fun W (h : At w [.slice a0 rs.length cap0, .int .i64 f, .int .i64 t] W) => l12Masks_any a0 a1 cap0 cap1 rs f t cs W hl0 (hx0.below h.below) hfr hl1 (hx1.below h.below) hok hf0 hft ht htf h8)
  have hR : Hid (confR rs f t cs = match bestC (hitB (mskD rs cs f (t - f + 1).toNat)) 0 (2 ^ cs.length) none with | some l => (l, 0) | none => ([], 4)) := by unfold Hid confR confO; rw [hd]; rfl
  generalize confR rs f t cs = V at hR ⊢
  generalize mskD rs cs f (t - f + 1).toNat = D at HF hR
  clear hd
  go_enter Tryz.func28, Tryz.ntmps28
  go_wp2_with fail
  refine (HV.out _ hA).mono ?_
  rintro e w1 ⟨rfl, hB1⟩
  have hA := hA.step hB1
  clear c0 c1 c2 hB1
  have c0 := hA.cell 0 _ rfl
  have c1 := hA.cell 1 _ rfl
  have c2 := hA.cell 2 _ rfl
  go_wp2_with fail
  refine (HF.out _ hA).mono ?_
  rintro e w2 ⟨g, c, ms, rfl, hml, hmb, hit, hown, hB2⟩
  have hA := hA.step hB2
  clear c0 c1 c2 hB2
  have hit : hitB ms = hitB D := funext hit
  rw [← hit] at hR
  clear hit
  go_wp2_with fail
  refine (l12Conflict_any (some ⟨g, 0, none⟩) c ms cs.length _ hml hmb (Rd.of_own encI_len (by decide) hown) h8).mono ?_
  rintro e w3 ⟨g2, c2, l, b, rfl, hbe, hown2, hB3⟩
  have hown2 := own_base hown2 hA.below.size
  have hA := hA.step hB3
  rw [hbe] at hR
  clear hbe hB3
  cases b
  · have hRR := Lib.hid (hR.out.trans rfl : V = ([], 4))
    go_wp2
    go_ret2
    rw [hRR.out]
    exact ⟨none, 0, rfl, World.ownsRow_nil _ _ _ _, hA.below⟩
  · have hRR := Lib.hid (hR.out.trans rfl : V = (l, 0))
    go_wp2
    go_ret2
    rw [hRR.out]
    exact ⟨_, c2, rfl, hown2, hA.below⟩
end

section
open Go.ChangeShapes Go.WideShapes Go.ChangeAt Go.RowKit Go.IntWalk

def signI (m r : Int) : Int := if m < r then -1 else if r < m then 1 else 0

theorem ret_i64 {a b : Int} (h : a = b) : Ending.returned (.int .i64 a) = Ending.returned (.int .i64 b) := by rw [h]

theorem isNaNI_any (x : Int) (w : World) : Calls Tryz.prog 187 #[.int .i64 x] w fun e w' => e = .returned (.bool false) ∧ w' = w := by
  have h : (x != x) = false := by simp
  go_enter Tryz.func187, Tryz.ntmps187
  go_wp2
  go_ret
  exact ⟨rfl, rfl⟩
theorem cmpI_any (m r : Int) (w : World) :
    Calls Tryz.prog 132 #[.int .i64 m, .int .i64 r] w fun e w' => e = .returned (.int .i64 (signI m r)) ∧ w' = w := by
  have HN := Lib.hid (fun x W => isNaNI_any x W)
  have hV : Hid (signI m r = if m < r then -1 else if r < m then 1 else 0) := rfl
  generalize signI m r = V at hV ⊢
  go_enter Tryz.func132, Tryz.ntmps132
  by_cases h1 : m < r
  · have hV := Lib.hid (hV.out.trans (if_pos h1))
    go_wp2_with (go_at_call 187; refine (HN.out _ _).mono ?_; rintro e w' ⟨rfl, rfl⟩)
    go_ret
    exact ⟨ret_i64 hV.out.symm, rfl⟩
  · have hV := Lib.hid (hV.out.trans (if_neg h1))
    by_cases h2 : r < m
    · have hV := Lib.hid (hV.out.trans (if_pos h2))
      go_wp2_with (go_at_call 187; refine (HN.out _ _).mono ?_; rintro e w' ⟨rfl, rfl⟩)
      go_ret
      exact ⟨ret_i64 hV.out.symm, rfl⟩
    · have hV := Lib.hid (hV.out.trans (if_neg h2))
      go_wp2_with (go_at_call 187; refine (HN.out _ _).mono ?_; rintro e w' ⟨rfl, rfl⟩)
      go_ret
      exact ⟨ret_i64 hV.out.symm, rfl⟩

theorem cmpRows_any (a b : Option Addr) (ca cb : Nat) (xs ys : List Int) (w : World) (hl : xs.length ≤ 1048576) (he : xs.length = ys.length) (hx : Rd encI w a xs) (hy : Rd encI w b ys) :
    Calls Tryz.prog 71 #[.slice a xs.length ca, .slice b ys.length cb] w fun e w' => (∃ r : Int, e = .returned (.int .i64 r) ∧ decide (r < 0) = lexB xs ys) ∧ Below w.heap.size w w' := by
  have HC := Lib.hid (fun x y W => cmpI_any x y W)
  have hB0 := Below.refl w.heap.size w
  have hV : Hid (lexB xs ys = lexB (xs.drop 0) (ys.drop 0)) := rfl
  generalize lexB xs ys = V at hV ⊢
  go_enter Tryz.func71, Tryz.ntmps71
  have HE := Lib.hid he
  clear he
  go_wp2
  go_loopw [11] (fun i wr => ∃ (k : Nat), k ≤ xs.length ∧ i = .int .i64 k ∧ Below w.heap.size w wr ∧ Hid (V = lexB (xs.drop k) (ys.drop k))) (fun i _ => xs.length - (intOf i).toNat)
  case atStart => exact ⟨0, Nat.zero_le _, rfl, hB0, hV⟩
  case round =>
    clear hB0 hV
    obtain ⟨k, hk, rfl, hB, hq⟩ := hrel
    by_cases hlt : k < xs.length
    · have hk1 : (k : Int) < (xs.length : Int) := by omega
      have hlt2 : k < ys.length := by have := HE.out; omega
      have hk2 : (k : Int) < (ys.length : Int) := by omega
      have hm := List.getElem?_eq_getElem hlt
      have hn := List.getElem?_eq_getElem hlt2
      have hd : Hid (V = if xs[k] = ys[k] then lexB (xs.drop (k + 1)) (ys.drop (k + 1)) else decide (xs[k] < ys[k])) := by unfold Hid; rw [hq.out, List.drop_eq_getElem_cons hlt, List.drop_eq_getElem_cons hlt2]; rfl
      generalize xs[k] = m at hm hd
      generalize ys[k] = r at hn hd
      obtain ⟨b', off', rfl, hb', d0⟩ := (hy.below hB).i hn
      obtain ⟨b, off, rfl, hb, c0⟩ := (hx.below hB).i hm
      have HC := Lib.hid (HC.out m r)
      by_cases hg : m = r
      · have hd := Lib.hid (hd.out.trans (if_pos hg))
        have hs : signI m r = 0 := by unfold signI; rw [if_neg (by omega), if_neg (by omega)]
        rw [hs] at HC
        clear hm hn hg hs
        go_wp2_with (go_at_call 132; refine (HC.out _).mono ?_; rintro e w' ⟨rfl, rfl⟩)
        go_roundw
        case rel => exact ⟨k + 1, by omega, by go_num, hB, hd⟩
        case measure => simp [intOf]; omega
      · have hd := Lib.hid (hd.out.trans (if_neg hg))
        have hs : (signI m r != 0) = true := by unfold signI; split <;> simp; omega
        have hS : decide (signI m r < 0) = decide (m < r) := by unfold signI; split <;> simp [*]; split <;> simp
        generalize signI m r = S at hs hS HC
        have hS := Lib.hid hS
        clear hm hn hg
        go_wp2_with (go_at_call 132; refine (HC.out _).mono ?_; rintro e w' ⟨rfl, rfl⟩)
        go_ret
        exact ⟨⟨_, rfl, hS.out.trans hd.out.symm⟩, hB⟩
    · have hk' : decide ((k : Int) < (xs.length : Int)) = false := by simp; omega
      have hd : Hid (V = false) := by unfold Hid; rw [hq.out, List.drop_eq_nil_of_le (by omega)]; rfl
      have hne : decide (xs.length < ys.length) = false := by have := HE.out; simp; omega
      go_wp2
      go_ret
      exact ⟨⟨_, rfl, hd.out.symm⟩, hB⟩
end

section
open Go.ChangeShapes Go.WideShapes Go.ChangeAt Go.RowKit Go.IntWalk

def MsOf (D : DataW (TypeId × Value)) (ms : List Nat) : Prop := Maps.IsMap D ∧ ∀ kl, Maps.has D kl = true ↔ ∃ m ∈ ms, kl = .int .u64 (m : Nat)
theorem msOf_nil : MsOf (.map []) [] := ⟨Maps.isMap_empty, fun kl => by simp [Maps.has]⟩
theorem msOf_put {D : DataW (TypeId × Value)} {ms : List Nat} (h : MsOf D ms) (x : Nat) (d : DataW (TypeId × Value)) : MsOf (D.put (.int .u64 (x : Nat)) d) (ms ++ [x]) := by
  refine ⟨h.1.put _ _, fun kl => ?_⟩
  by_cases e : kl = .int .u64 (x : Nat)
  · subst e
    rw [Maps.has_put_same (k := .int .u64 (x : Nat)) h.1 trivial]
    simp
  · rw [Maps.has_put_other e, h.2]
    constructor
    · rintro ⟨m, hm, rfl⟩
      exact ⟨m, by simp [hm], rfl⟩
    · rintro ⟨m, hm, rfl⟩
      simp only [List.mem_append, List.mem_singleton] at hm
      rcases hm with hm | rfl
      · exact ⟨m, hm, rfl⟩
      · exact absurd rfl e
theorem mskD_lt (rs : List Rg) (cs : List Cl) (h8 : cs.length ≤ 8) : ∀ (k : Nat) (f : Int), ∀ m ∈ mskD rs cs f k, m < 256
  | 0, _, m, h => by cases h
  | k + 1, f, m, h => by
    simp only [mskD, List.mem_cons] at h
    rcases h with rfl | h
    · have h1 := maskB_lt (failL rs cs f)
      rw [failL_len] at h1
      exact Nat.lt_of_lt_of_le h1 (Nat.pow_le_pow_right (by decide) h8)
    · exact mskD_lt rs cs h8 k (f + 1) m h
def BestAt (n : Nat) (wr : World) (x : Value) : Option (List Int) → Prop
  | none => x = .slice none 0 0
  | some l => ∃ bg bc, l.length ≤ 8 ∧ x = .slice (some ⟨bg, 0, none⟩) l.length bc ∧ wr.ownsRow n 2 1 (.slice (some ⟨bg, 0, none⟩) l.length bc) l.length (l.flatMap encI)
theorem BestAt.step {n : Nat} {wr w' : World} {x : Value} {bo : Option (List Int)} (h : BestAt n wr x bo) (hB : Below wr.heap.size wr w') : BestAt n w' x bo := by
  cases bo with
  | none => exact h
  | some l =>
    obtain ⟨bg, bc, h1, h2, h3⟩ := h
    exact ⟨bg, bc, h1, h2, own_below h3 hB⟩
theorem grBc {w w' : World} (h : Below w.heap.size w w') (row : Option Nat) : w.grownBy w' row := ⟨h.os, h.tape, h.output, h.size, fun i hi _ => h.block i hi⟩
set_option maxRecDepth 100000 in
set_option maxHeartbeats 2000000 in
theorem implSmall_any (a0 a1 : Option Addr) (cap0 cap1 : Nat) (rs : List Rg) (f t : Int) (cs : List Cl) (w : World) (hl0 : rs.length ≤ 1048576) (hx0 : Rd encRg w a0 rs) (hs0 : ∀ m ∈ rs, m.king.size ≤ 1048576) (hl1 : cs.length ≤ 1048576) (hx1 : Rd encCl w a1 cs) (hs1 : ∀ m ∈ cs, szCl m ≤ 1048576) :
    Calls Tryz.prog 27 #[.agg #[.slice a0 rs.length cap0, .int .i64 f, .int .i64 t], .slice a1 cs.length cap1] w fun e w' => ∃ b c, e = .returned (.tuple #[.slice b (confR rs f t cs).1.length c, .int .i64 (confR rs f t cs).2]) ∧ w'.ownsRow w.heap.size 2 1 (.slice b (confR rs f t cs).1.length c) (confR rs f t cs).1.length ((confR rs f t cs).1.flatMap encI) ∧ Below w.heap.size w w' := by
  have hA := At.start w [.slice a0 rs.length cap0, .int .i64 f, .int .i64 t] 43
  have HV := Lib.hid (fun W (h : At w [.slice a0 rs.length cap0, .int .i64 f, .int .i64 t] W) => isDated_any a0 a1 cap0 cap1 rs f t cs W hl0 (hx0.below h.below) hs0 hl1 (hx1.below h.below) hs1)
  have c0 := hA.cell 0 _ rfl
  have c1 := hA.cell 1 _ rfl
  have c2 := hA.cell 2 _ rfl
  cases hd : datedB rs f t cs
  · have hR : Hid (confR rs f t cs = ([], 1)) := by unfold Hid confR; rw [hd]; rfl
    generalize confR rs f t cs = V at hR ⊢
    have HV := Lib.hid (fun W h => hd ▸ HV.out W h)
    go_enter Tryz.func27, Tryz.ntmps27
    go_wp2_with (go_at_call 68; refine (HV.out _ hA).mono ?_; rintro e w1 ⟨rfl, hB1⟩)
    go_ret2
    rw [hR.out]
    exact ⟨none, 0, rfl, World.ownsRow_nil _ _ _ _, (hA.step hB1).below⟩
  obtain ⟨hfr, hok, h8, hf0, hft, ht, htf⟩ := dated_facts hd
  have HV := Lib.hid (fun W h => hd ▸ HV.out W h)
  have HF := Lib.hid (fun W n (h : At w [.slice a0 rs.length cap0, .int .i64 f, .int .i64 t] W) hn0 hn => failing_any a0 a1 cap0 cap1 rs f t cs n W hl0 (hx0.below h.below) hfr h8 (hx1.below h.below) hok hn0 hn)
  have hR : Hid (confR rs f t cs = match bestC (hitB (mskD rs cs f (t - f + 1).toNat)) 0 (2 ^ cs.length) none with | some l => (l, 0) | none => ([], 4)) := by unfold Hid confR confO; rw [hd]; rfl
  generalize confR rs f t cs = V at hR ⊢
  have hmm := @run_makeMap Tryz.prog
  have hnil := fun W a l c => run_eql_slice_nil (P := Tryz.prog) W 46 2 a l c Tryz.underlying46
  clear hd
  go_enter Tryz.func27, Tryz.ntmps27
  go_wp2_with (go_at_call 68; refine (HV.out _ hA).mono ?_; rintro e w1 ⟨rfl, hB1⟩; have hA := hA.step hB1; clear c0 c1 c2 hB1; have c0 := hA.cell 0 _ rfl; have c1 := hA.cell 1 _ rfl; have c2 := hA.cell 2 _ rfl; have hA2 := hA.step ((Below.refl _ w1).alloc (Nat.le_refl _) (.map #[] 0)); have d0 := hA2.cell 0 _ rfl; have d1 := hA2.cell 1 _ rfl; have d2 := hA2.cell 2 _ rfl)
  have hb1 := hA.size
  have hown0 := World.ownsMap_made w1 Tryz.prog 79 (plainElem (H := TypeId × Value) Tryz.prog 4)
  have hms0 := msOf_nil
  generalize w1.heap.size = b at hb1 hown0 ⊢
  generalize w1.alloc (.map #[] 0) = w2 at hA2 hown0 ⊢
  clear hA c0 c1 c2 d0 d1 d2
  have hN : Hid (((t - f + 1).toNat : Int) = t - f + 1) := by unfold Hid; omega
  generalize (t - f + 1).toNat = N at hN hR
  go_loopw [7] (fun y wr => ∃ (k : Nat) (z : Int) (D : DataW (TypeId × Value)), k ≤ N ∧ y = .int .i64 z ∧ Hid (z = f + (k : Int)) ∧ f ≤ z ∧ z ≤ t + 1 ∧ At w [.slice a0 rs.length cap0, .int .i64 f, .int .i64 t] wr ∧ wr.ownsMap Tryz.prog 79 (plainElem Tryz.prog 4) b k D ∧ MsOf D (mskD rs cs f k)) (fun y _ => (t + 1 - intOf y).toNat)
  case atStart => exact ⟨0, f, _, Nat.zero_le _, rfl, by unfold Hid; simp, Int.le_refl _, by omega, hA2, hown0, hms0⟩
  case round =>
    clear hA2 hown0 hms0
    obtain ⟨k, z, D, hk, rfl, hz, hz1, hz2, hA, hown, hms⟩ := hrel
    have c0 := hA.cell 0 _ rfl
    have c1 := hA.cell 1 _ rfl
    have c2 := hA.cell 2 _ rfl
    by_cases hlt : z ≤ t
    · have hkm : Hid (k < maxLen ∧ k + 1 ≤ N) := by unfold Hid maxLen; have := hz.out; have := hN.out; omega
      have hF := Lib.hid (fun W h => HF.out W z h (by omega) (by omega))
      have hmv : Hid (mskD rs cs f (k + 1) = mskD rs cs f k ++ [maskB (failL rs cs z)]) := by unfold Hid; rw [mskD_snoc, hz.out]
      have hmb : maskB (failL rs cs z) < 256 := by
        have h1 := maskB_lt (failL rs cs z)
        rw [failL_len] at h1
        exact Nat.lt_of_lt_of_le h1 (Nat.pow_le_pow_right (by decide) h8)
      generalize maskB (failL rs cs z) = M at hF hmv hmb
      have hkey : keyOf Tryz.prog 79 (.int .u64 (M : Nat)) = some (.int .u64 (M : Nat)) := Maps.keyOf_int_mk Tryz.underlying79 (by simp [Lit.wf, IntKind.min, IntKind.max, IntKind.signed, IntKind.bits]; omega)
      have hval := plainElem_bool (H := TypeId × Value) Tryz.underlying4 true
      go_wp2_with (first
        | (go_at_call 69; refine (hF.out _ hA).mono ?_; rintro e w3 ⟨rfl, hB3⟩)
        | (at_mapUpdate; refine wpList_mapUpdate_own _ rfl _ _ _ 78 rfl 79 4 (Maps.int_keyed Tryz.underlying79) Tryz.underlying78 _ b k D rfl (hown.kept (grBc hB3 none) (by simp)) hkm.out.1 _ _ _ rfl rfl hkey _ [] hval ?_; intro w4 hown4 hg4)
        | fail)
      have hA4 := (hA.step hB3).grown hg4 (fun g e => by cases e; exact hb1)
      go_roundw
      case rel => exact ⟨k + 1, z + 1, _, hkm.out.2, rfl, by unfold Hid; have := hz.out; omega, by omega, by omega, hA4, hown4, by rw [hmv.out]; exact msOf_put hms _ _⟩
      case measure => simp [intOf]; omega
    · have hkN : k = N := by have := hz.out; have := hN.out; omega
      subst hkN
      have hms8 := Lib.hid (mskD_lt rs cs h8 k f)
      generalize mskD rs cs f k = ms at hms hR hms8
      clear hz hN hz1 hz2 hk
      have hT8 : 2 ^ cs.length ≤ 256 := Nat.pow_le_pow_right (by decide) h8
      have hw : IntKind.u64.wrap (2 ^ cs.length) = ((2 ^ cs.length : Nat) : Int) := by
        rw [show ((2 : Int) ^ cs.length) = ((2 ^ cs.length : Nat) : Int) by simp]
        generalize 2 ^ cs.length = T at hT8
        simp only [IntKind.wrap, IntKind.signed, IntKind.bits]
        simp
        omega
      generalize hTe : (2 ^ cs.length : Nat) = T at hw hT8 hR
      have hR := Lib.hid (show ∃ B, bestC (hitB ms) 0 T none = B ∧ V = match B with | some l => (l, 0) | none => ([], 4) from ⟨_, rfl, hR.out⟩)
      obtain ⟨B, hB, hRB⟩ := hR.out
      have hRB := Lib.hid hRB
      have hB := Lib.hid hB
      clear hR hTe
      go_wp2_with fail
      clear hw c0 c1 c2
      go_loopw [8, 34] (fun x y wr => ∃ (s : Nat) (D : DataW (TypeId × Value)) (bo : Option (List Int)), s ≤ T ∧ y = .int .u64 s ∧ Hid (bestC (hitB ms) s (T - s) bo = B) ∧ At w [.slice a0 rs.length cap0, .int .i64 f, .int .i64 t] wr ∧ wr.ownsMap Tryz.prog 79 (plainElem Tryz.prog 4) b k D ∧ MsOf D ms ∧ BestAt w.heap.size wr x bo) (fun _ y _ => T - (intOf y).toNat)
      case atStart => exact ⟨0, _, none, Nat.zero_le _, rfl, hB, hA, hown, hms, rfl⟩
      case round =>
        clear hA hown hms hB
        obtain ⟨s, D, bo, hs, rfl, hB, hA, hown, hms, hbo⟩ := hrel
        by_cases hsT : s < T
        · have hsT' : (s : Int) < (T : Int) := by omega
          rename World => W0
          go_upto_region 13 with (fail)
          go_wp2_with (first | (at_range; refine wpList_range_own _ rfl _ 78 rfl 79 4 (Maps.int_keyed Tryz.underlying79) Tryz.underlying78 _ b k D rfl hown ?_; intro w0 hrg0 hg0 hs0) | go_in)
          have hb2 := hown.lt
          clear hown
          go_frame
          go_loopw [10] (fun x w1 => ∃ (q : Bool) (left : Lit → Bool) (cnt : Nat), x = .bool q ∧ w1.ranges Tryz.prog 79 (plainElem Tryz.prog 4) b W0.heap.size k D left cnt ∧ Below W0.heap.size W0 w1 ∧ (q = true → ∀ m ∈ ms, left (.int .u64 (m : Nat)) = false → m &&& s ≠ 0) ∧ (q = false → ∃ m ∈ ms, m &&& s = 0)) (fun _ w1 => w1.rangeLeft b W0.heap.size)
          case atStart =>
            refine ⟨true, _, _, rfl, hrg0, ⟨hg0.os, hg0.tape, hg0.output, hg0.size, fun i hi => hg0.block i hi (by simp)⟩, fun _ m hm hl => ?_, fun e => by cases e⟩
            rw [(hms.2 _).2 ⟨m, hm, rfl⟩] at hl
            cases hl
          case round =>
            obtain ⟨q, left, cnt, rfl, hrg, hBr, hq1, hq2⟩ := hrel
            go_wp2_with (first | (at_next; refine wpList_next_ranges _ rfl _ rfl 79 (Maps.int_keyed Tryz.underlying79) (plainElem Tryz.prog 4) (Value.int .u64) (fun v : Value => v) (fun key kl hk => by obtain ⟨x, rfl, _⟩ := Maps.keyOf_int_inv Tryz.underlying79 hk; exact ⟨x, rfl⟩) (fun v _ _ => ⟨v, rfl⟩) b W0.heap.size k D left cnt rfl hrg ?_ ?_) | go_in)
            · intro hc0 hl0
              have hhit : Hid (hitB ms s = q) := by
                unfold Hid hitB
                cases q
                · obtain ⟨m, hm, h0⟩ := hq2 rfl
                  exact List.all_eq_false.2 ⟨m, hm, by simp [h0]⟩
                · exact List.all_eq_true.2 fun m hm => by simpa using hq1 rfl m hm (hl0 _)
              have hA := hA.step hBr
              have hown := hrg.owns
              have hs256 : s < 256 := by omega
              have hst : Hid (bestC (hitB ms) (s + 1) (T - (s + 1)) (stepC (hitB ms) s bo) = B) := by
                unfold Hid
                rw [← hB.out, show T - s = (T - (s + 1)) + 1 by omega]
                rfl
              have hbits := Lib.hid (fun W => bitsOf_any s W hs256)
              have hmemL : Hid (memL s = onesGo s 0 (Lib.bitLen s)) := rfl
              have hml8 := memL_len s hs256
              unfold stepC at hst
              generalize memL s = L at hmemL hst hml8
              rw [← hmemL.out] at hbits
              rw [hhit.out] at hst
              clear hmemL hhit hB hq1 hq2 hl0 hc0 hrg
              cases q
              · replace hst : Hid (bestC (hitB ms) (s + 1) (T - (s + 1)) bo = B) := hst
                go_wp2_with (first | (go_at_call 70; refine (hbits.out _).mono ?_; rintro e w5 ⟨g5, c5, rfl, ho5, hB5⟩) | fail)
                go_roundw
                case rel => exact ⟨s + 1, D, bo, hsT, rfl, hst, hA.step hB5, hown.kept (grBc hB5 none) (by simp), hms, (hbo.step hBr).step hB5⟩
                case measure => simp [intOf]; omega
              · have hbo := hbo.step hBr
                cases bo with
                | none =>
                  replace hst : Hid (bestC (hitB ms) (s + 1) (T - (s + 1)) (some L) = B) := hst
                  obtain rfl : _ = Value.slice none 0 0 := hbo
                  go_wp2_with (first | (go_at_call 70; refine (hbits.out _).mono ?_; rintro e w5 ⟨g5, c5, rfl, ho5, hB5⟩) | fail)
                  go_roundw
                  case rel => exact ⟨s + 1, D, some L, hsT, rfl, hst, hA.step hB5, hown.kept (grBc hB5 none) (by simp), hms, ⟨g5, c5, hml8, rfl, own_base ho5 hA.below.size⟩⟩
                  case measure => simp [intOf]; omega
                | some l =>
                  replace hst : Hid (bestC (hitB ms) (s + 1) (T - (s + 1)) (if betB L l = true then some L else some l) = B) := hst
                  obtain ⟨bg, bc, hl8, rfl, hob⟩ := hbo
                  by_cases hlen : L.length = l.length
                  · have hbl : betB L l = lexB L l := by unfold betB; rw [if_pos hlen]
                    rw [hbl] at hst
                    have hcmp := Lib.hid (fun a ca W h1 h2 => cmpRows_any a (some ⟨bg, 0, none⟩) ca bc L l W (by omega) hlen h1 h2)
                    have hge : decide (L.length < l.length) = false := by simp; omega
                    have heq : (((L.length : Nat) : Int) == (l.length : Nat)) = true := by simp; omega
                    clear hbl hlen
                    generalize lexB L l = lb at hst hcmp
                    cases lb
                    · replace hst : Hid (bestC (hitB ms) (s + 1) (T - (s + 1)) (some l) = B) := hst
                      go_wp2_with (first | (go_at_call 70; refine (hbits.out _).mono ?_; rintro e w5 ⟨g5, c5, rfl, ho5, hB5⟩) | (go_at_call 71; refine (hcmp.out _ _ _ (Rd.of_own encI_len (by decide) ho5) (Rd.of_own encI_len (by decide) (own_below hob hB5))).mono ?_; rintro e w6 ⟨⟨r, rfl, hr⟩, hB6⟩) | fail)
                      go_roundw
                      case rel => exact ⟨s + 1, D, some l, hsT, rfl, hst, (hA.step hB5).step hB6, (hown.kept (grBc hB5 none) (by simp)).kept (grBc hB6 none) (by simp), hms, ⟨bg, bc, hl8, rfl, own_below (own_below hob hB5) hB6⟩⟩
                      case measure => simp [intOf]; omega
                    · replace hst : Hid (bestC (hitB ms) (s + 1) (T - (s + 1)) (some L) = B) := hst
                      go_wp2_with (first | (go_at_call 70; refine (hbits.out _).mono ?_; rintro e w5 ⟨g5, c5, rfl, ho5, hB5⟩) | (go_at_call 71; refine (hcmp.out _ _ _ (Rd.of_own encI_len (by decide) ho5) (Rd.of_own encI_len (by decide) (own_below hob hB5))).mono ?_; rintro e w6 ⟨⟨r, rfl, hr⟩, hB6⟩) | fail)
                      go_roundw
                      case rel => exact ⟨s + 1, D, some L, hsT, rfl, hst, (hA.step hB5).step hB6, (hown.kept (grBc hB5 none) (by simp)).kept (grBc hB6 none) (by simp), hms, ⟨g5, c5, hml8, rfl, own_below (own_base ho5 hA.below.size) hB6⟩⟩
                      case measure => simp [intOf]; omega
                  · have hbl : betB L l = decide (L.length < l.length) := by unfold betB; rw [if_neg hlen]
                    rw [hbl] at hst
                    have heq : (((L.length : Nat) : Int) == (l.length : Nat)) = false := by simp; omega
                    by_cases hlt2 : L.length < l.length
                    · replace hst : Hid (bestC (hitB ms) (s + 1) (T - (s + 1)) (some L) = B) := by unfold Hid; rw [← hst.out]; simp [hlt2]
                      clear hbl hlen
                      go_wp2_with (first | (go_at_call 70; refine (hbits.out _).mono ?_; rintro e w5 ⟨g5, c5, rfl, ho5, hB5⟩) | fail)
                      go_roundw
                      case rel => exact ⟨s + 1, D, some L, hsT, rfl, hst, hA.step hB5, hown.kept (grBc hB5 none) (by simp), hms, ⟨g5, c5, hml8, rfl, own_base ho5 hA.below.size⟩⟩
                      case measure => simp [intOf]; omega
                    · replace hst : Hid (bestC (hitB ms) (s + 1) (T - (s + 1)) (some l) = B) := by unfold Hid; rw [← hst.out]; simp [hlt2]
                      have hge : decide (L.length < l.length) = false := by simp; omega
                      clear hbl hlen hlt2
                      go_wp2_with (first | (go_at_call 70; refine (hbits.out _).mono ?_; rintro e w5 ⟨g5, c5, rfl, ho5, hB5⟩) | fail)
                      go_roundw
                      case rel => exact ⟨s + 1, D, some l, hsT, rfl, hst, hA.step hB5, hown.kept (grBc hB5 none) (by simp), hms, ⟨bg, bc, hl8, rfl, own_below hob hB5⟩⟩
                      case measure => simp [intOf]; omega
            · intro x c kl y y2 w4 cnt' hkey hlk hv hat hrg1 hlt hg1 hs1 hen
              obtain ⟨m, hm, rfl⟩ := (hms.2 kl).1 (Maps.has_true_of_atKey hat)
              obtain ⟨x', e1, e2, _⟩ := Maps.keyOf_int_inv Tryz.underlying79 hkey
              cases e1
              cases e2
              have hB4 : Below W0.heap.size W0 w4 := hBr.grown hg1 hBr.size (fun g e => by cases e; exact Nat.le_refl _)
              have hmb := hms8.out m hm
              have hand := and_u64 m s hmb (by omega)
              have hle : ∀ m' : Nat, (left (.int .u64 (m' : Nat)) && !(Lit.int .u64 (m' : Nat)).sameKey (.int .u64 (m : Nat))) = false → left (.int .u64 (m' : Nat)) = false ∨ m' = m := fun m' h => by
                by_cases e : m' = m
                · exact .inr e
                · rw [Maps.sameKey_ne (by simp; omega)] at h
                  exact .inl (by simpa using h)
              cases q
              · go_wp2_with fail
                go_roundw
                case rel => exact ⟨false, _, _, rfl, hrg1, hB4, (fun e => by cases e), hq2⟩
                case measure => rw [hrg1.left_eq, hrg.left_eq]; exact hlt
              · by_cases hz : m &&& s = 0
                · have hz' : bits .and .u64 (m : Int) (s : Int) = 0 := by rw [hand, hz]; rfl
                  go_wp2_with fail
                  go_roundw
                  case rel => exact ⟨false, _, _, rfl, hrg1, hB4, (fun e => by cases e), fun _ => ⟨m, hm, hz⟩⟩
                  case measure => rw [hrg1.left_eq, hrg.left_eq]; exact hlt
                · have hz' : (((m &&& s : Nat) : Int) != 0) = true := by simp; omega
                  go_wp2_with fail
                  go_roundw
                  case rel => exact ⟨true, _, _, rfl, hrg1, hB4, (fun _ m' hm' hl' => (hle m' hl').elim (fun h => hq1 rfl m' hm' h) (fun h => by rw [h]; exact hz)), fun e => by cases e⟩
                  case measure => rw [hrg1.left_eq, hrg.left_eq]; exact hlt
        · have hsT' : decide ((s : Int) < (T : Int)) = false := by simp; omega
          have hse : T - s = 0 := by omega
          have hB : Hid (bo = B) := by unfold Hid; rw [← hB.out, hse]; rfl
          clear hown hms
          cases bo with
          | none =>
            have hRR : Hid (V = ([], 4)) := by unfold Hid; rw [hRB.out, ← hB.out]
            obtain rfl : _ = Value.slice none 0 0 := hbo
            go_wp2_with fail
            go_ret2
            rw [hRR.out]
            exact ⟨none, 0, rfl, World.ownsRow_nil _ _ _ _, hA.below⟩
          | some l =>
            have hRR : Hid (V = (l, 0)) := by unfold Hid; rw [hRB.out, ← hB.out]
            obtain ⟨bg, bc, hl8, rfl, hob⟩ := hbo
            go_wp2_with fail
            go_ret2
            rw [hRR.out]
            exact ⟨_, bc, rfl, hob, hA.below⟩
end

section
/-- How many days q takes, from a on. -/
def cntQ (q : Int → Bool) (a : Int) : Nat → Int
  | 0 => 0
  | k + 1 => (if q a = true then 1 else 0) + cntQ q (a + 1) k
theorem cnt_spStep (out : List Sp) (n : Int) : cntSp (spStep out n) = cntSp out + 1 := by
  rcases List.eq_nil_or_concat out with rfl | ⟨ys, s, rfl⟩
  · rw [spStep_nil]; simp [cntSp]
  · rw [List.concat_eq_append, spStep_snoc]
    by_cases e : s.to = n - 1
    · rw [if_pos e]; simp only [cntSp_app, cntSp]; omega
    · rw [if_neg e]; simp only [cntSp_app, cntSp]; omega
theorem cnt_run {q : Int → Bool} : ∀ (k : Nat) (a : Int) (out : List Sp), cntSp (spRun q a k out) = cntSp out + cntQ q a k
  | 0, a, out => by simp [spRun, cntQ]
  | k + 1, a, out => by
    cases h : q a
    · rw [spRun_no k h, cnt_run k]; simp [cntQ, h]
    · rw [spRun_hit k h, cnt_run k, cnt_spStep]; simp [cntQ, h]; omega
theorem cntQ_nn {q : Int → Bool} : ∀ (k : Nat) (a : Int), 0 ≤ cntQ q a k
  | 0, _ => Int.le_refl _
  | k + 1, a => by
    have := cntQ_nn (q := q) k (a + 1)
    unfold cntQ
    split <;> omega
theorem cntQ_none {q : Int → Bool} : ∀ (k : Nat) (a : Int), (∀ d, a ≤ d → d < a + k → q d = false) → cntQ q a k = 0
  | 0, _, _ => rfl
  | k + 1, a, h => by
    unfold cntQ
    rw [h a (Int.le_refl _) (by omega), cntQ_none k (a + 1) (fun d h1 h2 => h d (by omega) (by omega))]
    rfl
theorem cntQ_some {q : Int → Bool} : ∀ (k : Nat) (a d : Int), a ≤ d → d < a + k → q d = true → 1 ≤ cntQ q a k
  | 0, a, d, h1, h2, _ => by omega
  | k + 1, a, d, h1, h2, h => by
    unfold cntQ
    by_cases e : a = d
    · subst e
      have := cntQ_nn (q := q) k (a + 1)
      rw [if_pos h]; omega
    · have := cntQ_some k (a + 1) d (by omega) (by omega) h
      split <;> omega

/-! ### Sets as numbers -/
def bit1 (s k : Nat) : Bool := decide (s / 2 ^ k % 2 = 1)
theorem memL_eq : ∀ s : Fin 256, memL s.val = ((List.range 8).filter (bit1 s.val)).map Int.ofNat := by decide +kernel
theorem memL_less : ∀ s : Fin 256, ∀ k : Fin 8, bit1 s.val k.val = true → (memL (s.val - 2 ^ k.val)).length < (memL s.val).length ∧ s.val - 2 ^ k.val < s.val ∧ ∀ j : Fin 8, bit1 (s.val - 2 ^ k.val) j.val = (bit1 s.val j.val && decide (j.val ≠ k.val)) := by decide +kernel
theorem memL_in {s : Nat} (hs : s < 256) {i : Int} (h : i ∈ memL s) : ∃ k : Nat, i = k ∧ k < 8 ∧ bit1 s k = true := by
  rw [memL_eq ⟨s, hs⟩] at h
  obtain ⟨k, hk, rfl⟩ := List.mem_map.1 h
  obtain ⟨h1, h2⟩ := List.mem_filter.1 hk
  exact ⟨k, rfl, List.mem_range.1 h1, h2⟩
theorem memL_of {s k : Nat} (hs : s < 256) (hk : k < 8) (h : bit1 s k = true) : (k : Int) ∈ memL s := by
  rw [memL_eq ⟨s, hs⟩]
  exact List.mem_map.2 ⟨k, List.mem_filter.2 ⟨List.mem_range.2 hk, h⟩, rfl⟩
theorem memL_nodup {s : Nat} (hs : s < 256) : (memL s).Nodup := by
  rw [memL_eq ⟨s, hs⟩]
  refine List.Pairwise.map _ ?_ (List.Pairwise.filter _ List.nodup_range)
  intro a b hab e
  exact hab (Int.ofNat.inj e)
theorem bit_mask {bs : List Bool} {k : Nat} {b : Bool} (h : bs[k]? = some b) : bit1 (maskB bs) k = b := by
  obtain ⟨hk, rfl⟩ := List.getElem?_eq_some_iff.1 h
  have e : bs = bs.take k ++ bs.drop k := (List.take_append_drop k bs).symm
  have h1 := maskB_div (bs.take k) (bs.drop k)
  rw [← e, List.length_take, Nat.min_eq_left (by omega), List.drop_eq_getElem_cons hk] at h1
  unfold bit1
  rw [h1]
  simp only [maskB]
  cases bs[k] <;> simp <;> omega
theorem and_zero {m s : Nat} (hs : s < 256) : m &&& s = 0 ↔ ∀ k, k < 8 → bit1 s k = true → bit1 m k = false := by
  have tb : ∀ x k : Nat, x.testBit k = bit1 x k := fun x k => by unfold bit1; exact Nat.testBit_eq_decide_div_mod_eq
  constructor
  · intro h k hk hb
    have h1 : (m &&& s).testBit k = false := by rw [h]; simp
    rw [Nat.testBit_and, tb, tb, hb, Bool.and_true] at h1
    exact h1
  · intro h
    apply Nat.eq_of_testBit_eq
    intro k
    rw [Nat.testBit_and, tb, tb, Nat.zero_testBit]
    by_cases hk : k < 8
    · cases hb : bit1 s k
      · simp
      · rw [h k hk hb]; rfl
    · have : bit1 s k = false := by
        unfold bit1
        rw [Nat.div_eq_of_lt (Nat.lt_of_lt_of_le hs (Nat.pow_le_pow_right (n := 2) (by decide) (show 8 ≤ k by omega)))]
        rfl
      rw [this, Bool.and_false]
theorem hit_days {rs : List Rg} {cs : List Cl} {s : Nat} : ∀ (k : Nat) (f : Int), hitB (mskD rs cs f k) s = true ↔ ∀ d, f ≤ d → d < f + k → maskB (failL rs cs d) &&& s ≠ 0
  | 0, f => by
    constructor
    · intro _ d h1 h2; omega
    · intro _; rfl
  | k + 1, f => by
    have ih := hit_days (rs := rs) (cs := cs) (s := s) k (f + 1)
    unfold hitB at ih ⊢
    rw [mskD, List.all_cons, Bool.and_eq_true, ih, decide_eq_true_eq]
    constructor
    · rintro ⟨h0, h1⟩ d h2 h3
      by_cases e : f = d
      · subst e; exact h0
      · exact h1 d (by omega) (by omega)
    · intro h
      exact ⟨h f (Int.le_refl _) (by omega), fun d h1 h2 => h d (by omega) (by omega)⟩
/-- The best set hits, and none that hits is shorter. -/
theorem best_min {hits : Nat → Bool} : ∀ (k s : Nat) (b : Option (List Int)), (∀ l, b = some l → ∃ s', s' < s ∧ hits s' = true ∧ l = memL s') → (∀ l, b = some l → ∀ s', s' < s → hits s' = true → l.length ≤ (memL s').length) → (b = none → ∀ s', s' < s → hits s' = false) →
    ∀ l, bestC hits s k b = some l → (∃ s', s' < s + k ∧ hits s' = true ∧ l = memL s') ∧ ∀ s', s' < s + k → hits s' = true → l.length ≤ (memL s').length
  | 0, s, b, h1, h2, _, l, h => ⟨h1 l h, h2 l h⟩
  | k + 1, s, b, h1, h2, h3, l, h => by
    have ih := best_min (hits := hits) k (s + 1) (stepC hits s b) ?_ ?_ ?_ l h
    · rw [show s + 1 + k = s + (k + 1) by omega] at ih; exact ih
    · intro l' hl'
      unfold stepC at hl'
      split at hl'
      · rename_i hh
        cases b with
        | none => simp only [Option.some.injEq] at hl'; exact ⟨s, by omega, hh, hl'.symm⟩
        | some l0 =>
          simp only at hl'
          split at hl'
          · simp only [Option.some.injEq] at hl'; exact ⟨s, by omega, hh, hl'.symm⟩
          · simp only [Option.some.injEq] at hl'
            obtain ⟨s', g1, g2, g3⟩ := h1 l0 rfl
            exact ⟨s', by omega, g2, by rw [← hl']; exact g3⟩
      · obtain ⟨s', g1, g2, g3⟩ := h1 l' hl'
        exact ⟨s', by omega, g2, g3⟩
    · intro l' hl' s' hs' hit
      unfold stepC at hl'
      by_cases hh : hits s = true
      · rw [if_pos hh] at hl'
        cases b with
        | none =>
          simp only [Option.some.injEq] at hl'
          by_cases e : s' = s
          · rw [e, ← hl']; exact Nat.le_refl _
          · have := h3 rfl s' (by omega); rw [this] at hit; cases hit
        | some l0 =>
          simp only at hl'
          have hl0 : ∀ s', s' < s → hits s' = true → l0.length ≤ (memL s').length := h2 l0 rfl
          split at hl'
          · rename_i hb
            simp only [Option.some.injEq] at hl'
            by_cases e : s' = s
            · rw [e, ← hl']; exact Nat.le_refl _
            · have h4 := hl0 s' (by omega) hit
              have h5 : (memL s).length ≤ l0.length := by
                unfold betB at hb
                split at hb
                · omega
                · have := of_decide_eq_true hb; omega
              rw [← hl']; omega
          · rename_i hb
            simp only [Option.some.injEq] at hl'
            by_cases e : s' = s
            · rw [e, ← hl']
              unfold betB at hb
              split at hb
              · omega
              · have : ¬ (memL s).length < l0.length := fun h => hb (decide_eq_true h)
                omega
            · rw [← hl']; exact hl0 s' (by omega) hit
      · rw [if_neg hh] at hl'
        by_cases e : s' = s
        · rw [e] at hit; exact absurd hit hh
        · exact h2 l' hl' s' (by omega) hit
    · intro hn s' hs'
      unfold stepC at hn
      by_cases hh : hits s = true
      · rw [if_pos hh] at hn
        cases b with
        | none => cases hn
        | some l0 => simp only at hn; split at hn <;> cases hn
      · rw [if_neg hh] at hn
        by_cases e : s' = s
        · rw [e]; exact Bool.eq_false_iff.2 hh
        · exact h3 hn s' (by omega)
/-- The clauses at some places. -/
def atL (cs : List Cl) (l : List Int) : List Cl := l.map fun i => cs.getD i.toNat ⟨0, 0, 0, 0, 0, 0, 0, ⟨#[]⟩⟩
theorem fit_at {rs : List Rg} {cs : List Cl} {l : List Int} {d : Int} : fitB rs (atL cs l) d = true ↔ ∀ i ∈ l, holdB rs (cs.getD i.toNat ⟨0, 0, 0, 0, 0, 0, 0, ⟨#[]⟩⟩) d = true := by
  unfold fitB atL
  simp only [List.all_eq_true, List.mem_map]
  constructor
  · intro h i hi; exact h _ ⟨i, hi, rfl⟩
  · rintro h _ ⟨i, hi, rfl⟩; exact h i hi
/-- A conflict: its places lie in the list; no day fits; without any of them some day fits. -/
theorem conf_law {rs : List Rg} {f t : Int} {cs : List Cl} {l : List Int} (hd : datedB rs f t cs = true) (h : confR rs f t cs = (l, 0)) :
    l.length ≤ 8 ∧ (∀ i ∈ l, 0 ≤ i ∧ i < cs.length) ∧ cntF rs f t (atL cs l) = (0, 0) ∧ ∀ j, j < l.length → ∃ m, cntF rs f t (atL cs (l.eraseIdx j)) = (m, 0) ∧ 1 ≤ m := by
  have h8 := (dated_facts hd).2.2.1
  have hp : 2 ^ cs.length ≤ 2 ^ 8 := Nat.pow_le_pow_right (by decide) h8
  unfold confR at h
  rw [if_pos hd] at h
  cases hc : confO rs f t cs with
  | none => rw [hc] at h; simp at h
  | some l0 =>
    rw [hc] at h
    simp only [Prod.mk.injEq, and_true] at h
    subst h
    unfold confO at hc
    obtain ⟨⟨s, hs, hit, rfl⟩, hmin⟩ := best_min (2 ^ cs.length) 0 none (fun l h => by cases h) (fun l h => by cases h) (fun _ s' hs' => by omega) l0 hc
    have hs256 : s < 256 := by omega
    have hkn : ∀ k, k < 8 → bit1 s k = true → k < cs.length := fun k _ hb => by
      rcases Nat.lt_or_ge k cs.length with h1 | h1
      · exact h1
      · unfold bit1 at hb
        rw [Nat.div_eq_of_lt (Nat.lt_of_lt_of_le (by omega : s < 2 ^ cs.length) (Nat.pow_le_pow_right (n := 2) (by decide) h1))] at hb
        simp at hb
    have hin : ∀ i ∈ memL s, 0 ≤ i ∧ i < cs.length := fun i hi => by
      obtain ⟨k, rfl, hk, hb⟩ := memL_in hs256 hi
      have := hkn k hk hb
      omega
    have hmask : ∀ (d : Int) (k : Nat), k < cs.length → bit1 (maskB (failL rs cs d)) k = !holdB rs (cs.getD k ⟨0, 0, 0, 0, 0, 0, 0, ⟨#[]⟩⟩) d := fun d k hk => by
      have hm := List.getElem?_eq_getElem hk
      rw [bit_mask (failL_at (rs := rs) (n := d) hm), List.getD_eq_getElem?_getD, hm]
      rfl
    have hsub : ∀ l : List Int, (∀ i ∈ l, 0 ≤ i ∧ i < cs.length) → l.length ≤ 8 → datedB rs f t (atL cs l) = true := fun l hl hl8 => by
      unfold datedB at hd ⊢
      simp only [Bool.and_eq_true] at hd ⊢
      refine ⟨hd.1, ?_⟩
      have h1 := hd.2
      unfold isDatingB at h1 ⊢
      simp only [Bool.and_eq_true, decide_eq_true_eq, List.all_eq_true] at h1 ⊢
      refine ⟨fun m hm => ?_, by unfold atL; rw [List.length_map]; exact hl8⟩
      obtain ⟨i, hi, rfl⟩ := List.mem_map.1 hm
      have h2 := hl i hi
      have h3 : i.toNat < cs.length := by omega
      rw [List.getD_eq_getElem?_getD, List.getElem?_eq_getElem h3]
      exact h1.1 _ (List.getElem_mem h3)
    have hl8 := memL_len s hs256
    have hcnt : ∀ l : List Int, (∀ i ∈ l, 0 ≤ i ∧ i < cs.length) → l.length ≤ 8 → cntF rs f t (atL cs l) = (cntQ (fitB rs (atL cs l)) f (t - f + 1).toNat, 0) := fun l hl hl2 => by
      unfold cntF
      rw [if_pos (hsub l hl hl2), cnt_run]
      simp [cntSp]
    refine ⟨hl8, hin, ?_, fun j hj => ?_⟩
    · rw [hcnt _ hin hl8, cntQ_none]
      intro d h1 h2
      have h3 := (hit_days (rs := rs) (cs := cs) (s := s) (t - f + 1).toNat f).1 hit d h1 (by omega)
      apply Bool.eq_false_iff.2
      intro hf
      apply h3
      rw [and_zero hs256]
      intro k hk hb
      have h6 := fit_at.1 hf k (memL_of hs256 hk hb)
      rw [Int.toNat_natCast] at h6
      rw [hmask d k (hkn k hk hb), h6]
      rfl
    · obtain ⟨k, hkj, hk, hb⟩ := memL_in hs256 (List.getElem_mem hj)
      obtain ⟨hless, hlt, hbits⟩ := memL_less ⟨s, hs256⟩ ⟨k, hk⟩ hb
      simp only at hless hlt hbits
      have hnot : hitB (mskD rs cs f (t - f + 1).toNat) (s - 2 ^ k) = false := by
        apply Bool.eq_false_iff.2
        intro hh
        have := hmin (s - 2 ^ k) (by omega) hh
        omega
      have hex : ∃ d, f ≤ d ∧ d < f + ((t - f + 1).toNat : Nat) ∧ maskB (failL rs cs d) &&& (s - 2 ^ k) = 0 := by
        rcases Classical.em (∃ d, f ≤ d ∧ d < f + ((t - f + 1).toNat : Nat) ∧ maskB (failL rs cs d) &&& (s - 2 ^ k) = 0) with h | h
        · exact h
        · exfalso
          have := (hit_days (rs := rs) (cs := cs) (s := s - 2 ^ k) (t - f + 1).toNat f).2 (fun d h1 h2 h3 => h ⟨d, h1, h2, h3⟩)
          rw [this] at hnot
          cases hnot
      obtain ⟨d, h1, h2, h3⟩ := hex
      have hin2 : ∀ i ∈ (memL s).eraseIdx j, 0 ≤ i ∧ i < cs.length := fun i hi => hin i (List.mem_of_mem_eraseIdx hi)
      have hle2 : ((memL s).eraseIdx j).length ≤ 8 := Nat.le_trans (List.length_eraseIdx_le _ _) hl8
      refine ⟨_, hcnt _ hin2 hle2, cntQ_some _ _ d h1 h2 ?_⟩
      rw [fit_at]
      intro i hi
      obtain ⟨q, rfl, hq, hqb⟩ := memL_in hs256 (List.mem_of_mem_eraseIdx hi)
      have hne : q ≠ k := by
        rintro rfl
        obtain ⟨p, hp, hpe⟩ := List.mem_eraseIdx_iff_getElem?.1 hi
        have h4 := (List.getElem?_inj hj (memL_nodup hs256)).1 ((List.getElem?_eq_getElem hj).trans ((congrArg some hkj).trans hpe.symm))
        omega
      have h5 := hbits ⟨q, hq⟩
      rw [hqb, decide_eq_true (show q ≠ k from hne)] at h5
      have h6 := (and_zero (m := maskB (failL rs cs d)) (show s - 2 ^ k < 256 by omega)).1 h3 q hq h5
      rw [hmask d q (hkn q hq hqb)] at h6
      simpa using h6
end
end Go.Proofs.YteajkofgcmfaoaaGreatDoor
