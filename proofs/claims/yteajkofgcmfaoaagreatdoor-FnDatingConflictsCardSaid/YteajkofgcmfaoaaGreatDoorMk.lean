/- Walks: the clauses that fail on a day, as a number and as a list, by the program and by the reference; the number of ones. -/
import Derived.Test.YteajkofgcmfaoaaGreatDoorFt
import Derived.Lib.ItoaNum
import Derived.Laws.BitsLemmas
import Derived.Test.YteajkofgcmfaoaaGreatDoorProg
import Derived.Deep.AppendLies
import Derived.Test.YteajkofgcmfaoaaGreatDoorRi
import Derived.Test.YteajkofgcmfaoaaGreatDoorLi
import Derived.Test.YteajkofgcmfaoaaGreatDoorShelf11
namespace Go.Proofs.YteajkofgcmfaoaaGreatDoor
section
open Go.ChangeShapes Go.WideShapes Go.ChangeAt Go.RowKit Go.IntWalk

theorem isDated_any (a0 a1 : Option Addr) (cap0 cap1 : Nat) (rs : List Rg) (f t : Int) (cs : List Cl) (w : World) (hl0 : rs.length ≤ 1048576) (hx0 : Rd encRg w a0 rs) (hs0 : ∀ m ∈ rs, m.king.size ≤ 1048576) (hl1 : cs.length ≤ 1048576) (hx1 : Rd encCl w a1 cs) (hs1 : ∀ m ∈ cs, szCl m ≤ 1048576) :
    Calls Tryz.prog 68 #[.agg #[.slice a0 rs.length cap0, .int .i64 f, .int .i64 t], .slice a1 cs.length cap1] w fun e w' => e = .returned (.bool (datedB rs f t cs)) ∧ Below w.heap.size w w' := by
  have hA := At.start w [.slice a0 rs.length cap0, .int .i64 f, .int .i64 t] 43
  have HC := Lib.hid (fun W (h : At w [.slice a0 rs.length cap0, .int .i64 f, .int .i64 t] W) => implIsChancery_any a0 cap0 rs f t W hl0 (hx0.below h.below) hs0)
  have HD := Lib.hid (fun W (h : At w [.slice a0 rs.length cap0, .int .i64 f, .int .i64 t] W) => implIsDating_any a1 cap1 cs W hl1 (hx1.below h.below) hs1)
  have hV : Hid (datedB rs f t cs = (isChanceryB rs f t && isDatingB cs)) := rfl
  generalize datedB rs f t cs = V at hV ⊢
  generalize isDatingB cs = d at HD hV
  have c0 := hA.cell 0 _ rfl
  have c1 := hA.cell 1 _ rfl
  have c2 := hA.cell 2 _ rfl
  cases hc : isChanceryB rs f t
  · have hR : Hid (V = false) := by unfold Hid; rw [hV.out, hc]; rfl
    have HC := Lib.hid (fun W h => hc ▸ HC.out W h)
    go_enter Tryz.func68, Tryz.ntmps68
    go_wp2_with fail
    refine (HC.out _ hA).mono ?_
    rintro e w1 ⟨rfl, hB1⟩
    go_wp2
    go_ret
    exact ⟨ret_bool hR.out.symm, (hA.step hB1).below⟩
  · have hR : Hid (V = d) := by unfold Hid; rw [hV.out, hc]; rfl
    have HC := Lib.hid (fun W h => hc ▸ HC.out W h)
    go_enter Tryz.func68, Tryz.ntmps68
    go_wp2_with fail
    refine (HC.out _ hA).mono ?_
    rintro e w1 ⟨rfl, hB1⟩
    have hA := hA.step hB1
    go_wp2_with fail
    refine (HD.out _ hA).mono ?_
    rintro e w2 ⟨rfl, hB2⟩
    go_wp2
    go_ret
    exact ⟨ret_bool hR.out.symm, (hA.step hB2).below⟩
end

section
def maskB : List Bool → Nat
  | [] => 0
  | b :: bs => b.toNat + 2 * maskB bs
theorem maskB_lt : ∀ bs : List Bool, maskB bs < 2 ^ bs.length
  | [] => by decide
  | b :: bs => by
    have := maskB_lt bs
    have : b.toNat ≤ 1 := Bool.toNat_le b
    simp only [maskB, List.length_cons, Nat.pow_succ]
    omega
theorem maskB_snoc : ∀ (bs : List Bool) (b : Bool), maskB (bs ++ [b]) = maskB bs + b.toNat * 2 ^ bs.length
  | [], b => by simp [maskB]
  | a :: bs, b => by
    have := maskB_snoc bs b
    simp only [maskB, List.cons_append, List.length_cons, Nat.pow_succ, this]
    rw [Nat.mul_add, Nat.mul_left_comm 2, Nat.mul_comm 2 (2 ^ bs.length)]
    omega
theorem maskB_app : ∀ (pre bs : List Bool), maskB (pre ++ bs) = maskB pre + maskB bs * 2 ^ pre.length
  | [], bs => by simp [maskB]
  | a :: pre, bs => by
    have := maskB_app pre bs
    simp only [maskB, List.cons_append, List.length_cons, Nat.pow_succ, this]
    rw [Nat.mul_add, Nat.mul_left_comm 2, Nat.mul_comm 2 (2 ^ pre.length)]
    omega
theorem maskB_div (pre bs : List Bool) : maskB (pre ++ bs) / 2 ^ pre.length = maskB bs := by
  rw [maskB_app, Nat.add_mul_div_right _ _ (Nat.two_pow_pos _), Nat.div_eq_of_lt (maskB_lt pre), Nat.zero_add]
/-- The ones of a number from place i on. -/
def onesGo (m : Nat) : Nat → Nat → List Int
  | _, 0 => []
  | i, f + 1 => (if m / 2 ^ i % 2 = 1 then [(i : Int)] else []) ++ onesGo m (i + 1) f
theorem onesGo_snoc (m : Nat) : ∀ (f i : Nat), onesGo m i (f + 1) = onesGo m i f ++ (if m / 2 ^ (i + f) % 2 = 1 then [((i + f : Nat) : Int)] else [])
  | 0, i => by simp [onesGo]
  | f + 1, i => by
    have h := onesGo_snoc m f (i + 1)
    rw [onesGo, h]
    simp only [onesGo, List.append_assoc]
    rw [show i + 1 + f = i + (f + 1) by omega]
theorem onesGo_len (m : Nat) : ∀ (f i : Nat), (onesGo m i f).length ≤ f
  | 0, _ => Nat.le_refl _
  | f + 1, i => by
    have := onesGo_len m f (i + 1)
    simp only [onesGo, List.length_append]
    split <;> simp <;> omega
theorem lt_bitLen (x : Nat) (h : x < 2 ^ 64) : x < 2 ^ Lib.bitLen x := by
  by_cases h0 : x = 0
  · subst h0; decide
  · exact (Lib.bitLenAux_bounds 64 x h h0).2.2
/-- A bit set beyond a number's bits. -/
theorem or_new (m k : Nat) (h : m < 2 ^ k) (hk : k < 63) : bits .or .u64 (m : Int) ((2 ^ k : Nat) : Int) = ((m + 2 ^ k : Nat) : Int) := by
  have hp : 2 ^ k < 2 ^ 63 := Nat.pow_lt_pow_right (by decide) hk
  have e := (bits_nat .u64 63 (by decide) (fun n h0 h1 => by simp [IntKind.wrap, IntKind.bits, IntKind.signed]; omega) m (2 ^ k) (Nat.lt_trans h hp) hp).2
  rw [e]
  have := Nat.two_pow_add_eq_or_of_lt h 1
  rw [Nat.mul_one] at this
  rw [Nat.or_comm, ← this, Nat.add_comm]
theorem or_wrap (m k : Nat) (h : m < 2 ^ k) (hk : k < 63) : bits .or .u64 (m : Int) (IntKind.u64.wrap (2 ^ k)) = ((m + 2 ^ k : Nat) : Int) := by
  have hp : 2 ^ k < 2 ^ 63 := Nat.pow_lt_pow_right (by decide) hk
  have e : (2 : Int) ^ k = ((2 ^ k : Nat) : Int) := by simp
  have e2 : IntKind.u64.wrap ((2 ^ k : Nat) : Int) = ((2 ^ k : Nat) : Int) := by
    generalize 2 ^ k = p at hp
    simp [IntKind.wrap, IntKind.bits, IntKind.signed]; omega
  rw [e, e2]
  exact or_new m k h hk
end

section
open Go.ChangeShapes Go.WideShapes Go.ChangeAt Go.RowKit Go.IntWalk

theorem bit_at (m k : Nat) (hm : m < 256) : bits .and .u64 ((m : Int) / 2 ^ k) 1 = ((m / 2 ^ k % 2 : Nat) : Int) := by
  have h1 : m / 2 ^ k ≤ m := Nat.div_le_self _ _
  have e := (bits_nat .u64 63 (by decide) (fun n h0 h1 => by simp [IntKind.wrap, IntKind.bits, IntKind.signed]; omega) (m / 2 ^ k) 1 (by omega) (by decide)).1
  have e2 : ((m : Int) / 2 ^ k) = ((m / 2 ^ k : Nat) : Int) := by simp
  rw [e2, show (1 : Int) = ((1 : Nat) : Int) from rfl, e, Nat.and_one_is_mod]

set_option maxRecDepth 100000 in
set_option maxHeartbeats 1000000 in
theorem bitsOf_any (m : Nat) (w : World) (hm : m < 256) :
    Calls Tryz.prog 70 #[.int .u64 (m : Nat)] w fun e w' => ∃ g c, e = .returned (.slice (some ⟨g, 0, none⟩) (onesGo m 0 (Lib.bitLen m)).length c) ∧ w'.ownsRow w.heap.size 2 1 (.slice (some ⟨g, 0, none⟩) (onesGo m 0 (Lib.bitLen m)).length c) (onesGo m 0 (Lib.bitLen m)).length ((onesGo m 0 (Lib.bitLen m)).flatMap encI) ∧ Below w.heap.size w w' := by
  obtain ⟨i0, hi, hz0, hz1, hz2⟩ := info_parts infoI
  have hBs : Below w.heap.size w (w.alloc (.cells #[] 2)) := (Below.refl _ w).alloc (Nat.le_refl _) _
  have howns := World.ownsRow_made w #[] 0 (Nat.le_refl _) (by decide) rfl (e := 2) (size := 1)
  have hL := Lib.bitLen_le m 8 (by decide) (by omega)
  have HLen := Lib.hid (fun W => Tryz.bits_Len (m : Int) W (by omega) (by omega))
  have hm8 : ((m : Nat) : Int).toNat = m := by simp
  rw [hm8] at HLen
  generalize hN : Lib.bitLen m = N at hL HLen ⊢
  clear hm8
  go_enter Tryz.func70, Tryz.ntmps70
  go_wp2_with fail
  refine (HLen.out _).mono ?_
  rintro e w1 ⟨rfl, rfl⟩
  go_wp2
  go_loopw [3, 8] (fun s i wr => ∃ (k g c : Nat) (out : List Int), k ≤ N ∧ i = .int .i64 k ∧ s = .slice (some ⟨g, 0, none⟩) out.length c ∧ wr.ownsRow w.heap.size 2 1 (.slice (some ⟨g, 0, none⟩) out.length c) out.length (out.flatMap encI) ∧ Below w.heap.size w wr ∧ Hid (out = onesGo m 0 k)) (fun _ i _ => N - (intOf i).toNat)
  case atStart => exact ⟨0, _, _, [], Nat.zero_le _, rfl, rfl, howns, hBs, rfl⟩
  case round =>
    clear howns hBs HLen
    obtain ⟨k, g, c, out, hk, rfl, rfl, hown, hB, hM⟩ := hrel
    have hlen := onesGo_len m k 0
    rw [← hM.out] at hlen
    by_cases hlt : k < N
    · have hlt' : (k : Int) < (N : Int) := by omega
      have hst := onesGo_snoc m k 0
      rw [← hM.out, Nat.zero_add] at hst
      have hbit := bit_at m k hm
      by_cases h1 : m / 2 ^ k % 2 = 1
      · rw [if_pos h1] at hst
        rw [h1] at hbit
        have hst := Lib.hid hst
        clear h1
        go_wp2_with (at_builtin; refine wpList_append_own _ rfl _ _ 46 rfl w.heap.size 2 i0 (.int .i64 0) 1 8 Tryz.underlying46 hi hz0 hz1 hz2 rfl (by decide) _ _ _ rfl (hown.alloc _) ⟨wr.heap.size, 0, none⟩ 1 1 [.int .i64 k] rfl rfl (cell_one_new _ _ _) ?c2 ?c3 ?c4 ?c5 ?_)
        case c2 => intro u hu; simp at hu; subst hu; rfl
        case c3 => unfold maxLen; omega
        case c4 => omega
        case c5 => have := hB.size; simp; omega
        intro v' w4 hown' hgr _
        have hB' := (hB.alloc hB.size (.cells #[.int .i64 k] 2)).grown hgr (Nat.le_trans hB.size (by simp)) (fun x hx => (hown.lt x hx).1)
        obtain ⟨g', c', rfl⟩ := formJ hown' (by omega)
        clear hgr hown hB hM
        go_wp2
        go_roundw
        case rel => exact ⟨k + 1, g', c', out ++ [(k : Int)], by omega, by go_num, by rw [List.length_append]; rfl, by rw [List.length_append, List.flatMap_append]; exact hown', hB', hst.out.symm⟩
        case measure => simp [intOf]; omega
      · rw [if_neg h1, List.append_nil] at hst
        have h0 : m / 2 ^ k % 2 = 0 := by omega
        rw [h0] at hbit
        have hst := Lib.hid hst
        clear h1 h0 hM
        go_wp2
        go_roundw
        case rel => exact ⟨k + 1, g, c, out, by omega, by go_num, rfl, hown, hB, hst.out.symm⟩
        case measure => simp [intOf]; omega
    · have hlt' : decide ((k : Int) < (N : Int)) = false := by simp; omega
      obtain rfl : k = N := by omega
      have hM := hM.out
      subst hM
      go_wp2
      go_ret
      exact ⟨g, c, rfl, hown, hB⟩
end

section
open Go.ChangeShapes Go.WideShapes Go.ChangeAt Go.RowKit Go.IntWalk

/-- Which clauses fail on a day. -/
def failL (rs : List Rg) (cs : List Cl) (n : Int) : List Bool := cs.map fun c => !holdB rs c n
theorem failL_len (rs : List Rg) (cs : List Cl) (n : Int) : (failL rs cs n).length = cs.length := by simp [failL]
theorem failL_at {rs : List Rg} {cs : List Cl} {n : Int} {k : Nat} {c : Cl} (h : cs[k]? = some c) : (failL rs cs n)[k]? = some (!holdB rs c n) := by simp [failL, h]
theorem mask_take {bs : List Bool} {k : Nat} {b : Bool} (h : bs[k]? = some b) : maskB (bs.take (k + 1)) = maskB (bs.take k) + b.toNat * 2 ^ k := by
  obtain ⟨hk, rfl⟩ := List.getElem?_eq_some_iff.1 h
  rw [List.take_succ_eq_append_getElem hk, maskB_snoc, List.length_take, Nat.min_eq_left (Nat.le_of_lt hk)]
theorem mask_lt_take (bs : List Bool) (k : Nat) : maskB (bs.take k) < 2 ^ k :=
  Nat.lt_of_lt_of_le (maskB_lt _) (Nat.pow_le_pow_right (by decide) (by simp; omega))
theorem pow_le_128 {k : Nat} (h : k < 8) : 2 ^ k ≤ 128 := (Nat.pow_le_pow_right (by decide) (by omega : k ≤ 7) : 2 ^ k ≤ 2 ^ 7)

set_option maxRecDepth 100000 in
set_option maxHeartbeats 1000000 in
theorem failing_any (a0 a1 : Option Addr) (cap0 cap1 : Nat) (rs : List Rg) (f t : Int) (cs : List Cl) (n : Int) (w : World) (hl0 : rs.length ≤ 1048576) (hx0 : Rd encRg w a0 rs) (hfr : ∀ r ∈ rs, 0 ≤ r.fr) (hl1 : cs.length ≤ 8) (hx1 : Rd encCl w a1 cs) (hok : ∀ c ∈ cs, okCl c = true) (hn0 : 0 ≤ n) (hn : n ≤ 730499) :
    Calls Tryz.prog 69 #[.agg #[.slice a0 rs.length cap0, .int .i64 f, .int .i64 t], .slice a1 cs.length cap1, .int .i64 n] w fun e w' => e = .returned (.int .u64 (maskB (failL rs cs n) : Nat)) ∧ Below w.heap.size w w' := by
  have hA := At.start w [.slice a0 rs.length cap0, .int .i64 f, .int .i64 t] 43
  have HH := Lib.hid (fun c W (h : At w [.slice a0 rs.length cap0, .int .i64 f, .int .i64 t] W) (hc : c ∈ cs) => holds_any a0 cap0 rs c n W (hok c hc) hl0 (hx0.below h.below) hfr hn0 hn)
  have hlen := failL_len rs cs n
  have hat := Lib.hid (fun k c h => failL_at (rs := rs) (cs := cs) (n := n) (k := k) (c := c) h)
  have hV : Hid (maskB (failL rs cs n) = maskB ((failL rs cs n).take cs.length)) := by unfold Hid; rw [← hlen, List.take_length]
  generalize failL rs cs n = L at hlen hat hV ⊢
  generalize maskB L = V at hV ⊢
  go_enter Tryz.func69, Tryz.ntmps69
  go_wp2
  go_loopw [7, 12] (fun s i wr => ∃ (k m : Nat), k ≤ cs.length ∧ i = .int .i64 k ∧ s = .int .u64 (m : Nat) ∧ Hid (m = maskB (L.take k)) ∧ At w [.slice a0 rs.length cap0, .int .i64 f, .int .i64 t] wr) (fun _ i _ => cs.length - (intOf i).toNat)
  case atStart => exact ⟨0, 0, Nat.zero_le _, rfl, rfl, rfl, hA⟩
  case round =>
    clear hA
    obtain ⟨k, m, hk, rfl, rfl, hq, hA⟩ := hrel
    by_cases hlt : k < cs.length
    · have hlt' : (k : Int) < (cs.length : Int) := by omega
      have hm := List.getElem?_eq_getElem hlt
      have hmem := List.getElem_mem hlt
      generalize cs[k] = c at hm hmem
      have hst := Lib.hid (mask_take (hat.out k c hm))
      have hmb := mask_lt_take L k
      rw [← hq.out] at hmb
      have hpw := pow_le_128 (k := k) (by omega)
      have hor := Lib.hid (or_wrap m k hmb (by omega))
      obtain ⟨b, off, rfl, hb, c0, c1, c2, c3, c4, c5, c6, c7⟩ := (hx1.below hA.below).cl hm
      have HHc := Lib.hid (fun W h => HH.out c W h hmem)
      clear hm hmem
      go_upto_region 5 with (fail)
      generalize hW : wr.alloc (.cells #[.int .i64 c.kind, .int .i64 c.number, .int .i64 c.month, .int .i64 c.feast, .int .i64 c.relation, .int .i64 c.weekday, .int .i64 c.style, .string c.king] 31) = W
      have hA := hA.step (by rw [← hW]; go_grown : Below wr.heap.size wr W)
      have hd : wr.heap.size < W.heap.size := by rw [← hW]; simp
      have e0 := hA.cell 0 _ rfl
      have D0 : W.cell? ⟨wr.heap.size, 0, none⟩ = some (.int .i64 c.kind) := by rw [← hW]; exact World.cell?_alloc_at _ _ _ _ rfl
      have D1 : W.cell? ⟨wr.heap.size, 1, none⟩ = some (.int .i64 c.number) := by rw [← hW]; exact World.cell?_alloc_at _ _ _ _ rfl
      have D2 : W.cell? ⟨wr.heap.size, 2, none⟩ = some (.int .i64 c.month) := by rw [← hW]; exact World.cell?_alloc_at _ _ _ _ rfl
      have D3 : W.cell? ⟨wr.heap.size, 3, none⟩ = some (.int .i64 c.feast) := by rw [← hW]; exact World.cell?_alloc_at _ _ _ _ rfl
      have D4 : W.cell? ⟨wr.heap.size, 4, none⟩ = some (.int .i64 c.relation) := by rw [← hW]; exact World.cell?_alloc_at _ _ _ _ rfl
      have D5 : W.cell? ⟨wr.heap.size, 5, none⟩ = some (.int .i64 c.weekday) := by rw [← hW]; exact World.cell?_alloc_at _ _ _ _ rfl
      have D6 : W.cell? ⟨wr.heap.size, 6, none⟩ = some (.int .i64 c.style) := by rw [← hW]; exact World.cell?_alloc_at _ _ _ _ rfl
      have D7 : W.cell? ⟨wr.heap.size, 7, none⟩ = some (.string c.king) := by rw [← hW]; exact World.cell?_alloc_at _ _ _ _ rfl
      clear hW c0 c1 c2 c3 c4 c5 c6 c7 hb
      cases hg : holdB rs c n
      · have HHc := Lib.hid (fun W h => hg ▸ HHc.out W h)
        have hst := Lib.hid (hg ▸ hst.out)
        go_wp2_with fail
        refine (HHc.out _ hA).mono ?_
        rintro e w2 ⟨rfl, hB2⟩
        go_wp2
        go_roundw
        case rel => exact ⟨k + 1, m + 2 ^ k, by omega, by go_num, by exact congrArg (Value.int IntKind.u64) hor.out, by unfold Hid; rw [hst.out, ← hq.out]; simp, hA.step hB2⟩
        case measure => simp [intOf]; omega
      · have HHc := Lib.hid (fun W h => hg ▸ HHc.out W h)
        have hst := Lib.hid (hg ▸ hst.out)
        go_wp2_with fail
        refine (HHc.out _ hA).mono ?_
        rintro e w2 ⟨rfl, hB2⟩
        go_wp2
        go_roundw
        case rel => exact ⟨k + 1, m, by omega, by go_num, rfl, by unfold Hid; rw [hst.out, ← hq.out]; simp, hA.step hB2⟩
        case measure => simp [intOf]; omega
    · have hlt' : decide ((k : Int) < (cs.length : Int)) = false := by simp; omega
      obtain rfl : k = cs.length := by omega
      obtain rfl : m = V := hq.out.trans hV.out.symm
      go_wp2
      go_ret
      exact ⟨rfl, hA.below⟩
end
end Go.Proofs.YteajkofgcmfaoaaGreatDoor
