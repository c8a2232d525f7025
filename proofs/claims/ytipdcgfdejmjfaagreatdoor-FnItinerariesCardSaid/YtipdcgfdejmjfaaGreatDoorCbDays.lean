/- Walks: CouldBeDays. Printed by gen_cb2.py. -/
import Derived.Test.YtipdcgfdejmjfaaGreatDoorSpPlain
import Derived.Test.YtipdcgfdejmjfaaGreatDoorItinS
import Derived.Test.YtipdcgfdejmjfaaGreatDoorSpUni
import Derived.Test.YtipdcgfdejmjfaaGreatDoorTrDays
import Derived.Test.YtipdcgfdejmjfaaGreatDoorRSt
import Derived.Deep.CutRange
import Derived.BigRegion
import Derived.Deep.AppendLies
import Derived.Deep.RegionHeldLaw
import Derived.Test.YtipdcgfdejmjfaaGreatDoorPlaceOn
import Derived.Test.YtipdcgfdejmjfaaGreatDoorSpHas
namespace Go.Proofs.YtipdcgfdejmjfaaGreatDoor
section
theorem Ed.symm' {ws : List Wy} {i j : Nat} {d : Int} (h : Ed ws i j d) : Ed ws j i d := by
  obtain ⟨m, hm, hd, h⟩ := h
  exact ⟨m, hm, hd, h.elim (fun h => .inr ⟨h.2, h.1⟩) (fun h => .inl ⟨h.2, h.1⟩)⟩
def gapF (T : Nat → Int) (xs : List St) (i : Nat) : Int := match prevOf xs i with
  | some b => b.to + max 1 (T b.place.toNat)
  | none => 0
def gapT (T : Nat → Int) (xs : List St) (i : Nat) : Int := match xs[i]? with
  | some s => s.fr - max 1 (T s.place.toNat)
  | none => 730499
def gapL (T : Nat → Int) (xs : List St) (i : Nat) : List Sp := if gapF T xs i ≤ gapT T xs i then [⟨gapF T xs i, gapT T xs i⟩] else []
def stL (p : Int) (xs : List St) (i : Nat) : List Sp := match xs[i]? with
  | some s => if s.place = p then [⟨s.fr, s.to⟩] else []
  | none => []
def cbl (p : Int) (T : Nat → Int) (xs : List St) : Nat → List Sp
  | 0 => []
  | k + 1 => cbl p T xs k ++ gapL T xs k ++ stL p xs k
theorem gapL_len (T : Nat → Int) (xs : List St) (i : Nat) : (gapL T xs i).length ≤ 1 := by
  unfold gapL; split <;> simp
theorem stL_len (p : Int) (xs : List St) (i : Nat) : (stL p xs i).length ≤ 1 := by
  unfold stL
  split
  · split <;> simp
  · simp
theorem cbl_len (p : Int) (T : Nat → Int) (xs : List St) : ∀ k, (cbl p T xs k).length ≤ 2 * k
  | 0 => Nat.le_refl _
  | k + 1 => by
    have h1 := cbl_len p T xs k
    have h2 := gapL_len T xs k
    have h3 := stL_len p xs k
    unfold cbl
    simp only [List.length_append]
    omega
theorem cbl_ok {n : Nat} {p : Int} {T : Nat → Int} {xs : List St} (hx : ∀ x ∈ xs, okSt n x = true) : ∀ k, ∀ s ∈ cbl p T xs k, OkSp 0 730499 s
  | 0, s, h => by cases h
  | k + 1, s, h => by
    unfold cbl at h
    rcases List.mem_append.1 h with h | h
    · rcases List.mem_append.1 h with h | h
      · exact cbl_ok hx k s h
      · unfold gapL at h
        split at h
        · rename_i hle
          obtain rfl := List.mem_singleton.1 h
          have h1 : 0 ≤ gapF T xs k := by
            unfold gapF
            split
            · rename_i b hb
              have hm : b ∈ xs := by
                cases k with
                | zero => cases hb
                | succ k => exact List.mem_of_getElem? hb
              have := okSt_bd (hx b hm)
              omega
            · omega
          have h2 : gapT T xs k ≤ 730499 := by
            unfold gapT
            split
            · rename_i b hb
              have := okSt_bd (hx b (List.mem_of_getElem? hb))
              omega
            · omega
          exact ⟨h1, hle, h2⟩
        · cases h
    · unfold stL at h
      split at h
      · rename_i b hb
        split at h
        · obtain rfl := List.mem_singleton.1 h
          have h1 := hx b (List.mem_of_getElem? hb)
          have h2 := okSt_bd h1
          unfold okSt spanB at h1
          simp only [Bool.and_eq_true, decide_eq_true_eq] at h1
          exact ⟨h2.2.1, h1.2.2, h2.2.2.2.2⟩
        · cases h
      · cases h
theorem walk_symm {ws : List Wy} {i j : Nat} {c : Int} (h : Walk ws i j c) : Walk ws j i c := by
  induction h with
  | nil => exact .nil
  | snoc _ e ih => rw [Int.add_comm]; exact e.symm'.walk.trans ih
theorem travM_symm {n : Nat} {ws : List Wy} (ho : OkW n ws) {i j : Nat} (hi : i < n) (hj : j < n) : travM n ws i j = travM n ws j i := by
  have h1 := travM_snd ho i j hi hj
  have h2 := travM_snd ho j i hj hi
  by_cases c1 : travM n ws i j < 1000000
  · have := travM_le ho hj hi (walk_symm (h1.2.2 c1))
    by_cases c2 : travM n ws j i < 1000000
    · have := travM_le ho hi hj (walk_symm (h2.2.2 c2)); omega
    · omega
  · by_cases c2 : travM n ws j i < 1000000
    · have := travM_le ho hi hj (walk_symm (h2.2.2 c2)); omega
    · omega
end

section
open Go.ChangeShapes Go.WideShapes Go.ChangeAt Go.RowKit

theorem set_grown (w : World) (q j : Nat) (u : Value) : w.grownBy (w.setCell ⟨q, j, none⟩ u) (some q) := ⟨rfl, rfl, rfl, by simp, fun i _ hi => heap_setCell_other _ _ _ _ (fun e => hi (by rw [e]))⟩
def addL (F t : Int) : List Sp := if F ≤ t then [⟨F, t⟩] else []
/-- A captured slice variable at q and its own row. -/
structure Cap (B : Nat) (w : World) (q g c : Nat) (out : List Sp) : Prop where
  cell : w.cell? ⟨q, 0, none⟩ = some (.slice (some ⟨g, 0, none⟩) out.length c)
  froz : w.frozen? ⟨q, 0, none⟩ = false
  ne : q ≠ g
  own : w.ownsRow B 112 2 (.slice (some ⟨g, 0, none⟩) out.length c) out.length (out.flatMap encSp)
  lt : q < w.heap.size
theorem Cap.below {B : Nat} {w w' : World} {q g c : Nat} {out : List Sp} (h : Cap B w q g c out) (hB : Below w.heap.size w w') : Cap B w' q g c out :=
  ⟨(hB.cell (p := ⟨q, 0, none⟩) h.lt).trans h.cell, (hB.frozen (p := ⟨q, 0, none⟩) h.lt).trans h.froz, h.ne, own_below h.own hB, Nat.lt_of_lt_of_le h.lt hB.size⟩

set_option maxHeartbeats 1000000 in
theorem add_any (B q g c : Nat) (out : List Sp) (F t : Int) (w : World) (h : Cap B w q g c out) (hB : B ≤ w.heap.size) (hlen : out.length ≤ 1000) :
    Calls Tryz.prog 89 #[.int .i64 F, .int .i64 t, .pointer (some ⟨q, 0, none⟩)] w fun e w' => e = .returned (.tuple #[]) ∧ (∃ g' c', Cap B w' q g' c' (out ++ addL F t)) ∧ ∃ w1, w.grownBy w1 (some g) ∧ w1.grownBy w' (some q) := by
  obtain ⟨i0, hi, hz0, hz1, hz2⟩ := info_parts infoSp
  obtain ⟨hc, hf, hne, hown, hlt⟩ := h
  have hgo := own_lt hown
  by_cases hle : F ≤ t
  · have hL : addL F t = [⟨F, t⟩] := if_pos hle
    go_enter Tryz.func89, Tryz.ntmps89
    go_wp2_with (at_builtin; refine wpList_append_lies _ rfl _ _ 57 rfl B 112 i0 (.agg #[.int .i64 0, .int .i64 0]) 2 16 Tryz.underlying57 hi hz0 hz1 hz2 rfl (by decide) _ _ _ rfl (hown.alloc _) ⟨w.heap.size, 0, none⟩ 1 1 [.int .i64 F, .int .i64 t] rfl rfl (cell_two_new _ _ _ _) ?c2 (by decide) ?c3 ?c4 ?c5 _ rfl ?_)
    case c2 => first | exact ⟨rfl, rfl⟩ | rfl | (intro u hu; simp at hu; rcases hu with rfl | rfl <;> rfl) | (intro u hu; simp at hu; subst hu; rfl)
    case c3 => unfold maxLen; omega
    case c4 => omega
    case c5 => first | omega | (simp; omega)
    intro g' c' w4 hown' hgr hat hlt4
    have hBw := (Below.refl w.heap.size w).alloc (Nat.le_refl _) (.cells #[.int .i64 F, .int .i64 t] 112)
    have hqx : ∀ x, Value.ownBlock (.slice (some ⟨g, 0, none⟩) out.length c) = some x → q ≠ x := fun x hx => by
      have h1 : g = x := by simpa [Value.ownBlock] using hx
      omega
    have q1 := (gcell hgr (p := ⟨q, 0, none⟩) (by simp; omega) hqx).trans ((hBw.cell (p := ⟨q, 0, none⟩) hlt).trans hc)
    have f1 : w4.frozen? ⟨q, 0, none⟩ = false := (World.frozen?_of_block (hgr.block q (by simp; omega) (by simp [Value.ownBlock]; exact hne))).trans ((hBw.frozen (p := ⟨q, 0, none⟩) hlt).trans hf)
    have hq4 : q < w4.heap.size := Nat.lt_of_lt_of_le hlt (Nat.le_trans hBw.size hgr.size)
    have hne' : q ≠ g' := by
      rcases hat with h | h
      · have : g = g' := by simpa [Value.ownBlock] using h
        omega
      · first | omega | (simp at h; omega)
    have hG : w.grownBy w4 (some g) := gT ⟨hBw.os, hBw.tape, hBw.output, hBw.size, fun j hj _ => hBw.block j hj⟩ hgr
    clear hgr hown hat hc hf
    go_wp2
    go_end0
    refine ⟨rfl, ⟨g', c', ⟨?_, ?_, hne', ?_, ?_⟩⟩, w4, hG, set_grown _ _ _ _⟩
    · rw [hL, List.length_append]
      exact World.cell?_setCell_same _ _ _ q1
    · rw [World.frozen?_setCell]; exact f1
    · rw [hL, List.length_append, List.flatMap_append]
      exact own_setOther hown' (p := ⟨q, 0, none⟩) (show q ≠ g' from hne') _
    · simpa using hq4
  · have hL : addL F t = [] := if_neg hle
    go_enter Tryz.func89, Tryz.ntmps89
    go_wp2
    go_end0
    first
      | exact ⟨rfl, ⟨g, c, ⟨hc, hf, hne, hown, hlt⟩⟩, w, World.grownBy.refl _ _, World.grownBy.refl _ _⟩
      | (rw [hL, List.append_nil]; exact ⟨rfl, ⟨g, c, ⟨hc, hf, hne, hown, hlt⟩⟩, w, World.grownBy.refl _ _, World.grownBy.refl _ _⟩)

theorem gapF_at {T : Nat → Int} {xs : List St} {k : Nat} {m : St} (h : xs[k]? = some m) : gapF T xs (k + 1) = m.to + max 1 (T m.place.toNat) := by
  have e : prevOf xs (k + 1) = some m := h
  unfold gapF; rw [e]
theorem gapT_at {T : Nat → Int} {xs : List St} {k : Nat} {m : St} (h : xs[k]? = some m) : gapT T xs k = m.fr - max 1 (T m.place.toNat) := by unfold gapT; rw [h]
theorem gapT_end {T : Nat → Int} {xs : List St} {k : Nat} (h : xs.length ≤ k) : gapT T xs k = 730499 := by unfold gapT; rw [List.getElem?_eq_none h]
theorem gapL_add (T : Nat → Int) (xs : List St) (k : Nat) : gapL T xs k = addL (gapF T xs k) (gapT T xs k) := rfl
theorem stL_at {p : Int} {xs : List St} {k : Nat} {m : St} (h : xs[k]? = some m) : stL p xs k = if m.place = p then [⟨m.fr, m.to⟩] else [] := by unfold stL; rw [h]
theorem stL_end {p : Int} {xs : List St} {k : Nat} (h : xs.length ≤ k) : stL p xs k = [] := by unfold stL; rw [List.getElem?_eq_none h]

set_option maxRecDepth 100000 in
set_option maxHeartbeats 4000000 in
theorem couldBeDays_any (a2 : Option Addr) (cap2 H cH n p B0 : Nat) (gm : Nat → Nat) (M : Nat → Nat → Int) (xs2 : List St) (w : World) (hp : p < n) (hM : Mat B0 w H cH n n gm M) (hMb : ∀ a b, a < n → b < n → 0 ≤ M a b ∧ M a b ≤ 1000000) (hl2 : xs2.length ≤ 40) (hx2 : Rd encSt w a2 xs2) (ho : ∀ x ∈ xs2, okSt n x = true) :
    Calls Tryz.prog 41 #[.slice (some ⟨H, 0, none⟩) n cH, .slice a2 xs2.length cap2, .int .i64 p] w fun e w' => ∃ g c, e = .returned (.slice (some ⟨g, 0, none⟩) (uni (cbl p (fun v => M v p) xs2 (xs2.length + 1))).length c) ∧ w'.ownsRow w.heap.size 112 2 (.slice (some ⟨g, 0, none⟩) (uni (cbl p (fun v => M v p) xs2 (xs2.length + 1))).length c) (uni (cbl p (fun v => M v p) xs2 (xs2.length + 1))).length ((uni (cbl p (fun v => M v p) xs2 (xs2.length + 1))).flatMap encSp) ∧ Below w.heap.size w w' := by
  have hmf : ∀ (fn : Fn) (first cap : Array Value) (w : World), (Instr.makeFunc fn first cap).run Tryz.prog w = .ok (.func fn first cap) w := fun _ _ _ _ => rfl
  obtain ⟨T, hT⟩ : ∃ T : Nat → Int, T = fun v => M v p := ⟨_, rfl⟩
  have HTv : Hid (∀ v, M v p = T v) := fun v => by rw [hT]
  have hTb : ∀ v, v < n → 0 ≤ T v ∧ T v ≤ 1000000 := fun v hv => by rw [hT]; exact hMb v p hv hp
  have hok := cbl_ok (p := (p : Int)) (T := T) ho (xs2.length + 1)
  have hcl := cbl_len (p : Int) T xs2 (xs2.length + 1)
  have HU := Lib.hid (fun g cap W (h : Rd encSp W (some ⟨g, 0, none⟩) (cbl p T xs2 (xs2.length + 1))) => united_any g 0 cap _ (cbl p T xs2 (xs2.length + 1)) W rfl (by omega) h hok)
  have hCL := Lib.hid (fun k => cbl_len (p : Int) T xs2 k)
  have hCS : Hid (∀ k, cbl (p : Int) T xs2 (k + 1) = cbl (p : Int) T xs2 k ++ gapL T xs2 k ++ stL p xs2 k) := fun _ => rfl
  have hC0 : Hid (cbl (p : Int) T xs2 0 = []) := rfl
  have HADD := Lib.hid (fun q g c out F t W (h : Cap w.heap.size W q g c out) hB hl => add_any w.heap.size q g c out F t W h hB hl)
  rw [← hT]
  clear hT hMb hcl hok
  generalize hcb : cbl (p : Int) T xs2 = cb at HU hCL hCS hC0 ⊢
  clear hcb
  have hpn : (p : Int) < (n : Int) := by omega
  go_enter Tryz.func41, Tryz.ntmps41
  go_wp2_with fail
  generalize hW0 : ((w.alloc (.cells #[] 112)).alloc (.cells #[.slice (some ⟨w.heap.size, 0, none⟩) 0 0] 57)) = W0
  have hB0 : Below w.heap.size w W0 := by rw [← hW0]; go_grown
  have hcap0 : Cap w.heap.size W0 (w.heap.size + 1) w.heap.size 0 [] := by
    rw [← hW0]
    refine ⟨World.cell?_alloc_at _ _ _ _ (by simp), World.frozen?_alloc_at _ _ _ _ (by simp), by omega, ?_, by simp⟩
    exact own_below (World.ownsRow_made w #[] 0 (Nat.le_refl _) (by decide) rfl) ((Below.refl _ _).alloc (Nat.le_refl _) _)
  clear hW0
  obtain ⟨q, hq⟩ : ∃ q, q = w.heap.size + 1 := ⟨_, rfl⟩
  rw [← hq] at hcap0 ⊢
  have HWQ : Hid (w.heap.size ≤ q) := by unfold Hid; omega
  clear hq
  go_loopw [9, 20] (fun low i wr => ∃ (k g c : Nat) (L : Int), k ≤ xs2.length ∧ i = .int .i64 k ∧ low = .int .i64 L ∧ (k = 0 → L = 0) ∧ Cap w.heap.size wr q g c (cb k) ∧ Below w.heap.size w wr) (fun _ i _ => xs2.length - (intOf i).toNat)
  case atStart => exact ⟨0, w.heap.size, 0, 0, Nat.zero_le _, rfl, rfl, fun _ => rfl, hC0.out ▸ hcap0, hB0⟩
  case round =>
    clear hcap0 hB0
    obtain ⟨k, g, c, L, hk, rfl, rfl, hL0, hcap, hB⟩ := hrel
    have hcl := hCL.out k
    by_cases hlt : k < xs2.length
    · have hk1 : (k : Int) < (xs2.length : Int) := by omega
      have hm := List.getElem?_eq_getElem hlt
      generalize xs2[k] = m at hm
      obtain ⟨⟨A, hmA, hAn⟩, hmf, hmf2, hmt, hmt2⟩ := okSt_bd (ho m (List.mem_of_getElem? hm))
      have hft : m.fr ≤ m.to := by
        have := ho m (List.mem_of_getElem? hm)
        unfold okSt spanB at this
        simp only [Bool.and_eq_true, decide_eq_true_eq] at this
        exact this.2.2
      have hgT := gapT_at (T := T) hm
      have hst := stL_at (p := (p : Int)) hm
      obtain ⟨b, off, rfl, hb, c0, c1, c2⟩ := (hx2.below hB).st hm
      obtain ⟨mp, mf, mt⟩ := m
      simp only at hmA hmf hmf2 hmt hmt2 hft hgT hst c0 c1 c2
      subst hmA
      rw [Int.toNat_natCast] at hgT
      have hTA := hTb A hAn
      have hAi : (A : Int) < (n : Int) := by omega
      have hgo := own_lt hcap.own
      have hqlt := hcap.lt
      go_upto_region 7 with (fail)
      generalize hW : wr.alloc (.cells #[.int .i64 A, .int .i64 mf, .int .i64 mt] 49) = W
      have hBW : Below wr.heap.size wr W := by rw [← hW]; go_grown
      have D0 : W.cell? ⟨wr.heap.size, 0, none⟩ = some (.int .i64 A) := by rw [← hW]; exact World.cell?_alloc_at _ _ _ _ rfl
      have D1 : W.cell? ⟨wr.heap.size, 1, none⟩ = some (.int .i64 mf) := by rw [← hW]; exact World.cell?_alloc_at _ _ _ _ rfl
      have D2 : W.cell? ⟨wr.heap.size, 2, none⟩ = some (.int .i64 mt) := by rw [← hW]; exact World.cell?_alloc_at _ _ _ _ rfl
      have hdl : wr.heap.size < W.heap.size := by rw [← hW]; simp
      have hbx1 : wr.heap.size ≠ q := Nat.ne_of_gt hqlt
      have hbx2 : wr.heap.size ≠ g := Nat.ne_of_gt hgo.2
      have hcap := hcap.below hBW
      have hB := stepB hB hBW hB.size
      clear hW c0 c1 c2 hb hBW
      generalize wr.heap.size = bx at D0 D1 D2 hdl hbx1 hbx2 ⊢
      have q0 := (hM.below hB).hcell hAn
      have q1 := (hM.below hB).cell hAn hp
      rw [HTv.out] at q1
      go_upto_if 34 with fail
      go_cut [9, 13] from 34 to 54 (fun s9 _ wx => s9 = .int .i64 (gapF T xs2 k) ∧ Below W.heap.size W wx)
      case first =>
        by_cases h0 : k = 0
        · subst h0
          obtain rfl := hL0 rfl
          go_wp2_with fail
          go_meet
          exact ⟨rfl, Below.refl _ _⟩
        · have hk0 : (0 : Int) < (k : Int) := by omega
          have hw1 : IntKind.i64.wrap ((k : Int) - 1) = ((k - 1 : Nat) : Int) := by rw [IntKind.wrap_i64]; omega
          have hk2 : ((k - 1 : Nat) : Int) < (xs2.length : Int) := by omega
          have hm := List.getElem?_eq_getElem (show k - 1 < xs2.length by omega)
          generalize xs2[k - 1] = m at hm
          have hgF := gapF_at (T := T) hm
          rw [show k - 1 + 1 = k by omega] at hgF
          obtain ⟨⟨A', hmA, hAn'⟩, _, _, hmt, hmt2⟩ := okSt_bd (ho m (List.mem_of_getElem? hm))
          obtain ⟨b', off', e', _, e0, e1, e2⟩ := (hx2.below hB).st hm
          obtain ⟨mp', mf', mt'⟩ := m
          simp only at hmA hmt hmt2 hgF e0 e1 e2
          subst hmA
          rw [Int.toNat_natCast] at hgF
          first
            | (simp only [Option.some.injEq, Addr.mk.injEq, and_true] at e'; obtain ⟨rfl, rfl⟩ := e')
            | subst e'
          have hTA' := hTb A' hAn'
          have hAi' : (A' : Int) < (n : Int) := by omega
          go_upto_region 10 with (fail)
          generalize hW : W.alloc (.cells #[.int .i64 A', .int .i64 mf', .int .i64 mt'] 49) = W2
          have hBW : Below W.heap.size W W2 := by rw [← hW]; go_grown
          have F0 : W2.cell? ⟨W.heap.size, 0, none⟩ = some (.int .i64 A') := by rw [← hW]; exact World.cell?_alloc_at _ _ _ _ rfl
          have F2 : W2.cell? ⟨W.heap.size, 2, none⟩ = some (.int .i64 mt') := by rw [← hW]; exact World.cell?_alloc_at _ _ _ _ rfl
          have hB2 := stepB hB hBW hB.size
          have p0 := (hM.below hB2).hcell hAn'
          have p1 := (hM.below hB2).cell hAn' hp
          rw [HTv.out] at p1
          have hv1 : IntKind.i64.wrap (mt' + 1) = mt' + 1 := by rw [IntKind.wrap_i64]; omega
          have hv2 : IntKind.i64.wrap (mt' + T A') = mt' + T A' := by rw [IntKind.wrap_i64]; omega
          have hmax : max (mt' + 1) (mt' + T A') = mt' + max 1 (T A') := by omega
          have HGF := Lib.hid hgF
          clear hW hgF
          go_wp2_with fail
          go_still (by kernel_rfl)
          go_wp2_with fail
          go_meet
          exact ⟨by rw [HGF.out], hBW.drew⟩
      case rest =>
        obtain ⟨rfl, hz⟩ := hcut
        have hcap := hcap.below hz
        have hB := stepB hB hz hB.size
        have D0 := (hz.cell (p := ⟨bx, 0, none⟩) hdl).trans D0
        have D1 := (hz.cell (p := ⟨bx, 1, none⟩) hdl).trans D1
        have D2 := (hz.cell (p := ⟨bx, 2, none⟩) hdl).trans D2
        have hdl := Nat.lt_of_lt_of_le hdl hz.size
        clear hz q0 q1 hL0
        generalize wc = W3 at hcap hB D0 D1 D2 hdl ⊢
        have hw1 : IntKind.i64.wrap (mf - 1) = mf - 1 := by rw [IntKind.wrap_i64]; omega
        have hw2 : IntKind.i64.wrap (mf - T A) = mf - T A := by rw [IntKind.wrap_i64]; omega
        have hmin : min (mf - 1) (mf - T A) = mf - max 1 (T A) := by omega
        have hadd := HADD.out q g c (cb k) (gapF T xs2 k) (mf - max 1 (T A)) W3 hcap hB.size (by omega)
        rw [show addL (gapF T xs2 k) (mf - max 1 (T A)) = gapL T xs2 k by rw [gapL_add, hgT]] at hadd
        clear hgT
        have HA1 := Lib.hid hadd
        clear hadd
        go_wp2_with fail
        refine HA1.out.mono ?_
        rintro e w4 ⟨rfl, ⟨g4, c4, hcap4⟩, w5, hg5, hg6⟩
        have hgo3 := own_lt hcap.own
        have hql3 := hcap.lt
        have hlt5 := Nat.lt_of_lt_of_le hdl hg5.size
        have D0 := (gcell hg6 (p := ⟨bx, 0, none⟩) hlt5 (fun x hx => by cases hx; exact hbx1)).trans ((gcell hg5 (p := ⟨bx, 0, none⟩) hdl (fun x hx => by cases hx; exact hbx2)).trans D0)
        have D1 := (gcell hg6 (p := ⟨bx, 1, none⟩) hlt5 (fun x hx => by cases hx; exact hbx1)).trans ((gcell hg5 (p := ⟨bx, 1, none⟩) hdl (fun x hx => by cases hx; exact hbx2)).trans D1)
        have D2 := (gcell hg6 (p := ⟨bx, 2, none⟩) hlt5 (fun x hx => by cases hx; exact hbx1)).trans ((gcell hg5 (p := ⟨bx, 2, none⟩) hdl (fun x hx => by cases hx; exact hbx2)).trans D2)
        have hwq := HWQ.out
        have hB4 : Below w.heap.size w w4 := (hB.grown hg5 hB.size (fun j h => by cases h; exact hgo3.1)).grown hg6 (Nat.le_trans hB.size hg5.size) (fun j h => by cases h; exact hwq)
        have hgl := gapL_len T xs2 k
        have hstep := Lib.hid (hCS.out k)
        clear hg5 hg6 hcap hB HA1 hdl hbx1 hbx2 hmin
        by_cases hAp : A = p
        · subst hAp
          rw [if_pos rfl] at hst
          have hadd := HADD.out q g4 c4 (cb k ++ gapL T xs2 k) mf mt w4 hcap4 hB4.size (by simp; omega)
          have hL : addL mf mt = [⟨mf, mt⟩] := if_pos hft
          rw [hL, ← hst, ← hstep.out] at hadd
          have HA2 := Lib.hid hadd
          have hgo4 := own_lt hcap4.own
          clear hadd hL
          go_wp2_with fail
          refine HA2.out.mono ?_
          rintro e w6 ⟨rfl, ⟨g6, c6, hcap6⟩, w7, hg7, hg8⟩
          have hB6 : Below w.heap.size w w6 := (hB4.grown hg7 hB4.size (fun j h => by cases h; exact hgo4.1)).grown hg8 (Nat.le_trans hB4.size hg7.size) (fun j h => by cases h; exact hwq)
          clear hg7 hg8 HA2 hcap4 hB4 D0 D1 D2
          go_wp2
          go_roundw
          case rel => exact ⟨k + 1, g6, c6, gapF T xs2 k, by omega, by go_num, rfl, by omega, hcap6, hB6⟩
          case measure => simp [intOf]; omega
        · have hne : ¬ (A : Int) = (p : Int) := by omega
          have hne2 : ((A : Int) == (p : Int)) = false := by simpa using hne
          rw [if_neg hne] at hst
          rw [hst, List.append_nil] at hstep
          rw [← hstep.out] at hcap4
          go_wp2
          go_roundw
          case rel => exact ⟨k + 1, g4, c4, gapF T xs2 k, by omega, by go_num, rfl, by omega, hcap4, hB4⟩
          case measure => simp [intOf]; omega
    · obtain rfl : k = xs2.length := by omega
      have hkk : ¬ (xs2.length : Int) < (xs2.length : Int) := by omega
      go_upto_if 80 with fail
      go_cut [9, 15] from 80 to 100 (fun s9 _ wx => s9 = .int .i64 (gapF T xs2 xs2.length) ∧ Below wr.heap.size wr wx)
      case first =>
        by_cases h0 : xs2.length = 0
        · obtain rfl := hL0 h0
          have hgF : gapF T xs2 xs2.length = 0 := by rw [h0]; rfl
          have h0' : ¬ (0 : Int) < (xs2.length : Int) := by omega
          have h0'' : ¬ 0 < xs2.length := by omega
          have HGF := Lib.hid hgF
          clear h0 hgF
          go_wp2_with fail
          go_meet
          exact ⟨by rw [HGF.out], Below.refl _ _⟩
        · have hk0 : (0 : Int) < (xs2.length : Int) := by omega
          have hw1 : IntKind.i64.wrap ((xs2.length : Int) - 1) = ((xs2.length - 1 : Nat) : Int) := by rw [IntKind.wrap_i64]; omega
          have hk2 : ((xs2.length - 1 : Nat) : Int) < (xs2.length : Int) := by omega
          have hm := List.getElem?_eq_getElem (show xs2.length - 1 < xs2.length by omega)
          generalize xs2[xs2.length - 1] = m at hm
          have hgF := gapF_at (T := T) hm
          rw [show xs2.length - 1 + 1 = xs2.length by omega] at hgF
          obtain ⟨⟨A', hmA, hAn'⟩, _, _, hmt, hmt2⟩ := okSt_bd (ho m (List.mem_of_getElem? hm))
          obtain ⟨b', off', e', _, e0, e1, e2⟩ := (hx2.below hB).st hm
          obtain ⟨mp', mf', mt'⟩ := m
          simp only at hmA hmt hmt2 hgF e0 e1 e2
          subst hmA
          rw [Int.toNat_natCast] at hgF
          first
            | (simp only [Option.some.injEq, Addr.mk.injEq, and_true] at e'; obtain ⟨rfl, rfl⟩ := e')
            | subst e'
          have hTA' := hTb A' hAn'
          have hAi' : (A' : Int) < (n : Int) := by omega
          go_upto_region 18 with (fail)
          generalize hW : wr.alloc (.cells #[.int .i64 A', .int .i64 mf', .int .i64 mt'] 49) = W2
          have hBW : Below wr.heap.size wr W2 := by rw [← hW]; go_grown
          have F0 : W2.cell? ⟨wr.heap.size, 0, none⟩ = some (.int .i64 A') := by rw [← hW]; exact World.cell?_alloc_at _ _ _ _ rfl
          have F2 : W2.cell? ⟨wr.heap.size, 2, none⟩ = some (.int .i64 mt') := by rw [← hW]; exact World.cell?_alloc_at _ _ _ _ rfl
          have hB2 := stepB hB hBW hB.size
          have p0 := (hM.below hB2).hcell hAn'
          have p1 := (hM.below hB2).cell hAn' hp
          rw [HTv.out] at p1
          have hv1 : IntKind.i64.wrap (mt' + 1) = mt' + 1 := by rw [IntKind.wrap_i64]; omega
          have hv2 : IntKind.i64.wrap (mt' + T A') = mt' + T A' := by rw [IntKind.wrap_i64]; omega
          have hmax : max (mt' + 1) (mt' + T A') = mt' + max 1 (T A') := by omega
          have HGF := Lib.hid hgF
          clear hW hgF
          go_wp2_with fail
          go_still (by kernel_rfl)
          go_wp2_with fail
          go_meet
          exact ⟨by rw [HGF.out], hBW.drew⟩
      case rest =>
        obtain ⟨rfl, hz⟩ := hcut
        have hcap := hcap.below hz
        have hB := stepB hB hz hB.size
        clear hz hL0
        generalize wc = W3 at hcap hB ⊢
        have hadd := HADD.out q g c (cb xs2.length) (gapF T xs2 xs2.length) (gapT T xs2 xs2.length) W3 hcap hB.size (by omega)
        have hstep := hCS.out xs2.length
        rw [stL_end (Nat.le_refl _), List.append_nil] at hstep
        rw [← gapL_add, ← hstep, gapT_end (Nat.le_refl _)] at hadd
        have HA1 := Lib.hid hadd
        have hgo3 := own_lt hcap.own
        clear hadd hstep
        go_wp2_with fail
        refine HA1.out.mono ?_
        rintro e w4 ⟨rfl, ⟨g4, c4, hcap4⟩, w5, hg5, hg6⟩
        have hwq := HWQ.out
        have hB4 : Below w.heap.size w w4 := (hB.grown hg5 hB.size (fun j h => by cases h; exact hgo3.1)).grown hg6 (Nat.le_trans hB.size hg5.size) (fun j h => by cases h; exact hwq)
        have hqc := hcap4.cell
        have hrd := Rd.of_own encSp_len (by decide) hcap4.own
        clear hg5 hg6 HA1 hcap hB
        go_wp2_with fail
        refine (HU.out _ _ _ hrd).mono ?_
        rintro e w6 ⟨g6, c6, rfl, ho6, hB6⟩
        go_wp2
        go_ret
        exact ⟨_, _, rfl, own_base ho6 hB4.size, stepB hB4 hB6 hB4.size⟩
end

section
open Go.ChangeShapes Go.WideShapes Go.ChangeAt Go.RowKit

theorem keepH {w1 w w4 : World} {r : Option Nat} (hB : Below w.heap.size w w1) (hg : w1.grownBy w4 r) {p : Addr} {v : Value} (hp : p.block < w.heap.size) (hn : ∀ g, r = some g → p.block ≠ g) (hc : w.cell? p = some v) : w4.cell? p = some v :=
  ((gcell hg (Nat.lt_of_lt_of_le hp hB.size) hn).trans (hB.cell hp)).trans hc
/-- The result's box and the box of s. -/
structure GapW (n : Nat) (W : World) (f t : Int) : Prop where
  r0 : W.cell? ⟨n, 0, none⟩ = some (.int .i64 0)
  r1 : W.cell? ⟨n, 1, none⟩ = some (.int .i64 0)
  fr : ∀ j, W.frozen? ⟨n, j, none⟩ = false
  s0 : W.cell? ⟨n + 1, 0, none⟩ = some (.int .i64 f)
  s1 : W.cell? ⟨n + 1, 1, none⟩ = some (.int .i64 t)
  fs : ∀ j, W.frozen? ⟨n + 1, j, none⟩ = false
  lt : n + 1 < W.heap.size
theorem GapW.below {n : Nat} {W W' : World} {f t : Int} (h : GapW n W f t) (hB : Below W.heap.size W W') : GapW n W' f t :=
  have h0 : n < W.heap.size := Nat.lt_of_succ_lt h.lt
  ⟨(hB.cell (p := ⟨n, 0, none⟩) h0).trans h.r0, (hB.cell (p := ⟨n, 1, none⟩) h0).trans h.r1, fun j => (hB.frozen (p := ⟨n, j, none⟩) h0).trans (h.fr j), (hB.cell (p := ⟨n + 1, 0, none⟩) h.lt).trans h.s0, (hB.cell (p := ⟨n + 1, 1, none⟩) h.lt).trans h.s1, fun j => (hB.frozen (p := ⟨n + 1, j, none⟩) h.lt).trans (h.fs j), Nat.lt_of_lt_of_le h.lt hB.size⟩
theorem GapW.set0 {n : Nat} {W : World} {f t : Int} (h : GapW n W f t) (v : Int) : GapW n (W.setCell ⟨n + 1, 0, none⟩ (.int .i64 v)) v t :=
  ⟨(cell_set_other (by simp)).trans h.r0, (cell_set_other (by simp)).trans h.r1, fun j => (World.frozen?_setCell _ _ _ _).trans (h.fr j), World.cell?_setCell_same _ _ _ h.s0, (cell_set_other (by simp)).trans h.s1, fun j => (World.frozen?_setCell _ _ _ _).trans (h.fs j), by simpa using h.lt⟩
theorem GapW.set1 {n : Nat} {W : World} {f t : Int} (h : GapW n W f t) (v : Int) : GapW n (W.setCell ⟨n + 1, 1, none⟩ (.int .i64 v)) f v :=
  ⟨(cell_set_other (by simp)).trans h.r0, (cell_set_other (by simp)).trans h.r1, fun j => (World.frozen?_setCell _ _ _ _).trans (h.fr j), (cell_set_other (by simp)).trans h.s0, World.cell?_setCell_same _ _ _ h.s1, fun j => (World.frozen?_setCell _ _ _ _).trans (h.fs j), by simpa using h.lt⟩

set_option maxRecDepth 100000 in
set_option maxHeartbeats 4000000 in
theorem l15Gap_any (a2 : Option Addr) (cap2 gw n k B0 : Nat) (f T : Nat → Int) (xs2 : List St) (w : World) (hf : ∀ v, v < n → 0 ≤ T v ∧ T v ≤ 1000000 ∧ f v = if T v < 1000000 then T v else -1) (hw : w.ownsRow B0 2 1 (.slice (some ⟨gw, 0, none⟩) n n) n (rowI n f)) (hl2 : xs2.length ≤ 40) (hx2 : Rd encSt w a2 xs2) (ho : ∀ x ∈ xs2, okSt n x = true) (hk : k ≤ xs2.length) :
    Calls Tryz.prog 94 #[.slice a2 xs2.length cap2, .slice (some ⟨gw, 0, none⟩) n n, .int .i64 k] w fun e w' => ∃ F t, e = .returned (.tuple #[.agg #[.int .i64 F, .int .i64 t], .bool (decide (gapF T xs2 k ≤ gapT T xs2 k))]) ∧ (gapF T xs2 k ≤ gapT T xs2 k → F = gapF T xs2 k ∧ t = gapT T xs2 k) ∧ Below w.heap.size w w' := by
  have hGT : gapT T xs2 k ≤ 730499 := by
    by_cases h : k < xs2.length
    · have hm := List.getElem?_eq_getElem h
      generalize xs2[k] = m at hm
      obtain ⟨_, h1, h2, _⟩ := okSt_bd (ho m (List.mem_of_getElem? hm))
      rw [gapT_at hm]; omega
    · rw [gapT_end (by omega)]; omega
  have hGF : 0 ≤ gapF T xs2 k := by
    by_cases h : k = 0
    · subst h; exact Int.le_refl _
    · have hm := List.getElem?_eq_getElem (show k - 1 < xs2.length by omega)
      generalize xs2[k - 1] = m at hm
      obtain ⟨_, _, _, h1, h2⟩ := okSt_bd (ho m (List.mem_of_getElem? hm))
      have := gapF_at (T := T) hm
      rw [show k - 1 + 1 = k by omega] at this
      rw [this]; omega
  go_enter Tryz.func94, Tryz.ntmps94
  go_upto_if 13 with fail
  generalize hW0 : ((w.alloc (.cells #[.int .i64 0, .int .i64 0] 112)).alloc (.cells #[.int .i64 0, .int .i64 730499] 112)) = W0
  have hB0 : Below w.heap.size w W0 := by rw [← hW0]; go_grown
  have hG0 : GapW w.heap.size W0 0 730499 := by
    rw [← hW0]
    refine ⟨?_, ?_, fun j => ?_, World.cell?_alloc_at _ _ _ _ (by simp), World.cell?_alloc_at _ _ _ _ (by simp), fun j => World.frozen?_alloc_at _ _ _ _ (by simp), by simp⟩
    · rw [World.cell?_alloc_past _ _ _ (by simp)]; exact World.cell?_alloc_at _ _ _ _ rfl
    · rw [World.cell?_alloc_past _ _ _ (by simp)]; exact World.cell?_alloc_at _ _ _ _ rfl
    · rw [World.frozen?_alloc_past _ _ _ (by simp)]; exact World.frozen?_alloc_at _ _ _ _ rfl
  clear hW0
  go_cut [9] from 13 to 35 (fun _ wx => GapW w.heap.size wx (gapF T xs2 k) 730499 ∧ Below w.heap.size w wx)
  case first =>
    by_cases h0 : k = 0
    · subst h0
      go_wp2_with fail
      go_meet
      exact ⟨hG0, hB0⟩
    · have hk0 : (0 : Int) < (k : Int) := by omega
      have hw1 : IntKind.i64.wrap ((k : Int) - 1) = ((k - 1 : Nat) : Int) := by rw [IntKind.wrap_i64]; omega
      have hk2 : ((k - 1 : Nat) : Int) < (xs2.length : Int) := by omega
      have hm := List.getElem?_eq_getElem (show k - 1 < xs2.length by omega)
      generalize xs2[k - 1] = m at hm
      have hgF := gapF_at (T := T) hm
      rw [show k - 1 + 1 = k by omega] at hgF
      obtain ⟨⟨A, hmA, hAn⟩, _, _, hmt, hmt2⟩ := okSt_bd (ho m (List.mem_of_getElem? hm))
      obtain ⟨b, off, rfl, hb, c0, c1, c2⟩ := (hx2.below hB0).st hm
      obtain ⟨mp, mf, mt⟩ := m
      simp only at hmA hmt hmt2 hgF c0 c1 c2
      subst hmA
      rw [Int.toNat_natCast] at hgF
      have hfA := hf A hAn
      have hAi : (A : Int) < (n : Int) := by omega
      go_upto_region 4 with (fail)
      generalize hW : W0.alloc (.cells #[.int .i64 A, .int .i64 mf, .int .i64 mt] 49) = W
      have hBW : Below W0.heap.size W0 W := by rw [← hW]; go_grown
      have D0 : W.cell? ⟨W0.heap.size, 0, none⟩ = some (.int .i64 A) := by rw [← hW]; exact World.cell?_alloc_at _ _ _ _ rfl
      have D2 : W.cell? ⟨W0.heap.size, 2, none⟩ = some (.int .i64 mt) := by rw [← hW]; exact World.cell?_alloc_at _ _ _ _ rfl
      have hG := hG0.below hBW
      have hB := stepB hB0 hBW hB0.size
      have p1 := own_rowI (own_below hw hB) hAn
      obtain ⟨r0, r1, fr, s0, s1, fs, hlt⟩ := hG
      have f0 := fs 0
      have f1 := fr 0
      have f2 := fr 1
      clear hW hBW c0 c1 c2 hb hG0 hB0
      generalize W0.heap.size = bx at D0 D2
      by_cases hr : T A < 1000000
      · have hfv : f A = T A := hfA.2.2.trans (if_pos hr)
        have hv0 : ¬ T A < 0 := by omega
        have hv1 : IntKind.i64.wrap (mt + max 1 (T A)) = mt + max 1 (T A) := by rw [IntKind.wrap_i64]; omega
        rw [hfv] at p1
        have hset := (GapW.mk r0 r1 fr s0 s1 fs hlt).set0 (mt + max 1 (T A))
        have HSET := Lib.hid hset
        have HB' := Lib.hid hB
        have HGF := Lib.hid hgF
        clear hset hgF
        go_upto_region 6 with (fail)
        go_region
        go_wp2_with fail
        go_meet
        exact ⟨HGF.out ▸ HSET.out.below (Below.refl _ _).drew, (HB'.out.setCell (by simp) _).drew⟩
      · have hfv : f A = -1 := hfA.2.2.trans (if_neg hr)
        rw [hfv] at p1
        have hd : decide (gapF T xs2 k ≤ gapT T xs2 k) = false := decide_eq_false (by omega)
        have HD := Lib.hid hd
        clear hd hgF
        have y0 : ∀ a, (W.setCell ⟨w.heap.size, 0, none⟩ a).cell? ⟨w.heap.size, 0, none⟩ = some a := fun a => World.cell?_setCell_same _ _ _ r0
        have y1 : ∀ a c, ((W.setCell ⟨w.heap.size, 0, none⟩ a).setCell ⟨w.heap.size, 1, none⟩ c).cell? ⟨w.heap.size, 1, none⟩ = some c := fun a c => World.cell?_setCell_same _ _ _ ((cell_set_other (by simp)).trans r1)
        go_wp2
        refine bodyPost_ret_by (v := .tuple #[.agg #[.int .i64 0, .int .i64 730499], .bool false]) ?_ rfl ?_
        · simp [results, go_sem, y0, y1]
        · rw [HD.out]
          exact ⟨_, _, rfl, fun h => absurd h (of_decide_eq_false HD.out), (hB.setCell (Nat.le_refl _) _).setCell (Nat.le_refl _) _⟩
  case rest =>
    obtain ⟨hG0, hB0⟩ := hcut
    generalize wc = W0 at hG0 hB0 ⊢
    go_upto_if 39 with fail
    go_cut [10] from 39 to 60 (fun _ wx => GapW w.heap.size wx (gapF T xs2 k) (gapT T xs2 k) ∧ Below w.heap.size w wx)
    case first =>
      by_cases h0 : k < xs2.length
      · have hk1 : (k : Int) < (xs2.length : Int) := by omega
        have hm := List.getElem?_eq_getElem h0
        generalize xs2[k] = m at hm
        have hgT := gapT_at (T := T) hm
        obtain ⟨⟨A, hmA, hAn⟩, hmf, hmf2, _⟩ := okSt_bd (ho m (List.mem_of_getElem? hm))
        obtain ⟨b, off, rfl, hb, c0, c1, c2⟩ := (hx2.below hB0).st hm
        obtain ⟨mp, mf, mt⟩ := m
        simp only at hmA hmf hmf2 hgT c0 c1 c2
        subst hmA
        rw [Int.toNat_natCast] at hgT
        have hfA := hf A hAn
        have hAi : (A : Int) < (n : Int) := by omega
        go_upto_region 9 with (fail)
        generalize hW : W0.alloc (.cells #[.int .i64 A, .int .i64 mf, .int .i64 mt] 49) = W
        have hBW : Below W0.heap.size W0 W := by rw [← hW]; go_grown
        have D0 : W.cell? ⟨W0.heap.size, 0, none⟩ = some (.int .i64 A) := by rw [← hW]; exact World.cell?_alloc_at _ _ _ _ rfl
        have D1 : W.cell? ⟨W0.heap.size, 1, none⟩ = some (.int .i64 mf) := by rw [← hW]; exact World.cell?_alloc_at _ _ _ _ rfl
        have hG := hG0.below hBW
        have hB := stepB hB0 hBW hB0.size
        have p1 := own_rowI (own_below hw hB) hAn
        obtain ⟨r0, r1, fr, s0, s1, fs, hlt⟩ := hG
        have f0 := fs 1
        have f1 := fr 0
        have f2 := fr 1
        clear hW hBW c0 c1 c2 hb hG0 hB0
        generalize W0.heap.size = bx at D0 D1
        by_cases hr : T A < 1000000
        · have hfv : f A = T A := hfA.2.2.trans (if_pos hr)
          have hv0 : ¬ T A < 0 := by omega
          have hv1 : IntKind.i64.wrap (mf - max 1 (T A)) = mf - max 1 (T A) := by rw [IntKind.wrap_i64]; omega
          rw [hfv] at p1
          have hset := (GapW.mk r0 r1 fr s0 s1 fs hlt).set1 (mf - max 1 (T A))
          have HSET := Lib.hid hset
          have HB' := Lib.hid hB
          have HGT := Lib.hid hgT
          clear hset hgT hGT
          go_upto_region 11 with (fail)
          go_region
          go_wp2_with fail
          go_meet
          exact ⟨HGT.out ▸ HSET.out.below (Below.refl _ _).drew, (HB'.out.setCell (by simp) _).drew⟩
        · have hfv : f A = -1 := hfA.2.2.trans (if_neg hr)
          rw [hfv] at p1
          have hd : decide (gapF T xs2 k ≤ gapT T xs2 k) = false := decide_eq_false (by omega)
          have HD := Lib.hid hd
          clear hd hgT hGT
          have y0 : ∀ a, (W.setCell ⟨w.heap.size, 0, none⟩ a).cell? ⟨w.heap.size, 0, none⟩ = some a := fun a => World.cell?_setCell_same _ _ _ r0
          have y1 : ∀ a c, ((W.setCell ⟨w.heap.size, 0, none⟩ a).setCell ⟨w.heap.size, 1, none⟩ c).cell? ⟨w.heap.size, 1, none⟩ = some c := fun a c => World.cell?_setCell_same _ _ _ ((cell_set_other (by simp)).trans r1)
          go_wp2
          refine bodyPost_ret_by (v := .tuple #[.agg #[.int .i64 (gapF T xs2 k), .int .i64 730499], .bool false]) ?_ rfl ?_
          · simp [results, go_sem, y0, y1]
          · rw [HD.out]
            exact ⟨_, _, rfl, fun h => absurd h (of_decide_eq_false HD.out), (hB.setCell (Nat.le_refl _) _).setCell (Nat.le_refl _) _⟩
      · have hgT := gapT_end (T := T) (show xs2.length ≤ k by omega)
        have hk1 : ¬ (k : Int) < (xs2.length : Int) := by omega
        rw [← hgT] at hG0
        have HG := Lib.hid hG0
        clear hgT hG0 hGT
        go_wp2_with fail
        go_meet
        exact ⟨HG.out, hB0⟩
    case rest =>
      obtain ⟨hG, hB⟩ := hcut
      generalize wc = W at hG hB ⊢
      clear hG0 hB0 hGT hGF hf
      obtain ⟨r0, r1, fr, s0, s1, fs, hlt⟩ := hG
      have f1 := fr 0
      have f2 := fr 1
      have y0 : ∀ a, (W.setCell ⟨w.heap.size, 0, none⟩ a).cell? ⟨w.heap.size, 0, none⟩ = some a := fun a => World.cell?_setCell_same _ _ _ r0
      have y1 : ∀ a c, ((W.setCell ⟨w.heap.size, 0, none⟩ a).setCell ⟨w.heap.size, 1, none⟩ c).cell? ⟨w.heap.size, 1, none⟩ = some c := fun a c => World.cell?_setCell_same _ _ _ ((cell_set_other (by simp)).trans r1)
      go_wp2_with fail
      go_region
      go_wp2
      refine bodyPost_ret_by (v := .tuple #[.agg #[.int .i64 (gapF T xs2 k), .int .i64 (gapT T xs2 k)], .bool (decide (gapF T xs2 k ≤ gapT T xs2 k))]) ?_ rfl ?_
      · simp [results, go_sem, y0, y1]
      · exact ⟨_, _, rfl, fun _ => ⟨rfl, rfl⟩, ((hB.setCell (Nat.le_refl _) _).setCell (Nat.le_refl _) _).drew⟩

set_option maxRecDepth 100000 in
set_option maxHeartbeats 4000000 in
theorem l15Days_any (a0 a1 a2 : Option Addr) (cap0 cap1 cap2 p : Nat) (xs0 : List ByteArray) (xs1 : List Wy) (xs2 : List St) (w : World) (hA : isLandB xs0 xs1 = true) (hp : p < xs0.length) (hl2 : xs2.length ≤ 40) (hx1 : Rd encWy w a1 xs1) (hx2 : Rd encSt w a2 xs2) (ho : ∀ x ∈ xs2, okSt xs0.length x = true) :
    Calls Tryz.prog 47 #[.agg #[.slice a0 xs0.length cap0, .slice a1 xs1.length cap1], .slice a2 xs2.length cap2, .int .i64 p] w fun e w' => ∃ g c, e = .returned (.slice (some ⟨g, 0, none⟩) (uni (cbl p (fun v => travM xs0.length xs1 v p) xs2 (xs2.length + 1))).length c) ∧ w'.ownsRow w.heap.size 112 2 (.slice (some ⟨g, 0, none⟩) (uni (cbl p (fun v => travM xs0.length xs1 v p) xs2 (xs2.length + 1))).length c) (uni (cbl p (fun v => travM xs0.length xs1 v p) xs2 (xs2.length + 1))).length ((uni (cbl p (fun v => travM xs0.length xs1 v p) xs2 (xs2.length + 1))).flatMap encSp) ∧ Below w.heap.size w w' := by
  obtain ⟨i0, hi, hz0, hz1, hz2⟩ := info_parts infoSp
  obtain ⟨h1, _, _, _⟩ := landOk hA
  obtain ⟨T, hT⟩ : ∃ T : Nat → Int, T = fun v => travM xs0.length xs1 v p := ⟨_, rfl⟩
  have hTv : ∀ v, v < xs0.length → 0 ≤ T v ∧ T v ≤ 1000000 ∧ distF xs0.length xs1 p v = if T v < 1000000 then T v else -1 := fun v hv => by
    have hb := trav_bd hA hv hp
    rw [hT]
    refine ⟨hb.1, hb.2, ?_⟩
    show distF xs0.length xs1 p v = if travM xs0.length xs1 v p < 1000000 then travM xs0.length xs1 v p else -1
    unfold distF
    rw [travM_symm h1.ok hp hv]
  have HF := Lib.hid (fun W (h1 : Rd encWy W a1 xs1) => fromDist_any a0 a1 cap0 cap1 p xs0 xs1 W hA hp h1)
  have hok := cbl_ok (p := (p : Int)) (T := T) ho (xs2.length + 1)
  have hcl := cbl_len (p : Int) T xs2 (xs2.length + 1)
  have HU := Lib.hid (fun g cap W (h : Rd encSp W (some ⟨g, 0, none⟩) (cbl p T xs2 (xs2.length + 1))) => l02Make_any (some ⟨g, 0, none⟩) cap _ (cbl p T xs2 (xs2.length + 1)) W rfl (by omega) h hok)
  have hCL := Lib.hid (fun k => cbl_len (p : Int) T xs2 k)
  have hCS : Hid (∀ k, cbl (p : Int) T xs2 (k + 1) = cbl (p : Int) T xs2 k ++ gapL T xs2 k ++ stL p xs2 k) := fun _ => rfl
  have hC0 : Hid (cbl (p : Int) T xs2 0 = []) := rfl
  rw [← hT]
  clear hT hcl hok hA h1
  generalize hcb : cbl (p : Int) T xs2 = cb at HU hCL hCS hC0 ⊢
  generalize xs0.length = n at *
  generalize distF n xs1 p = f at HF hTv
  clear hcb
  have HGAP := Lib.hid (fun gw k W hw h2 hk => l15Gap_any a2 cap2 gw n k w.heap.size f T xs2 W hTv hw hl2 h2 ho hk)
  go_enter Tryz.func47, Tryz.ntmps47
  go_wp2_with fail
  generalize hW : w.alloc (.cells #[.slice a0 n cap0, .slice a1 xs1.length cap1] 35) = W
  have hA0 : At w [.slice a0 n cap0, .slice a1 xs1.length cap1] W := hW ▸ At.start _ _ _
  clear hW
  refine (HF.out _ (hx1.below hA0.below)).mono ?_
  rintro e w1 ⟨gw, rfl, hrow, hB1⟩
  have hA1 := hA0.step hB1
  have hrow := own_base hrow hA0.below.size
  have hBo := (Below.refl _ w1).alloc (Nat.le_refl _) (.cells #[] 112)
  have hown0 := World.ownsRow_made w1 #[] 0 (show w.heap.size + 1 ≤ w1.heap.size from hA1.size) (by decide) rfl (e := 112) (size := 2)
  have hne0 : w1.heap.size ≠ gw := Nat.ne_of_gt (own_lt hrow).2
  have hrow := own_below hrow hBo
  have hA2 := hA1.step hBo
  clear hA0 hA1 hB1 HF hBo
  go_wp2
  go_loopw [8, 9] (fun s8 i wx => ∃ (k : Nat), k ≤ xs2.length + 1 ∧ i = .int .i64 k ∧ ∃ (g' c' : Nat), s8 = .slice (some ⟨g', 0, none⟩) (cb k).length c' ∧ g' ≠ gw ∧ wx.ownsRow (w.heap.size + 1) 112 2 (.slice (some ⟨g', 0, none⟩) (cb k).length c') (cb k).length ((cb k).flatMap encSp) ∧ wx.ownsRow w.heap.size 2 1 (.slice (some ⟨gw, 0, none⟩) n n) n (rowI n f) ∧ At w [.slice a0 n cap0, .slice a1 xs1.length cap1] wx) (fun _ i _ => xs2.length + 1 - (intOf i).toNat)
  case atStart => exact ⟨0, by omega, rfl, w1.heap.size, 0, by rw [hC0.out]; rfl, hne0, by rw [hC0.out]; exact hown0, hrow, hA2⟩
  case round =>
    clear hown0 hrow hA2 hne0
    rename_i wr
    obtain ⟨k, hk, rfl, g, c, rfl, hne, hown, hrow, hAt⟩ := hrel
    have hcl := hCL.out k
    by_cases hlt : k < xs2.length + 1
    · have hk1 : (k : Int) ≤ (xs2.length : Int) := by omega
      have hgl := gapL_len T xs2 k
      have hgd : gapL T xs2 k = if gapF T xs2 k ≤ gapT T xs2 k then [⟨gapF T xs2 k, gapT T xs2 k⟩] else [] := rfl
      have hstep := Lib.hid (hCS.out k)
      go_wp2_with fail
      refine (HGAP.out gw k wr hrow (hx2.below hAt.below) (by omega)).mono ?_
      rintro e w2 ⟨F, t, rfl, hFt, hB2⟩
      have hown := own_below hown hB2
      have hrow := own_below hrow hB2
      have hAt := hAt.step hB2
      clear hB2
      go_upto_if 29 with fail
      generalize hW : w2.alloc (.cells #[.int .i64 F, .int .i64 t] 112) = W
      have hBW : Below w2.heap.size w2 W := by rw [← hW]; go_grown
      have D0 : W.cell? ⟨w2.heap.size, 0, none⟩ = some (.int .i64 F) := by rw [← hW]; exact World.cell?_alloc_at _ _ _ _ rfl
      have D1 : W.cell? ⟨w2.heap.size, 1, none⟩ = some (.int .i64 t) := by rw [← hW]; exact World.cell?_alloc_at _ _ _ _ rfl
      have hown := own_below hown hBW
      have hrow := own_below hrow hBW
      have hAt := hAt.step hBW
      clear hW hBW
      go_cut [8, 11] from 22 to 33 (fun s8 _ wx => ∃ (g' c' : Nat), s8 = .slice (some ⟨g', 0, none⟩) (cb k ++ gapL T xs2 k).length c' ∧ g' ≠ gw ∧ wx.ownsRow (w.heap.size + 1) 112 2 (.slice (some ⟨g', 0, none⟩) (cb k ++ gapL T xs2 k).length c') (cb k ++ gapL T xs2 k).length ((cb k ++ gapL T xs2 k).flatMap encSp) ∧ wx.ownsRow w.heap.size 2 1 (.slice (some ⟨gw, 0, none⟩) n n) n (rowI n f) ∧ At w [.slice a0 n cap0, .slice a1 xs1.length cap1] wx)
      case first =>
        have hgo := own_lt hown
        have hgr' := own_lt hrow
        have hs := hAt.size
        by_cases hle : gapF T xs2 k ≤ gapT T xs2 k
        · have hgd : Hid (gapL T xs2 k = [⟨F, t⟩]) := by
            unfold Hid
            rw [hgd, if_pos hle, (hFt hle).1, (hFt hle).2]
          have hdd : decide (gapF T xs2 k ≤ gapT T xs2 k) = true := decide_eq_true hle
          clear hFt
          go_wp2_with (at_builtin; refine wpList_append_lies _ rfl _ _ 57 rfl (w.heap.size + 1) 112 i0 (.agg #[.int .i64 0, .int .i64 0]) 2 16 Tryz.underlying57 hi hz0 hz1 hz2 rfl (by decide) _ _ _ rfl (hown.alloc _) ⟨W.heap.size, 0, none⟩ 1 1 [.int .i64 F, .int .i64 t] rfl rfl (cell_two_new _ _ _ _) ?c2 (by decide) ?c3 ?c4 ?c5 _ rfl ?_)
          case c2 => first | exact ⟨rfl, rfl⟩ | rfl | (intro u hu; simp at hu; rcases hu with rfl | rfl <;> rfl) | (intro u hu; simp at hu; subst hu; rfl)
          case c3 => unfold maxLen; omega
          case c4 => omega
          case c5 => first | omega | (simp; omega)
          intro g' c' w4 hown' hgr hat _
          have hA4 := (hAt.step ((Below.refl _ W).alloc (Nat.le_refl _) (.cells #[.int .i64 F, .int .i64 t] 112))).grown hgr (fun x hx => (hown.lt x hx).1)
          have hrow' := own_keepOther (hrow.alloc _) hgr (fun e => hne e.symm)
          have hne' : g' ≠ gw := by
            rcases hat with h | h
            · have : g = g' := by simpa [Value.ownBlock] using h
              omega
            · omega
          clear hgr hown hAt hrow hat
          go_wp2_with fail
          go_meet
          rw [hgd.out]
          exact ⟨g', c', by simp, hne', by simpa [encSp] using hown', hrow', hA4⟩
        · have hgd : Hid (gapL T xs2 k = []) := hgd.trans (if_neg hle)
          have hdd : decide (gapF T xs2 k ≤ gapT T xs2 k) = false := decide_eq_false hle
          clear hFt
          go_wp2_with fail
          go_meet
          rw [hgd.out, List.append_nil]
          exact ⟨g, c, rfl, hne, hown, hrow, hAt⟩
      case rest =>
        clear hown hrow hAt D0 D1 hne hgd hFt
        obtain ⟨g, c, rfl, hne, hown, hrow, hAt⟩ := hcut
        generalize wc = wr at hown hrow hAt ⊢
        have hol : (cb k ++ gapL T xs2 k).length ≤ 200 := by simp; omega
        generalize cb k ++ gapL T xs2 k = out at hown hstep hol ⊢
        have hgo := own_lt hown
        have hgr' := own_lt hrow
        have hs := hAt.size
        by_cases hkl : k < xs2.length
        · have hk2 : (k : Int) < (xs2.length : Int) := by omega
          have hm := List.getElem?_eq_getElem hkl
          generalize xs2[k] = m at hm
          have hst := stL_at (p := (p : Int)) hm
          obtain ⟨b, off, rfl, hb, c0, c1, c2⟩ := (hx2.below hAt.below).st hm
          have hbg : b < w.heap.size := by
            obtain ⟨_, _, e, hbw, _⟩ := hx2.st hm
            simp only [Option.some.injEq, Addr.mk.injEq] at e
            omega
          clear hm
          by_cases hpe : m.place = (p : Int)
          · rw [if_pos hpe] at hst
            have hstep : Hid (cb (k + 1) = out ++ [⟨m.fr, m.to⟩]) := by unfold Hid; rw [hstep.out, hst]
            have hpe' : (m.place == (p : Int)) = true := by simpa using hpe
            clear hst
            go_upto_region 10 with (fail)
            go_region_held_law (fun w' => w'.cell? ⟨b, off + k * 3 + 1, none⟩ = some (.int .i64 m.fr) ∧ w'.cell? ⟨b, off + k * 3 + 2, none⟩ = some (.int .i64 m.to)) (first | exact ⟨c1, c2⟩ | exact ⟨((((Below.refl _ wr).drew).alloc (Nat.le_refl _) _).cell (p := ⟨b, off + k * 3 + 1, none⟩) hb).trans c1, ((((Below.refl _ wr).drew).alloc (Nat.le_refl _) _).cell (p := ⟨b, off + k * 3 + 2, none⟩) hb).trans c2⟩ | exact ⟨keepH (((Below.refl _ wr).drew).alloc (Nat.le_refl _) _) hgr hb (fun x hx => by have := (hown.lt x hx).1; simp only; omega) c1, keepH (((Below.refl _ wr).drew).alloc (Nat.le_refl _) _) hgr hb (fun x hx => by have := (hown.lt x hx).1; simp only; omega) c2⟩) (first | (refine step_append_lies _ (by rfl) (.tmp 47) (.tmp 59) 57 (by rfl) (w.heap.size + 1) 112 i0 (.agg #[.int .i64 0, .int .i64 0]) 2 16 Tryz.underlying57 hi hz0 hz1 hz2 rfl (by decide) (.slice (some ⟨g, 0, none⟩) out.length c) out.length (out.flatMap encSp) (by rfl) ((own_below hown (Below.refl _ wr).drew).alloc _) ⟨wr.heap.size, 0, none⟩ 1 1 [.int .i64 m.fr, .int .i64 m.to] (by rfl) rfl (World.news_of_block (heap_alloc_new _ _)) (by intro u hu; simp at hu; rcases hu with rfl | rfl <;> rfl) (by decide) (by unfold maxLen; omega) (by omega) (by simp; omega) _ rfl ?_; intro g' c' w4 hown' hgr hat hlt') | fail)
            have hA4 := (hAt.step (((Below.refl _ wr).drew).alloc (Nat.le_refl _) (.cells #[.int .i64 m.fr, .int .i64 m.to] 112))).grown hgr (fun x hx => (hown.lt x hx).1)
            have hrow' := own_keepOther (own_below hrow (((Below.refl _ wr).drew).alloc (Nat.le_refl _) (.cells #[.int .i64 m.fr, .int .i64 m.to] 112))) hgr (fun e => hne e.symm)
            have hne' : g' ≠ gw := by
              rcases hat with h | h
              · have : g = g' := by simpa [Value.ownBlock] using h
                omega
              · first | omega | (simp at h; omega)
            clear hgr hown hAt hrow hat c0 c1 c2
            go_wp2
            go_roundw
            case rel => exact ⟨k + 1, by omega, by go_num, g', c', by rw [hstep.out, List.length_append]; rfl, hne', by rw [hstep.out, List.length_append, List.flatMap_append]; exact hown', hrow', hA4⟩
            case measure => simp [intOf]; omega
          · rw [if_neg hpe] at hst
            have hstep : Hid (cb (k + 1) = out) := by unfold Hid; rw [hstep.out, hst, List.append_nil]
            have hpe' : (m.place == (p : Int)) = false := by simpa using hpe
            clear hst
            go_wp2
            go_roundw
            case rel => exact ⟨k + 1, by omega, by go_num, g, c, by rw [hstep.out], hne, by rw [hstep.out]; exact hown, hrow, hAt⟩
            case measure => simp [intOf]; omega
        · have hstep : Hid (cb (k + 1) = out) := by unfold Hid; rw [hstep.out, stL_end (by omega), List.append_nil]
          have hk2 : ¬ (k : Int) < (xs2.length : Int) := by omega
          go_wp2
          go_roundw
          case rel => exact ⟨k + 1, by omega, by go_num, g, c, by rw [hstep.out], hne, by rw [hstep.out]; exact hown, hrow, hAt⟩
          case measure => simp [intOf]; omega
    · obtain rfl : k = xs2.length + 1 := by omega
      have hrd := Rd.of_own encSp_len (by decide) hown
      have hkk : ¬ ((xs2.length + 1 : Nat) : Int) ≤ (xs2.length : Int) := by omega
      go_wp2_with fail
      refine (HU.out _ _ _ hrd).mono ?_
      rintro e w6 ⟨g6, c6, rfl, ho6, hB6⟩
      go_wp2
      go_ret
      exact ⟨_, _, rfl, own_base ho6 hAt.below.size, stepB hAt.below hB6 hAt.below.size⟩
end

section
open Go.ChangeShapes Go.WideShapes Go.ChangeAt Go.RowKit

theorem itin_facts {ps : List ByteArray} {ws : List Wy} {xs : List St} (h : isItinB ps ws xs = true) : isLandB ps ws = true ∧ (∀ x ∈ xs, okSt ps.length x = true) ∧ xs.length ≤ 40 := by
  unfold isItinB at h
  simp only [Bool.and_eq_true, decide_eq_true_eq] at h
  exact ⟨h.1.1, fun x hx => upGo_all h.1.2 x hx, h.2⟩
def cbdR (ps : List ByteArray) (ws : List Wy) (xs : List St) (p c : Int) : List Sp × Int :=
  if c = 0 then (uni (cbl p (fun v => travM ps.length ws v p.toNat) xs (xs.length + 1)), 0) else ([], c)
theorem cbdR_len (ps : List ByteArray) (ws : List Wy) (xs : List St) (p c : Int) (h : xs.length ≤ 1048576) (hc : c = 0 → xs.length ≤ 40) : (cbdR ps ws xs p c).1.length ≤ 1048576 := by
  unfold cbdR
  split
  · rename_i h0
    have h1 := uni_len (cbl p (fun v => travM ps.length ws v p.toNat) xs (xs.length + 1))
    have h2 := cbl_len p (fun v => travM ps.length ws v p.toNat) xs (xs.length + 1)
    have h3 := hc h0
    show (uni (cbl p (fun v => travM ps.length ws v p.toNat) xs (xs.length + 1))).length ≤ 1048576
    omega
  · simp
theorem cbdR_len' (ps : List ByteArray) (ws : List Wy) (xs : List St) (p : Int) (b : Bool) (h : xs.length ≤ 1048576) : (cbdR ps ws xs p (codeI ps ws xs b)).1.length ≤ 1048576 :=
  cbdR_len ps ws xs p _ h (fun h0 => (itin_facts (codeI_zero h0).1).2.2)























































set_option maxRecDepth 100000 in
set_option maxHeartbeats 4000000 in
theorem implCbDays_any (a0 a1 a2 : Option Addr) (cap0 cap1 cap2 : Nat) (xs0 : List ByteArray) (xs1 : List Wy) (xs2 : List St) (p : Int) (w : World) (hc0 : xs0.length ≤ cap0) (hc1 : cap0 ≤ 9223372036854775807) (hl0 : xs0.length ≤ 1048576) (hx0 : Rd encS w a0 xs0) (hs0 : ∀ m ∈ xs0, m.size ≤ 1048576) (hl1 : xs1.length ≤ 1048576) (hx1 : Rd encWy w a1 xs1) (hl2 : xs2.length ≤ 1048576) (hx2 : Rd encSt w a2 xs2) :
    Calls Tryz.prog 25 #[.agg #[.slice a0 xs0.length cap0, .slice a1 xs1.length cap1], .slice a2 xs2.length cap2, .int .i64 p] w fun e w' => ∃ b c, e = .returned (.tuple #[.slice b (cbdR xs0 xs1 xs2 p (codeI xs0 xs1 xs2 (placeB xs0.length p))).1.length c, .int .i64 (cbdR xs0 xs1 xs2 p (codeI xs0 xs1 xs2 (placeB xs0.length p))).2]) ∧ w'.ownsRow w.heap.size 112 2 (.slice b (cbdR xs0 xs1 xs2 p (codeI xs0 xs1 xs2 (placeB xs0.length p))).1.length c) (cbdR xs0 xs1 xs2 p (codeI xs0 xs1 xs2 (placeB xs0.length p))).1.length ((cbdR xs0 xs1 xs2 p (codeI xs0 xs1 xs2 (placeB xs0.length p))).1.flatMap encSp) ∧ Below w.heap.size w w' := by
  have HC := Lib.hid (fun W a3 a4 c3 c4 ys zs (hB : Below w.heap.size w W) (h3 : ys.length ≤ 1048576) (r3 : Rd encI W a3 ys) (h4 : zs.length ≤ 1048576) (r4 : Rd encI W a4 zs) => checkStays_any a0 a1 a2 a3 a4 cap0 cap1 cap2 c3 c4 xs0 xs1 xs2 ys zs W hc0 hc1 hl0 (hx0.below hB) hs0 hl1 (hx1.below hB) hl2 (hx2.below hB) h3 r3 h4 r4)
  have hfacts := Lib.hid (codeI_zero (ps := xs0) (ws := xs1) (xs := xs2) (b := placeB xs0.length p))
  have hRz : Hid (codeI xs0 xs1 xs2 (placeB xs0.length p) = 0 → cbdR xs0 xs1 xs2 p (codeI xs0 xs1 xs2 (placeB xs0.length p)) = (uni (cbl p (fun v => travM xs0.length xs1 v p.toNat) xs2 (xs2.length + 1)), 0)) := fun h => by unfold cbdR; rw [if_pos h]
  have hRn : Hid (codeI xs0 xs1 xs2 (placeB xs0.length p) ≠ 0 → cbdR xs0 xs1 xs2 p (codeI xs0 xs1 xs2 (placeB xs0.length p)) = ([], codeI xs0 xs1 xs2 (placeB xs0.length p))) := fun h => by unfold cbdR; rw [if_neg h]
  have hA0 : At w [.slice a0 xs0.length cap0, .slice a1 xs1.length cap1] ((w.alloc (.cells #[.slice a0 xs0.length cap0, .slice a1 xs1.length cap1] 35)).alloc (.cells #[.int .i64 p] 2)) := (At.start w _ _).step ((Below.refl _ _).alloc (Nat.le_refl _) _)
  have hrd : Rd encI ((w.alloc (.cells #[.slice a0 xs0.length cap0, .slice a1 xs1.length cap1] 35)).alloc (.cells #[.int .i64 p] 2)) (some ⟨w.heap.size + 1, 0, none⟩) [p] := by
    intro i x hi
    refine ⟨w.heap.size + 1, 0, rfl, by simp, fun j v hv => ?_⟩
    rw [World.cell?_alloc_at _ _ _ _ (by simp)]
    match i, hi with
    | 0, hi => cases hi; match j, hv with | 0, hv => cases hv; rfl
  have HRD := Lib.hid hrd
  clear hrd
  have hcc : codeI xs0 xs1 xs2 ([p].all (placeB xs0.length) && ([] : List Int).all dayB) = codeI xs0 xs1 xs2 (placeB xs0.length p) := by simp
  have HC := Lib.hid (fun W hB r3 => hcc ▸ HC.out W (some ⟨w.heap.size + 1, 0, none⟩) none 1 0 [p] [] hB (by simp) r3 (by simp) (Rd.nil _ _ _))
  clear hcc
  generalize codeI xs0 xs1 xs2 (placeB xs0.length p) = c at HC hfacts hRz hRn ⊢
  go_enter Tryz.func25, Tryz.ntmps25
  go_wp2_with fail
  refine (HC.out _ hA0.below HRD.out).mono ?_
  rintro e w1 ⟨rfl, hB1⟩
  have hA1 := hA0.step hB1
  clear hA0 hB1 HC HRD
  have b0 := hA1.cell 0 _ rfl
  have b1 := hA1.cell 1 _ rfl
  by_cases hc : c = 0
  · subst hc
    obtain ⟨hI, hpl⟩ := hfacts.out rfl
    obtain ⟨hA, ho, hl40⟩ := itin_facts hI
    obtain ⟨k, rfl, hk⟩ := place_nat hpl
    have hR := Lib.hid (hRz.out rfl)
    rw [Int.toNat_natCast] at hR
    clear hfacts hRz hRn hI hpl
    have HT := Lib.hid (fun W (hB : Below w.heap.size w W) => trav_any a0 a1 cap0 cap1 xs0 xs1 W hA (hx1.below hB))
    have HD := Lib.hid (fun B0 H cH gm W (hB : Below w.heap.size w W) (hM : Mat B0 W H cH xs0.length xs0.length gm (travM xs0.length xs1)) => couldBeDays_any a2 cap2 H cH xs0.length k B0 gm (travM xs0.length xs1) xs2 W hk hM (fun a b ha hb => trav_bd hA ha hb) hl40 (hx2.below hB) ho)
    go_wp2_with fail
    refine (HT.out _ hA1.below).mono ?_
    rintro e w2 ⟨H, cH, gm, rfl, hM, hB2⟩
    have hA2 := hA1.step hB2
    go_wp2_with fail
    refine (HD.out _ _ _ _ _ hA2.below hM).mono ?_
    rintro e w3 ⟨g, c, rfl, ho3, hB3⟩
    go_wp2
    go_ret2
    rw [hR.out]
    exact ⟨_, _, rfl, own_base ho3 hA2.below.size, (hA2.step hB3).below⟩
  · have hR := Lib.hid (hRn.out hc)
    have hc2 : (c != 0) = true := by simpa using hc
    clear hfacts hRz hRn
    go_wp2
    go_ret2
    rw [hR.out]
    exact ⟨none, 0, rfl, World.ownsRow_nil _ _ _ _, hA1.below⟩
end
end Go.Proofs.YtipdcgfdejmjfaaGreatDoor
