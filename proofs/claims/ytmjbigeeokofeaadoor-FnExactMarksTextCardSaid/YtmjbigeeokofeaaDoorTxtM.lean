/- Walks: MarksText. Printed by gen_txtm.py. -/
import Derived.Test.YtmjbigeeokofeaaDoorDecT
import Derived.Test.YtmjbigeeokofeaaDoorAppAny
import Derived.Test.YtmjbigeeokofeaaDoorMarkSpec
import Derived.Test.YtmjbigeeokofeaaDoorMarkImpl
import Derived.Test.YtmjbigeeokofeaaDoorTS
import Derived.Test.YtmjbigeeokofeaaDoorRecP
namespace Go.Proofs.YtmjbigeeokofeaaDoor
open Go.ChangeShapes Go.WideShapes Go.ChangeAt Go.RowKit Go.IntWalk

/-! ### Plain: texts joined -/
theorem joinTail_snoc (sep : List UInt8) (r : List (List UInt8)) (x : List UInt8) : Lib.joinTail sep (r ++ [x]) = Lib.joinTail sep r ++ (sep ++ x) := by
  unfold Lib.joinTail; simp
theorem join_snoc {l : List (List UInt8)} (x sep : List UInt8) (h : l ≠ []) : Lib.join (l ++ [x]) sep = Lib.join l sep ++ (sep ++ x) := by
  cases l with
  | nil => exact absurd rfl h
  | cons y r => rw [List.cons_append, Lib.join_cons, Lib.join_cons, joinTail_snoc, List.append_assoc]
def jnB (xs : List ByteArray) : ByteArray := ⟨(Lib.join (xs.map (·.data.toList)) [44]).toArray⟩
theorem jnB_take0 {xs : List ByteArray} {x : ByteArray} (h : xs[0]? = some x) : jnB (xs.take 1) = x := by
  cases xs with
  | nil => cases h
  | cons y ys =>
    obtain rfl : y = x := by simpa using h
    unfold jnB
    simp [Lib.join_one]
theorem jnB_take {xs : List ByteArray} {k : Nat} {x : ByteArray} (h : xs[k]? = some x) (hk : 0 < k) : jnB (xs.take (k + 1)) = (jnB (xs.take k) ++ ⟨#[44]⟩) ++ x := by
  obtain ⟨hl, rfl⟩ := List.getElem?_eq_some_iff.1 h
  unfold jnB
  rw [List.take_succ_eq_append_getElem hl, List.map_append, List.map_cons, List.map_nil, join_snoc _ _ (fun e => by rw [List.map_eq_nil_iff] at e; have := congrArg List.length e; rw [List.length_take] at this; simp only [List.length_nil] at this; omega)]
  have e : xs[k] = ⟨xs[k].data.toList.toArray⟩ := by simp
  rw [e, show (#[44] : Array UInt8) = [44].toArray from rfl, ByteArray.mk_append_mk, ByteArray.mk_append_mk]
  simp
theorem joinTail_len (sep : List UInt8) : ∀ r : List (List UInt8), (Lib.joinTail sep r).length = (r.map fun l => sep.length + l.length).sum
  | [] => rfl
  | x :: r => by
    have ih := joinTail_len sep r
    unfold Lib.joinTail at *
    simp only [List.map_cons, List.flatten_cons, List.length_append, List.sum_cons]
    omega
theorem sum_le (f : List UInt8 → Nat) (b : Nat) : ∀ r : List (List UInt8), (∀ l ∈ r, f l ≤ b) → (r.map f).sum ≤ r.length * b
  | [], _ => by simp
  | x :: r, h => by
    have ih := sum_le f b r (fun l hl => h l (by simp [hl]))
    have := h x (by simp)
    simp only [List.map_cons, List.sum_cons, List.length_cons, Nat.add_mul]
    omega
theorem jnB_size {xs : List ByteArray} {b : Nat} (h : ∀ x ∈ xs, x.size ≤ b) : (jnB xs).size ≤ xs.length * (b + 1) := by
  have e : (jnB xs).size = (Lib.join (xs.map (·.data.toList)) [44]).length := by
    show ((Lib.join (xs.map (·.data.toList)) [44]).toArray).size = _
    simp
  rw [e]
  cases xs with
  | nil => simp [Lib.join_nil]
  | cons y ys =>
    rw [List.map_cons, Lib.join_cons, List.length_append, joinTail_len]
    have h1 := h y (by simp)
    have h2 := sum_le (fun l => [44].length + l.length) (b + 1) (ys.map (·.data.toList)) (fun l hl => by
      obtain ⟨z, hz, rfl⟩ := List.mem_map.1 hl
      have := h z (by simp [hz])
      have e2 : z.size = z.data.toList.length := by rw [Array.length_toList]; rfl
      simp only [List.length_cons, List.length_nil]
      omega)
    rw [List.length_map] at h2
    have e3 : y.size = y.data.toList.length := by rw [Array.length_toList]; rfl
    simp only [List.length_cons, List.length_nil, Nat.add_mul] at h2 ⊢
    omega
def mkT (m : Mk) : ByteArray := (((m.name ++ ⟨#[58]⟩) ++ decB m.fr) ++ ⟨#[46, 46]⟩) ++ decB m.to
theorem decB_sizeI {z : Int} (h0 : 0 ≤ z) (h1 : z ≤ 730499) : (decB z).size ≤ 730500 := by
  obtain ⟨n, rfl⟩ := Int.eq_ofNat_of_zero_le h0
  have := decB_size n
  omega
theorem l01DecI_any (z : Int) (h0 : 0 ≤ z) (h1 : z ≤ 1000000000) (w : World) :
    Calls Tryd.prog 80 #[.int .i64 z] w fun e w' => e = .returned (.string (decB z)) ∧ Below w.heap.size w w' := by
  obtain ⟨n, rfl⟩ := Int.eq_ofNat_of_zero_le h0
  exact l01Dec_any n (by omega) w
set_option maxRecDepth 100000 in
set_option maxHeartbeats 1000000 in
theorem l01Join_any (a : Option Addr) (cap : Nat) (xs : List ByteArray) (w : World) (hl : xs.length ≤ 1000) (hx : Rd encS w a xs) (hs : ∀ x ∈ xs, x.size ≤ 2000000) :
    Calls Tryd.prog 81 #[.slice a xs.length cap, .string ⟨#[44]⟩] w fun e w' => e = .returned (.string (jnB xs)) ∧ Below w.heap.size w w' := by
  go_enter Tryd.func81, Tryd.ntmps81
  go_wp2
  go_loopw [5, 6] (fun o i wr => ∃ k : Nat, k ≤ xs.length ∧ i = .int .i64 k ∧ o = .string (jnB (xs.take k)) ∧ Below w.heap.size w wr) (fun _ i _ => xs.length - (intOf i).toNat)
  case atStart => exact ⟨0, Nat.zero_le _, rfl, rfl, Below.refl _ _⟩
  case round =>
    obtain ⟨k, hk, rfl, rfl, hB⟩ := hrel
    by_cases hlt : k < xs.length
    · have hm := List.getElem?_eq_getElem hlt
      generalize xs[k] = x at hm
      have hsx := hs x (List.mem_of_getElem? hm)
      have hsj := jnB_size (xs := xs.take k) (b := 2000000) (fun y hy => hs y (List.mem_of_mem_take hy))
      have hlk : (xs.take k).length ≤ 1000 := by rw [List.length_take]; omega
      have hsj2 : (jnB (xs.take k)).size ≤ 2100000000 := by
        have := Nat.mul_le_mul_right (2000000 + 1) hlk
        omega
      obtain ⟨b, off, rfl, hb, c0⟩ := (hx.below hB).s hm
      have hk1 : (k : Int) < (xs.length : Int) := by omega
      clear hsj hlk
      by_cases hk0 : 0 < k
      · have hk2 : (0 : Int) < (k : Int) := by omega
        have hst := Lib.hid (jnB_take hm hk0)
        have e1 : (9223372036854775807 < (jnB (xs.take k)).size + 1) = False := eq_false (by omega)
        have e2 : (9223372036854775807 < (jnB (xs.take k)).size + 1 + x.size) = False := eq_false (by omega)
        clear hm
        generalize jnB (xs.take k) = J at hst e1 e2 hsj2 ⊢
        go_wp2
        go_roundw
        case rel => exact ⟨k + 1, by omega, by go_num, by rw [hst.out], hB⟩
        case measure => simp [intOf]; omega
      · obtain rfl : k = 0 := by omega
        have hst := Lib.hid (jnB_take0 hm)
        have e0 : jnB (xs.take 0) = ⟨#[]⟩ := rfl
        rw [e0]
        simp only [Nat.add_zero] at c0
        clear hm e0 hsj2
        go_wp2
        go_roundw
        case rel => exact ⟨1, by omega, by go_num, by rw [hst.out]; exact congrArg Value.string (by show ByteArray.empty ++ x = x; simp), hB⟩
        case measure => simp [intOf]; omega
    · obtain rfl : k = xs.length := by omega
      go_wp2
      go_ret
      rw [List.take_length]
      exact ⟨rfl, hB⟩

theorem own_cap1 {w : World} {base : Nat} {E : TypeId} {k g n cap : Nat} {xs : List Value} (h : w.ownsRow base E k (.slice (some ⟨g, 0, none⟩) n cap) n xs) : n ≤ cap := by
  rcases h.2 with ⟨e0, _⟩ | ⟨g', cap', cur, e0, hb, hg, hn, hm, hs, ht⟩
  · cases e0
  · injection e0 with _ _ e3
    omega
theorem Box.newsT {B : Nat} {w : World} {T : TypeId} {g : Nat} {xs : List Value} (h : Box B w T g xs) : ∀ j u, xs[j]? = some u → w.cell? (Addr.add ⟨g, 0, none⟩ j) = some u := by
  intro j u hu
  rw [Addr.add_lit, Nat.zero_add]
  exact Box.cell h j u hu
theorem own_apart9 {B1 B2 : Nat} {E1 E2 : TypeId} {k1 k2 n1 n2 g1 g2 c1 c2 : Nat} {xs1 xs2 : List Value} {w : World} (h1 : w.ownsRow B1 E1 k1 (.slice (some ⟨g1, 0, none⟩) n1 c1) n1 xs1) (h2 : w.ownsRow B2 E2 k2 (.slice (some ⟨g2, 0, none⟩) n2 c2) n2 xs2) (hE : E1 ≠ E2) : g1 ≠ g2 := by
  intro e
  subst e
  rcases h1.2 with ⟨e1, _⟩ | ⟨a1, b1, cur1, e1, _, hh1, _⟩
  · cases e1
  rcases h2.2 with ⟨e2, _⟩ | ⟨a2, b2, cur2, e2, _, hh2, _⟩
  · cases e2
  injection e1 with e1; injection e1 with e1; injection e1 with e1
  injection e2 with e2; injection e2 with e2; injection e2 with e2
  subst e1; subst e2
  rw [hh1] at hh2
  injection hh2 with hh2
  injection hh2 with _ hh2
  exact hE hh2
def mksB (xs : List Mk) : ByteArray := if xs.length = 0 then ⟨#[45]⟩ else jnB (xs.map mkT)
theorem mkT_size {m : Mk} (h1 : m.name.size ≤ 12) (h2 : 0 ≤ m.fr ∧ m.fr ≤ 730499) (h3 : 0 ≤ m.to ∧ m.to ≤ 730499) : (mkT m).size ≤ 2000000 := by
  have z1 := decB_sizeI h2.1 h2.2
  have z2 := decB_sizeI h3.1 h3.2
  unfold mkT
  simp only [ByteArray.size_append]
  have e1 : (⟨#[58]⟩ : ByteArray).size = 1 := rfl
  have e2 : (⟨#[46, 46]⟩ : ByteArray).size = 2 := rfl
  omega
theorem take_map {xs : List Mk} {k : Nat} {m : Mk} (h : xs[k]? = some m) : ((xs.take (k + 1)).map mkT).flatMap encS = ((xs.take k).map mkT).flatMap encS ++ [.string (mkT m)] := by
  obtain ⟨hl, rfl⟩ := List.getElem?_eq_some_iff.1 h
  rw [List.take_succ_eq_append_getElem hl, List.map_append, List.flatMap_append]
  rfl

set_option maxRecDepth 100000 in
set_option maxHeartbeats 4000000 in
theorem l16Text_any (a : Option Addr) (cap : Nat) (xs : List Mk) (w : World) (hl : xs.length ≤ 40) (hx : Rd encMk w a xs) (hnm : ∀ m ∈ xs, m.name.size ≤ 12) (hdy : ∀ m ∈ xs, 0 ≤ m.fr ∧ m.fr ≤ m.to ∧ m.to ≤ 730499) :
    Calls Tryd.prog 61 #[.slice a xs.length cap] w fun e w' => e = .returned (.string (mksB xs)) ∧ Below w.heap.size w w' := by
  obtain ⟨i0, hi, hz0, hz1, hz2⟩ := info_parts infoS
  have hBs : Below w.heap.size w (w.alloc (.cells #[] 9)) := (Below.refl _ w).alloc (Nat.le_refl _) _
  have howns := World.ownsRow_made w #[] 0 (Nat.le_refl _) (by decide) rfl (e := 9) (size := 1)
  go_enter Tryd.func61, Tryd.ntmps61
  go_wp2
  go_loopw [3, 4] (fun o i wr => ∃ (k og oc : Nat), k ≤ xs.length ∧ i = .int .i64 k ∧ o = .slice (some ⟨og, 0, none⟩) k oc ∧ wr.ownsRow w.heap.size 9 1 (.slice (some ⟨og, 0, none⟩) k oc) k (((xs.take k).map mkT).flatMap encS) ∧ Below w.heap.size w wr) (fun _ i _ => xs.length - (intOf i).toNat)
  case atStart => exact ⟨0, _, _, Nat.zero_le _, rfl, rfl, howns, hBs⟩
  case round =>
    clear howns hBs
    obtain ⟨k, og, oc, hk, rfl, rfl, ow, hB⟩ := hrel
    by_cases hlt : k < xs.length
    · have hm := List.getElem?_eq_getElem hlt
      generalize xs[k] = m at hm
      have hn12 := hnm m (List.mem_of_getElem? hm)
      have hsp := hdy m (List.mem_of_getElem? hm)
      have z1 := decB_sizeI (z := m.fr) (by omega) (by omega)
      have z2 := decB_sizeI (z := m.to) (by omega) (by omega)
      have e1 : (9223372036854775807 < m.name.size + 1) = False := eq_false (by omega)
      have e2 : (9223372036854775807 < m.name.size + 1 + (decB m.fr).size) = False := eq_false (by omega)
      have e3 : (9223372036854775807 < m.name.size + 1 + (decB m.fr).size + 2) = False := eq_false (by omega)
      have e4 : (9223372036854775807 < m.name.size + 1 + (decB m.fr).size + 2 + (decB m.to).size) = False := eq_false (by omega)
      obtain ⟨b, off, rfl, hb0, c00, c01, c02⟩ := hx.mk hm
      have HC : Hid (∀ W, Below w.heap.size w W → W.cell? ⟨b, off + k * 3, none⟩ = some (.string m.name) ∧ W.cell? ⟨b, off + k * 3 + 1, none⟩ = some (.int .i64 m.fr) ∧ W.cell? ⟨b, off + k * 3 + 2, none⟩ = some (.int .i64 m.to)) := fun W hB => ⟨((bcell hB).1 _ _ hb0).trans c00, ((bcell hB).1 _ _ hb0).trans c01, ((bcell hB).1 _ _ hb0).trans c02⟩
      have hst := Lib.hid (take_map hm)
      have hk1 : (k : Int) < (xs.length : Int) := by omega
      have hmt : Hid (mkT m = (((m.name ++ ⟨#[58]⟩) ++ decB m.fr) ++ ⟨#[46, 46]⟩) ++ decB m.to) := rfl
      clear c00 c01 c02 hm
      go_upto_region 5 with (fail)
      refine MAny.region (S := fun w' => w'.cell? ⟨b, off + k * 3, none⟩ = some (.string m.name) ∧ w'.cell? ⟨b, off + k * 3 + 1, none⟩ = some (.int .i64 m.fr) ∧ w'.cell? ⟨b, off + k * 3 + 2, none⟩ = some (.int .i64 m.to)) (last := 24) (by kernel_rfl) ?_
      have hz : Below wr.heap.size wr wr.drew := (Below.refl _ wr).drew
      replace ow := own_below ow hz
      replace hB := stepB hB hz hB.size
      clear hz
      generalize wr.drew = W0 at ow hB ⊢
      have hHeld := HC.out _ hB
      refine MAny.take (i := 0) (v := ?_) rfl (by kernel_rfl) (by kernel_rfl) (by kernel_rfl) (fun _ _ _ h => h) (by kernel_rfl) (Or.inl ⟨by rfl, ?_⟩) (by assumption) ?_
      rotate_left
      · (intro w' hSw; (try dsimp only at hSw); go_simp; try (with_reducible rfl))
      try simp only [Act.put, List.setIfInBounds_toArray]
      refine MAny.take (i := 1) (v := ?_) rfl (by kernel_rfl) (by kernel_rfl) (by kernel_rfl) (fun _ _ _ h => h) (by kernel_rfl) (Or.inl ⟨by rfl, ?_⟩) (by assumption) ?_
      rotate_left
      · (intro w' hSw; (try dsimp only at hSw); go_simp; try (with_reducible rfl))
      try simp only [Act.put]
      refine MAny.take (i := 2) (v := ?_) rfl (by kernel_rfl) (by kernel_rfl) (by kernel_rfl) (fun _ _ _ h => h) (by kernel_rfl) (Or.inl ⟨by rfl, ?_⟩) (by assumption) ?_
      rotate_left
      · (intro w' hSw; (try dsimp only at hSw); go_simp; try (with_reducible rfl))
      try simp only [Act.put]
      refine MAny.take (i := 3) (v := ?_) rfl (by kernel_rfl) (by kernel_rfl) (by kernel_rfl) (fun _ _ _ h => h) (by kernel_rfl) (Or.inl ⟨by rfl, ?_⟩) (by assumption) ?_
      rotate_left
      · (intro w' hSw; (try dsimp only at hSw); go_simp; try (with_reducible rfl))
      try simp only [Act.put]
      refine MAny.take (i := 4) (v := ?_) rfl (by kernel_rfl) (by kernel_rfl) (by kernel_rfl) (fun _ _ _ h => h) (by kernel_rfl) (Or.inl ⟨by rfl, ?_⟩) (by assumption) ?_
      rotate_left
      · (intro w' hSw; (try dsimp only at hSw); go_simp; try (with_reducible rfl))
      try simp only [Act.put]
      refine MAny.take (i := 5) (v := ?_) rfl (by kernel_rfl) (by kernel_rfl) (by kernel_rfl) (fun _ _ _ h => h) (by kernel_rfl) (Or.inl ⟨by rfl, ?_⟩) (by assumption) ?_
      rotate_left
      · (intro w' hSw; (try dsimp only at hSw); go_simp; try (with_reducible rfl))
      try simp only [Act.put]
      refine MAny.take (i := 6) (v := ?_) rfl (by kernel_rfl) (by kernel_rfl) (by kernel_rfl) (fun _ _ _ h => h) (by kernel_rfl) (Or.inl ⟨by rfl, ?_⟩) (by assumption) ?_
      rotate_left
      · (intro w' hSw; (try dsimp only at hSw); go_simp; try (with_reducible rfl))
      try simp only [Act.put]
      refine MAny.take (i := 7) (v := ?_) rfl (by kernel_rfl) (by kernel_rfl) (by kernel_rfl) (fun _ _ _ h => h) (by kernel_rfl) (Or.inl ⟨by rfl, ?_⟩) (by assumption) ?_
      rotate_left
      · (intro w' hSw; (try dsimp only at hSw); go_simp; try (with_reducible rfl))
      try simp only [Act.put]
      refine MAny.take (i := 8) (v := ?_) rfl (by kernel_rfl) (by kernel_rfl) (by kernel_rfl) (fun _ _ _ h => h) (by kernel_rfl) (Or.inl ⟨by rfl, ?_⟩) (by assumption) ?_
      rotate_left
      · (intro w' hSw; (try dsimp only at hSw); go_simp; try (with_reducible rfl))
      try simp only [Act.put]
      refine MAny.take (i := 9) (v := ?_) rfl (by kernel_rfl) (by kernel_rfl) (by kernel_rfl) (fun _ _ _ h => h) (by kernel_rfl) (Or.inl ⟨by rfl, ?_⟩) (by assumption) ?_
      rotate_left
      · (intro w' hSw; (try dsimp only at hSw); go_simp; try (with_reducible rfl))
      try simp only [Act.put]
      refine MAny.take (i := 10) (v := ?_) rfl (by kernel_rfl) (by kernel_rfl) (by kernel_rfl) (fun _ _ _ h => h) (by kernel_rfl) (Or.inl ⟨by rfl, ?_⟩) (by assumption) ?_
      rotate_left
      · (intro w' hSw; (try dsimp only at hSw); go_simp; try (with_reducible rfl))
      try simp only [Act.put]
      refine MAny.take (i := 11) (v := ?_) rfl (by kernel_rfl) (by kernel_rfl) (by kernel_rfl) (fun _ _ _ h => h) (by kernel_rfl) (Or.inl ⟨by rfl, ?_⟩) (by assumption) ?_
      rotate_left
      · (intro w' hSw; (try dsimp only at hSw); go_simp; try (with_reducible rfl))
      try simp only [Act.put]
      refine MAny.take (i := 15) (v := ?_) rfl (by kernel_rfl) (by kernel_rfl) (by kernel_rfl) (fun _ _ _ h => h) (by kernel_rfl) (Or.inl ⟨by rfl, ?_⟩) (by assumption) ?_
      rotate_left
      · (intro w' hSw; (try dsimp only at hSw); go_simp; try (with_reducible rfl))
      try simp only [Act.put]
      refine MAny.take (i := 16) (v := ?_) rfl (by kernel_rfl) (by kernel_rfl) (by kernel_rfl) (fun _ _ _ h => h) (by kernel_rfl) (Or.inl ⟨by rfl, ?_⟩) (by assumption) ?_
      rotate_left
      · (intro w' hSw; (try dsimp only at hSw); go_simp; try (with_reducible rfl))
      try simp only [Act.put]
      refine MAny.take (i := 17) (v := ?_) rfl (by kernel_rfl) (by kernel_rfl) (by kernel_rfl) (fun _ _ _ h => h) (by kernel_rfl) (Or.inl ⟨by rfl, ?_⟩) (by assumption) ?_
      rotate_left
      · (intro w' hSw; (try dsimp only at hSw); go_simp; try (with_reducible rfl))
      try simp only [Act.put]
      refine MAny.take (i := 18) (v := ?_) rfl (by kernel_rfl) (by kernel_rfl) (by kernel_rfl) (fun _ _ _ h => h) (by kernel_rfl) (Or.inl ⟨by rfl, ?_⟩) (by assumption) ?_
      rotate_left
      · (intro w' hSw; (try dsimp only at hSw); go_simp; try (with_reducible rfl))
      try simp only [Act.put]
      refine MAny.take (i := 19) (v := ?_) rfl (by kernel_rfl) (by kernel_rfl) (by kernel_rfl) (fun _ _ _ h => h) (by kernel_rfl) (Or.inl ⟨by rfl, ?_⟩) (by assumption) ?_
      rotate_left
      · (intro w' hSw; (try dsimp only at hSw); go_simp; try (with_reducible rfl))
      try simp only [Act.put]
      refine MAny.ready (rs := [12]) (by kernel_rfl) (by simp) ?_
      refine MReady.cons rfl (fun K hK => ?_) MReady.nil
      go_simp
      go_wp2_with (go_at_call 80; refine (l01DecI_any m.fr (by omega) (by omega) W0).mono ?_; rintro e Wa ⟨rfl, hB1⟩)
      replace ow := own_below ow hB1
      replace hB := stepB hB hB1 hB.size
      clear hB1
      have hHeld := HC.out _ hB
      refine hK.out _ _ (.inr hHeld) ?_
      clear hK K
      refine MAny.take (i := 13) (v := ?_) rfl (by kernel_rfl) (by kernel_rfl) (by kernel_rfl) (fun _ _ _ h => h) (by kernel_rfl) (Or.inl ⟨by rfl, ?_⟩) (by assumption) ?_
      rotate_left
      · (intro w' hSw; (try dsimp only at hSw); go_simp; try (with_reducible rfl))
      try simp only [Act.put, List.setIfInBounds_toArray]
      refine MAny.take (i := 14) (v := ?_) rfl (by kernel_rfl) (by kernel_rfl) (by kernel_rfl) (fun _ _ _ h => h) (by kernel_rfl) (Or.inl ⟨by rfl, ?_⟩) (by assumption) ?_
      rotate_left
      · (intro w' hSw; (try dsimp only at hSw); go_simp; try (with_reducible rfl))
      try simp only [Act.put]
      refine MAny.ready (rs := [20]) (by kernel_rfl) (by simp) ?_
      refine MReady.cons rfl (fun K hK => ?_) MReady.nil
      go_simp
      go_wp2_with (go_at_call 80; refine (l01DecI_any m.to (by omega) (by omega) Wa).mono ?_; rintro e Wb ⟨rfl, hB1⟩)
      replace ow := own_below ow hB1
      replace hB := stepB hB hB1 hB.size
      clear hB1
      have hHeld := HC.out _ hB
      refine hK.out _ _ (.inr hHeld) ?_
      clear hK K
      refine MAny.take (i := 21) (v := ?_) rfl (by kernel_rfl) (by kernel_rfl) (by kernel_rfl) (fun _ _ _ h => h) (by kernel_rfl) (Or.inl ⟨by rfl, ?_⟩) (by assumption) ?_
      rotate_left
      · (intro w' hSw; (try dsimp only at hSw); go_simp; try (with_reducible rfl))
      try simp only [Act.put, List.setIfInBounds_toArray]
      refine MAny.ready (rs := [22]) (by kernel_rfl) (by simp) ?_
      refine MReady.cons rfl (fun K hK => ?_) MReady.nil
      go_simp
      have xb := Box.new Wb 9 [.string (mkT m)] w.heap.size hB.size (by simp)
      have hz : Below Wb.heap.size Wb (Wb.alloc (.cells #[.string (mkT m)] 9)) := (Below.refl _ _).alloc (Nat.le_refl _) _
      replace hB := stepB hB hz hB.size
      have ow0 := ow
      replace ow := own_below ow hz
      have hxe : Wb.heap.size ≠ og := Nat.ne_of_gt (own_lt ow0).2
      change Box _ (Wb.alloc (.cells #[.string (mkT m)] 9)) _ _ _ at xb
      change K _ (Wb.alloc (.cells #[.string (mkT m)] 9))
      generalize Wb.alloc (.cells #[.string (mkT m)] 9) = Wc at xb hB ow ⊢
      generalize Wb.heap.size = xg at xb hxe ⊢
      clear hz ow0
      have hHeld := HC.out _ hB
      refine hK.out _ _ (.inr hHeld) ?_
      clear hK K
      refine MAny.ready (rs := [23]) (by kernel_rfl) (by simp) ?_
      refine MReady.cons rfl (fun K hK => ?_) MReady.nil
      refine step_append_any _ (by rfl) (.tmp 12) (.tmp 34) 22 (by rfl) w.heap.size 9 i0 (.string ⟨#[]⟩) 1 16 Tryd.underlying22 hi hz0 hz1 hz2 rfl (by decide) _ _ k (((xs.take k).map mkT).flatMap encS) (by rfl) ow ⟨xg, 0, none⟩ 1 1 [.string (mkT m)] (by rfl) rfl (Box.newsT xb) (fun u hu => by rw [List.mem_singleton.1 hu]; rfl) (by unfold maxLen; omega) (by omega) hB.size ?_
      intro og2 oc2 Wd ow2 hgr hor
      replace hB := hB.grown hgr hB.size (fun g e => by cases e; exact (own_lt ow).1)
      clear hgr hor
      try simp only [Act.put, List.setIfInBounds_toArray]
      have hHeld := HC.out _ hB
      refine hK.out _ _ (.inr hHeld) ?_
      clear hK K
      refine MAny.ready (rs := [24]) (by kernel_rfl) (by simp) ?_
      refine MReady.cons rfl (fun K hK => ?_) MReady.nil
      go_simp
      refine hK.out _ _ (.inl rfl) ?_
      clear hK K
      refine MAny.done (by kernel_rfl) ?_ _
      try simp only [List.getElem_toArray, List.getElem_cons_succ, List.getElem_cons_zero]
      go_wp2
      go_roundw
      case rel => exact ⟨k + 1, og2, oc2, by omega, by go_num, rfl, by rw [hst.out]; exact ow2, hB⟩
      case measure => simp [intOf]; omega
    · obtain rfl : k = xs.length := by omega
      rw [List.take_length] at ow
      have hl2 : (xs.map mkT).length = xs.length := by simp
      have HJ := Lib.hid (fun W h => l01Join_any (some ⟨og, 0, none⟩) oc (xs.map mkT) W (by omega) h (fun x hx => by obtain ⟨m, hm, rfl⟩ := List.mem_map.1 hx; have h3 := hdy m hm; exact mkT_size (hnm m hm) (by omega) (by omega)))
      rw [hl2] at HJ
      by_cases h0 : xs.length = 0
      · have h00 : (xs.length : Int) = 0 := by omega
        have hR : Hid (mksB xs = ⟨#[45]⟩) := if_pos h0
        clear h0
        go_wp2
        go_ret
        exact ⟨by rw [hR.out]; rfl, hB⟩
      · have h00 : ((xs.length : Int) == 0) = false := by simpa using h0
        have h01 : (xs.length == 0) = false := by simpa using h0
        have hR : Hid (mksB xs = jnB (xs.map mkT)) := if_neg h0
        clear h0
        go_wp2_with fail
        refine (HJ.out _ (Rd.of_own encS_len (by decide) ow)).mono ?_
        rintro e w5 ⟨rfl, hB1⟩
        go_wp2
        go_ret
        exact ⟨by rw [hR.out]; rfl, stepB hB hB1 hB.size⟩
theorem tabBelow_here {w W : World} (h : Lib.TabBelow Tryd.prog w.heap.size w "internal/strconv.uint64pow10" .u64 Lib.pow10Tab) (hB : Below w.heap.size w W) : Lib.TabIs Tryd.prog W "internal/strconv.uint64pow10" .u64 Lib.pow10Tab := (h.on hB).here
set_option maxRecDepth 100000 in
set_option maxHeartbeats 4000000 in
theorem marksText_any (a : Option Addr) (cap : Nat) (xs : List Mk) (w : World) (hl : xs.length ≤ 40) (hx : Rd encMk w a xs) (hnm : ∀ m ∈ xs, m.name.size ≤ 12) (hdy : ∀ m ∈ xs, 0 ≤ m.fr ∧ m.fr ≤ m.to ∧ m.to ≤ 730499) (ht : Lib.TabIs Tryd.prog w "internal/strconv.uint64pow10" .u64 Lib.pow10Tab) :
    Calls Tryd.prog 62 #[.slice a xs.length cap] w fun e w' => e = .returned (.string (mksB xs)) ∧ Below w.heap.size w w' := by
  obtain ⟨i0, hi, hz0, hz1, hz2⟩ := info_parts infoS
  have HT := Lib.hid (Lib.tabBelow_of_tabIs ht)
  clear ht
  by_cases h0 : xs.length = 0
  · have h00 : (xs.length : Int) = 0 := by omega
    have hR : Hid (mksB xs = ⟨#[45]⟩) := if_pos h0
    clear h0
    go_enter Tryd.func62, Tryd.ntmps62
    go_wp2
    go_ret
    exact ⟨by rw [hR.out]; rfl, Below.refl _ _⟩
  have h00 : ((xs.length : Int) == 0) = false := by simpa using h0
  have h01 : (xs.length == 0) = false := by simpa using h0
  have hR : Hid (mksB xs = jnB (xs.map mkT)) := if_neg h0
  clear h0
  have hBs : Below w.heap.size w (w.alloc (.cells #[] 9)) := (Below.refl _ w).alloc (Nat.le_refl _) _
  have howns := World.ownsRow_made w #[] 0 (Nat.le_refl _) (by decide) rfl (e := 9) (size := 1)
  go_enter Tryd.func62, Tryd.ntmps62
  go_wp2
  go_loopw [3, 12] (fun o i wr => ∃ (k og oc : Nat), k ≤ xs.length ∧ i = .int .i64 k ∧ o = .slice (some ⟨og, 0, none⟩) k oc ∧ wr.ownsRow w.heap.size 9 1 (.slice (some ⟨og, 0, none⟩) k oc) k (((xs.take k).map mkT).flatMap encS) ∧ Below w.heap.size w wr) (fun _ i _ => xs.length - (intOf i).toNat)
  case atStart => exact ⟨0, _, _, Nat.zero_le _, rfl, rfl, howns, hBs⟩
  case round =>
    clear howns hBs
    obtain ⟨k, og, oc, hk, rfl, rfl, ow, hB⟩ := hrel
    by_cases hlt : k < xs.length
    · have hm := List.getElem?_eq_getElem hlt
      generalize xs[k] = m at hm
      have hn12 := hnm m (List.mem_of_getElem? hm)
      have hsp := hdy m (List.mem_of_getElem? hm)
      have z1 := decB_sizeI (z := m.fr) (by omega) (by omega)
      have z2 := decB_sizeI (z := m.to) (by omega) (by omega)
      have e1 : (9223372036854775807 < m.name.size + 1) = False := eq_false (by omega)
      have e2 : (9223372036854775807 < m.name.size + 1 + (decB m.fr).size) = False := eq_false (by omega)
      have e3 : (9223372036854775807 < m.name.size + 1 + (decB m.fr).size + 2) = False := eq_false (by omega)
      have e4 : (9223372036854775807 < m.name.size + 1 + (decB m.fr).size + 2 + (decB m.to).size) = False := eq_false (by omega)
      obtain ⟨b, off, rfl, hb, c0, c1, c2⟩ := (hx.below hB).mk hm
      have hst := Lib.hid (take_map hm)
      have hk1 : (k : Int) < (xs.length : Int) := by omega
      clear hm
      have lbx := Box.new wr 80 [.string m.name, .int .i64 m.fr, .int .i64 m.to] w.heap.size hB.size (by simp)
      have hz : Below wr.heap.size wr (wr.alloc (.cells #[.string m.name, .int .i64 m.fr, .int .i64 m.to] 80)) := (Below.refl _ _).alloc (Nat.le_refl _) _
      go_upto_region 7 with (fail)
      change Code.wp _ _ _ _ (wr.alloc (.cells #[.string m.name, .int .i64 m.fr, .int .i64 m.to] 80))
      change Box _ (wr.alloc (.cells #[.string m.name, .int .i64 m.fr, .int .i64 m.to] 80)) _ _ _ at lbx
      replace ow := own_below ow hz
      replace hB := stepB hB hz hB.size
      clear hz c0 c1 c2 hb
      generalize wr.alloc (.cells #[.string m.name, .int .i64 m.fr, .int .i64 m.to] 80) = w5 at lbx ow hB ⊢
      generalize wr.heap.size = lb at lbx ⊢
      refine MAny.region (S := fun w' => w'.cell? ⟨lb, 0, none⟩ = some (.string m.name) ∧ w'.cell? ⟨lb, 1, none⟩ = some (.int .i64 m.fr) ∧ w'.cell? ⟨lb, 2, none⟩ = some (.int .i64 m.to)) (last := 15) (by kernel_rfl) ?_
      have hz : Below w5.heap.size w5 w5.drew := (Below.refl _ w5).drew
      replace ow := own_below ow hz
      replace lbx := Box.below lbx hz
      replace hB := stepB hB hz hB.size
      clear hz
      generalize w5.drew = W0 at ow lbx hB ⊢
      have hne : lb ≠ og := own_apart9 lbx ow (by decide)
      have hHeld := And.intro (Box.cell lbx 0 _ rfl) (And.intro (Box.cell lbx 1 _ rfl) (Box.cell lbx 2 _ rfl))
      refine MAny.take (i := 0) (v := ?_) rfl (by kernel_rfl) (by kernel_rfl) (by kernel_rfl) (fun _ _ _ h => h) (by kernel_rfl) (Or.inl ⟨by rfl, ?_⟩) (by assumption) ?_
      rotate_left
      · (intro w' hSw; (try dsimp only at hSw); go_simp; try (with_reducible rfl))
      try simp only [Act.put, List.setIfInBounds_toArray]
      refine MAny.take (i := 1) (v := ?_) rfl (by kernel_rfl) (by kernel_rfl) (by kernel_rfl) (fun _ _ _ h => h) (by kernel_rfl) (Or.inl ⟨by rfl, ?_⟩) (by assumption) ?_
      rotate_left
      · (intro w' hSw; (try dsimp only at hSw); go_simp; try (with_reducible rfl))
      try simp only [Act.put]
      refine MAny.take (i := 2) (v := ?_) rfl (by kernel_rfl) (by kernel_rfl) (by kernel_rfl) (fun _ _ _ h => h) (by kernel_rfl) (Or.inl ⟨by rfl, ?_⟩) (by assumption) ?_
      rotate_left
      · (intro w' hSw; (try dsimp only at hSw); go_simp; try (with_reducible rfl))
      try simp only [Act.put]
      refine MAny.take (i := 3) (v := ?_) rfl (by kernel_rfl) (by kernel_rfl) (by kernel_rfl) (fun _ _ _ h => h) (by kernel_rfl) (Or.inl ⟨by rfl, ?_⟩) (by assumption) ?_
      rotate_left
      · (intro w' hSw; (try dsimp only at hSw); go_simp; try (with_reducible rfl))
      try simp only [Act.put]
      refine MAny.take (i := 4) (v := ?_) rfl (by kernel_rfl) (by kernel_rfl) (by kernel_rfl) (fun _ _ _ h => h) (by kernel_rfl) (Or.inl ⟨by rfl, ?_⟩) (by assumption) ?_
      rotate_left
      · (intro w' hSw; (try dsimp only at hSw); go_simp; try (with_reducible rfl))
      try simp only [Act.put]
      refine MAny.take (i := 5) (v := ?_) rfl (by kernel_rfl) (by kernel_rfl) (by kernel_rfl) (fun _ _ _ h => h) (by kernel_rfl) (Or.inl ⟨by rfl, ?_⟩) (by assumption) ?_
      rotate_left
      · (intro w' hSw; (try dsimp only at hSw); go_simp; try (with_reducible rfl))
      try simp only [Act.put]
      refine MAny.take (i := 9) (v := ?_) rfl (by kernel_rfl) (by kernel_rfl) (by kernel_rfl) (fun _ _ _ h => h) (by kernel_rfl) (Or.inl ⟨by rfl, ?_⟩) (by assumption) ?_
      rotate_left
      · (intro w' hSw; (try dsimp only at hSw); go_simp; try (with_reducible rfl))
      try simp only [Act.put]
      refine MAny.take (i := 10) (v := ?_) rfl (by kernel_rfl) (by kernel_rfl) (by kernel_rfl) (fun _ _ _ h => h) (by kernel_rfl) (Or.inl ⟨by rfl, ?_⟩) (by assumption) ?_
      rotate_left
      · (intro w' hSw; (try dsimp only at hSw); go_simp; try (with_reducible rfl))
      try simp only [Act.put]
      refine MAny.ready (rs := [6]) (by kernel_rfl) (by simp) ?_
      refine MReady.cons rfl (fun K hK => ?_) MReady.nil
      go_simp
      go_wp2_with (go_at_call 82; refine (decimal_any m.fr (by omega) (by omega) W0 (tabBelow_here HT.out hB)).mono ?_; rintro e Wa ⟨rfl, hB1⟩)
      replace ow := own_below ow hB1
      replace lbx := Box.below lbx hB1
      replace hB := stepB hB hB1 hB.size
      clear hB1
      have hHeld := And.intro (Box.cell lbx 0 _ rfl) (And.intro (Box.cell lbx 1 _ rfl) (Box.cell lbx 2 _ rfl))
      refine hK.out _ _ (.inr hHeld) ?_
      clear hK K
      refine MAny.take (i := 7) (v := ?_) rfl (by kernel_rfl) (by kernel_rfl) (by kernel_rfl) (fun _ _ _ h => h) (by kernel_rfl) (Or.inl ⟨by rfl, ?_⟩) (by assumption) ?_
      rotate_left
      · (intro w' hSw; (try dsimp only at hSw); go_simp; try (with_reducible rfl))
      try simp only [Act.put, List.setIfInBounds_toArray]
      refine MAny.take (i := 8) (v := ?_) rfl (by kernel_rfl) (by kernel_rfl) (by kernel_rfl) (fun _ _ _ h => h) (by kernel_rfl) (Or.inl ⟨by rfl, ?_⟩) (by assumption) ?_
      rotate_left
      · (intro w' hSw; (try dsimp only at hSw); go_simp; try (with_reducible rfl))
      try simp only [Act.put]
      refine MAny.ready (rs := [11]) (by kernel_rfl) (by simp) ?_
      refine MReady.cons rfl (fun K hK => ?_) MReady.nil
      go_simp
      go_wp2_with (go_at_call 82; refine (decimal_any m.to (by omega) (by omega) Wa (tabBelow_here HT.out hB)).mono ?_; rintro e Wb ⟨rfl, hB1⟩)
      replace ow := own_below ow hB1
      replace lbx := Box.below lbx hB1
      replace hB := stepB hB hB1 hB.size
      clear hB1
      have hHeld := And.intro (Box.cell lbx 0 _ rfl) (And.intro (Box.cell lbx 1 _ rfl) (Box.cell lbx 2 _ rfl))
      refine hK.out _ _ (.inr hHeld) ?_
      clear hK K
      refine MAny.take (i := 12) (v := ?_) rfl (by kernel_rfl) (by kernel_rfl) (by kernel_rfl) (fun _ _ _ h => h) (by kernel_rfl) (Or.inl ⟨by rfl, ?_⟩) (by assumption) ?_
      rotate_left
      · (intro w' hSw; (try dsimp only at hSw); go_simp; try (with_reducible rfl))
      try simp only [Act.put, List.setIfInBounds_toArray]
      refine MAny.ready (rs := [13]) (by kernel_rfl) (by simp) ?_
      refine MReady.cons rfl (fun K hK => ?_) MReady.nil
      go_simp
      have xb := Box.new Wb 9 [.string (mkT m)] w.heap.size hB.size (by simp)
      have hz : Below Wb.heap.size Wb (Wb.alloc (.cells #[.string (mkT m)] 9)) := (Below.refl _ _).alloc (Nat.le_refl _) _
      replace hB := stepB hB hz hB.size
      have ow0 := ow
      replace ow := own_below ow hz
      replace lbx := Box.below lbx hz
      have hxe : Wb.heap.size ≠ og := Nat.ne_of_gt (own_lt ow0).2
      change Box _ (Wb.alloc (.cells #[.string (mkT m)] 9)) _ _ _ at xb
      change K _ (Wb.alloc (.cells #[.string (mkT m)] 9))
      generalize Wb.alloc (.cells #[.string (mkT m)] 9) = Wc at xb hB ow lbx ⊢
      generalize Wb.heap.size = xg at xb hxe ⊢
      clear hz ow0
      have hHeld := And.intro (Box.cell lbx 0 _ rfl) (And.intro (Box.cell lbx 1 _ rfl) (Box.cell lbx 2 _ rfl))
      refine hK.out _ _ (.inr hHeld) ?_
      clear hK K
      refine MAny.ready (rs := [14]) (by kernel_rfl) (by simp) ?_
      refine MReady.cons rfl (fun K hK => ?_) MReady.nil
      refine step_append_any _ (by rfl) (.tmp 16) (.tmp 29) 22 (by rfl) w.heap.size 9 i0 (.string ⟨#[]⟩) 1 16 Tryd.underlying22 hi hz0 hz1 hz2 rfl (by decide) _ _ k (((xs.take k).map mkT).flatMap encS) (by rfl) ow ⟨xg, 0, none⟩ 1 1 [.string (mkT m)] (by rfl) rfl (Box.newsT xb) (fun u hu => by rw [List.mem_singleton.1 hu]; rfl) (by unfold maxLen; omega) (by omega) hB.size ?_
      intro og2 oc2 Wd ow2 hgr hor
      replace lbx := Box.keep lbx hgr hne
      replace hB := hB.grown hgr hB.size (fun g e => by cases e; exact (own_lt ow).1)
      clear hgr hor
      try simp only [Act.put, List.setIfInBounds_toArray]
      have hHeld := And.intro (Box.cell lbx 0 _ rfl) (And.intro (Box.cell lbx 1 _ rfl) (Box.cell lbx 2 _ rfl))
      refine hK.out _ _ (.inr hHeld) ?_
      clear hK K
      refine MAny.ready (rs := [15]) (by kernel_rfl) (by simp) ?_
      refine MReady.cons rfl (fun K hK => ?_) MReady.nil
      go_simp
      refine hK.out _ _ (.inl rfl) ?_
      clear hK K
      refine MAny.done (by kernel_rfl) ?_ _
      try simp only [List.getElem_toArray, List.getElem_cons_succ, List.getElem_cons_zero]
      go_wp2
      go_roundw
      case rel => exact ⟨k + 1, og2, oc2, by omega, by go_num, rfl, by rw [hst.out]; exact ow2, hB⟩
      case measure => simp [intOf]; omega
    · obtain rfl : k = xs.length := by omega
      rw [List.take_length] at ow
      have hl2 : (xs.map mkT).length = xs.length := by simp
      have hsz := jnB_size (xs := xs.map mkT) (b := 2000000) (fun x hx => by obtain ⟨m, hm, rfl⟩ := List.mem_map.1 hx; have h3 := hdy m hm; exact mkT_size (hnm m hm) (by omega) (by omega))
      have hsz2 : (Lib.join ((xs.map mkT).map (·.data.toList)) [44]).length ≤ 140737488355328 := by
        have e : (jnB (xs.map mkT)).size = (Lib.join ((xs.map mkT).map (·.data.toList)) [44]).length := by
          show ((Lib.join ((xs.map mkT).map (·.data.toList)) [44]).toArray).size = _
          simp
        have := Nat.mul_le_mul_right (2000000 + 1) (show (xs.map mkT).length ≤ 40 by omega)
        omega
      have hcap := own_cap1 ow
      have HJ := Lib.hid (fun W (h : Rd encS W (some ⟨og, 0, none⟩) (xs.map mkT)) (hb : og < W.heap.size) => Tryd.strings_Join og 0 oc (xs.map mkT) ⟨#[44]⟩ W (fun j x hj => by
        obtain ⟨b, off, e, _, hc⟩ := h j x hj
        injection e with e; injection e with e1 e2; subst e1; subst e2
        have := hc 0 (.string x) rfl
        simpa [encS] using this) hb (by omega) (by omega) hsz2)
      rw [hl2] at HJ
      clear hsz hsz2 hl2
      go_wp2_with fail
      refine (HJ.out _ (Rd.of_own encS_len (by decide) ow) (own_lt ow).2).mono ?_
      rintro e w5 ⟨rfl, hB1⟩
      go_wp2
      go_ret
      exact ⟨by rw [hR.out]; unfold jnB; rw [List.map_map]; rfl, stepB hB hB1 hB.size⟩

def mtR (xs : List Mk) : ByteArray × Int := if areMarksB xs then (mksB xs, 0) else (⟨#[]⟩, 1)
theorem mt_facts {xs : List Mk} (h : areMarksB xs = true) : xs.length ≤ 40 ∧ (∀ m ∈ xs, m.name.size ≤ 12) ∧ (∀ m ∈ xs, 0 ≤ m.fr ∧ m.fr ≤ m.to ∧ m.to ≤ 730499) := by
  obtain ⟨_, h2, h3⟩ := up_of h
  refine ⟨h3, fun m hm => ?_, fun m hm => ?_⟩
  · have := h2 m hm
    unfold okMk nameB at this
    simp only [Bool.and_eq_true, decide_eq_true_eq] at this
    have e : m.name.size = m.name.data.toList.length := by rw [Array.length_toList]; rfl
    omega
  · have := h2 m hm
    unfold okMk at this
    simp only [Bool.and_eq_true] at this
    exact spanB_bd this.2
set_option maxHeartbeats 1000000 in
theorem specMarksText_any (a : Option Addr) (cap : Nat) (xs : List Mk) (w : World) (hl : xs.length ≤ 1048576) (hx : Rd encMk w a xs) (hs : ∀ m ∈ xs, m.name.size ≤ 1048576) :
    Calls Tryd.prog 25 #[.slice a xs.length cap] w fun e w' => e = .returned (.tuple #[.string (mtR xs).1, .int .i64 (mtR xs).2]) ∧ Below w.heap.size w w' := by
  cases hA : areMarksB xs
  · have hR : Hid (mtR xs = (⟨#[]⟩, 1)) := by unfold Hid mtR; rw [hA]; rfl
    have HM := Lib.hid (hA ▸ specAreMarks_any a cap xs w hl hx hs)
    clear hA
    go_enter Tryd.func25, Tryd.ntmps25
    go_wp2_with fail
    refine HM.out.mono ?_
    rintro e w1 ⟨rfl, hB⟩
    go_wp2
    go_ret2
    rw [hR.out]
    exact ⟨rfl, hB⟩
  · have hR : Hid (mtR xs = (mksB xs, 0)) := by unfold Hid mtR; rw [hA]; rfl
    have hf := mt_facts hA
    have HM := Lib.hid (hA ▸ specAreMarks_any a cap xs w hl hx hs)
    have HX := Lib.hid (fun W (hB : Below w.heap.size w W) => l16Text_any a cap xs W hf.1 (hx.below hB) hf.2.1 hf.2.2)
    clear hA hf
    go_enter Tryd.func25, Tryd.ntmps25
    go_wp2_with fail
    refine HM.out.mono ?_
    rintro e w1 ⟨rfl, hB⟩
    go_wp2_with fail
    refine (HX.out _ hB).mono ?_
    rintro e w2 ⟨rfl, hB1⟩
    go_wp2
    go_ret2
    rw [hR.out]
    exact ⟨rfl, stepB hB hB1 hB.size⟩
set_option maxHeartbeats 1000000 in
theorem implMarksText_any (a : Option Addr) (cap : Nat) (xs : List Mk) (w : World) (hl : xs.length ≤ 1048576) (hx : Rd encMk w a xs) (hs : ∀ m ∈ xs, m.name.size ≤ 1048576) (ht : Lib.TabIs Tryd.prog w "internal/strconv.uint64pow10" .u64 Lib.pow10Tab) :
    Calls Tryd.prog 26 #[.slice a xs.length cap] w fun e w' => e = .returned (.tuple #[.string (mtR xs).1, .int .i64 (mtR xs).2]) ∧ Below w.heap.size w w' := by
  have HT := Lib.hid (Lib.tabBelow_of_tabIs ht)
  cases hA : areMarksB xs
  · have hR : Hid (mtR xs = (⟨#[]⟩, 1)) := by unfold Hid mtR; rw [hA]; rfl
    have HM := Lib.hid (hA ▸ implAreMarks_any a cap xs w hl hx hs)
    clear hA
    go_enter Tryd.func26, Tryd.ntmps26
    go_wp2_with fail
    refine HM.out.mono ?_
    rintro e w1 ⟨rfl, hB⟩
    go_wp2
    go_ret2
    rw [hR.out]
    exact ⟨rfl, hB⟩
  · have hR : Hid (mtR xs = (mksB xs, 0)) := by unfold Hid mtR; rw [hA]; rfl
    have hf := mt_facts hA
    have HM := Lib.hid (hA ▸ implAreMarks_any a cap xs w hl hx hs)
    have HX := Lib.hid (fun W (hB : Below w.heap.size w W) => marksText_any a cap xs W hf.1 (hx.below hB) hf.2.1 hf.2.2 (tabBelow_here HT.out hB))
    clear hA hf
    go_enter Tryd.func26, Tryd.ntmps26
    go_wp2_with fail
    refine HM.out.mono ?_
    rintro e w1 ⟨rfl, hB⟩
    go_wp2_with fail
    refine (HX.out _ hB).mono ?_
    rintro e w2 ⟨rfl, hB1⟩
    go_wp2
    go_ret2
    rw [hR.out]
    exact ⟨rfl, stepB hB hB1 hB.size⟩
end Go.Proofs.YtmjbigeeokofeaaDoor
