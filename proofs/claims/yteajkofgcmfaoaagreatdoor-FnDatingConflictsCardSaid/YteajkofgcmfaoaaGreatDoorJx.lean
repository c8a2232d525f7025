/- Walks: DatingText, both sides. Printed by gen_dtx.py. -/
import Derived.Lib.Join
import Derived.Lib.Hide
import Derived.Test.YteajkofgcmfaoaaGreatDoorTt
import Derived.Test.YteajkofgcmfaoaaGreatDoorCtx
import Derived.Test.YteajkofgcmfaoaaGreatDoorDt
namespace Go.Proofs.YteajkofgcmfaoaaGreatDoor
section
open Go.ChangeShapes Go.WideShapes Go.ChangeAt Go.RowKit Go.IntWalk

/-! ### Plain: texts joined -/
theorem joinTail_snoc (sep : List UInt8) (r : List (List UInt8)) (x : List UInt8) : Lib.joinTail sep (r ++ [x]) = Lib.joinTail sep r ++ (sep ++ x) := by
  unfold Lib.joinTail; simp
theorem join_snoc {l : List (List UInt8)} (x sep : List UInt8) (h : l ≠ []) : Lib.join (l ++ [x]) sep = Lib.join l sep ++ (sep ++ x) := by
  cases l with
  | nil => exact absurd rfl h
  | cons y r => rw [List.cons_append, Lib.join_cons, Lib.join_cons, joinTail_snoc, List.append_assoc]
def jnB (xs : List ByteArray) : ByteArray := ⟨(Lib.join (xs.map (·.data.toList)) [44]).toArray⟩
theorem jnB_take0 {xs : List ByteArray} {x : ByteArray} (h : xs[0]? = some x) : jnB (xs.take 1) = x := by
  cases xs with
  | nil => cases h
  | cons y ys =>
    obtain rfl : y = x := by simpa using h
    unfold jnB
    simp [Lib.join_one]
theorem jnB_take {xs : List ByteArray} {k : Nat} {x : ByteArray} (h : xs[k]? = some x) (hk : 0 < k) : jnB (xs.take (k + 1)) = (jnB (xs.take k) ++ ⟨#[44]⟩) ++ x := by
  obtain ⟨hl, rfl⟩ := List.getElem?_eq_some_iff.1 h
  unfold jnB
  rw [List.take_succ_eq_append_getElem hl, List.map_append, List.map_cons, List.map_nil, join_snoc _ _ (fun e => by rw [List.map_eq_nil_iff] at e; have := congrArg List.length e; rw [List.length_take] at this; simp only [List.length_nil] at this; omega)]
  have e : xs[k] = ⟨xs[k].data.toList.toArray⟩ := by simp
  rw [e, show (#[44] : Array UInt8) = [44].toArray from rfl, ByteArray.mk_append_mk, ByteArray.mk_append_mk]
  simp
theorem joinTail_len (sep : List UInt8) : ∀ r : List (List UInt8), (Lib.joinTail sep r).length = (r.map fun l => sep.length + l.length).sum
  | [] => rfl
  | x :: r => by
    have ih := joinTail_len sep r
    unfold Lib.joinTail at *
    simp only [List.map_cons, List.flatten_cons, List.length_append, List.sum_cons]
    omega
theorem sum_le (f : List UInt8 → Nat) (b : Nat) : ∀ r : List (List UInt8), (∀ l ∈ r, f l ≤ b) → (r.map f).sum ≤ r.length * b
  | [], _ => by simp
  | x :: r, h => by
    have ih := sum_le f b r (fun l hl => h l (by simp [hl]))
    have := h x (by simp)
    simp only [List.map_cons, List.sum_cons, List.length_cons, Nat.add_mul]
    omega
theorem jnB_size {xs : List ByteArray} {b : Nat} (h : ∀ x ∈ xs, x.size ≤ b) : (jnB xs).size ≤ xs.length * (b + 1) := by
  have e : (jnB xs).size = (Lib.join (xs.map (·.data.toList)) [44]).length := by
    show ((Lib.join (xs.map (·.data.toList)) [44]).toArray).size = _
    simp
  rw [e]
  cases xs with
  | nil => simp [Lib.join_nil]
  | cons y ys =>
    rw [List.map_cons, Lib.join_cons, List.length_append, joinTail_len]
    have h1 := h y (by simp)
    have h2 := sum_le (fun l => [44].length + l.length) (b + 1) (ys.map (·.data.toList)) (fun l hl => by
      obtain ⟨z, hz, rfl⟩ := List.mem_map.1 hl
      have := h z (by simp [hz])
      have e2 : z.size = z.data.toList.length := by rw [Array.length_toList]; rfl
      simp only [List.length_cons, List.length_nil]
      omega)
    rw [List.length_map] at h2
    have e3 : y.size = y.data.toList.length := by rw [Array.length_toList]; rfl
    simp only [List.length_cons, List.length_nil, Nat.add_mul] at h2 ⊢
    omega
set_option maxRecDepth 100000 in
set_option maxHeartbeats 1000000 in
theorem l01Join_any (a : Option Addr) (cap : Nat) (xs : List ByteArray) (w : World) (hl : xs.length ≤ 1000) (hx : Rd encS w a xs) (hs : ∀ x ∈ xs, x.size ≤ 2000000) :
    Calls Tryz.prog 49 #[.slice a xs.length cap, .string ⟨#[44]⟩] w fun e w' => e = .returned (.string (jnB xs)) ∧ Below w.heap.size w w' := by
  go_enter Tryz.func49, Tryz.ntmps49
  go_wp2
  go_loopw [5, 6] (fun o i wr => ∃ k : Nat, k ≤ xs.length ∧ i = .int .i64 k ∧ o = .string (jnB (xs.take k)) ∧ Below w.heap.size w wr) (fun _ i _ => xs.length - (intOf i).toNat)
  case atStart => exact ⟨0, Nat.zero_le _, rfl, rfl, Below.refl _ _⟩
  case round =>
    obtain ⟨k, hk, rfl, rfl, hB⟩ := hrel
    by_cases hlt : k < xs.length
    · have hm := List.getElem?_eq_getElem hlt
      generalize xs[k] = x at hm
      have hsx := hs x (List.mem_of_getElem? hm)
      have hsj := jnB_size (xs := xs.take k) (b := 2000000) (fun y hy => hs y (List.mem_of_mem_take hy))
      have hlk : (xs.take k).length ≤ 1000 := by rw [List.length_take]; omega
      have hsj2 : (jnB (xs.take k)).size ≤ 2100000000 := by
        have := Nat.mul_le_mul_right (2000000 + 1) hlk
        omega
      obtain ⟨b, off, rfl, hb, c0⟩ := (hx.below hB).s hm
      have hk1 : (k : Int) < (xs.length : Int) := by omega
      clear hsj hlk
      by_cases hk0 : 0 < k
      · have hk2 : (0 : Int) < (k : Int) := by omega
        have hst := Lib.hid (jnB_take hm hk0)
        have e1 : (9223372036854775807 < (jnB (xs.take k)).size + 1) = False := eq_false (by omega)
        have e2 : (9223372036854775807 < (jnB (xs.take k)).size + 1 + x.size) = False := eq_false (by omega)
        clear hm
        generalize jnB (xs.take k) = J at hst e1 e2 hsj2 ⊢
        go_wp2
        go_roundw
        case rel => exact ⟨k + 1, by omega, by go_num, by rw [hst.out], hB⟩
        case measure => simp [intOf]; omega
      · obtain rfl : k = 0 := by omega
        have hst := Lib.hid (jnB_take0 hm)
        have e0 : jnB (xs.take 0) = ⟨#[]⟩ := rfl
        rw [e0]
        simp only [Nat.add_zero] at c0
        clear hm e0 hsj2
        go_wp2
        go_roundw
        case rel => exact ⟨1, by omega, by go_num, by rw [hst.out]; exact congrArg Value.string (by show ByteArray.empty ++ x = x; simp), hB⟩
        case measure => simp [intOf]; omega
    · obtain rfl : k = xs.length := by omega
      go_wp2
      go_ret
      rw [List.take_length]
      exact ⟨rfl, hB⟩
end

section
open Go.ChangeShapes Go.WideShapes Go.ChangeAt Go.RowKit Go.IntWalk

theorem own_cap9 {w : World} {base : Nat} {E : TypeId} {k g n cap : Nat} {xs : List Value} (h : w.ownsRow base E k (.slice (some ⟨g, 0, none⟩) n cap) n xs) : n ≤ cap := by
  rcases h.2 with ⟨e0, _⟩ | ⟨g', cap', cur, e0, hb, hg, hn, hm, hs, ht⟩
  · cases e0
  · injection e0 with _ _ e3
    omega
theorem txtB_size {m : Cl} (h : okCl m = true) : (txtB m).size ≤ 2000000 := by
  have hb := okCl_bd h
  have s1 := s_ord m.number
  have s2 := s_mon m.month
  have s3 := s_fe m.feast
  have s4 := s_wk m.weekday
  have s5 := s_sty m.style
  have s6 := s_in m.style
  have z0 : (⟨#[111, 110, 32, 116, 104, 101, 32]⟩ : ByteArray).size = 7 := rfl
  have z1 : (⟨#[32, 111, 102, 32]⟩ : ByteArray).size = 4 := rfl
  have z2 : (⟨#[32, 98, 121, 32]⟩ : ByteArray).size = 4 := rfl
  have z3 : (⟨#[105, 110, 32, 116, 104, 101, 32, 121, 101, 97, 114, 32]⟩ : ByteArray).size = 12 := rfl
  have z4 : (⟨#[105, 110, 32, 116, 104, 101, 32, 105, 110, 100, 105, 99, 116, 105, 111, 110, 32]⟩ : ByteArray).size = 17 := rfl
  have z5 : (⟨#[111, 110, 32, 97, 32]⟩ : ByteArray).size = 5 := rfl
  have z6 : (⟨#[97, 116, 32]⟩ : ByteArray).size = 3 := rfl
  have z7 : (⟨#[97, 116, 32, 116, 104, 101, 32, 101, 118, 101, 32, 111, 102, 32]⟩ : ByteArray).size = 14 := rfl
  have z8 : (⟨#[97, 116, 32, 116, 104, 101, 32, 111, 99, 116, 97, 118, 101, 32, 111, 102, 32]⟩ : ByteArray).size = 17 := rfl
  have z9 : (⟨#[32, 97, 102, 116, 101, 114, 32]⟩ : ByteArray).size = 7 := rfl
  have z10 : (⟨#[32, 98, 101, 102, 111, 114, 101, 32]⟩ : ByteArray).size = 8 := rfl
  unfold txtB
  split
  · unfold txt0; simp only [ByteArray.size_append]; omega
  split
  · unfold txt1
    repeat' split
    all_goals (simp only [ByteArray.size_append]; omega)
  split
  · have h2 : m.kind = 2 := by assumption
    have hd := decB_sz (z := m.number) (by omega) (by omega)
    unfold txt2; simp only [ByteArray.size_append]; omega
  split
  · have h2 : m.kind = 3 := by assumption
    have hd := decB_sz (z := m.number) (by omega) (by omega)
    unfold txt3; simp only [ByteArray.size_append]; omega
  split
  · have h2 : m.kind = 4 := by assumption
    have hd := decB_sz (z := m.number) (by omega) (by omega)
    unfold txt4; simp only [ByteArray.size_append]; omega
  · unfold txt5; simp only [ByteArray.size_append]; omega
def dtxR (xs : List Cl) : ByteArray × Int := if isDatingB xs then (jnB (xs.map txtB), 0) else (⟨#[]⟩, 1)
theorem dating_all {xs : List Cl} (h : isDatingB xs = true) : xs.length ≤ 8 ∧ ∀ m ∈ xs, okCl m = true := by
  unfold isDatingB at h
  simp only [Bool.and_eq_true, decide_eq_true_eq, List.all_eq_true] at h
  exact ⟨by omega, fun m hm => by have := h; first | exact this.1 m hm | exact this.2 m hm⟩
theorem take_txt {xs : List Cl} {k : Nat} {m : Cl} (h : xs[k]? = some m) : ((xs.take (k + 1)).map txtB).flatMap encS = ((xs.take k).map txtB).flatMap encS ++ [txtB m].flatMap encS := by
  obtain ⟨hl, rfl⟩ := List.getElem?_eq_some_iff.1 h
  rw [List.take_succ_eq_append_getElem hl, List.map_append, List.flatMap_append]
  rfl

set_option maxRecDepth 100000 in
set_option maxHeartbeats 4000000 in
theorem specDatingText_any (a : Option Addr) (cap : Nat) (xs : List Cl) (w : World) (hl : xs.length ≤ 1048576) (hx : Rd encCl w a xs) (hs : ∀ m ∈ xs, szCl m ≤ 1048576) :
    Calls Tryz.prog 31 #[.slice a xs.length cap] w fun e w' => e = .returned (.tuple #[.string (dtxR xs).1, .int .i64 (dtxR xs).2]) ∧ Below w.heap.size w w' := by
  cases hA : isDatingB xs
  · have hR : Hid (dtxR xs = (⟨#[]⟩, 1)) := by unfold Hid dtxR; rw [hA]; rfl
    have HM := Lib.hid (hA ▸ specIsDating_any a cap xs w hl hx hs)
    clear hA
    go_enter Tryz.func31, Tryz.ntmps31
    go_wp2_with fail
    refine HM.out.mono ?_
    rintro e w1 ⟨rfl, hB⟩
    go_wp2
    go_ret2
    rw [hR.out]
    exact ⟨rfl, hB⟩
  · have hR : Hid (dtxR xs = (jnB (xs.map txtB), 0)) := by unfold Hid dtxR; rw [hA]; rfl
    obtain ⟨hl8, hall⟩ := dating_all hA
    have HM := Lib.hid (hA ▸ specIsDating_any a cap xs w hl hx hs)
    obtain ⟨i0, hi, hz0, hz1, hz2⟩ := info_parts infoS
    clear hA
    go_enter Tryz.func31, Tryz.ntmps31
    go_wp2_with fail
    refine HM.out.mono ?_
    rintro e w1 ⟨rfl, hB1⟩
    clear HM
    have hz : Below w1.heap.size w1 (w1.alloc (.cells #[] 9)) := (Below.refl _ _).alloc (Nat.le_refl _) _
    have howns := World.ownsRow_made w1 #[] 0 hB1.size (by decide) rfl (e := 9) (size := 1)
    have hBs := stepB hB1 hz hB1.size
    clear hz hB1
    go_wp2
    go_loopw [4, 5] (fun o i wr => ∃ (k og oc : Nat), k ≤ xs.length ∧ i = .int .i64 k ∧ o = .slice (some ⟨og, 0, none⟩) k oc ∧ wr.ownsRow w.heap.size 9 1 (.slice (some ⟨og, 0, none⟩) k oc) k (((xs.take k).map txtB).flatMap encS) ∧ Below w.heap.size w wr) (fun _ i _ => xs.length - (intOf i).toNat)
    case atStart => exact ⟨0, _, _, Nat.zero_le _, rfl, rfl, howns, hBs⟩
    case round =>
     clear howns hBs
     obtain ⟨k, og, oc, hk, rfl, rfl, ow, hB⟩ := hrel
     by_cases hlt : k < xs.length
     · have hm := List.getElem?_eq_getElem hlt
       generalize xs[k] = m at hm
       have hst := Lib.hid (take_txt hm)
       have hokm := hall m (List.mem_of_getElem? hm)
       have HTX := Lib.hid (fun W => specTxt_any m W hokm)
       obtain ⟨b, off, rfl, hb, c0, c1, c2, c3, c4, c5, c6, c7⟩ := (hx.below hB).cl hm
       have hk1 : (k : Int) < (xs.length : Int) := by omega
       have hk8 : k ≤ 8 := by omega
       clear hm hokm
       go_wp2_with fail
       refine (HTX.out _).mono ?_
       rintro e W1 ⟨rfl, hB1⟩
       clear c0 c1 c2 c3 c4 c5 c6 c7
       replace ow := own_below ow hB1
       replace hB := stepB hB hB1 hB.size
       clear hB1
       have hown := ow
       have hz : Below W1.heap.size W1 (W1.alloc (.cells #[.string (txtB m)] 9)) := (Below.refl _ _).alloc (Nat.le_refl _) _
       replace ow := own_below ow hz
       replace hB := stepB hB hz hB.size
       clear hz
       go_wp2_with (at_builtin; refine wpList_append_lst _ rfl _ _ 56 rfl w.heap.size 9 i0 (.string ⟨#[]⟩) 1 16 Tryz.underlying56 hi hz0 hz1 hz2 rfl (by decide) _ _ k (((xs.take k).map txtB).flatMap encS) rfl ow ⟨W1.heap.size, 0, none⟩ 1 1 ([txtB m].flatMap encS) rfl rfl (World.news_of_block (heap_alloc_new _ _)) (one_str _) (by unfold maxLen; omega) (by omega) hB.size ?_)
       intro og2 oc2 W3 ow2 hgr hor
       replace hB := hB.grown hgr hB.size (fun g e => by cases e; exact (own_lt hown).1)
       go_wp2
       go_roundw
       case rel => exact ⟨k + 1, og2, oc2, by omega, by go_num, rfl, by rw [hst.out]; simpa using ow2, hB⟩
       case measure => simp [intOf]; omega
     · obtain rfl : k = xs.length := by omega
       rw [List.take_length] at ow
       have hl2 : (xs.map txtB).length = xs.length := by simp
       have HJ := Lib.hid (fun W (h : Rd encS W (some ⟨og, 0, none⟩) (xs.map txtB)) => l01Join_any (some ⟨og, 0, none⟩) oc (xs.map txtB) W (by simp; omega) h (fun x hx => by obtain ⟨m, hm, rfl⟩ := List.mem_map.1 hx; exact txtB_size (hall m hm)))
       rw [hl2] at HJ
       clear hl2
       go_wp2_with fail
       refine (HJ.out _ (Rd.of_own encS_len (by decide) ow)).mono ?_
       rintro e w5 ⟨rfl, hB1⟩
       go_wp2
       go_ret2
       rw [hR.out]
       exact ⟨rfl, stepB hB hB1 hB.size⟩

set_option maxRecDepth 100000 in
set_option maxHeartbeats 4000000 in
theorem datingText_any (a : Option Addr) (cap : Nat) (xs : List Cl) (w : World) (hl : xs.length ≤ 8) (hx : Rd encCl w a xs) (hall : ∀ m ∈ xs, okCl m = true) (ht : Lib.TabIs Tryz.prog w "internal/strconv.uint64pow10" .u64 Lib.pow10Tab) :
    Calls Tryz.prog 76 #[.slice a xs.length cap] w fun e w' => e = .returned (.string (jnB (xs.map txtB))) ∧ Below w.heap.size w w' := by
  obtain ⟨i0, hi, hz0, hz1, hz2⟩ := info_parts infoS
  have HT := Lib.hid (Lib.tabBelow_of_tabIs ht)
  have hBs : Below w.heap.size w (w.alloc (.cells #[] 9)) := (Below.refl _ w).alloc (Nat.le_refl _) _
  have howns := World.ownsRow_made w #[] 0 (Nat.le_refl _) (by decide) rfl (e := 9) (size := 1)
  clear ht
  go_enter Tryz.func76, Tryz.ntmps76
  go_wp2
  go_loopw [3, 9] (fun o i wr => ∃ (k og oc : Nat), k ≤ xs.length ∧ i = .int .i64 k ∧ o = .slice (some ⟨og, 0, none⟩) k oc ∧ wr.ownsRow w.heap.size 9 1 (.slice (some ⟨og, 0, none⟩) k oc) k (((xs.take k).map txtB).flatMap encS) ∧ Below w.heap.size w wr) (fun _ i _ => xs.length - (intOf i).toNat)
  case atStart => exact ⟨0, _, _, Nat.zero_le _, rfl, rfl, howns, hBs⟩
  case round =>
    clear howns hBs
    obtain ⟨k, og, oc, hk, rfl, rfl, ow, hB⟩ := hrel
    by_cases hlt : k < xs.length
    · have hm := List.getElem?_eq_getElem hlt
      generalize xs[k] = m at hm
      have hst := Lib.hid (take_txt hm)
      have hokm := hall m (List.mem_of_getElem? hm)
      have HTX := Lib.hid (fun W (hW : Below w.heap.size w W) => implTxt_any m W hokm (tabHere HT.out hW))
      obtain ⟨b, off, rfl, hb, c0, c1, c2, c3, c4, c5, c6, c7⟩ := (hx.below hB).cl hm
      have hk1 : (k : Int) < (xs.length : Int) := by omega
      have hk8 : k ≤ 8 := by omega
      clear hm hokm
      go_upto_region 5 with (fail)
      clear c0 c1 c2 c3 c4 c5 c6 c7
      have hz : Below wr.heap.size wr (wr.alloc (.cells #[.int .i64 m.kind, .int .i64 m.number, .int .i64 m.month, .int .i64 m.feast, .int .i64 m.relation, .int .i64 m.weekday, .int .i64 m.style, .string m.king] 31)) := (Below.refl _ _).alloc (Nat.le_refl _) _
      have hA : At wr [.int .i64 m.kind, .int .i64 m.number, .int .i64 m.month, .int .i64 m.feast, .int .i64 m.relation, .int .i64 m.weekday, .int .i64 m.style, .string m.king] (wr.alloc (.cells #[.int .i64 m.kind, .int .i64 m.number, .int .i64 m.month, .int .i64 m.feast, .int .i64 m.relation, .int .i64 m.weekday, .int .i64 m.style, .string m.king] 31)) := At.start _ _ _
      change Code.wp _ _ _ _ (wr.alloc (.cells #[.int .i64 m.kind, .int .i64 m.number, .int .i64 m.month, .int .i64 m.feast, .int .i64 m.relation, .int .i64 m.weekday, .int .i64 m.style, .string m.king] 31))
      generalize wr.alloc (.cells #[.int .i64 m.kind, .int .i64 m.number, .int .i64 m.month, .int .i64 m.feast, .int .i64 m.relation, .int .i64 m.weekday, .int .i64 m.style, .string m.king] 31) = W0 at hz hA ⊢
      have c0 := hA.cell 0 _ rfl; have c1 := hA.cell 1 _ rfl; have c2 := hA.cell 2 _ rfl; have c3 := hA.cell 3 _ rfl; have c4 := hA.cell 4 _ rfl; have c5 := hA.cell 5 _ rfl; have c6 := hA.cell 6 _ rfl; have c7 := hA.cell 7 _ rfl
      replace ow := own_below ow hz
      replace hB := stepB hB hz hB.size
      clear hz
      go_wp2_with fail
      refine (HTX.out _ hB).mono ?_
      rintro e W1 ⟨rfl, hB1⟩
      clear c0 c1 c2 c3 c4 c5 c6 c7
      replace ow := own_below ow hB1
      replace hB := stepB hB hB1 hB.size
      clear hB1
      have hown := ow
      have hz : Below W1.heap.size W1 (W1.alloc (.cells #[.string (txtB m)] 9)) := (Below.refl _ _).alloc (Nat.le_refl _) _
      replace ow := own_below ow hz
      replace hB := stepB hB hz hB.size
      clear hz
      go_wp2_with (at_builtin; refine wpList_append_lst _ rfl _ _ 56 rfl w.heap.size 9 i0 (.string ⟨#[]⟩) 1 16 Tryz.underlying56 hi hz0 hz1 hz2 rfl (by decide) _ _ k (((xs.take k).map txtB).flatMap encS) rfl ow ⟨W1.heap.size, 0, none⟩ 1 1 ([txtB m].flatMap encS) rfl rfl (World.news_of_block (heap_alloc_new _ _)) (one_str _) (by unfold maxLen; omega) (by omega) hB.size ?_)
      intro og2 oc2 W3 ow2 hgr hor
      replace hB := hB.grown hgr hB.size (fun g e => by cases e; exact (own_lt hown).1)
      go_wp2
      go_roundw
      case rel => exact ⟨k + 1, og2, oc2, by omega, by go_num, rfl, by rw [hst.out]; simpa using ow2, hB⟩
      case measure => simp [intOf]; omega
    · obtain rfl : k = xs.length := by omega
      rw [List.take_length] at ow
      have hl2 : (xs.map txtB).length = xs.length := by simp
      have hsz := jnB_size (xs := xs.map txtB) (b := 2000000) (fun x hx => by obtain ⟨m, hm, rfl⟩ := List.mem_map.1 hx; exact txtB_size (hall m hm))
      have hsz2 : (Lib.join ((xs.map txtB).map (·.data.toList)) [44]).length ≤ 140737488355328 := by
        have e : (jnB (xs.map txtB)).size = (Lib.join ((xs.map txtB).map (·.data.toList)) [44]).length := by
          show ((Lib.join ((xs.map txtB).map (·.data.toList)) [44]).toArray).size = _
          simp
        have := Nat.mul_le_mul_right (2000000 + 1) (show (xs.map txtB).length ≤ 8 by omega)
        omega
      have hcap := own_cap9 ow
      have HJ := Lib.hid (fun W (h : Rd encS W (some ⟨og, 0, none⟩) (xs.map txtB)) (hb : og < W.heap.size) => Tryz.strings_Join og 0 oc (xs.map txtB) ⟨#[44]⟩ W (fun j x hj => by
        obtain ⟨b, off, e, _, hc⟩ := h j x hj
        injection e with e; injection e with e1 e2; subst e1; subst e2
        have := hc 0 (.string x) rfl
        simpa [encS] using this) hb (by omega) (by omega) hsz2)
      rw [hl2] at HJ
      clear hsz hsz2 hl2
      go_wp2_with fail
      refine (HJ.out _ (Rd.of_own encS_len (by decide) ow) (own_lt ow).2).mono ?_
      rintro e w5 ⟨rfl, hB1⟩
      go_wp2
      go_ret
      exact ⟨by unfold jnB; rw [List.map_map]; rfl, stepB hB hB1 hB.size⟩

set_option maxHeartbeats 1000000 in
theorem implDatingText_any (a : Option Addr) (cap : Nat) (xs : List Cl) (w : World) (hl : xs.length ≤ 1048576) (hx : Rd encCl w a xs) (hs : ∀ m ∈ xs, szCl m ≤ 1048576) (ht : Lib.TabIs Tryz.prog w "internal/strconv.uint64pow10" .u64 Lib.pow10Tab) :
    Calls Tryz.prog 30 #[.slice a xs.length cap] w fun e w' => e = .returned (.tuple #[.string (dtxR xs).1, .int .i64 (dtxR xs).2]) ∧ Below w.heap.size w w' := by
  have HT := Lib.hid (Lib.tabBelow_of_tabIs ht)
  have hB0 := Below.refl w.heap.size w
  clear ht
  cases hA : isDatingB xs
  · have hR : Hid (dtxR xs = (⟨#[]⟩, 1)) := by unfold Hid dtxR; rw [hA]; rfl
    have HM := Lib.hid (hA ▸ implIsDating_any a cap xs w hl hx hs)
    clear hA
    go_enter Tryz.func30, Tryz.ntmps30
    go_wp2_with fail
    refine HM.out.mono ?_
    rintro e w1 ⟨rfl, hB⟩
    go_wp2
    go_ret2
    rw [hR.out]
    exact ⟨rfl, hB⟩
  · have hR : Hid (dtxR xs = (jnB (xs.map txtB), 0)) := by unfold Hid dtxR; rw [hA]; rfl
    have hf := dating_all hA
    have HM := Lib.hid (hA ▸ implIsDating_any a cap xs w hl hx hs)
    have HX := Lib.hid (fun W (hB : Below w.heap.size w W) => datingText_any a cap xs W hf.1 (hx.below hB) hf.2 (tabHere HT.out hB))
    clear hA hf
    go_enter Tryz.func30, Tryz.ntmps30
    go_wp2_with fail
    refine HM.out.mono ?_
    rintro e w1 ⟨rfl, hB⟩
    go_wp2_with fail
    refine (HX.out _ hB).mono ?_
    rintro e w2 ⟨rfl, hB1⟩
    go_wp2
    go_ret2
    rw [hR.out]
    exact ⟨rfl, stepB hB hB1 hB.size⟩
end
end Go.Proofs.YteajkofgcmfaoaaGreatDoor
