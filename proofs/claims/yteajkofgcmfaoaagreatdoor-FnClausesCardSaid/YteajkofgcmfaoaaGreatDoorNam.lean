/- Walks: the names of months, weekdays, feasts, styles, indictions, and the ordinals; the program splits texts, the reference has lists. Printed by gen_names.py. -/
import Derived.Test.YteajkofgcmfaoaaGreatDoorShelf6
import Derived.Test.YteajkofgcmfaoaaGreatDoorTS
import Derived.Test.YteajkofgcmfaoaaGreatDoorClause
import Derived.Test.YteajkofgcmfaoaaGreatDoorAppAny
import Derived.Lib.IndexBytes
namespace Go.Proofs.YteajkofgcmfaoaaGreatDoor
open Go.ChangeShapes Go.WideShapes Go.ChangeAt Go.RowKit Go.IntWalk Go.Shelf

/-! ### strings.Split at one byte: no variable of the library is read -/
theorem split_gen (s : ByteArray) (c : UInt8) (w : World) (hs : s.size < 4294967281) :
    Calls Tryz.prog 39 #[.string s, .string ⟨#[c]⟩] w fun e w' =>
      e = .returned (.slice (some ⟨w.heap.size, 0, none⟩) (Lib.countB s ⟨#[c]⟩ + 1) (Lib.countB s ⟨#[c]⟩ + 1)) ∧ w' = w.alloc (.cells ((Lib.splitB ⟨#[c]⟩ 0 (Lib.countB s ⟨#[c]⟩) s).map Value.string).toArray 9) := by
  have L := Tryz.lays146
  have hi9 : (Tryz.prog.info? 9).map (fun i => (i.zero, i.size, i.bytes)) = some (some (.string ByteArray.empty), 1, 16) := by kernel_rfl
  have hle := Lib.countB_le ⟨#[c]⟩ (Nat.le_refl 1) s.size s (Nat.le_refl _)
  have hlen := Lib.splitB_all ⟨#[c]⟩ (Nat.le_refl 1) 0 _ s rfl
  have hI : ∀ (x : ByteArray) (d : Array Value), x.size ≤ s.size → Calls Tryz.prog 144 #[.string x, .string ⟨#[c]⟩] (w.alloc (.cells d 9)) fun e w' => e = .returned (.int .i64 (Lib.indexB x ⟨#[c]⟩)) ∧ w' = w.alloc (.cells d 9) := fun x d _ => by
    have h := Any.strings_Index_one (P := Tryz.prog) { L with } x c (w.alloc (.cells d 9))
    have e : Lib.indexB x ⟨#[c]⟩ = Lib.indexByte x.data.toList c := Lib.index_one _ _
    rw [e]
    exact h
  have hC : Calls Tryz.prog 143 #[.string s, .string ⟨#[c]⟩] w fun e w' => e = .returned (.int .i64 (Lib.countB s ⟨#[c]⟩)) ∧ w' = w := by
    have h := Any.strings_Count_one (P := Tryz.prog) { L with } s c w
    have e : Lib.countB s ⟨#[c]⟩ = Lib.countByte s.data.toList c := Lib.count_one _ _
    rw [e]
    exact h
  have d := Any.strings_genSplit_core (P := Tryz.prog) { L with } hi9 s ⟨#[c]⟩ 0 (-1) (Lib.countB s ⟨#[c]⟩ + 1) w hs (Nat.le_refl 1) (Nat.zero_le _) hI hC (by decide) (by decide) (by rw [if_pos (by decide)]; omega)
  rw [Nat.add_sub_cancel, hlen] at d
  have e2 : Lib.cellsOf (Lib.splitB ⟨#[c]⟩ 0 (Lib.countB s ⟨#[c]⟩) s) (Lib.countB s ⟨#[c]⟩ + 1) = ((Lib.splitB ⟨#[c]⟩ 0 (Lib.countB s ⟨#[c]⟩) s).map Value.string).toArray := by rw [← hlen]; exact Lib.cellsOf_full _
  rw [e2] at d
  replace d := Lib.hid (show Calls Tryz.prog 82 _ _ _ from d)
  clear hI hC hle hlen e2 hi9 L
  go_enter Tryz.func39, Tryz.ntmps39
  go_wp2_with (go_at_call 82; refine d.out.mono ?_; rintro e w' ⟨rfl, hw⟩; rw [hw])
  go_ret
  exact ⟨rfl, rfl⟩
theorem encS_map (L : List ByteArray) : L.map Value.string = L.flatMap encS := by
  induction L with
  | nil => rfl
  | cons x l ih => rw [List.map_cons, List.flatMap_cons, ih]; rfl
theorem own_of_new (w : World) (L : List ByteArray) (n : Nat) (hn : L.length = n) (hm : n ≤ maxLen) :
    (w.alloc (.cells (L.map Value.string).toArray 9)).ownsRow w.heap.size 9 1 (.slice (some ⟨w.heap.size, 0, none⟩) n n) n (L.flatMap encS) := by
  refine ⟨by rw [length_flatMap_enc encS 1 encS_len, hn], .inr ⟨w.heap.size, n, (L.map Value.string).toArray, rfl, Nat.le_refl _, heap_alloc_new w _, Nat.le_refl _, hm, by simp [hn], ?_⟩⟩
  rw [← encS_map]
  simp only [Nat.mul_one]
  exact List.take_of_length_le (by simp [hn])
/-- A text split at its blanks, its pieces known. -/
theorem split_known (s : ByteArray) (L : List ByteArray) (n : Nat) (w : World) (hs : s.size < 4294967281) (hn : Lib.countB s ⟨#[32]⟩ + 1 = n) (hm : n ≤ maxLen) (hL : Lib.splitB ⟨#[32]⟩ 0 (Lib.countB s ⟨#[32]⟩) s = L) :
    Calls Tryz.prog 39 #[.string s, .string ⟨#[32]⟩] w fun e w' => ∃ g, e = .returned (.slice (some ⟨g, 0, none⟩) n n) ∧ w'.ownsRow w.heap.size 9 1 (.slice (some ⟨g, 0, none⟩) n n) n (L.flatMap encS) ∧ Below w.heap.size w w' := by
  refine (split_gen s 32 w hs).mono ?_
  rintro e w' ⟨rfl, rfl⟩
  have hlen := Lib.splitB_all ⟨#[32]⟩ (by decide) 0 _ s rfl
  rw [hL] at hlen ⊢
  rw [hn] at hlen ⊢
  exact ⟨_, rfl, own_of_new w L n hlen hm, (Below.refl _ _).alloc (Nat.le_refl _) _⟩

def monL : List ByteArray := [⟨#[106, 97, 110, 117, 97, 114, 121]⟩, ⟨#[102, 101, 98, 114, 117, 97, 114, 121]⟩, ⟨#[109, 97, 114, 99, 104]⟩, ⟨#[97, 112, 114, 105, 108]⟩, ⟨#[109, 97, 121]⟩, ⟨#[106, 117, 110, 101]⟩, ⟨#[106, 117, 108, 121]⟩, ⟨#[97, 117, 103, 117, 115, 116]⟩, ⟨#[115, 101, 112, 116, 101, 109, 98, 101, 114]⟩, ⟨#[111, 99, 116, 111, 98, 101, 114]⟩, ⟨#[110, 111, 118, 101, 109, 98, 101, 114]⟩, ⟨#[100, 101, 99, 101, 109, 98, 101, 114]⟩]
def wkL : List ByteArray := [⟨#[109, 111, 110, 100, 97, 121]⟩, ⟨#[116, 117, 101, 115, 100, 97, 121]⟩, ⟨#[119, 101, 100, 110, 101, 115, 100, 97, 121]⟩, ⟨#[116, 104, 117, 114, 115, 100, 97, 121]⟩, ⟨#[102, 114, 105, 100, 97, 121]⟩, ⟨#[115, 97, 116, 117, 114, 100, 97, 121]⟩, ⟨#[115, 117, 110, 100, 97, 121]⟩]
def feL : List ByteArray := [⟨#[99, 105, 114, 99, 117, 109, 99, 105, 115, 105, 111, 110]⟩, ⟨#[101, 112, 105, 112, 104, 97, 110, 121]⟩, ⟨#[99, 97, 110, 100, 108, 101, 109, 97, 115]⟩, ⟨#[97, 110, 110, 117, 110, 99, 105, 97, 116, 105, 111, 110]⟩, ⟨#[106, 111, 104, 110]⟩, ⟨#[112, 101, 116, 101, 114]⟩, ⟨#[108, 97, 117, 114, 101, 110, 99, 101]⟩, ⟨#[97, 115, 115, 117, 109, 112, 116, 105, 111, 110]⟩, ⟨#[109, 105, 99, 104, 97, 101, 108]⟩, ⟨#[97, 108, 108, 115, 97, 105, 110, 116, 115]⟩, ⟨#[109, 97, 114, 116, 105, 110]⟩, ⟨#[97, 110, 100, 114, 101, 119]⟩, ⟨#[110, 105, 99, 104, 111, 108, 97, 115]⟩, ⟨#[99, 104, 114, 105, 115, 116, 109, 97, 115]⟩, ⟨#[97, 115, 104, 101, 115]⟩, ⟨#[112, 97, 108, 109, 115]⟩, ⟨#[101, 97, 115, 116, 101, 114]⟩, ⟨#[97, 115, 99, 101, 110, 115, 105, 111, 110]⟩, ⟨#[112, 101, 110, 116, 101, 99, 111, 115, 116]⟩, ⟨#[116, 114, 105, 110, 105, 116, 121]⟩]
def styL : List ByteArray := [⟨#[106, 97, 110, 117, 97, 114, 121]⟩, ⟨#[109, 97, 114, 99, 104]⟩, ⟨#[108, 97, 100, 121]⟩, ⟨#[112, 105, 115, 97]⟩, ⟨#[101, 97, 115, 116, 101, 114]⟩, ⟨#[99, 104, 114, 105, 115, 116, 109, 97, 115]⟩, ⟨#[115, 101, 112, 116, 101, 109, 98, 101, 114]⟩]
def inL : List ByteArray := [⟨#[103, 114, 101, 101, 107]⟩, ⟨#[98, 101, 100, 101]⟩, ⟨#[114, 111, 109, 97, 110]⟩]
def o20L : List ByteArray := [⟨#[102, 105, 114, 115, 116]⟩, ⟨#[115, 101, 99, 111, 110, 100]⟩, ⟨#[116, 104, 105, 114, 100]⟩, ⟨#[102, 111, 117, 114, 116, 104]⟩, ⟨#[102, 105, 102, 116, 104]⟩, ⟨#[115, 105, 120, 116, 104]⟩, ⟨#[115, 101, 118, 101, 110, 116, 104]⟩, ⟨#[101, 105, 103, 104, 116, 104]⟩, ⟨#[110, 105, 110, 116, 104]⟩, ⟨#[116, 101, 110, 116, 104]⟩, ⟨#[101, 108, 101, 118, 101, 110, 116, 104]⟩, ⟨#[116, 119, 101, 108, 102, 116, 104]⟩, ⟨#[116, 104, 105, 114, 116, 101, 101, 110, 116, 104]⟩, ⟨#[102, 111, 117, 114, 116, 101, 101, 110, 116, 104]⟩, ⟨#[102, 105, 102, 116, 101, 101, 110, 116, 104]⟩, ⟨#[115, 105, 120, 116, 101, 101, 110, 116, 104]⟩, ⟨#[115, 101, 118, 101, 110, 116, 101, 101, 110, 116, 104]⟩, ⟨#[101, 105, 103, 104, 116, 101, 101, 110, 116, 104]⟩, ⟨#[110, 105, 110, 101, 116, 101, 101, 110, 116, 104]⟩, ⟨#[116, 119, 101, 110, 116, 105, 101, 116, 104]⟩]
def ordL : List ByteArray := [⟨#[102, 105, 114, 115, 116]⟩, ⟨#[115, 101, 99, 111, 110, 100]⟩, ⟨#[116, 104, 105, 114, 100]⟩, ⟨#[102, 111, 117, 114, 116, 104]⟩, ⟨#[102, 105, 102, 116, 104]⟩, ⟨#[115, 105, 120, 116, 104]⟩, ⟨#[115, 101, 118, 101, 110, 116, 104]⟩, ⟨#[101, 105, 103, 104, 116, 104]⟩, ⟨#[110, 105, 110, 116, 104]⟩, ⟨#[116, 101, 110, 116, 104]⟩, ⟨#[101, 108, 101, 118, 101, 110, 116, 104]⟩, ⟨#[116, 119, 101, 108, 102, 116, 104]⟩, ⟨#[116, 104, 105, 114, 116, 101, 101, 110, 116, 104]⟩, ⟨#[102, 111, 117, 114, 116, 101, 101, 110, 116, 104]⟩, ⟨#[102, 105, 102, 116, 101, 101, 110, 116, 104]⟩, ⟨#[115, 105, 120, 116, 101, 101, 110, 116, 104]⟩, ⟨#[115, 101, 118, 101, 110, 116, 101, 101, 110, 116, 104]⟩, ⟨#[101, 105, 103, 104, 116, 101, 101, 110, 116, 104]⟩, ⟨#[110, 105, 110, 101, 116, 101, 101, 110, 116, 104]⟩, ⟨#[116, 119, 101, 110, 116, 105, 101, 116, 104]⟩, ⟨#[116, 119, 101, 110, 116, 121, 45, 102, 105, 114, 115, 116]⟩, ⟨#[116, 119, 101, 110, 116, 121, 45, 115, 101, 99, 111, 110, 100]⟩, ⟨#[116, 119, 101, 110, 116, 121, 45, 116, 104, 105, 114, 100]⟩, ⟨#[116, 119, 101, 110, 116, 121, 45, 102, 111, 117, 114, 116, 104]⟩, ⟨#[116, 119, 101, 110, 116, 121, 45, 102, 105, 102, 116, 104]⟩, ⟨#[116, 119, 101, 110, 116, 121, 45, 115, 105, 120, 116, 104]⟩, ⟨#[116, 119, 101, 110, 116, 121, 45, 115, 101, 118, 101, 110, 116, 104]⟩, ⟨#[116, 119, 101, 110, 116, 121, 45, 101, 105, 103, 104, 116, 104]⟩, ⟨#[116, 119, 101, 110, 116, 121, 45, 110, 105, 110, 116, 104]⟩, ⟨#[116, 104, 105, 114, 116, 105, 101, 116, 104]⟩, ⟨#[116, 104, 105, 114, 116, 121, 45, 102, 105, 114, 115, 116]⟩]
/-- The name with a number, none beyond the list. -/
def nameN (L : List ByteArray) (lo n : Int) : ByteArray := if inB n lo (lo + L.length - 1) then L.getD (n - lo).toNat ⟨#[]⟩ else ⟨#[]⟩
theorem nameN_out {L : List ByteArray} {lo n hi : Int} (hh : lo + L.length - 1 = hi) (h : inB n lo hi = false) : nameN L lo n = ⟨#[]⟩ := by unfold nameN; rw [hh, h]; rfl
theorem nameN_in {L : List ByteArray} {lo n hi : Int} (hh : lo + L.length - 1 = hi) (h : inB n lo hi = true) : ∃ j : Nat, n - lo = (j : Int) ∧ n = lo + j ∧ j < L.length ∧ L[j]? = some (nameN L lo n) := by
  have hb : lo ≤ n ∧ n ≤ hi := by unfold inB at h; simpa using h
  refine ⟨(n - lo).toNat, by omega, by omega, by omega, ?_⟩
  unfold nameN
  rw [hh, h, if_pos rfl, List.getD_eq_getElem?_getD, List.getElem?_eq_getElem (by omega)]
  rfl
theorem nameN_size {L : List ByteArray} {lo n : Int} {b : Nat} (h : ∀ x ∈ L, x.size ≤ b) : (nameN L lo n).size ≤ b := by
  unfold nameN
  split
  · rw [List.getD_eq_getElem?_getD]
    cases e : L[(n - lo).toNat]? with
    | none => exact Nat.zero_le _
    | some x => exact h x (List.mem_of_getElem? e)
  · exact Nat.zero_le _
set_option maxRecDepth 100000 in
theorem monthNames_any (w : World) : Calls Tryz.prog 54 #[] w fun e w' => ∃ g c, e = .returned (.slice (some ⟨g, 0, none⟩) 12 c) ∧ w'.ownsRow w.heap.size 9 1 (.slice (some ⟨g, 0, none⟩) 12 c) 12 (monL.flatMap encS) ∧ Below w.heap.size w w' := by
  go_enter Tryz.func54, Tryz.ntmps54
  go_wp2_with (go_at_call 39; refine (split_known _ monL 12 _ (by decide +kernel) (by decide +kernel) (by decide) (by decide +kernel)).mono ?_; rintro e w1 ⟨g, rfl, own, hB⟩)
  go_ret
  exact ⟨g, _, rfl, own, hB⟩
set_option maxRecDepth 100000 in
theorem weekdayNames_any (w : World) : Calls Tryz.prog 57 #[] w fun e w' => ∃ g c, e = .returned (.slice (some ⟨g, 0, none⟩) 7 c) ∧ w'.ownsRow w.heap.size 9 1 (.slice (some ⟨g, 0, none⟩) 7 c) 7 (wkL.flatMap encS) ∧ Below w.heap.size w w' := by
  go_enter Tryz.func57, Tryz.ntmps57
  go_wp2_with (go_at_call 39; refine (split_known _ wkL 7 _ (by decide +kernel) (by decide +kernel) (by decide) (by decide +kernel)).mono ?_; rintro e w1 ⟨g, rfl, own, hB⟩)
  go_ret
  exact ⟨g, _, rfl, own, hB⟩
set_option maxRecDepth 100000 in
theorem feastNames_any (w : World) : Calls Tryz.prog 87 #[] w fun e w' => ∃ g c, e = .returned (.slice (some ⟨g, 0, none⟩) 20 c) ∧ w'.ownsRow w.heap.size 9 1 (.slice (some ⟨g, 0, none⟩) 20 c) 20 (feL.flatMap encS) ∧ Below w.heap.size w w' := by
  go_enter Tryz.func87, Tryz.ntmps87
  go_wp2_with (go_at_call 39; refine (split_known _ feL 20 _ (by decide +kernel) (by decide +kernel) (by decide) (by decide +kernel)).mono ?_; rintro e w1 ⟨g, rfl, own, hB⟩)
  go_ret
  exact ⟨g, _, rfl, own, hB⟩
set_option maxRecDepth 100000 in
theorem styleNames_any (w : World) : Calls Tryz.prog 90 #[] w fun e w' => ∃ g c, e = .returned (.slice (some ⟨g, 0, none⟩) 7 c) ∧ w'.ownsRow w.heap.size 9 1 (.slice (some ⟨g, 0, none⟩) 7 c) 7 (styL.flatMap encS) ∧ Below w.heap.size w w' := by
  go_enter Tryz.func90, Tryz.ntmps90
  go_wp2_with (go_at_call 39; refine (split_known _ styL 7 _ (by decide +kernel) (by decide +kernel) (by decide) (by decide +kernel)).mono ?_; rintro e w1 ⟨g, rfl, own, hB⟩)
  go_ret
  exact ⟨g, _, rfl, own, hB⟩
set_option maxRecDepth 100000 in
theorem indictionNames_any (w : World) : Calls Tryz.prog 91 #[] w fun e w' => ∃ g c, e = .returned (.slice (some ⟨g, 0, none⟩) 3 c) ∧ w'.ownsRow w.heap.size 9 1 (.slice (some ⟨g, 0, none⟩) 3 c) 3 (inL.flatMap encS) ∧ Below w.heap.size w w' := by
  have own := own_of_new w inL 3 rfl (by decide)
  have hB : Below w.heap.size w (w.alloc (.cells (inL.map Value.string).toArray 9)) := (Below.refl _ _).alloc (Nat.le_refl _) _
  replace own := Lib.hid own
  go_enter Tryz.func91, Tryz.ntmps91
  go_wp2
  go_ret
  exact ⟨w.heap.size, 3, rfl, own.out, hB⟩
set_option maxRecDepth 100000 in
theorem l11Months_any (w : World) : Calls Tryz.prog 56 #[] w fun e w' => ∃ g c, e = .returned (.slice (some ⟨g, 0, none⟩) 12 c) ∧ w'.ownsRow w.heap.size 9 1 (.slice (some ⟨g, 0, none⟩) 12 c) 12 (monL.flatMap encS) ∧ Below w.heap.size w w' := by
  have own := own_of_new w monL 12 rfl (by decide)
  have hB : Below w.heap.size w (w.alloc (.cells (monL.map Value.string).toArray 9)) := (Below.refl _ _).alloc (Nat.le_refl _) _
  replace own := Lib.hid own
  go_enter Tryz.func56, Tryz.ntmps56
  go_wp2
  go_ret
  exact ⟨w.heap.size, 12, rfl, own.out, hB⟩
set_option maxRecDepth 100000 in
theorem l11Weekdays_any (w : World) : Calls Tryz.prog 58 #[] w fun e w' => ∃ g c, e = .returned (.slice (some ⟨g, 0, none⟩) 7 c) ∧ w'.ownsRow w.heap.size 9 1 (.slice (some ⟨g, 0, none⟩) 7 c) 7 (wkL.flatMap encS) ∧ Below w.heap.size w w' := by
  have own := own_of_new w wkL 7 rfl (by decide)
  have hB : Below w.heap.size w (w.alloc (.cells (wkL.map Value.string).toArray 9)) := (Below.refl _ _).alloc (Nat.le_refl _) _
  replace own := Lib.hid own
  go_enter Tryz.func58, Tryz.ntmps58
  go_wp2
  go_ret
  exact ⟨w.heap.size, 7, rfl, own.out, hB⟩
set_option maxRecDepth 100000 in
theorem l05Names_any (w : World) : Calls Tryz.prog 156 #[] w fun e w' => ∃ g c, e = .returned (.slice (some ⟨g, 0, none⟩) 20 c) ∧ w'.ownsRow w.heap.size 9 1 (.slice (some ⟨g, 0, none⟩) 20 c) 20 (feL.flatMap encS) ∧ Below w.heap.size w w' := by
  have own := own_of_new w feL 20 rfl (by decide)
  have hB : Below w.heap.size w (w.alloc (.cells (feL.map Value.string).toArray 9)) := (Below.refl _ _).alloc (Nat.le_refl _) _
  replace own := Lib.hid own
  go_enter Tryz.func156, Tryz.ntmps156
  go_wp2
  go_ret
  exact ⟨w.heap.size, 20, rfl, own.out, hB⟩
set_option maxRecDepth 100000 in
theorem l06Names_any (w : World) : Calls Tryz.prog 155 #[] w fun e w' => ∃ g c, e = .returned (.slice (some ⟨g, 0, none⟩) 7 c) ∧ w'.ownsRow w.heap.size 9 1 (.slice (some ⟨g, 0, none⟩) 7 c) 7 (styL.flatMap encS) ∧ Below w.heap.size w w' := by
  have own := own_of_new w styL 7 rfl (by decide)
  have hB : Below w.heap.size w (w.alloc (.cells (styL.map Value.string).toArray 9)) := (Below.refl _ _).alloc (Nat.le_refl _) _
  replace own := Lib.hid own
  go_enter Tryz.func155, Tryz.ntmps155
  go_wp2
  go_ret
  exact ⟨w.heap.size, 7, rfl, own.out, hB⟩
set_option maxRecDepth 100000 in
theorem l11Indictions_any (w : World) : Calls Tryz.prog 108 #[] w fun e w' => ∃ g c, e = .returned (.slice (some ⟨g, 0, none⟩) 3 c) ∧ w'.ownsRow w.heap.size 9 1 (.slice (some ⟨g, 0, none⟩) 3 c) 3 (inL.flatMap encS) ∧ Below w.heap.size w w' := by
  have own := own_of_new w inL 3 rfl (by decide)
  have hB : Below w.heap.size w (w.alloc (.cells (inL.map Value.string).toArray 9)) := (Below.refl _ _).alloc (Nat.le_refl _) _
  replace own := Lib.hid own
  go_enter Tryz.func108, Tryz.ntmps108
  go_wp2
  go_ret
  exact ⟨w.heap.size, 3, rfl, own.out, hB⟩
set_option maxRecDepth 100000 in
theorem l09Words_any (w : World) : Calls Tryz.prog 154 #[] w fun e w' => ∃ g c, e = .returned (.slice (some ⟨g, 0, none⟩) 20 c) ∧ w'.ownsRow w.heap.size 9 1 (.slice (some ⟨g, 0, none⟩) 20 c) 20 (o20L.flatMap encS) ∧ Below w.heap.size w w' := by
  have own := own_of_new w o20L 20 rfl (by decide)
  have hB : Below w.heap.size w (w.alloc (.cells (o20L.map Value.string).toArray 9)) := (Below.refl _ _).alloc (Nat.le_refl _) _
  replace own := Lib.hid own
  go_enter Tryz.func154, Tryz.ntmps154
  go_wp2
  go_ret
  exact ⟨w.heap.size, 20, rfl, own.out, hB⟩
end Go.Proofs.YteajkofgcmfaoaaGreatDoor
