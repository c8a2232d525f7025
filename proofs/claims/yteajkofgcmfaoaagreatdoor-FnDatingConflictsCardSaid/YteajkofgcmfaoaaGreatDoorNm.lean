/- Walks: the ordinals, the names by number; both sides. Printed by gen_names.py. -/
import Derived.Lib.IndexBytes
import Derived.Test.YteajkofgcmfaoaaGreatDoorShelf6
import Derived.Test.YteajkofgcmfaoaaGreatDoorTt
import Derived.Test.YteajkofgcmfaoaaGreatDoorCl
import Derived.Test.YteajkofgcmfaoaaGreatDoorAppAny
namespace Go.Proofs.YteajkofgcmfaoaaGreatDoor
section
open Go.ChangeShapes Go.WideShapes Go.ChangeAt Go.RowKit Go.IntWalk Go.Shelf

/-! ### strings.Split at one byte: no variable of the library is read -/
theorem split_gen (s : ByteArray) (c : UInt8) (w : World) (hs : s.size < 4294967281) :
    Calls Tryz.prog 39 #[.string s, .string ⟨#[c]⟩] w fun e w' =>
      e = .returned (.slice (some ⟨w.heap.size, 0, none⟩) (Lib.countB s ⟨#[c]⟩ + 1) (Lib.countB s ⟨#[c]⟩ + 1)) ∧ w' = w.alloc (.cells ((Lib.splitB ⟨#[c]⟩ 0 (Lib.countB s ⟨#[c]⟩) s).map Value.string).toArray 9) := by
  have L := Tryz.lays146
  have hi9 : (Tryz.prog.info? 9).map (fun i => (i.zero, i.size, i.bytes)) = some (some (.string ByteArray.empty), 1, 16) := by kernel_rfl
  have hle := Lib.countB_le ⟨#[c]⟩ (Nat.le_refl 1) s.size s (Nat.le_refl _)
  have hlen := Lib.splitB_all ⟨#[c]⟩ (Nat.le_refl 1) 0 _ s rfl
  have hI : ∀ (x : ByteArray) (d : Array Value), x.size ≤ s.size → Calls Tryz.prog 144 #[.string x, .string ⟨#[c]⟩] (w.alloc (.cells d 9)) fun e w' => e = .returned (.int .i64 (Lib.indexB x ⟨#[c]⟩)) ∧ w' = w.alloc (.cells d 9) := fun x d _ => by
    have h := Any.strings_Index_one (P := Tryz.prog) { L with } x c (w.alloc (.cells d 9))
    have e : Lib.indexB x ⟨#[c]⟩ = Lib.indexByte x.data.toList c := Lib.index_one _ _
    rw [e]
    exact h
  have hC : Calls Tryz.prog 143 #[.string s, .string ⟨#[c]⟩] w fun e w' => e = .returned (.int .i64 (Lib.countB s ⟨#[c]⟩)) ∧ w' = w := by
    have h := Any.strings_Count_one (P := Tryz.prog) { L with } s c w
    have e : Lib.countB s ⟨#[c]⟩ = Lib.countByte s.data.toList c := Lib.count_one _ _
    rw [e]
    exact h
  have d := Any.strings_genSplit_core (P := Tryz.prog) { L with } hi9 s ⟨#[c]⟩ 0 (-1) (Lib.countB s ⟨#[c]⟩ + 1) w hs (Nat.le_refl 1) (Nat.zero_le _) hI hC (by decide) (by decide) (by rw [if_pos (by decide)]; omega)
  rw [Nat.add_sub_cancel, hlen] at d
  have e2 : Lib.cellsOf (Lib.splitB ⟨#[c]⟩ 0 (Lib.countB s ⟨#[c]⟩) s) (Lib.countB s ⟨#[c]⟩ + 1) = ((Lib.splitB ⟨#[c]⟩ 0 (Lib.countB s ⟨#[c]⟩) s).map Value.string).toArray := by rw [← hlen]; exact Lib.cellsOf_full _
  rw [e2] at d
  replace d := Lib.hid (show Calls Tryz.prog 82 _ _ _ from d)
  clear hI hC hle hlen e2 hi9 L
  go_enter Tryz.func39, Tryz.ntmps39
  go_wp2_with (go_at_call 82; refine d.out.mono ?_; rintro e w' ⟨rfl, hw⟩; rw [hw])
  go_ret
  exact ⟨rfl, rfl⟩
theorem encS_map (L : List ByteArray) : L.map Value.string = L.flatMap encS := by
  induction L with
  | nil => rfl
  | cons x l ih => rw [List.map_cons, List.flatMap_cons, ih]; rfl
theorem own_of_new (w : World) (L : List ByteArray) (n : Nat) (hn : L.length = n) (hm : n ≤ maxLen) :
    (w.alloc (.cells (L.map Value.string).toArray 9)).ownsRow w.heap.size 9 1 (.slice (some ⟨w.heap.size, 0, none⟩) n n) n (L.flatMap encS) := by
  refine ⟨by rw [length_flatMap_enc encS 1 encS_len, hn], .inr ⟨w.heap.size, n, (L.map Value.string).toArray, rfl, Nat.le_refl _, heap_alloc_new w _, Nat.le_refl _, hm, by simp [hn], ?_⟩⟩
  rw [← encS_map]
  simp only [Nat.mul_one]
  exact List.take_of_length_le (by simp [hn])
/-- A text split at its blanks, its pieces known. -/
theorem split_known (s : ByteArray) (L : List ByteArray) (n : Nat) (w : World) (hs : s.size < 4294967281) (hn : Lib.countB s ⟨#[32]⟩ + 1 = n) (hm : n ≤ maxLen) (hL : Lib.splitB ⟨#[32]⟩ 0 (Lib.countB s ⟨#[32]⟩) s = L) :
    Calls Tryz.prog 39 #[.string s, .string ⟨#[32]⟩] w fun e w' => ∃ g, e = .returned (.slice (some ⟨g, 0, none⟩) n n) ∧ w'.ownsRow w.heap.size 9 1 (.slice (some ⟨g, 0, none⟩) n n) n (L.flatMap encS) ∧ Below w.heap.size w w' := by
  refine (split_gen s 32 w hs).mono ?_
  rintro e w' ⟨rfl, rfl⟩
  have hlen := Lib.splitB_all ⟨#[32]⟩ (by decide) 0 _ s rfl
  rw [hL] at hlen ⊢
  rw [hn] at hlen ⊢
  exact ⟨_, rfl, own_of_new w L n hlen hm, (Below.refl _ _).alloc (Nat.le_refl _) _⟩

def monL : List ByteArray := [⟨#[106, 97, 110, 117, 97, 114, 121]⟩, ⟨#[102, 101, 98, 114, 117, 97, 114, 121]⟩, ⟨#[109, 97, 114, 99, 104]⟩, ⟨#[97, 112, 114, 105, 108]⟩, ⟨#[109, 97, 121]⟩, ⟨#[106, 117, 110, 101]⟩, ⟨#[106, 117, 108, 121]⟩, ⟨#[97, 117, 103, 117, 115, 116]⟩, ⟨#[115, 101, 112, 116, 101, 109, 98, 101, 114]⟩, ⟨#[111, 99, 116, 111, 98, 101, 114]⟩, ⟨#[110, 111, 118, 101, 109, 98, 101, 114]⟩, ⟨#[100, 101, 99, 101, 109, 98, 101, 114]⟩]
def wkL : List ByteArray := [⟨#[109, 111, 110, 100, 97, 121]⟩, ⟨#[116, 117, 101, 115, 100, 97, 121]⟩, ⟨#[119, 101, 100, 110, 101, 115, 100, 97, 121]⟩, ⟨#[116, 104, 117, 114, 115, 100, 97, 121]⟩, ⟨#[102, 114, 105, 100, 97, 121]⟩, ⟨#[115, 97, 116, 117, 114, 100, 97, 121]⟩, ⟨#[115, 117, 110, 100, 97, 121]⟩]
def feL : List ByteArray := [⟨#[99, 105, 114, 99, 117, 109, 99, 105, 115, 105, 111, 110]⟩, ⟨#[101, 112, 105, 112, 104, 97, 110, 121]⟩, ⟨#[99, 97, 110, 100, 108, 101, 109, 97, 115]⟩, ⟨#[97, 110, 110, 117, 110, 99, 105, 97, 116, 105, 111, 110]⟩, ⟨#[106, 111, 104, 110]⟩, ⟨#[112, 101, 116, 101, 114]⟩, ⟨#[108, 97, 117, 114, 101, 110, 99, 101]⟩, ⟨#[97, 115, 115, 117, 109, 112, 116, 105, 111, 110]⟩, ⟨#[109, 105, 99, 104, 97, 101, 108]⟩, ⟨#[97, 108, 108, 115, 97, 105, 110, 116, 115]⟩, ⟨#[109, 97, 114, 116, 105, 110]⟩, ⟨#[97, 110, 100, 114, 101, 119]⟩, ⟨#[110, 105, 99, 104, 111, 108, 97, 115]⟩, ⟨#[99, 104, 114, 105, 115, 116, 109, 97, 115]⟩, ⟨#[97, 115, 104, 101, 115]⟩, ⟨#[112, 97, 108, 109, 115]⟩, ⟨#[101, 97, 115, 116, 101, 114]⟩, ⟨#[97, 115, 99, 101, 110, 115, 105, 111, 110]⟩, ⟨#[112, 101, 110, 116, 101, 99, 111, 115, 116]⟩, ⟨#[116, 114, 105, 110, 105, 116, 121]⟩]
def styL : List ByteArray := [⟨#[106, 97, 110, 117, 97, 114, 121]⟩, ⟨#[109, 97, 114, 99, 104]⟩, ⟨#[108, 97, 100, 121]⟩, ⟨#[112, 105, 115, 97]⟩, ⟨#[101, 97, 115, 116, 101, 114]⟩, ⟨#[99, 104, 114, 105, 115, 116, 109, 97, 115]⟩, ⟨#[115, 101, 112, 116, 101, 109, 98, 101, 114]⟩]
def inL : List ByteArray := [⟨#[103, 114, 101, 101, 107]⟩, ⟨#[98, 101, 100, 101]⟩, ⟨#[114, 111, 109, 97, 110]⟩]
def o20L : List ByteArray := [⟨#[102, 105, 114, 115, 116]⟩, ⟨#[115, 101, 99, 111, 110, 100]⟩, ⟨#[116, 104, 105, 114, 100]⟩, ⟨#[102, 111, 117, 114, 116, 104]⟩, ⟨#[102, 105, 102, 116, 104]⟩, ⟨#[115, 105, 120, 116, 104]⟩, ⟨#[115, 101, 118, 101, 110, 116, 104]⟩, ⟨#[101, 105, 103, 104, 116, 104]⟩, ⟨#[110, 105, 110, 116, 104]⟩, ⟨#[116, 101, 110, 116, 104]⟩, ⟨#[101, 108, 101, 118, 101, 110, 116, 104]⟩, ⟨#[116, 119, 101, 108, 102, 116, 104]⟩, ⟨#[116, 104, 105, 114, 116, 101, 101, 110, 116, 104]⟩, ⟨#[102, 111, 117, 114, 116, 101, 101, 110, 116, 104]⟩, ⟨#[102, 105, 102, 116, 101, 101, 110, 116, 104]⟩, ⟨#[115, 105, 120, 116, 101, 101, 110, 116, 104]⟩, ⟨#[115, 101, 118, 101, 110, 116, 101, 101, 110, 116, 104]⟩, ⟨#[101, 105, 103, 104, 116, 101, 101, 110, 116, 104]⟩, ⟨#[110, 105, 110, 101, 116, 101, 101, 110, 116, 104]⟩, ⟨#[116, 119, 101, 110, 116, 105, 101, 116, 104]⟩]
def ordL : List ByteArray := [⟨#[102, 105, 114, 115, 116]⟩, ⟨#[115, 101, 99, 111, 110, 100]⟩, ⟨#[116, 104, 105, 114, 100]⟩, ⟨#[102, 111, 117, 114, 116, 104]⟩, ⟨#[102, 105, 102, 116, 104]⟩, ⟨#[115, 105, 120, 116, 104]⟩, ⟨#[115, 101, 118, 101, 110, 116, 104]⟩, ⟨#[101, 105, 103, 104, 116, 104]⟩, ⟨#[110, 105, 110, 116, 104]⟩, ⟨#[116, 101, 110, 116, 104]⟩, ⟨#[101, 108, 101, 118, 101, 110, 116, 104]⟩, ⟨#[116, 119, 101, 108, 102, 116, 104]⟩, ⟨#[116, 104, 105, 114, 116, 101, 101, 110, 116, 104]⟩, ⟨#[102, 111, 117, 114, 116, 101, 101, 110, 116, 104]⟩, ⟨#[102, 105, 102, 116, 101, 101, 110, 116, 104]⟩, ⟨#[115, 105, 120, 116, 101, 101, 110, 116, 104]⟩, ⟨#[115, 101, 118, 101, 110, 116, 101, 101, 110, 116, 104]⟩, ⟨#[101, 105, 103, 104, 116, 101, 101, 110, 116, 104]⟩, ⟨#[110, 105, 110, 101, 116, 101, 101, 110, 116, 104]⟩, ⟨#[116, 119, 101, 110, 116, 105, 101, 116, 104]⟩, ⟨#[116, 119, 101, 110, 116, 121, 45, 102, 105, 114, 115, 116]⟩, ⟨#[116, 119, 101, 110, 116, 121, 45, 115, 101, 99, 111, 110, 100]⟩, ⟨#[116, 119, 101, 110, 116, 121, 45, 116, 104, 105, 114, 100]⟩, ⟨#[116, 119, 101, 110, 116, 121, 45, 102, 111, 117, 114, 116, 104]⟩, ⟨#[116, 119, 101, 110, 116, 121, 45, 102, 105, 102, 116, 104]⟩, ⟨#[116, 119, 101, 110, 116, 121, 45, 115, 105, 120, 116, 104]⟩, ⟨#[116, 119, 101, 110, 116, 121, 45, 115, 101, 118, 101, 110, 116, 104]⟩, ⟨#[116, 119, 101, 110, 116, 121, 45, 101, 105, 103, 104, 116, 104]⟩, ⟨#[116, 119, 101, 110, 116, 121, 45, 110, 105, 110, 116, 104]⟩, ⟨#[116, 104, 105, 114, 116, 105, 101, 116, 104]⟩, ⟨#[116, 104, 105, 114, 116, 121, 45, 102, 105, 114, 115, 116]⟩]
/-- The name with a number, none beyond the list. -/
def nameN (L : List ByteArray) (lo n : Int) : ByteArray := if inB n lo (lo + L.length - 1) then L.getD (n - lo).toNat ⟨#[]⟩ else ⟨#[]⟩
theorem nameN_out {L : List ByteArray} {lo n hi : Int} (hh : lo + L.length - 1 = hi) (h : inB n lo hi = false) : nameN L lo n = ⟨#[]⟩ := by unfold nameN; rw [hh, h]; rfl
theorem nameN_in {L : List ByteArray} {lo n hi : Int} (hh : lo + L.length - 1 = hi) (h : inB n lo hi = true) : ∃ j : Nat, n - lo = (j : Int) ∧ n = lo + j ∧ j < L.length ∧ L[j]? = some (nameN L lo n) := by
  have hb : lo ≤ n ∧ n ≤ hi := by unfold inB at h; simpa using h
  refine ⟨(n - lo).toNat, by omega, by omega, by omega, ?_⟩
  unfold nameN
  rw [hh, h, if_pos rfl, List.getD_eq_getElem?_getD, List.getElem?_eq_getElem (by omega)]
  rfl
theorem nameN_size {L : List ByteArray} {lo n : Int} {b : Nat} (h : ∀ x ∈ L, x.size ≤ b) : (nameN L lo n).size ≤ b := by
  unfold nameN
  split
  · rw [List.getD_eq_getElem?_getD]
    cases e : L[(n - lo).toNat]? with
    | none => exact Nat.zero_le _
    | some x => exact h x (List.mem_of_getElem? e)
  · exact Nat.zero_le _
set_option maxRecDepth 100000 in
theorem monthNames_any (w : World) : Calls Tryz.prog 54 #[] w fun e w' => ∃ g c, e = .returned (.slice (some ⟨g, 0, none⟩) 12 c) ∧ w'.ownsRow w.heap.size 9 1 (.slice (some ⟨g, 0, none⟩) 12 c) 12 (monL.flatMap encS) ∧ Below w.heap.size w w' := by
  go_enter Tryz.func54, Tryz.ntmps54
  go_wp2_with (go_at_call 39; refine (split_known _ monL 12 _ (by decide +kernel) (by decide +kernel) (by decide) (by decide +kernel)).mono ?_; rintro e w1 ⟨g, rfl, own, hB⟩)
  go_ret
  exact ⟨g, _, rfl, own, hB⟩
set_option maxRecDepth 100000 in
theorem weekdayNames_any (w : World) : Calls Tryz.prog 57 #[] w fun e w' => ∃ g c, e = .returned (.slice (some ⟨g, 0, none⟩) 7 c) ∧ w'.ownsRow w.heap.size 9 1 (.slice (some ⟨g, 0, none⟩) 7 c) 7 (wkL.flatMap encS) ∧ Below w.heap.size w w' := by
  go_enter Tryz.func57, Tryz.ntmps57
  go_wp2_with (go_at_call 39; refine (split_known _ wkL 7 _ (by decide +kernel) (by decide +kernel) (by decide) (by decide +kernel)).mono ?_; rintro e w1 ⟨g, rfl, own, hB⟩)
  go_ret
  exact ⟨g, _, rfl, own, hB⟩
set_option maxRecDepth 100000 in
theorem feastNames_any (w : World) : Calls Tryz.prog 87 #[] w fun e w' => ∃ g c, e = .returned (.slice (some ⟨g, 0, none⟩) 20 c) ∧ w'.ownsRow w.heap.size 9 1 (.slice (some ⟨g, 0, none⟩) 20 c) 20 (feL.flatMap encS) ∧ Below w.heap.size w w' := by
  go_enter Tryz.func87, Tryz.ntmps87
  go_wp2_with (go_at_call 39; refine (split_known _ feL 20 _ (by decide +kernel) (by decide +kernel) (by decide) (by decide +kernel)).mono ?_; rintro e w1 ⟨g, rfl, own, hB⟩)
  go_ret
  exact ⟨g, _, rfl, own, hB⟩
set_option maxRecDepth 100000 in
theorem styleNames_any (w : World) : Calls Tryz.prog 90 #[] w fun e w' => ∃ g c, e = .returned (.slice (some ⟨g, 0, none⟩) 7 c) ∧ w'.ownsRow w.heap.size 9 1 (.slice (some ⟨g, 0, none⟩) 7 c) 7 (styL.flatMap encS) ∧ Below w.heap.size w w' := by
  go_enter Tryz.func90, Tryz.ntmps90
  go_wp2_with (go_at_call 39; refine (split_known _ styL 7 _ (by decide +kernel) (by decide +kernel) (by decide) (by decide +kernel)).mono ?_; rintro e w1 ⟨g, rfl, own, hB⟩)
  go_ret
  exact ⟨g, _, rfl, own, hB⟩
set_option maxRecDepth 100000 in
theorem indictionNames_any (w : World) : Calls Tryz.prog 91 #[] w fun e w' => ∃ g c, e = .returned (.slice (some ⟨g, 0, none⟩) 3 c) ∧ w'.ownsRow w.heap.size 9 1 (.slice (some ⟨g, 0, none⟩) 3 c) 3 (inL.flatMap encS) ∧ Below w.heap.size w w' := by
  have own := own_of_new w inL 3 rfl (by decide)
  have hB : Below w.heap.size w (w.alloc (.cells (inL.map Value.string).toArray 9)) := (Below.refl _ _).alloc (Nat.le_refl _) _
  replace own := Lib.hid own
  go_enter Tryz.func91, Tryz.ntmps91
  go_wp2
  go_ret
  exact ⟨w.heap.size, 3, rfl, own.out, hB⟩
set_option maxRecDepth 100000 in
theorem l11Months_any (w : World) : Calls Tryz.prog 56 #[] w fun e w' => ∃ g c, e = .returned (.slice (some ⟨g, 0, none⟩) 12 c) ∧ w'.ownsRow w.heap.size 9 1 (.slice (some ⟨g, 0, none⟩) 12 c) 12 (monL.flatMap encS) ∧ Below w.heap.size w w' := by
  have own := own_of_new w monL 12 rfl (by decide)
  have hB : Below w.heap.size w (w.alloc (.cells (monL.map Value.string).toArray 9)) := (Below.refl _ _).alloc (Nat.le_refl _) _
  replace own := Lib.hid own
  go_enter Tryz.func56, Tryz.ntmps56
  go_wp2
  go_ret
  exact ⟨w.heap.size, 12, rfl, own.out, hB⟩
set_option maxRecDepth 100000 in
theorem l11Weekdays_any (w : World) : Calls Tryz.prog 58 #[] w fun e w' => ∃ g c, e = .returned (.slice (some ⟨g, 0, none⟩) 7 c) ∧ w'.ownsRow w.heap.size 9 1 (.slice (some ⟨g, 0, none⟩) 7 c) 7 (wkL.flatMap encS) ∧ Below w.heap.size w w' := by
  have own := own_of_new w wkL 7 rfl (by decide)
  have hB : Below w.heap.size w (w.alloc (.cells (wkL.map Value.string).toArray 9)) := (Below.refl _ _).alloc (Nat.le_refl _) _
  replace own := Lib.hid own
  go_enter Tryz.func58, Tryz.ntmps58
  go_wp2
  go_ret
  exact ⟨w.heap.size, 7, rfl, own.out, hB⟩
set_option maxRecDepth 100000 in
theorem l05Names_any (w : World) : Calls Tryz.prog 156 #[] w fun e w' => ∃ g c, e = .returned (.slice (some ⟨g, 0, none⟩) 20 c) ∧ w'.ownsRow w.heap.size 9 1 (.slice (some ⟨g, 0, none⟩) 20 c) 20 (feL.flatMap encS) ∧ Below w.heap.size w w' := by
  have own := own_of_new w feL 20 rfl (by decide)
  have hB : Below w.heap.size w (w.alloc (.cells (feL.map Value.string).toArray 9)) := (Below.refl _ _).alloc (Nat.le_refl _) _
  replace own := Lib.hid own
  go_enter Tryz.func156, Tryz.ntmps156
  go_wp2
  go_ret
  exact ⟨w.heap.size, 20, rfl, own.out, hB⟩
set_option maxRecDepth 100000 in
theorem l06Names_any (w : World) : Calls Tryz.prog 155 #[] w fun e w' => ∃ g c, e = .returned (.slice (some ⟨g, 0, none⟩) 7 c) ∧ w'.ownsRow w.heap.size 9 1 (.slice (some ⟨g, 0, none⟩) 7 c) 7 (styL.flatMap encS) ∧ Below w.heap.size w w' := by
  have own := own_of_new w styL 7 rfl (by decide)
  have hB : Below w.heap.size w (w.alloc (.cells (styL.map Value.string).toArray 9)) := (Below.refl _ _).alloc (Nat.le_refl _) _
  replace own := Lib.hid own
  go_enter Tryz.func155, Tryz.ntmps155
  go_wp2
  go_ret
  exact ⟨w.heap.size, 7, rfl, own.out, hB⟩
set_option maxRecDepth 100000 in
theorem l11Indictions_any (w : World) : Calls Tryz.prog 108 #[] w fun e w' => ∃ g c, e = .returned (.slice (some ⟨g, 0, none⟩) 3 c) ∧ w'.ownsRow w.heap.size 9 1 (.slice (some ⟨g, 0, none⟩) 3 c) 3 (inL.flatMap encS) ∧ Below w.heap.size w w' := by
  have own := own_of_new w inL 3 rfl (by decide)
  have hB : Below w.heap.size w (w.alloc (.cells (inL.map Value.string).toArray 9)) := (Below.refl _ _).alloc (Nat.le_refl _) _
  replace own := Lib.hid own
  go_enter Tryz.func108, Tryz.ntmps108
  go_wp2
  go_ret
  exact ⟨w.heap.size, 3, rfl, own.out, hB⟩
set_option maxRecDepth 100000 in
theorem l09Words_any (w : World) : Calls Tryz.prog 154 #[] w fun e w' => ∃ g c, e = .returned (.slice (some ⟨g, 0, none⟩) 20 c) ∧ w'.ownsRow w.heap.size 9 1 (.slice (some ⟨g, 0, none⟩) 20 c) 20 (o20L.flatMap encS) ∧ Below w.heap.size w w' := by
  have own := own_of_new w o20L 20 rfl (by decide)
  have hB : Below w.heap.size w (w.alloc (.cells (o20L.map Value.string).toArray 9)) := (Below.refl _ _).alloc (Nat.le_refl _) _
  replace own := Lib.hid own
  go_enter Tryz.func154, Tryz.ntmps154
  go_wp2
  go_ret
  exact ⟨w.heap.size, 20, rfl, own.out, hB⟩
end

section
open Go.ChangeShapes Go.WideShapes Go.ChangeAt Go.RowKit Go.IntWalk

theorem wpList_append_lst {P : Program} (w : World) {ops : Array Oper} {rest : List Oper} {o : Oper} {a : Act} {Q : Exit → Act → World → Prop} (hgd : o.guard = none) (s x : Operand) (t : TypeId)
    (ho : o.op = .call { callee := .builtin .append, args := #[s, x], argTypes := #[t, t] })
    (base : Nat) (e : TypeId) (i : TypeInfo) (z : Value) (size bytes : Nat) (ht : P.underlying t = some (.slice e)) (hi : P.info? e = some i) (hz : i.zero = some z)
    (hsize : i.size = size) (hby : i.bytes = bytes) (hzs : z.cells.size = size) (hsz : 0 < size)
    (g0 c0 : Nat) (n : Nat) (xs : List Value) (hs : a.eval s = .slice (some ⟨g0, 0, none⟩) n c0) (hown : w.ownsRow base e size (.slice (some ⟨g0, 0, none⟩) n c0) n xs)
    (ad : Addr) (m c : Nat) (news : List Value) (hx : a.eval x = .slice (some ad) m c) (hl : news.length = m * size) (hnews : ∀ j u, news[j]? = some u → w.cell? (ad.add j) = some u) (h1 : ∀ u ∈ news, u.oneCell' = true)
    (h63 : n + m ≤ maxLen) (hbytes : (n + m) * bytes ≤ 140737488355328) (hbase : base ≤ w.heap.size)
    (h : ∀ g cap w', w'.ownsRow base e size (.slice (some ⟨g, 0, none⟩) (n + m) cap) (n + m) (xs ++ news) → w.grownBy w' (some g0) → (g = g0 ∨ g = w.heap.size) → wpList P ops Q rest (a.put o.dst (.slice (some ⟨g, 0, none⟩) (n + m) cap)) w') : wpList P ops Q (o :: rest) a w :=
  wpList_plain hgd fun _ hK => by
    obtain ⟨g, cap, w', hr, h2, h3, h4⟩ := run_append_any (P := P) w t o.type base e i z size bytes ht hi hz hsize hby hzs hsz g0 c0 n xs hown ad m c news hl hnews h1 h63 hbytes hbase
    unfold Oper.wp execOp
    simp only [ho, resolve, invoke, builtin, Sem.run_bind, Sem.run_pure, Result.andThen_ok, List.map_toArray, List.map_cons, List.map_nil, hs, hx, hr]
    exact hK _ _ (h g cap w' h2 h3 h4)
def twB (x : ByteArray) : ByteArray := (⟨#[116, 119, 101, 110, 116, 121, 45]⟩ : ByteArray) ++ x
theorem one_str (l : List ByteArray) : ∀ u ∈ l.flatMap encS, u.oneCell' = true := fun u hu => by
  obtain ⟨m, _, hm⟩ := List.mem_flatMap.1 hu
  simp [encS] at hm
  subst hm
  rfl
theorem ord_eq : (o20L ++ (o20L.take 9).map twB) ++ [⟨#[116, 104, 105, 114, 116, 105, 101, 116, 104]⟩, ⟨#[116, 104, 105, 114, 116, 121, 45, 102, 105, 114, 115, 116]⟩] = ordL := by decide +kernel
theorem ord_step {k : Nat} {x : ByteArray} (h : o20L[k]? = some x) : o20L ++ (o20L.take (k + 1)).map twB = (o20L ++ (o20L.take k).map twB) ++ [twB x] := by
  obtain ⟨h1, rfl⟩ := List.getElem?_eq_some_iff.1 h
  rw [List.take_succ_eq_append_getElem h1, List.map_append, ← List.append_assoc]
  rfl
theorem o20_size : ∀ x ∈ o20L, x.size ≤ 40 := by decide +kernel
theorem ord_size : ∀ x ∈ ordL, x.size ≤ 40 := by decide +kernel
theorem mon_size : ∀ x ∈ monL, x.size ≤ 40 := by decide +kernel
theorem wk_size : ∀ x ∈ wkL, x.size ≤ 40 := by decide +kernel
theorem fe_size : ∀ x ∈ feL, x.size ≤ 40 := by decide +kernel
theorem sty_size : ∀ x ∈ styL, x.size ≤ 40 := by decide +kernel
theorem in_size : ∀ x ∈ inL, x.size ≤ 40 := by decide +kernel
set_option maxRecDepth 100000 in
set_option maxHeartbeats 2000000 in
theorem ordinals_any (w : World) : Calls Tryz.prog 146 #[] w fun e w' => ∃ g c, e = .returned (.slice (some ⟨g, 0, none⟩) 31 c) ∧ w'.ownsRow w.heap.size 9 1 (.slice (some ⟨g, 0, none⟩) 31 c) 31 (ordL.flatMap encS) ∧ Below w.heap.size w w' := by
  obtain ⟨i0, hi, hz0, hz1, hz2⟩ := info_parts infoS
  go_enter Tryz.func146, Tryz.ntmps146
  go_wp2_with (go_at_call 39; refine (split_known _ o20L 20 _ (by decide +kernel) (by decide +kernel) (by decide) (by decide +kernel)).mono ?_; rintro e w1 ⟨g0, rfl, own0, hB0⟩)
  go_loopw [1, 4] (fun s i wr => ∃ (k g c : Nat), k ≤ 9 ∧ i = .int .i64 k ∧ s = .slice (some ⟨g, 0, none⟩) (20 + k : Nat) c ∧ wr.ownsRow w.heap.size 9 1 (.slice (some ⟨g, 0, none⟩) (20 + k) c) (20 + k) ((o20L ++ (o20L.take k).map twB).flatMap encS) ∧ Below w.heap.size w wr) (fun _ i _ => 9 - (intOf i).toNat)
  case atStart => exact ⟨0, g0, 20, by decide, rfl, rfl, by simpa using own0, hB0⟩
  case round =>
    clear own0 hB0
    obtain ⟨k, g, c, hk, rfl, rfl, own, hB⟩ := hrel
    by_cases hlt : k < 9
    · have hk1 : (k : Int) < 9 := by omega
      have hm := List.getElem?_eq_getElem (show k < o20L.length by show k < 20; omega)
      generalize o20L[k]'(show k < 20 by omega) = x at hm
      have hst := Lib.hid (ord_step hm)
      have hsx := o20_size x (List.mem_of_getElem? hm)
      have e1 : (9223372036854775807 < 7 + x.size) = False := eq_false (by omega)
      have hx2 : (o20L ++ (o20L.take k).map twB)[k]? = some x := by rw [List.getElem?_append_left (show k < 20 by omega)]; exact hm
      have hc0 := own_at encS_len own hx2 (j := 0) rfl
      rw [Nat.mul_one, Nat.add_zero] at hc0
      have hk2 : (k : Int) < ((20 + k : Nat) : Int) := by omega
      have hown := own
      have hz : Below wr.heap.size wr (wr.alloc (.cells #[.string (twB x)] 9)) := (Below.refl _ _).alloc (Nat.le_refl _) _
      have own := own_below own hz
      have hB := stepB hB hz hB.size
      clear hm hx2 hz
      go_wp2_with (at_builtin; refine wpList_append_lst _ rfl _ _ 56 rfl w.heap.size 9 i0 (.string ⟨#[]⟩) 1 16 Tryz.underlying56 hi hz0 hz1 hz2 rfl (by decide) _ _ (20 + k) ((o20L ++ (o20L.take k).map twB).flatMap encS) rfl own ⟨wr.heap.size, 0, none⟩ 1 1 ([twB x].flatMap encS) rfl rfl (World.news_of_block (heap_alloc_new _ _)) (one_str _) (by unfold maxLen; omega) (by omega) hB.size ?_)
      intro og oc W3 ow2 hgr hor
      replace hB := hB.grown hgr hB.size (fun g e => by cases e; exact (own_lt hown).1)
      go_wp2
      go_roundw
      case rel => exact ⟨k + 1, og, oc, by omega, by go_num, rfl, by rw [hst.out, List.flatMap_append, ← Nat.add_assoc]; simpa using ow2, hB⟩
      case measure => simp [intOf]; omega
    · obtain rfl : k = 9 := by omega
      have hown := own
      have hz : Below wr.heap.size wr (wr.alloc (.cells #[.string ⟨#[116, 104, 105, 114, 116, 105, 101, 116, 104]⟩, .string ⟨#[116, 104, 105, 114, 116, 121, 45, 102, 105, 114, 115, 116]⟩] 9)) := (Below.refl _ _).alloc (Nat.le_refl _) _
      have own := own_below own hz
      have hB := stepB hB hz hB.size
      clear hz
      go_wp2_with (at_builtin; refine wpList_append_lst _ rfl _ _ 56 rfl w.heap.size 9 i0 (.string ⟨#[]⟩) 1 16 Tryz.underlying56 hi hz0 hz1 hz2 rfl (by decide) _ _ 29 ((o20L ++ (o20L.take 9).map twB).flatMap encS) rfl own ⟨wr.heap.size, 0, none⟩ 2 2 ([⟨#[116, 104, 105, 114, 116, 105, 101, 116, 104]⟩, ⟨#[116, 104, 105, 114, 116, 121, 45, 102, 105, 114, 115, 116]⟩].flatMap encS) rfl rfl (World.news_of_block (heap_alloc_new _ _)) (one_str _) (by unfold maxLen; omega) (by omega) hB.size ?_)
      intro og oc W3 ow2 hgr hor
      replace hB := hB.grown hgr hB.size (fun g e => by cases e; exact (own_lt hown).1)
      go_wp2
      go_ret
      exact ⟨og, oc, rfl, by rw [← ord_eq, List.flatMap_append]; exact ow2, hB⟩

set_option maxRecDepth 100000 in
set_option maxHeartbeats 1000000 in
theorem implMonthName_any (n : Int) (w : World) : Calls Tryz.prog 21 #[.int .i64 n] w fun e w' => e = .returned (.string (nameN monL 1 n)) ∧ Below w.heap.size w w' := by
  cases hb : inB n 1 12
  · have hr := Lib.hid (nameN_out (L := monL) (lo := 1) (n := n) (hi := 12) rfl hb)
    have HG := Lib.hid (fun W => hb ▸ within_any n 1 12 W)
    clear hb
    go_enter Tryz.func21, Tryz.ntmps21
    go_wp2_with fail
    refine (HG.out _).mono ?_
    rintro e w1 ⟨rfl, rfl⟩
    go_wp2
    go_ret
    rw [hr.out]
    exact ⟨rfl, Below.refl _ _⟩
  · obtain ⟨j, h1, h2, h3, h4⟩ := nameN_in (L := monL) (lo := 1) (n := n) (hi := 12) rfl hb
    have h3 : j < 12 := h3
    replace h4 := Lib.hid h4
    have h5 : (j : Int) < 12 := by omega
    have v1 : IntKind.i64.wrap (n - 1) = (j : Int) := by rw [IntKind.wrap_i64]; omega
    clear h1 h2
    have HG := Lib.hid (fun W => hb ▸ within_any n 1 12 W)
    clear hb
    go_enter Tryz.func21, Tryz.ntmps21
    go_wp2_with fail
    refine (HG.out _).mono ?_
    rintro e w1 ⟨rfl, rfl⟩
    go_wp2_with fail
    refine (monthNames_any _).mono ?_
    rintro e w2 ⟨g, c, rfl, own, hB⟩
    have hc0 := own_at encS_len own h4.out (j := 0) rfl
    rw [Nat.mul_one, Nat.add_zero] at hc0
    go_wp2
    go_ret
    exact ⟨rfl, hB⟩
set_option maxRecDepth 100000 in
set_option maxHeartbeats 1000000 in
theorem implWeekdayName_any (n : Int) (w : World) : Calls Tryz.prog 23 #[.int .i64 n] w fun e w' => e = .returned (.string (nameN wkL 0 n)) ∧ Below w.heap.size w w' := by
  cases hb : inB n 0 6
  · have hr := Lib.hid (nameN_out (L := wkL) (lo := 0) (n := n) (hi := 6) rfl hb)
    have HG := Lib.hid (fun W => hb ▸ within_any _ 0 6 W)
    clear hb
    go_enter Tryz.func23, Tryz.ntmps23
    go_wp2_with fail
    refine (HG.out _).mono ?_
    rintro e w1 ⟨rfl, rfl⟩
    go_wp2
    go_ret
    rw [hr.out]
    exact ⟨rfl, Below.refl _ _⟩
  · obtain ⟨j, h1, h2, h3, h4⟩ := nameN_in (L := wkL) (lo := 0) (n := n) (hi := 6) rfl hb
    have h3 : j < 7 := h3
    replace h4 := Lib.hid h4
    have h5 : (j : Int) < 7 := by omega
    have h6 : n = (j : Int) := by omega
    subst h6
    clear h1 h2
    have HG := Lib.hid (fun W => hb ▸ within_any _ 0 6 W)
    clear hb
    go_enter Tryz.func23, Tryz.ntmps23
    go_wp2_with fail
    refine (HG.out _).mono ?_
    rintro e w1 ⟨rfl, rfl⟩
    go_wp2_with fail
    refine (weekdayNames_any _).mono ?_
    rintro e w2 ⟨g, c, rfl, own, hB⟩
    have hc0 := own_at encS_len own h4.out (j := 0) rfl
    rw [Nat.mul_one, Nat.add_zero] at hc0
    go_wp2
    go_ret
    exact ⟨rfl, hB⟩
set_option maxRecDepth 100000 in
set_option maxHeartbeats 1000000 in
theorem implFeastName_any (n : Int) (w : World) : Calls Tryz.prog 96 #[.int .i64 n] w fun e w' => e = .returned (.string (nameN feL 0 n)) ∧ Below w.heap.size w w' := by
  cases hb : inB n 0 19
  · have hr := Lib.hid (nameN_out (L := feL) (lo := 0) (n := n) (hi := 19) rfl hb)
    have HG := Lib.hid (fun W => hb ▸ isFeast_any _ W)
    clear hb
    go_enter Tryz.func96, Tryz.ntmps96
    go_wp2_with fail
    refine (HG.out _).mono ?_
    rintro e w1 ⟨rfl, rfl⟩
    go_wp2
    go_ret
    rw [hr.out]
    exact ⟨rfl, Below.refl _ _⟩
  · obtain ⟨j, h1, h2, h3, h4⟩ := nameN_in (L := feL) (lo := 0) (n := n) (hi := 19) rfl hb
    have h3 : j < 20 := h3
    replace h4 := Lib.hid h4
    have h5 : (j : Int) < 20 := by omega
    have h6 : n = (j : Int) := by omega
    subst h6
    clear h1 h2
    have HG := Lib.hid (fun W => hb ▸ isFeast_any _ W)
    clear hb
    go_enter Tryz.func96, Tryz.ntmps96
    go_wp2_with fail
    refine (HG.out _).mono ?_
    rintro e w1 ⟨rfl, rfl⟩
    go_wp2_with fail
    refine (feastNames_any _).mono ?_
    rintro e w2 ⟨g, c, rfl, own, hB⟩
    have hc0 := own_at encS_len own h4.out (j := 0) rfl
    rw [Nat.mul_one, Nat.add_zero] at hc0
    go_wp2
    go_ret
    exact ⟨rfl, hB⟩
set_option maxRecDepth 100000 in
set_option maxHeartbeats 1000000 in
theorem implStyleName_any (n : Int) (w : World) : Calls Tryz.prog 98 #[.int .i64 n] w fun e w' => e = .returned (.string (nameN styL 0 n)) ∧ Below w.heap.size w w' := by
  cases hb : inB n 0 6
  · have hr := Lib.hid (nameN_out (L := styL) (lo := 0) (n := n) (hi := 6) rfl hb)
    have HG := Lib.hid (fun W => hb ▸ isStyle_any _ W)
    clear hb
    go_enter Tryz.func98, Tryz.ntmps98
    go_wp2_with fail
    refine (HG.out _).mono ?_
    rintro e w1 ⟨rfl, rfl⟩
    go_wp2
    go_ret
    rw [hr.out]
    exact ⟨rfl, Below.refl _ _⟩
  · obtain ⟨j, h1, h2, h3, h4⟩ := nameN_in (L := styL) (lo := 0) (n := n) (hi := 6) rfl hb
    have h3 : j < 7 := h3
    replace h4 := Lib.hid h4
    have h5 : (j : Int) < 7 := by omega
    have h6 : n = (j : Int) := by omega
    subst h6
    clear h1 h2
    have HG := Lib.hid (fun W => hb ▸ isStyle_any _ W)
    clear hb
    go_enter Tryz.func98, Tryz.ntmps98
    go_wp2_with fail
    refine (HG.out _).mono ?_
    rintro e w1 ⟨rfl, rfl⟩
    go_wp2_with fail
    refine (styleNames_any _).mono ?_
    rintro e w2 ⟨g, c, rfl, own, hB⟩
    have hc0 := own_at encS_len own h4.out (j := 0) rfl
    rw [Nat.mul_one, Nat.add_zero] at hc0
    go_wp2
    go_ret
    exact ⟨rfl, hB⟩
set_option maxRecDepth 100000 in
set_option maxHeartbeats 1000000 in
theorem implOrdinalText_any (n : Int) (w : World) : Calls Tryz.prog 95 #[.int .i64 n] w fun e w' => e = .returned (.string (nameN ordL 1 n)) ∧ Below w.heap.size w w' := by
  cases hb : inB n 1 31
  · have hr := Lib.hid (nameN_out (L := ordL) (lo := 1) (n := n) (hi := 31) rfl hb)
    have HG := Lib.hid (fun W => hb ▸ within_any n 1 31 W)
    clear hb
    go_enter Tryz.func95, Tryz.ntmps95
    go_wp2_with fail
    refine (HG.out _).mono ?_
    rintro e w1 ⟨rfl, rfl⟩
    go_wp2
    go_ret
    rw [hr.out]
    exact ⟨rfl, Below.refl _ _⟩
  · obtain ⟨j, h1, h2, h3, h4⟩ := nameN_in (L := ordL) (lo := 1) (n := n) (hi := 31) rfl hb
    have h3 : j < 31 := h3
    replace h4 := Lib.hid h4
    have h5 : (j : Int) < 31 := by omega
    have v1 : IntKind.i64.wrap (n - 1) = (j : Int) := by rw [IntKind.wrap_i64]; omega
    clear h1 h2
    have HG := Lib.hid (fun W => hb ▸ within_any n 1 31 W)
    clear hb
    go_enter Tryz.func95, Tryz.ntmps95
    go_wp2_with fail
    refine (HG.out _).mono ?_
    rintro e w1 ⟨rfl, rfl⟩
    go_wp2_with fail
    refine (ordinals_any _).mono ?_
    rintro e w2 ⟨g, c, rfl, own, hB⟩
    have hc0 := own_at encS_len own h4.out (j := 0) rfl
    rw [Nat.mul_one, Nat.add_zero] at hc0
    go_wp2
    go_ret
    exact ⟨rfl, hB⟩
set_option maxRecDepth 100000 in
set_option maxHeartbeats 1000000 in
theorem specMonthName_any (n : Int) (w : World) : Calls Tryz.prog 22 #[.int .i64 n] w fun e w' => e = .returned (.string (nameN monL 1 n)) ∧ Below w.heap.size w w' := by
  cases hb : inB n 1 12
  · have hr := Lib.hid (nameN_out (L := monL) (lo := 1) (n := n) (hi := 12) rfl hb)
    have HG := Lib.hid (fun W => hb ▸ l01In_any n 1 12 W)
    clear hb
    go_enter Tryz.func22, Tryz.ntmps22
    go_wp2_with fail
    refine (HG.out _).mono ?_
    rintro e w1 ⟨rfl, rfl⟩
    go_wp2
    go_ret
    rw [hr.out]
    exact ⟨rfl, Below.refl _ _⟩
  · obtain ⟨j, h1, h2, h3, h4⟩ := nameN_in (L := monL) (lo := 1) (n := n) (hi := 12) rfl hb
    have h3 : j < 12 := h3
    replace h4 := Lib.hid h4
    have h5 : (j : Int) < 12 := by omega
    have v1 : IntKind.i64.wrap (n - 1) = (j : Int) := by rw [IntKind.wrap_i64]; omega
    clear h1 h2
    have HG := Lib.hid (fun W => hb ▸ l01In_any n 1 12 W)
    clear hb
    go_enter Tryz.func22, Tryz.ntmps22
    go_wp2_with fail
    refine (HG.out _).mono ?_
    rintro e w1 ⟨rfl, rfl⟩
    go_wp2_with fail
    refine (l11Months_any _).mono ?_
    rintro e w2 ⟨g, c, rfl, own, hB⟩
    have hc0 := own_at encS_len own h4.out (j := 0) rfl
    rw [Nat.mul_one, Nat.add_zero] at hc0
    go_wp2
    go_ret
    exact ⟨rfl, hB⟩
set_option maxRecDepth 100000 in
set_option maxHeartbeats 1000000 in
theorem specWeekdayName_any (n : Int) (w : World) : Calls Tryz.prog 24 #[.int .i64 n] w fun e w' => e = .returned (.string (nameN wkL 0 n)) ∧ Below w.heap.size w w' := by
  cases hb : inB n 0 6
  · have hr := Lib.hid (nameN_out (L := wkL) (lo := 0) (n := n) (hi := 6) rfl hb)
    have HG := Lib.hid (fun W => hb ▸ l01In_any _ 0 6 W)
    clear hb
    go_enter Tryz.func24, Tryz.ntmps24
    go_wp2_with fail
    refine (HG.out _).mono ?_
    rintro e w1 ⟨rfl, rfl⟩
    go_wp2
    go_ret
    rw [hr.out]
    exact ⟨rfl, Below.refl _ _⟩
  · obtain ⟨j, h1, h2, h3, h4⟩ := nameN_in (L := wkL) (lo := 0) (n := n) (hi := 6) rfl hb
    have h3 : j < 7 := h3
    replace h4 := Lib.hid h4
    have h5 : (j : Int) < 7 := by omega
    have h6 : n = (j : Int) := by omega
    subst h6
    clear h1 h2
    have HG := Lib.hid (fun W => hb ▸ l01In_any _ 0 6 W)
    clear hb
    go_enter Tryz.func24, Tryz.ntmps24
    go_wp2_with fail
    refine (HG.out _).mono ?_
    rintro e w1 ⟨rfl, rfl⟩
    go_wp2_with fail
    refine (l11Weekdays_any _).mono ?_
    rintro e w2 ⟨g, c, rfl, own, hB⟩
    have hc0 := own_at encS_len own h4.out (j := 0) rfl
    rw [Nat.mul_one, Nat.add_zero] at hc0
    go_wp2
    go_ret
    exact ⟨rfl, hB⟩
set_option maxRecDepth 100000 in
set_option maxHeartbeats 1000000 in
theorem specFeastName_any (n : Int) (w : World) : Calls Tryz.prog 109 #[.int .i64 n] w fun e w' => e = .returned (.string (nameN feL 0 n)) ∧ Below w.heap.size w w' := by
  cases hb : inB n 0 19
  · have hr := Lib.hid (nameN_out (L := feL) (lo := 0) (n := n) (hi := 19) rfl hb)
    have HG := Lib.hid (fun W => hb ▸ l05Feast_any _ W)
    clear hb
    go_enter Tryz.func109, Tryz.ntmps109
    go_wp2_with fail
    refine (HG.out _).mono ?_
    rintro e w1 ⟨rfl, rfl⟩
    go_wp2
    go_ret
    rw [hr.out]
    exact ⟨rfl, Below.refl _ _⟩
  · obtain ⟨j, h1, h2, h3, h4⟩ := nameN_in (L := feL) (lo := 0) (n := n) (hi := 19) rfl hb
    have h3 : j < 20 := h3
    replace h4 := Lib.hid h4
    have h5 : (j : Int) < 20 := by omega
    have h6 : n = (j : Int) := by omega
    subst h6
    clear h1 h2
    have HG := Lib.hid (fun W => hb ▸ l05Feast_any _ W)
    clear hb
    go_enter Tryz.func109, Tryz.ntmps109
    go_wp2_with fail
    refine (HG.out _).mono ?_
    rintro e w1 ⟨rfl, rfl⟩
    go_wp2_with fail
    refine (l05Names_any _).mono ?_
    rintro e w2 ⟨g, c, rfl, own, hB⟩
    have hc0 := own_at encS_len own h4.out (j := 0) rfl
    rw [Nat.mul_one, Nat.add_zero] at hc0
    go_wp2
    go_ret
    exact ⟨rfl, hB⟩
set_option maxRecDepth 100000 in
set_option maxHeartbeats 1000000 in
theorem specStyleName_any (n : Int) (w : World) : Calls Tryz.prog 107 #[.int .i64 n] w fun e w' => e = .returned (.string (nameN styL 0 n)) ∧ Below w.heap.size w w' := by
  cases hb : inB n 0 6
  · have hr := Lib.hid (nameN_out (L := styL) (lo := 0) (n := n) (hi := 6) rfl hb)
    have HG := Lib.hid (fun W => hb ▸ l06Style_any _ W)
    clear hb
    go_enter Tryz.func107, Tryz.ntmps107
    go_wp2_with fail
    refine (HG.out _).mono ?_
    rintro e w1 ⟨rfl, rfl⟩
    go_wp2
    go_ret
    rw [hr.out]
    exact ⟨rfl, Below.refl _ _⟩
  · obtain ⟨j, h1, h2, h3, h4⟩ := nameN_in (L := styL) (lo := 0) (n := n) (hi := 6) rfl hb
    have h3 : j < 7 := h3
    replace h4 := Lib.hid h4
    have h5 : (j : Int) < 7 := by omega
    have h6 : n = (j : Int) := by omega
    subst h6
    clear h1 h2
    have HG := Lib.hid (fun W => hb ▸ l06Style_any _ W)
    clear hb
    go_enter Tryz.func107, Tryz.ntmps107
    go_wp2_with fail
    refine (HG.out _).mono ?_
    rintro e w1 ⟨rfl, rfl⟩
    go_wp2_with fail
    refine (l06Names_any _).mono ?_
    rintro e w2 ⟨g, c, rfl, own, hB⟩
    have hc0 := own_at encS_len own h4.out (j := 0) rfl
    rw [Nat.mul_one, Nat.add_zero] at hc0
    go_wp2
    go_ret
    exact ⟨rfl, hB⟩
theorem ord_low {j : Nat} {x : ByteArray} (h : o20L[j]? = some x) : ordL[j]? = some x := by
  rw [← ord_eq, List.append_assoc, List.getElem?_append_left (List.getElem?_eq_some_iff.1 h).1]
  exact h
theorem ord_mid {j : Nat} {x : ByteArray} (h : o20L[j]? = some x) (hj : j < 9) : ordL[j + 20]? = some (twB x) := by
  obtain ⟨h1, rfl⟩ := List.getElem?_eq_some_iff.1 h
  rw [← ord_eq, List.append_assoc, List.getElem?_append_right (show o20L.length ≤ j + 20 from Nat.le_add_left 20 j), show j + 20 - o20L.length = j from Nat.add_sub_cancel j 20, List.getElem?_append_left (by simp; omega), List.getElem?_map, List.getElem?_take, if_pos hj, List.getElem?_eq_getElem h1]
  rfl
theorem nameN_is {L : List ByteArray} {lo n hi : Int} {j : Nat} {x : ByteArray} (hh : lo + L.length - 1 = hi) (h : inB n lo hi = true) (hj : n = lo + j) (hx : L[j]? = some x) : nameN L lo n = x := by
  obtain ⟨i, h1, h2, h3, h4⟩ := nameN_in hh h
  obtain rfl : i = j := by omega
  rw [h4] at hx
  injection hx
set_option maxRecDepth 100000 in
set_option maxHeartbeats 1000000 in
theorem specOrdinalText_any (n : Int) (w : World) : Calls Tryz.prog 106 #[.int .i64 n] w fun e w' => e = .returned (.string (nameN ordL 1 n)) ∧ Below w.heap.size w w' := by
  cases hb : inB n 1 31
  · have hr := Lib.hid (nameN_out (L := ordL) (lo := 1) (n := n) (hi := 31) rfl hb)
    have HG := Lib.hid (fun W => hb ▸ l01In_any n 1 31 W)
    clear hb
    go_enter Tryz.func106, Tryz.ntmps106
    go_wp2_with fail
    refine (HG.out _).mono ?_
    rintro e w1 ⟨rfl, rfl⟩
    go_wp2
    go_ret
    rw [hr.out]
    exact ⟨rfl, Below.refl _ _⟩
  · have HG := Lib.hid (fun W => hb ▸ l01In_any n 1 31 W)
    have hbd : 1 ≤ n ∧ n ≤ 31 := by unfold inB at hb; simpa using hb
    by_cases h20 : n ≤ 20
    · obtain ⟨j, hj⟩ : ∃ j : Nat, n = 1 + (j : Int) := ⟨(n - 1).toNat, by omega⟩
      have hm := List.getElem?_eq_getElem (show j < o20L.length by show j < 20; omega)
      generalize o20L[j]'(show j < 20 by omega) = x at hm
      have hr := Lib.hid (nameN_is (hi := 31) rfl hb hj (ord_low hm))
      have v1 : IntKind.i64.wrap (n - 1) = (j : Int) := by rw [IntKind.wrap_i64]; omega
      have h5 : (j : Int) < 20 := by omega
      replace hm := Lib.hid hm
      clear hb hj hbd
      go_enter Tryz.func106, Tryz.ntmps106
      go_wp2_with fail
      refine (HG.out _).mono ?_
      rintro e w1 ⟨rfl, rfl⟩
      go_wp2_with fail
      refine (l09Words_any _).mono ?_
      rintro e w2 ⟨g, c, rfl, own, hB⟩
      have hc0 := own_at encS_len own hm.out (j := 0) rfl
      rw [Nat.mul_one, Nat.add_zero] at hc0
      go_wp2
      go_ret
      rw [hr.out]
      exact ⟨rfl, hB⟩
    · have h20' : decide (n ≤ 20) = false := by simpa using h20
      by_cases h30 : n = 30
      · subst h30
        go_enter Tryz.func106, Tryz.ntmps106
        go_wp2_with fail
        refine (HG.out _).mono ?_
        rintro e w1 ⟨rfl, rfl⟩
        go_wp2
        go_ret
        exact ⟨rfl, Below.refl _ _⟩
      · by_cases h31 : n = 31
        · subst h31
          go_enter Tryz.func106, Tryz.ntmps106
          go_wp2_with fail
          refine (HG.out _).mono ?_
          rintro e w1 ⟨rfl, rfl⟩
          go_wp2
          go_ret
          exact ⟨rfl, Below.refl _ _⟩
        · have h30' : (n == 30) = false := by simpa using h30
          have h31' : (n == 31) = false := by simpa using h31
          obtain ⟨j, hj⟩ : ∃ j : Nat, n = 21 + (j : Int) := ⟨(n - 21).toNat, by omega⟩
          have hm := List.getElem?_eq_getElem (show j < o20L.length by show j < 20; omega)
          generalize o20L[j]'(show j < 20 by omega) = x at hm
          have hr := Lib.hid (nameN_is (j := j + 20) (hi := 31) rfl hb (by omega) (ord_mid hm (by omega)))
          have hsx := o20_size x (List.mem_of_getElem? hm)
          have e1 : (9223372036854775807 < 7 + x.size) = False := eq_false (by omega)
          have v1 : IntKind.i64.wrap (n - 21) = (j : Int) := by rw [IntKind.wrap_i64]; omega
          have h5 : (j : Int) < 20 := by omega
          replace hm := Lib.hid hm
          clear hb hj hbd h20 h30 h31
          go_enter Tryz.func106, Tryz.ntmps106
          go_wp2_with fail
          refine (HG.out _).mono ?_
          rintro e w1 ⟨rfl, rfl⟩
          go_wp2_with fail
          refine (l09Words_any _).mono ?_
          rintro e w2 ⟨g, c, rfl, own, hB⟩
          have hc0 := own_at encS_len own hm.out (j := 0) rfl
          rw [Nat.mul_one, Nat.add_zero] at hc0
          go_wp2
          go_ret
          rw [hr.out]
          exact ⟨rfl, hB⟩
end
end Go.Proofs.YteajkofgcmfaoaaGreatDoor
