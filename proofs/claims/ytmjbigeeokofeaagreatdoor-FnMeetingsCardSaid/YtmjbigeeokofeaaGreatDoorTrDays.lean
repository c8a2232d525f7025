/- Walks: IsConnected. -/
import Derived.Test.YtmjbigeeokofeaaGreatDoorLandImpl
import Derived.Test.YtmjbigeeokofeaaGreatDoorBf
import Derived.Test.YtmjbigeeokofeaaGreatDoorFw
namespace Go.Proofs.YtmjbigeeokofeaaGreatDoor
section
open Go.ChangeShapes Go.WideShapes Go.ChangeAt Go.RowKit

def codeL (ps : List ByteArray) (ws : List Wy) (zs : List Int) : Int := if isLandB ps ws then (if zs.all (placeB ps.length) then 0 else 2) else 1
theorem landOk {ps : List ByteArray} {ws : List Wy} (h : isLandB ps ws = true) : OkWs ps.length ws ∧ 1 ≤ ps.length ∧ ps.length ≤ 12 ∧ ws.length ≤ 40 := by
  unfold isLandB at h
  simp only [Bool.and_eq_true, decide_eq_true_eq, List.all_eq_true] at h
  refine ⟨fun m hm => ?_, h.1.1.2, h.1.2, h.2⟩
  have h1 := h.1.1.1.2 m hm
  unfold okWy placeB inB at h1
  simp at h1
  refine ⟨m.a.toNat, m.b.toNat, by omega, by omega, by omega, by omega, by omega, by omega, by omega⟩
theorem place_nat {n : Nat} {z : Int} (h : placeB n z = true) : ∃ a : Nat, z = a ∧ a < n := by
  unfold placeB inB at h
  simp at h
  exact ⟨z.toNat, by omega, by omega⟩
theorem codeL_zero {ps : List ByteArray} {ws : List Wy} {zs : List Int} (h : codeL ps ws zs = 0) : isLandB ps ws = true ∧ zs.all (placeB ps.length) = true := by
  unfold codeL at h
  cases hA : isLandB ps ws
  · rw [hA] at h; simp at h
  · cases hB : zs.all (placeB ps.length)
    · rw [hA, hB] at h; simp at h
    · exact ⟨rfl, rfl⟩









































































theorem any_not_place (n : Nat) (zs : List Int) : (zs.any fun m => !placeB n m) = !zs.all (placeB n) := by
  induction zs with
  | nil => rfl
  | cons x xs ih => simp only [List.any_cons, List.all_cons, Bool.not_and, ih]























































end

section
open Go.ChangeShapes Go.WideShapes Go.ChangeAt Go.RowKit

def distF (n : Nat) (ws : List Wy) (a v : Nat) : Int := if travM n ws a v < 1000000 then travM n ws a v else -1
theorem fromDist_any (a0 a1 : Option Addr) (cap0 cap1 a : Nat) (xs0 : List ByteArray) (xs1 : List Wy) (w : World) (hA : isLandB xs0 xs1 = true) (ha : a < xs0.length) (hx1 : Rd encWy w a1 xs1) :
    Calls Tryz.prog 66 #[.agg #[.slice a0 xs0.length cap0, .slice a1 xs1.length cap1], .int .i64 a] w fun e w' =>
      ∃ g, e = .returned (.slice (some ⟨g, 0, none⟩) xs0.length xs0.length) ∧ w'.ownsRow w.heap.size 2 1 (.slice (some ⟨g, 0, none⟩) xs0.length xs0.length) xs0.length (rowI xs0.length (distF xs0.length xs1 a)) ∧ Below w.heap.size w w' := by
  obtain ⟨h1, h2, h3, h4⟩ := landOk hA
  refine (l14From_any a0 a1 cap0 cap1 xs0.length a xs1 w h2 h3 ha h4 h1 hx1).mono ?_
  rintro e w' ⟨g, rfl, ho, hB⟩
  rw [rowI_congr (fun v hv => bf_eq h1.ok h3 h4 ha hv)] at ho
  exact ⟨g, rfl, ho, hB⟩
theorem trav_any (a0 a1 : Option Addr) (cap0 cap1 : Nat) (xs0 : List ByteArray) (xs1 : List Wy) (w : World) (hA : isLandB xs0 xs1 = true) (hx1 : Rd encWy w a1 xs1) :
    Calls Tryz.prog 64 #[.agg #[.slice a0 xs0.length cap0, .slice a1 xs1.length cap1]] w fun e w' =>
      ∃ H c g, e = .returned (.slice (some ⟨H, 0, none⟩) xs0.length c) ∧ Mat w.heap.size w' H c xs0.length xs0.length g (travM xs0.length xs1) ∧ Below w.heap.size w w' := by
  obtain ⟨h1, h2, h3, h4⟩ := landOk hA
  exact travels_any a0 a1 cap0 cap1 xs0.length xs1 w h2 h3 h4 h1 hx1
theorem trav_bd {xs0 : List ByteArray} {xs1 : List Wy} (hA : isLandB xs0 xs1 = true) {a b : Nat} (ha : a < xs0.length) (hb : b < xs0.length) : 0 ≤ travM xs0.length xs1 a b ∧ travM xs0.length xs1 a b ≤ 1000000 := by
  obtain ⟨h1, h2, h3, h4⟩ := landOk hA
  have := travM_snd h1.ok a b ha hb
  exact ⟨this.1, this.2.1⟩
def travR (ps : List ByteArray) (ws : List Wy) (a b : Int) : Int × Int :=
  if codeL ps ws [a, b] = 0 then (if travM ps.length ws a.toNat b.toNat < 1000000 then (travM ps.length ws a.toNat b.toNat, 0) else (0, 4)) else (0, codeL ps ws [a, b])
theorem all2 {n : Nat} {a b : Int} (h : [a, b].all (placeB n) = true) : (∃ k : Nat, a = k ∧ k < n) ∧ (∃ k : Nat, b = k ∧ k < n) := by
  simp only [List.all_cons, List.all_nil, Bool.and_true, Bool.and_eq_true] at h
  exact ⟨place_nat h.1, place_nat h.2⟩





























































































































end

section
open Go.ChangeShapes Go.WideShapes Go.ChangeAt Go.RowKit

def isZ (z m : Int) : Bool := m == z
set_option maxHeartbeats 400000 in
theorem l01Has_any (a : Option Addr) (cap n : Nat) (xs : List Int) (z : Int) (w : World) (hn : xs.length = n) (hl : n ≤ 1048576) (hx : Rd encI w a xs) :
    Calls Tryz.prog 61 #[.slice a n cap, .int .i64 z] w fun e w' => e = .returned (.bool (xs.any (isZ z))) ∧ w = w' := by
  subst hn
  go_enter Tryz.func61, Tryz.ntmps61
  go_wp2
  go_loop [5] (fun i => ∃ (k : Nat), k ≤ xs.length ∧ i = .int .i64 k ∧ Hid (xs.any (isZ z) = (xs.drop k).any (isZ z))) (fun i => xs.length - (intOf i).toNat)
  case atStart => exact ⟨0, Nat.zero_le _, rfl, rfl⟩
  case round =>
    obtain ⟨k, hk, rfl, hH⟩ := hrel
    by_cases hlt : k < xs.length
    · have hm := List.getElem?_eq_getElem hlt
      have hd : (xs.drop k).any (isZ z) = (isZ z xs[k] || (xs.drop (k + 1)).any (isZ z)) := by rw [List.drop_eq_getElem_cons hlt]; rfl
      generalize xs[k] = m at hm hd
      obtain ⟨b, off, rfl, hb, c0⟩ := hx.i hm
      have HD := Lib.hid hd
      have hk1 : (k : Int) < (xs.length : Int) := by omega
      clear hm hd
      cases hp : (m == z)
      · have hp' : Hid (isZ z m = false) := hp
        go_wp2
        go_round
        case rel => exact ⟨k + 1, by omega, by go_num, by unfold Hid; rw [hH.out, HD.out, hp'.out]; rfl⟩
        case measure => simp [intOf]; omega
      · have hp' : Hid (isZ z m = true) := hp
        go_wp2
        go_ret
        exact ⟨ret_bool (by rw [hH.out, HD.out, hp'.out]; rfl), rfl⟩
    · go_wp2
      go_ret
      exact ⟨ret_bool (by rw [hH.out, List.drop_eq_nil_of_le (by omega)]; rfl), rfl⟩

def maxZ : Int → List Int → Int
  | b, [] => b
  | b, x :: xs => maxZ (max b x) xs
theorem maxZ_snoc : ∀ (xs : List Int) (b x : Int), maxZ b (xs ++ [x]) = max (maxZ b xs) x
  | [], _, _ => rfl
  | y :: ys, b, x => maxZ_snoc ys (max b y) x
theorem maxZ_lt : ∀ (xs : List Int) (b N : Int), maxZ b xs < N ↔ b < N ∧ ∀ x ∈ xs, x < N
  | [], b, N => by simp [maxZ]
  | y :: ys, b, N => by
    rw [maxZ, maxZ_lt ys]
    constructor
    · rintro ⟨h1, h2⟩
      refine ⟨by omega, fun x hx => ?_⟩
      rcases List.mem_cons.1 hx with rfl | hx
      · omega
      · exact h2 x hx
    · rintro ⟨h1, h2⟩
      have := h2 y (List.mem_cons_self ..)
      exact ⟨by omega, fun x hx => h2 x (List.mem_cons_of_mem _ hx)⟩













































def connR (ps : List ByteArray) (ws : List Wy) : Bool × Int :=
  if isLandB ps ws then ((List.range ps.length).all fun v => decide (travM ps.length ws 0 v < 1000000), 0) else (false, 1)
theorem any_dist (n : Nat) (ws : List Wy) (h : ∀ v, v < n → 0 ≤ travM n ws 0 v) : (!((List.range n).map (distF n ws 0)).any (isZ (-1))) = (List.range n).all fun v => decide (travM n ws 0 v < 1000000) := by
  rw [List.any_map, List.not_any_eq_all_not]
  have : ∀ (l : List Nat), (∀ v ∈ l, v < n) → (l.all fun x => !((isZ (-1) ∘ distF n ws 0) x)) = l.all fun v => decide (travM n ws 0 v < 1000000) := by
    intro l
    induction l with
    | nil => intro _; rfl
    | cons x l ih =>
      intro hl
      simp only [List.all_cons, ih (fun v hv => hl v (List.mem_cons_of_mem _ hv))]
      congr 1
      have hx := h x (hl x (List.mem_cons_self ..))
      simp only [Function.comp, isZ, distF]
      by_cases hlt : travM n ws 0 x < 1000000
      · rw [if_pos hlt]; simp [hlt]; omega
      · rw [if_neg hlt]; simp [hlt]
  exact this _ (fun v hv => List.mem_range.1 hv)
theorem max_dist (n : Nat) (ws : List Wy) (y : Int) (ys : List Int) (h : (List.range n).map (travM n ws 0) = y :: ys) : decide (maxZ y ys < 1000000) = (List.range n).all fun v => decide (travM n ws 0 v < 1000000) := by
  have e : (maxZ y ys < 1000000) ↔ ∀ x ∈ (List.range n).map (travM n ws 0), x < 1000000 := by rw [h, maxZ_lt]; simp
  cases hb : (List.range n).all fun v => decide (travM n ws 0 v < 1000000)
  · apply decide_eq_false
    intro h2
    have h3 := e.1 h2
    rw [List.all_eq_false] at hb
    obtain ⟨v, hv, h4⟩ := hb
    exact h4 (by simpa using h3 _ (List.mem_map_of_mem hv))
  · apply decide_eq_true
    apply e.2
    intro x hx
    obtain ⟨v, hv, rfl⟩ := List.mem_map.1 hx
    have := List.all_eq_true.1 hb v hv
    simpa using this

















































































































end
end Go.Proofs.YtmjbigeeokofeaaGreatDoor
