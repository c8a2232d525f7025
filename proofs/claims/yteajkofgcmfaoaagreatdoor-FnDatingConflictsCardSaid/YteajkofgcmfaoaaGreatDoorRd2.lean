/- Walks: words against a pattern: slices.EqualFunc and readClause's closures. -/
import Derived.Test.YteajkofgcmfaoaaGreatDoorRdB
import Derived.Test.YteajkofgcmfaoaaGreatDoorNm
namespace Go.Proofs.YteajkofgcmfaoaaGreatDoor
section
def star : ByteArray := ⟨#[42]⟩
/-- Words match a pattern: as many, and each is the pattern's or the pattern's is a star. -/
def mt : List ByteArray → List ByteArray → Bool
  | [], [] => true
  | a :: W, b :: P => (decide (b = star) || decide (a = b)) && mt W P
  | _, _ => false
theorem mt_len : ∀ {W P : List ByteArray}, W.length ≠ P.length → mt W P = false
  | [], [], h => absurd rfl h
  | [], _ :: _, _ => rfl
  | _ :: _, [], _ => rfl
  | a :: W, b :: P, h => by
    have := mt_len (W := W) (P := P) (fun e => h (by simp [e]))
    unfold mt
    rw [this]; simp
theorem mt_drop {W P : List ByteArray} {k : Nat} {a b : ByteArray} (ha : W[k]? = some a) (hb : P[k]? = some b) :
    mt (W.drop k) (P.drop k) = ((decide (b = star) || decide (a = b)) && mt (W.drop (k + 1)) (P.drop (k + 1))) := by
  obtain ⟨h1, rfl⟩ := List.getElem?_eq_some_iff.1 ha
  obtain ⟨h2, rfl⟩ := List.getElem?_eq_some_iff.1 hb
  rw [List.drop_eq_getElem_cons h1, List.drop_eq_getElem_cons h2]
  rfl
theorem mt_done {W P : List ByteArray} {k : Nat} (h1 : W.length ≤ k) (h2 : P.length ≤ k) : mt (W.drop k) (P.drop k) = true := by
  rw [List.drop_eq_nil_of_le h1, List.drop_eq_nil_of_le h2]; rfl
theorem mt_lit {b : ByteArray} {W P : List ByteArray} (hb : b ≠ star) (h : mt W (b :: P) = true) : ∃ V, W = b :: V ∧ mt V P = true := by
  cases W with
  | nil => cases h
  | cons a V =>
    unfold mt at h
    simp only [Bool.and_eq_true, Bool.or_eq_true, decide_eq_true_eq] at h
    obtain ⟨h1 | h1, h2⟩ := h
    · exact absurd h1 hb
    · exact ⟨V, by rw [h1], h2⟩
theorem mt_any {W P : List ByteArray} (h : mt W (star :: P) = true) : ∃ x V, W = x :: V ∧ mt V P = true := by
  cases W with
  | nil => cases h
  | cons a V =>
    unfold mt at h
    simp only [Bool.and_eq_true] at h
    exact ⟨a, V, rfl, h.2⟩
theorem mt_nil {W : List ByteArray} (h : mt W [] = true) : W = [] := by
  cases W with
  | nil => rfl
  | cons a V => cases h
def pt0 : List ByteArray := [wON, wTHE, star, wOF, star]
def pt1 : List ByteArray := [wAT, star]
def pt2 : List ByteArray := [wAT, wTHE, wEVE, wOF, star]
def pt3 : List ByteArray := [wAT, wTHE, wOCT, wOF, star]
def pt4 : List ByteArray := [wON, wTHE, star, wAFT, star]
def pt5 : List ByteArray := [wON, wTHE, star, wBEF, star]
def pt6 : List ByteArray := [wIN, wTHE, wYEAR, star, wOF, star]
def pt7 : List ByteArray := [wIN, wTHE, wYEAR, star, wBY, star]
def pt8 : List ByteArray := [wIN, wTHE, wIND, star, wBY, star]
def pt9 : List ByteArray := [wON, wA, star]
theorem mt5a {W : List ByteArray} {a b d : ByteArray} (ha : a ≠ star) (hb : b ≠ star) (hd : d ≠ star) (h : mt W [a, b, star, d, star] = true) : ∃ x y, W = [a, b, x, d, y] := by
  obtain ⟨_, rfl, g1⟩ := mt_lit ha h
  obtain ⟨_, rfl, g2⟩ := mt_lit hb g1
  obtain ⟨x, _, rfl, g3⟩ := mt_any g2
  obtain ⟨_, rfl, g4⟩ := mt_lit hd g3
  obtain ⟨y, _, rfl, g5⟩ := mt_any g4
  obtain rfl := mt_nil g5
  exact ⟨x, y, rfl⟩
theorem mt5b {W : List ByteArray} {a b c d : ByteArray} (ha : a ≠ star) (hb : b ≠ star) (hc : c ≠ star) (hd : d ≠ star) (h : mt W [a, b, c, d, star] = true) : ∃ y, W = [a, b, c, d, y] := by
  obtain ⟨_, rfl, g1⟩ := mt_lit ha h
  obtain ⟨_, rfl, g2⟩ := mt_lit hb g1
  obtain ⟨_, rfl, g3⟩ := mt_lit hc g2
  obtain ⟨_, rfl, g4⟩ := mt_lit hd g3
  obtain ⟨y, _, rfl, g5⟩ := mt_any g4
  obtain rfl := mt_nil g5
  exact ⟨y, rfl⟩
theorem mt6 {W : List ByteArray} {a b c e : ByteArray} (ha : a ≠ star) (hb : b ≠ star) (hc : c ≠ star) (he : e ≠ star) (h : mt W [a, b, c, star, e, star] = true) : ∃ x y, W = [a, b, c, x, e, y] := by
  obtain ⟨_, rfl, g1⟩ := mt_lit ha h
  obtain ⟨_, rfl, g2⟩ := mt_lit hb g1
  obtain ⟨_, rfl, g3⟩ := mt_lit hc g2
  obtain ⟨x, _, rfl, g4⟩ := mt_any g3
  obtain ⟨_, rfl, g5⟩ := mt_lit he g4
  obtain ⟨y, _, rfl, g6⟩ := mt_any g5
  obtain rfl := mt_nil g6
  exact ⟨x, y, rfl⟩
theorem is0 {W : List ByteArray} (h : mt W pt0 = true) : ∃ x y, W = [wON, wTHE, x, wOF, y] := mt5a (by decide) (by decide) (by decide) h
theorem is1 {W : List ByteArray} (h : mt W pt1 = true) : ∃ y, W = [wAT, y] := by
  obtain ⟨_, rfl, g1⟩ := mt_lit (by decide) h
  obtain ⟨y, _, rfl, g2⟩ := mt_any g1
  obtain rfl := mt_nil g2
  exact ⟨y, rfl⟩
theorem is2 {W : List ByteArray} (h : mt W pt2 = true) : ∃ y, W = [wAT, wTHE, wEVE, wOF, y] := mt5b (by decide) (by decide) (by decide) (by decide) h
theorem is3 {W : List ByteArray} (h : mt W pt3 = true) : ∃ y, W = [wAT, wTHE, wOCT, wOF, y] := mt5b (by decide) (by decide) (by decide) (by decide) h
theorem is4 {W : List ByteArray} (h : mt W pt4 = true) : ∃ x y, W = [wON, wTHE, x, wAFT, y] := mt5a (by decide) (by decide) (by decide) h
theorem is5 {W : List ByteArray} (h : mt W pt5 = true) : ∃ x y, W = [wON, wTHE, x, wBEF, y] := mt5a (by decide) (by decide) (by decide) h
theorem is6 {W : List ByteArray} (h : mt W pt6 = true) : ∃ x y, W = [wIN, wTHE, wYEAR, x, wOF, y] := mt6 (by decide) (by decide) (by decide) (by decide) h
theorem is7 {W : List ByteArray} (h : mt W pt7 = true) : ∃ x y, W = [wIN, wTHE, wYEAR, x, wBY, y] := mt6 (by decide) (by decide) (by decide) (by decide) h
theorem is8 {W : List ByteArray} (h : mt W pt8 = true) : ∃ x y, W = [wIN, wTHE, wIND, x, wBY, y] := mt6 (by decide) (by decide) (by decide) (by decide) h
theorem is9 {W : List ByteArray} (h : mt W pt9 = true) : ∃ y, W = [wON, wA, y] := by
  obtain ⟨_, rfl, g1⟩ := mt_lit (by decide) h
  obtain ⟨_, rfl, g2⟩ := mt_lit (by decide) g1
  obtain ⟨y, _, rfl, g3⟩ := mt_any g2
  obtain rfl := mt_nil g3
  exact ⟨y, rfl⟩
section
variable (rn : ByteArray → Int)
theorem readI_0 (x y : ByteArray) : readI rn [wON, wTHE, x, wOF, y] = ⟨0, rdOrd x, ix monL y + 1, 0, 0, 0, 0, ⟨#[]⟩⟩ := by
  rw [readI5]; unfold rd5; rw [if_pos ⟨rfl, rfl, rfl⟩]
theorem readI_1 (y : ByteArray) : readI rn [wAT, y] = ⟨1, 0, 0, ix feL y, 0, 0, 0, ⟨#[]⟩⟩ := by
  rw [readI2, if_pos rfl]
theorem readI_2 (y : ByteArray) : readI rn [wAT, wTHE, wEVE, wOF, y] = ⟨1, 0, 0, ix feL y, 1, 0, 0, ⟨#[]⟩⟩ := by
  rw [readI5]; unfold rd5; rw [if_neg (fun h => absurd h.1 (by decide)), if_pos ⟨rfl, rfl, rfl, rfl⟩]
theorem readI_3 (y : ByteArray) : readI rn [wAT, wTHE, wOCT, wOF, y] = ⟨1, 0, 0, ix feL y, 2, 0, 0, ⟨#[]⟩⟩ := by
  rw [readI5]; unfold rd5; rw [if_neg (fun h => absurd h.1 (by decide)), if_neg (fun h => absurd h.2.2.1 (by decide)), if_pos ⟨rfl, rfl, rfl, rfl⟩]
theorem readI_4 (x y : ByteArray) : readI rn [wON, wTHE, x, wAFT, y] = ⟨1, 0, 0, ix feL y, 3, ix wkL x, 0, ⟨#[]⟩⟩ := by
  rw [readI5]; unfold rd5
  rw [if_neg (fun h => absurd h.2.2 (by decide)), if_neg (fun h => absurd h.1 (by decide)), if_neg (fun h => absurd h.1 (by decide)), if_pos ⟨rfl, rfl, rfl⟩]
theorem readI_5 (x y : ByteArray) : readI rn [wON, wTHE, x, wBEF, y] = ⟨1, 0, 0, ix feL y, 4, ix wkL x, 0, ⟨#[]⟩⟩ := by
  rw [readI5]; unfold rd5
  rw [if_neg (fun h => absurd h.2.2 (by decide)), if_neg (fun h => absurd h.1 (by decide)), if_neg (fun h => absurd h.1 (by decide)), if_neg (fun h => absurd h.2.2 (by decide)), if_pos ⟨rfl, rfl, rfl⟩]
theorem readI_6 (x y : ByteArray) : readI rn [wIN, wTHE, wYEAR, x, wOF, y] = ⟨2, rn x, 0, 0, 0, 0, 0, y⟩ := by
  rw [readI6]; unfold rd6; rw [if_pos ⟨rfl, rfl, rfl, rfl⟩]
theorem readI_7 (x y : ByteArray) : readI rn [wIN, wTHE, wYEAR, x, wBY, y] = ⟨3, rn x, 0, 0, 0, 0, ix styL y, ⟨#[]⟩⟩ := by
  rw [readI6]; unfold rd6; rw [if_neg (fun h => absurd h.2.2.2 (by decide)), if_pos ⟨rfl, rfl, rfl, rfl⟩]
theorem readI_8 (x y : ByteArray) : readI rn [wIN, wTHE, wIND, x, wBY, y] = ⟨4, rn x, 0, 0, 0, 0, ix inL y, ⟨#[]⟩⟩ := by
  rw [readI6]; unfold rd6; rw [if_neg (fun h => absurd h.2.2.1 (by decide)), if_neg (fun h => absurd h.2.2.1 (by decide)), if_pos ⟨rfl, rfl, rfl, rfl⟩]
theorem readI_9 (y : ByteArray) : readI rn [wON, wA, y] = ⟨5, 0, 0, 0, 0, ix wkL y, 0, ⟨#[]⟩⟩ := by
  rw [readI3, if_pos ⟨rfl, rfl⟩]
theorem readI_no {W : List ByteArray} (h0 : mt W pt0 = false) (h1 : mt W pt1 = false) (h2 : mt W pt2 = false) (h3 : mt W pt3 = false) (h4 : mt W pt4 = false) (h5 : mt W pt5 = false) (h6 : mt W pt6 = false) (h7 : mt W pt7 = false) (h8 : mt W pt8 = false) (h9 : mt W pt9 = false) : readI rn W = clN := by
  have no : ∀ {P : List ByteArray}, mt W P = false → ¬ mt W P = true := fun h e => by rw [h] at e; cases e
  match W with
  | [] => rfl
  | [_] => rfl
  | [a, x] =>
    rw [readI2, if_neg]
    rintro rfl
    exact no h1 (by simp [mt, pt1, star])
  | [a, b, x] =>
    rw [readI3, if_neg]
    rintro ⟨rfl, rfl⟩
    exact no h9 (by simp [mt, pt9, star])
  | [_, _, _, _] => rfl
  | [a, b, x, d, y] =>
    rw [readI5]; unfold rd5
    rw [if_neg, if_neg, if_neg, if_neg, if_neg]
    · rintro ⟨rfl, rfl, rfl⟩; exact no h5 (by simp [mt, pt5, star])
    · rintro ⟨rfl, rfl, rfl⟩; exact no h4 (by simp [mt, pt4, star])
    · rintro ⟨rfl, rfl, rfl, rfl⟩; exact no h3 (by simp [mt, pt3, star])
    · rintro ⟨rfl, rfl, rfl, rfl⟩; exact no h2 (by simp [mt, pt2, star])
    · rintro ⟨rfl, rfl, rfl⟩; exact no h0 (by simp [mt, pt0, star])
  | [a, b, c, x, e, y] =>
    rw [readI6]; unfold rd6
    rw [if_neg, if_neg, if_neg]
    · rintro ⟨rfl, rfl, rfl, rfl⟩; exact no h8 (by simp [mt, pt8, star])
    · rintro ⟨rfl, rfl, rfl, rfl⟩; exact no h7 (by simp [mt, pt7, star])
    · rintro ⟨rfl, rfl, rfl, rfl⟩; exact no h6 (by simp [mt, pt6, star])
  | _ :: _ :: _ :: _ :: _ :: _ :: _ :: _ => rfl
end
end

section
open Go.ChangeShapes Go.WideShapes Go.ChangeAt Go.RowKit Go.IntWalk

theorem ba_beq (a b : ByteArray) : (a.toList == b.toList) = decide (a = b) := by
  by_cases h : a = b
  · subst h; simp
  · rw [decide_eq_false h, Lib.toList_data, Lib.toList_data]
    simp only [beq_eq_false_iff_ne, ne_eq]
    exact fun e => h (ba_inj e)
set_option maxRecDepth 100000 in
theorem isStar_any (a b : ByteArray) (w : World) :
    Calls Tryz.prog 85 #[.string a, .string b] w fun e w' => e = .returned (.bool (decide (b = star) || decide (a = b))) ∧ w' = w := by
  have h1 : (b.toList == [42]) = decide (b = star) := by have h := ba_beq b star; rw [show star.toList = [42] by unfold star; rw [Lib.toList_data]] at h; exact h
  have h2 := ba_beq a b
  by_cases hb : b = star
  · rw [decide_eq_true hb] at h1
    rw [decide_eq_true hb, Bool.true_or]
    clear hb h2
    go_enter Tryz.func85, Tryz.ntmps85
    go_wp2
    go_ret
    exact ⟨rfl, rfl⟩
  · rw [decide_eq_false hb] at h1
    rw [decide_eq_false hb, Bool.false_or, ← h2]
    clear h2 hb
    go_enter Tryz.func85, Tryz.ntmps85
    go_wp2
    go_ret
    exact ⟨rfl, rfl⟩
set_option maxRecDepth 100000 in
set_option maxHeartbeats 2000000 in
theorem equalFunc_any (a1 a2 : Option Addr) (c1 c2 : Nat) (W P : List ByteArray) (w : World) (hl : W.length ≤ 4294967296) (hx : Rd encS w a1 W) (hy : Rd encS w a2 P) :
    Calls Tryz.prog 84 #[.slice a1 W.length c1, .slice a2 P.length c2, .func (.func 85) #[] #[]] w fun e w' => e = .returned (.bool (mt W P)) ∧ w' = w := by
  by_cases hlen : W.length = P.length
  · have q0 : ((W.length : Int) != (P.length : Int)) = false := by simp [hlen]
    obtain ⟨n, hn⟩ : ∃ n, W.length = n := ⟨_, rfl⟩
    have hn2 : P.length = n := by omega
    rw [hn, hn2] at q0
    rw [hn, hn2]
    go_enter Tryz.func84, Tryz.ntmps84
    go_wp2
    clear hlen
    replace hn := Lib.hid hn
    replace hn2 := Lib.hid hn2
    go_loopw [17] (fun i wr => ∃ (k : Nat), k ≤ n ∧ i = .int .i64 k ∧ Hid (mt W P = mt (W.drop k) (P.drop k)) ∧ wr = w) (fun i _ => n - (intOf i).toNat)
    case atStart => exact ⟨0, Nat.zero_le _, rfl, rfl, rfl⟩
    case round =>
      obtain ⟨k, hk, rfl, hH, rfl⟩ := hrel
      by_cases hlt : k < n
      · have hm := List.getElem?_eq_getElem (l := W) (i := k) (by rw [hn.out]; exact hlt)
        generalize W[k]'(by rw [hn.out]; exact hlt) = x at hm
        have hm2 := List.getElem?_eq_getElem (l := P) (i := k) (by rw [hn2.out]; exact hlt)
        generalize P[k]'(by rw [hn2.out]; exact hlt) = y at hm2
        obtain ⟨b, off, rfl, hb, c0⟩ := hx.s hm
        obtain ⟨b2, off2, rfl, hb2, c02⟩ := hy.s hm2
        have hd := Lib.hid (mt_drop hm hm2)
        have hk1 : (k : Int) < (n : Int) := by omega
        have v1 : IntKind.i64.wrap ((k : Int) + 1) = ((k + 1 : Nat) : Int) := by rw [IntKind.wrap_i64]; have := hn.out; omega
        have HC := Lib.hid (fun W => isStar_any x y W)
        clear hm hm2
        cases hp : (decide (y = star) || decide (x = y))
        · rw [hp] at HC
          have hq := Lib.hid (show mt W P = false by rw [hH.out, hd.out, hp]; rfl)
          clear hp hd hH
          go_wp2_with fail
          refine (HC.out _).mono ?_
          rintro e w1 ⟨rfl, rfl⟩
          go_wp2
          go_ret
          exact ⟨ret_bool hq.out.symm, rfl⟩
        · rw [hp] at HC
          have hq := Lib.hid (show mt W P = mt (W.drop (k + 1)) (P.drop (k + 1)) by rw [hH.out, hd.out, hp]; rfl)
          clear hp hd hH
          go_wp2_with fail
          refine (HC.out _).mono ?_
          rintro e w1 ⟨rfl, rfl⟩
          go_wp2
          go_roundw
          case rel => exact ⟨k + 1, by omega, rfl, hq, (by first | rfl | trivial)⟩
          case measure => simp only [intOf]; omega
      · have hq := Lib.hid (show mt W P = true by rw [hH.out]; exact mt_done (by rw [hn.out]; omega) (by rw [hn2.out]; omega))
        clear hH
        go_wp2
        go_ret
        exact ⟨ret_bool hq.out.symm, rfl⟩
  · have q0 : ((W.length : Int) != (P.length : Int)) = true := by simp; omega
    have hq := Lib.hid (mt_len hlen)
    go_enter Tryz.func84, Tryz.ntmps84
    go_wp2
    go_ret
    exact ⟨ret_bool hq.out.symm, rfl⟩
theorem spl_len (c : UInt8) : ∀ l, (spl c l).length ≤ l.length + 1
  | [] => by simp [spl]
  | b :: l => by
    have ih := spl_len c l
    rw [spl_cons]
    split
    · simp only [List.length_cons]; omega
    · split
      · simp
      · rename_i e; rw [e] at ih; simp only [List.length_cons] at ih ⊢; omega
theorem wsB_len (c : UInt8) (s : ByteArray) : (wsB c s).length ≤ s.size + 1 := by
  have := spl_len c s.data.toList
  unfold wsB
  rw [List.length_map, Lib.size_eq]
  exact this
/-- A text split at one byte. -/
theorem split_ws (s : ByteArray) (c : UInt8) (w : World) (hs : s.size ≤ 1048576) :
    Calls Tryz.prog 39 #[.string s, .string ⟨#[c]⟩] w fun e w' => ∃ g, e = .returned (.slice (some ⟨g, 0, none⟩) (wsB c s).length (wsB c s).length) ∧ w'.ownsRow w.heap.size 9 1 (.slice (some ⟨g, 0, none⟩) (wsB c s).length (wsB c s).length) (wsB c s).length ((wsB c s).flatMap encS) ∧ Below w.heap.size w w' := by
  refine (split_gen s c w (by omega)).mono ?_
  rintro e w' ⟨rfl, rfl⟩
  have hlen := Lib.splitB_all ⟨#[c]⟩ (Nat.le_refl 1) 0 _ s rfl
  rw [splitB_ws] at hlen ⊢
  rw [← hlen]
  have hL := wsB_len c s
  exact ⟨_, rfl, own_of_new w _ _ rfl (by unfold maxLen; omega), (Below.refl _ _).alloc (Nat.le_refl _) _⟩
set_option maxRecDepth 100000 in
set_option maxHeartbeats 2000000 in
theorem isPat_any (pat : ByteArray) (q : Nat) (a : Option Addr) (cap : Nat) (W : List ByteArray) (w : World) (hs : pat.size ≤ 100) (hl : W.length ≤ 1048577) (hx : Rd encS w a W) (hq : w.cell? ⟨q, 0, none⟩ = some (.slice a W.length cap)) (hqs : q < w.heap.size) :
    Calls Tryz.prog 83 #[.string pat, .pointer (some ⟨q, 0, none⟩)] w fun e w' => e = .returned (.bool (mt W (wsB 32 pat))) ∧ Below w.heap.size w w' := by
  have HS := Lib.hid (fun W => split_ws pat 32 W (by omega))
  generalize wsB 32 pat = P at HS ⊢
  go_enter Tryz.func83, Tryz.ntmps83
  go_wp2_with fail
  refine (HS.out _).mono ?_
  rintro e w1 ⟨g, rfl, ow, hB⟩
  have HE := Lib.hid (equalFunc_any a (some ⟨g, 0, none⟩) cap P.length W P w1 (by omega) (hx.below hB) (Rd.of_own encS_len (by decide) ow))
  have c0 := (hB.cell (p := ⟨q, 0, none⟩) hqs).trans hq
  clear hq ow
  go_wp2_with fail
  refine HE.out.mono ?_
  rintro e w2 ⟨rfl, rfl⟩
  go_wp2
  go_ret
  exact ⟨rfl, hB⟩
theorem ws_pt0 : wsB 32 ⟨#[111, 110, 32, 116, 104, 101, 32, 42, 32, 111, 102, 32, 42]⟩ = pt0 := by decide +kernel
theorem ws_pt1 : wsB 32 ⟨#[97, 116, 32, 42]⟩ = pt1 := by decide +kernel
theorem ws_pt2 : wsB 32 ⟨#[97, 116, 32, 116, 104, 101, 32, 101, 118, 101, 32, 111, 102, 32, 42]⟩ = pt2 := by decide +kernel
theorem ws_pt3 : wsB 32 ⟨#[97, 116, 32, 116, 104, 101, 32, 111, 99, 116, 97, 118, 101, 32, 111, 102, 32, 42]⟩ = pt3 := by decide +kernel
theorem ws_pt4 : wsB 32 ⟨#[111, 110, 32, 116, 104, 101, 32, 42, 32, 97, 102, 116, 101, 114, 32, 42]⟩ = pt4 := by decide +kernel
theorem ws_pt5 : wsB 32 ⟨#[111, 110, 32, 116, 104, 101, 32, 42, 32, 98, 101, 102, 111, 114, 101, 32, 42]⟩ = pt5 := by decide +kernel
theorem ws_pt6 : wsB 32 ⟨#[105, 110, 32, 116, 104, 101, 32, 121, 101, 97, 114, 32, 42, 32, 111, 102, 32, 42]⟩ = pt6 := by decide +kernel
theorem ws_pt7 : wsB 32 ⟨#[105, 110, 32, 116, 104, 101, 32, 121, 101, 97, 114, 32, 42, 32, 98, 121, 32, 42]⟩ = pt7 := by decide +kernel
theorem ws_pt8 : wsB 32 ⟨#[105, 110, 32, 116, 104, 101, 32, 105, 110, 100, 105, 99, 116, 105, 111, 110, 32, 42, 32, 98, 121, 32, 42]⟩ = pt8 := by decide +kernel
theorem ws_pt9 : wsB 32 ⟨#[111, 110, 32, 97, 32, 42]⟩ = pt9 := by decide +kernel
end
end Go.Proofs.YteajkofgcmfaoaaGreatDoor
