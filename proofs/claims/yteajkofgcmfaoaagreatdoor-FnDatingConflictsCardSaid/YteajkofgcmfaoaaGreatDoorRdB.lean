/- Plain: a clause is read from its words: the program's patterns and the reference's guess agree. Printed by gen_rdb.py. -/
import Derived.Test.YteajkofgcmfaoaaGreatDoorCtx
import Derived.Test.YteajkofgcmfaoaaGreatDoorRd6
import Derived.Test.YteajkofgcmfaoaaGreatDoorBB
namespace Go.Proofs.YteajkofgcmfaoaaGreatDoor

def wON : ByteArray := ⟨#[111, 110]⟩
def wTHE : ByteArray := ⟨#[116, 104, 101]⟩
def wOF : ByteArray := ⟨#[111, 102]⟩
def wAT : ByteArray := ⟨#[97, 116]⟩
def wEVE : ByteArray := ⟨#[101, 118, 101]⟩
def wOCT : ByteArray := ⟨#[111, 99, 116, 97, 118, 101]⟩
def wAFT : ByteArray := ⟨#[97, 102, 116, 101, 114]⟩
def wBEF : ByteArray := ⟨#[98, 101, 102, 111, 114, 101]⟩
def wIN : ByteArray := ⟨#[105, 110]⟩
def wYEAR : ByteArray := ⟨#[121, 101, 97, 114]⟩
def wBY : ByteArray := ⟨#[98, 121]⟩
def wIND : ByteArray := ⟨#[105, 110, 100, 105, 99, 116, 105, 111, 110]⟩
def wA : ByteArray := ⟨#[97]⟩
/-- The index of a word, -1 if it is not there. -/
def ix (L : List ByteArray) (x : ByteArray) : Int := fidx (fun y => decide (y = x)) L 0
theorem ix_or (L : List ByteArray) (x : ByteArray) : ix L x = -1 ∨ ∃ j : Nat, ix L x = j ∧ j < L.length ∧ L[j]? = some x := by
  rcases fidx_bd (fun y => decide (y = x)) L 0 with e | ⟨k, y, e, h1, h2, h3⟩
  · exact .inl e
  · refine .inr ⟨k, by unfold ix; rw [e]; simp, h1, ?_⟩
    rw [h2, of_decide_eq_true h3]
theorem ix_mem {L : List ByteArray} {x : ByteArray} (h : x ∈ L) : 0 ≤ ix L x := by
  have h1 := fidx_any (fun y => decide (y = x)) L
  have h2 : (L.any fun y => decide (y = x)) = true := List.any_eq_true.2 ⟨x, h, by simp⟩
  rw [h2] at h1
  exact of_decide_eq_true h1
theorem nameN_ix {L : List ByteArray} {x : ByteArray} {n lo : Int} (h : 0 ≤ ix L x) (hn : n = lo + ix L x) : nameN L lo n = x := by
  rcases ix_or L x with e | ⟨j, e, hj, hx⟩
  · omega
  · exact nameN_is (j := j) rfl (by unfold inB; simp; omega) (by omega) hx
theorem nameN_mem {L : List ByteArray} {lo n hi : Int} (hh : lo + L.length - 1 = hi) (h : inB n lo hi = true) : nameN L lo n ∈ L := by
  obtain ⟨j, _, _, _, hx⟩ := nameN_in hh h
  exact List.mem_of_getElem? hx
def rdOrd (x : ByteArray) : Int := if ix ordL x < 0 then 0 else ix ordL x + 1
def fz (L : List ByteArray) (x : ByteArray) : Int := if ix L x < 0 then 0 else ix L x
theorem fz_ix {L : List ByteArray} {x : ByteArray} (h : 0 ≤ ix L x) : fz L x = ix L x := if_neg (by omega)
def clN : Cl := ⟨-1, 0, 0, 0, 0, 0, 0, ⟨#[]⟩⟩
section
variable (rn : ByteArray → Int)
def rd5 (a b x d y : ByteArray) : Cl :=
  if a = wON ∧ b = wTHE ∧ d = wOF then ⟨0, rdOrd x, ix monL y + 1, 0, 0, 0, 0, ⟨#[]⟩⟩ else
  if a = wAT ∧ b = wTHE ∧ x = wEVE ∧ d = wOF then ⟨1, 0, 0, ix feL y, 1, 0, 0, ⟨#[]⟩⟩ else
  if a = wAT ∧ b = wTHE ∧ x = wOCT ∧ d = wOF then ⟨1, 0, 0, ix feL y, 2, 0, 0, ⟨#[]⟩⟩ else
  if a = wON ∧ b = wTHE ∧ d = wAFT then ⟨1, 0, 0, ix feL y, 3, ix wkL x, 0, ⟨#[]⟩⟩ else
  if a = wON ∧ b = wTHE ∧ d = wBEF then ⟨1, 0, 0, ix feL y, 4, ix wkL x, 0, ⟨#[]⟩⟩ else clN
def rd6 (a b c x e y : ByteArray) : Cl :=
  if a = wIN ∧ b = wTHE ∧ c = wYEAR ∧ e = wOF then ⟨2, rn x, 0, 0, 0, 0, 0, y⟩ else
  if a = wIN ∧ b = wTHE ∧ c = wYEAR ∧ e = wBY then ⟨3, rn x, 0, 0, 0, 0, ix styL y, ⟨#[]⟩⟩ else
  if a = wIN ∧ b = wTHE ∧ c = wIND ∧ e = wBY then ⟨4, rn x, 0, 0, 0, 0, ix inL y, ⟨#[]⟩⟩ else clN
/-- The program: what the words match. -/
def readI : List ByteArray → Cl
  | [a, x] => if a = wAT then ⟨1, 0, 0, ix feL x, 0, 0, 0, ⟨#[]⟩⟩ else clN
  | [a, b, x] => if a = wON ∧ b = wA then ⟨5, 0, 0, 0, 0, ix wkL x, 0, ⟨#[]⟩⟩ else clN
  | [a, b, x, d, y] => rd5 a b x d y
  | [a, b, c, x, e, y] => rd6 rn a b c x e y
  | _ => clN
/-- The reference: what the words may mean. -/
def guS : List ByteArray → Cl
  | [a, x] => if a = wAT then ⟨1, 0, 0, fz feL x, 0, 0, 0, ⟨#[]⟩⟩ else clN
  | [a, _, x] => if a = wON then ⟨5, 0, 0, 0, 0, ix wkL x, 0, ⟨#[]⟩⟩ else clN
  | [a, _, x, d, y] => if a = wAT then (if x = wEVE then ⟨1, 0, 0, fz feL y, 1, 0, 0, ⟨#[]⟩⟩ else ⟨1, 0, 0, fz feL y, 2, 0, 0, ⟨#[]⟩⟩) else if a = wON then (if d = wOF then ⟨0, rdOrd x, ix monL y + 1, 0, 0, 0, 0, ⟨#[]⟩⟩ else ⟨1, 0, 0, fz feL y, if d = wBEF then 4 else 3, ix wkL x, 0, ⟨#[]⟩⟩) else clN
  | [a, _, c, x, e, y] => if a = wIN then (if c = wIND then ⟨4, rn x, 0, 0, 0, 0, ix inL y, ⟨#[]⟩⟩ else if e = wOF then ⟨2, rn x, 0, 0, 0, 0, 0, y⟩ else ⟨3, rn x, 0, 0, 0, 0, fz styL y, ⟨#[]⟩⟩) else clN
  | _ => clN
end
theorem readI2 (rn : ByteArray → Int) (a x : ByteArray) : readI rn [a, x] = if a = wAT then ⟨1, 0, 0, ix feL x, 0, 0, 0, ⟨#[]⟩⟩ else clN := rfl
theorem guS2 (rn : ByteArray → Int) (a x : ByteArray) : guS rn [a, x] = if a = wAT then ⟨1, 0, 0, fz feL x, 0, 0, 0, ⟨#[]⟩⟩ else clN := rfl
theorem readI3 (rn : ByteArray → Int) (a b x : ByteArray) : readI rn [a, b, x] = if a = wON ∧ b = wA then ⟨5, 0, 0, 0, 0, ix wkL x, 0, ⟨#[]⟩⟩ else clN := rfl
theorem guS3 (rn : ByteArray → Int) (a b x : ByteArray) : guS rn [a, b, x] = if a = wON then ⟨5, 0, 0, 0, 0, ix wkL x, 0, ⟨#[]⟩⟩ else clN := rfl
theorem readI5 (rn : ByteArray → Int) (a b x d y : ByteArray) : readI rn [a, b, x, d, y] = rd5 a b x d y := rfl
theorem guS5 (rn : ByteArray → Int) (a b x d y : ByteArray) : guS rn [a, b, x, d, y] = if a = wAT then (if x = wEVE then ⟨1, 0, 0, fz feL y, 1, 0, 0, ⟨#[]⟩⟩ else ⟨1, 0, 0, fz feL y, 2, 0, 0, ⟨#[]⟩⟩) else if a = wON then (if d = wOF then ⟨0, rdOrd x, ix monL y + 1, 0, 0, 0, 0, ⟨#[]⟩⟩ else ⟨1, 0, 0, fz feL y, if d = wBEF then 4 else 3, ix wkL x, 0, ⟨#[]⟩⟩) else clN := rfl
theorem readI6 (rn : ByteArray → Int) (a b c x e y : ByteArray) : readI rn [a, b, c, x, e, y] = rd6 rn a b c x e y := rfl
theorem guS6 (rn : ByteArray → Int) (a b c x e y : ByteArray) : guS rn [a, b, c, x, e, y] = if a = wIN then (if c = wIND then ⟨4, rn x, 0, 0, 0, 0, ix inL y, ⟨#[]⟩⟩ else if e = wOF then ⟨2, rn x, 0, 0, 0, 0, 0, y⟩ else ⟨3, rn x, 0, 0, 0, 0, fz styL y, ⟨#[]⟩⟩) else clN := rfl
/-- The words of a clause's text. -/
def wdsO (m : Cl) : List ByteArray :=
  if m.kind = 0 then [wON, wTHE, nameN ordL 1 m.number, wOF, nameN monL 1 m.month] else
  if m.kind = 1 then (if m.relation = 0 then [wAT, nameN feL 0 m.feast] else if m.relation = 1 then [wAT, wTHE, wEVE, wOF, nameN feL 0 m.feast] else if m.relation = 2 then [wAT, wTHE, wOCT, wOF, nameN feL 0 m.feast] else
    if m.relation = 3 then [wON, wTHE, nameN wkL 0 m.weekday, wAFT, nameN feL 0 m.feast] else [wON, wTHE, nameN wkL 0 m.weekday, wBEF, nameN feL 0 m.feast]) else
  if m.kind = 2 then [wIN, wTHE, wYEAR, decB m.number, wOF, m.king] else
  if m.kind = 3 then [wIN, wTHE, wYEAR, decB m.number, wBY, nameN styL 0 m.style] else
  if m.kind = 4 then [wIN, wTHE, wIND, decB m.number, wBY, nameN inL 0 m.style] else [wON, wA, nameN wkL 0 m.weekday]
theorem jnS_one (x : ByteArray) : jnS 32 [x] = x := by
  unfold jnS
  rw [List.map_cons, List.map_nil, Lib.join_one]
theorem jnS_cons (x y : ByteArray) (r : List ByteArray) : jnS 32 (x :: y :: r) = x ++ (⟨#[32]⟩ ++ jnS 32 (y :: r)) := by
  unfold jnS
  rw [List.map_cons, List.map_cons, Lib.join_cons, Lib.join_cons]
  have e : x = ⟨x.data.toList.toArray⟩ := by simp
  rw [e, show (#[32] : Array UInt8) = [32].toArray from rfl, ByteArray.mk_append_mk, ByteArray.mk_append_mk]
  unfold Lib.joinTail
  simp

theorem lit_on (z : ByteArray) : (⟨#[111, 110, 32, 116, 104, 101, 32]⟩ : ByteArray) ++ z = wON ++ (⟨#[32]⟩ ++ (wTHE ++ (⟨#[32]⟩ ++ z))) := by
  rw [show (⟨#[111, 110, 32, 116, 104, 101, 32]⟩ : ByteArray) = wON ++ (⟨#[32]⟩ ++ (wTHE ++ (⟨#[32]⟩))) by decide]
  simp only [ByteArray.append_assoc]
theorem lit_of (z : ByteArray) : (⟨#[32, 111, 102, 32]⟩ : ByteArray) ++ z = ⟨#[32]⟩ ++ (wOF ++ (⟨#[32]⟩ ++ z)) := by
  rw [show (⟨#[32, 111, 102, 32]⟩ : ByteArray) = ⟨#[32]⟩ ++ (wOF ++ (⟨#[32]⟩)) by decide]
  simp only [ByteArray.append_assoc]
theorem lit_by (z : ByteArray) : (⟨#[32, 98, 121, 32]⟩ : ByteArray) ++ z = ⟨#[32]⟩ ++ (wBY ++ (⟨#[32]⟩ ++ z)) := by
  rw [show (⟨#[32, 98, 121, 32]⟩ : ByteArray) = ⟨#[32]⟩ ++ (wBY ++ (⟨#[32]⟩)) by decide]
  simp only [ByteArray.append_assoc]
theorem lit_yr (z : ByteArray) : (⟨#[105, 110, 32, 116, 104, 101, 32, 121, 101, 97, 114, 32]⟩ : ByteArray) ++ z = wIN ++ (⟨#[32]⟩ ++ (wTHE ++ (⟨#[32]⟩ ++ (wYEAR ++ (⟨#[32]⟩ ++ z))))) := by
  rw [show (⟨#[105, 110, 32, 116, 104, 101, 32, 121, 101, 97, 114, 32]⟩ : ByteArray) = wIN ++ (⟨#[32]⟩ ++ (wTHE ++ (⟨#[32]⟩ ++ (wYEAR ++ (⟨#[32]⟩))))) by decide]
  simp only [ByteArray.append_assoc]
theorem lit_ind (z : ByteArray) : (⟨#[105, 110, 32, 116, 104, 101, 32, 105, 110, 100, 105, 99, 116, 105, 111, 110, 32]⟩ : ByteArray) ++ z = wIN ++ (⟨#[32]⟩ ++ (wTHE ++ (⟨#[32]⟩ ++ (wIND ++ (⟨#[32]⟩ ++ z))))) := by
  rw [show (⟨#[105, 110, 32, 116, 104, 101, 32, 105, 110, 100, 105, 99, 116, 105, 111, 110, 32]⟩ : ByteArray) = wIN ++ (⟨#[32]⟩ ++ (wTHE ++ (⟨#[32]⟩ ++ (wIND ++ (⟨#[32]⟩))))) by decide]
  simp only [ByteArray.append_assoc]
theorem lit_ona (z : ByteArray) : (⟨#[111, 110, 32, 97, 32]⟩ : ByteArray) ++ z = wON ++ (⟨#[32]⟩ ++ (wA ++ (⟨#[32]⟩ ++ z))) := by
  rw [show (⟨#[111, 110, 32, 97, 32]⟩ : ByteArray) = wON ++ (⟨#[32]⟩ ++ (wA ++ (⟨#[32]⟩))) by decide]
  simp only [ByteArray.append_assoc]
theorem lit_at (z : ByteArray) : (⟨#[97, 116, 32]⟩ : ByteArray) ++ z = wAT ++ (⟨#[32]⟩ ++ z) := by
  rw [show (⟨#[97, 116, 32]⟩ : ByteArray) = wAT ++ (⟨#[32]⟩) by decide]
  simp only [ByteArray.append_assoc]
theorem lit_eve (z : ByteArray) : (⟨#[97, 116, 32, 116, 104, 101, 32, 101, 118, 101, 32, 111, 102, 32]⟩ : ByteArray) ++ z = wAT ++ (⟨#[32]⟩ ++ (wTHE ++ (⟨#[32]⟩ ++ (wEVE ++ (⟨#[32]⟩ ++ (wOF ++ (⟨#[32]⟩ ++ z))))))) := by
  rw [show (⟨#[97, 116, 32, 116, 104, 101, 32, 101, 118, 101, 32, 111, 102, 32]⟩ : ByteArray) = wAT ++ (⟨#[32]⟩ ++ (wTHE ++ (⟨#[32]⟩ ++ (wEVE ++ (⟨#[32]⟩ ++ (wOF ++ (⟨#[32]⟩))))))) by decide]
  simp only [ByteArray.append_assoc]
theorem lit_oct (z : ByteArray) : (⟨#[97, 116, 32, 116, 104, 101, 32, 111, 99, 116, 97, 118, 101, 32, 111, 102, 32]⟩ : ByteArray) ++ z = wAT ++ (⟨#[32]⟩ ++ (wTHE ++ (⟨#[32]⟩ ++ (wOCT ++ (⟨#[32]⟩ ++ (wOF ++ (⟨#[32]⟩ ++ z))))))) := by
  rw [show (⟨#[97, 116, 32, 116, 104, 101, 32, 111, 99, 116, 97, 118, 101, 32, 111, 102, 32]⟩ : ByteArray) = wAT ++ (⟨#[32]⟩ ++ (wTHE ++ (⟨#[32]⟩ ++ (wOCT ++ (⟨#[32]⟩ ++ (wOF ++ (⟨#[32]⟩))))))) by decide]
  simp only [ByteArray.append_assoc]
theorem lit_aft (z : ByteArray) : (⟨#[32, 97, 102, 116, 101, 114, 32]⟩ : ByteArray) ++ z = ⟨#[32]⟩ ++ (wAFT ++ (⟨#[32]⟩ ++ z)) := by
  rw [show (⟨#[32, 97, 102, 116, 101, 114, 32]⟩ : ByteArray) = ⟨#[32]⟩ ++ (wAFT ++ (⟨#[32]⟩)) by decide]
  simp only [ByteArray.append_assoc]
theorem lit_bef (z : ByteArray) : (⟨#[32, 98, 101, 102, 111, 114, 101, 32]⟩ : ByteArray) ++ z = ⟨#[32]⟩ ++ (wBEF ++ (⟨#[32]⟩ ++ z)) := by
  rw [show (⟨#[32, 98, 101, 102, 111, 114, 101, 32]⟩ : ByteArray) = ⟨#[32]⟩ ++ (wBEF ++ (⟨#[32]⟩)) by decide]
  simp only [ByteArray.append_assoc]
theorem txt_wds (m : Cl) : txtB m = jnS 32 (wdsO m) := by
  unfold txtB wdsO
  split
  · unfold txt0; simp only [jnS_cons, jnS_one, ByteArray.append_assoc, lit_on, lit_of]
  split
  · unfold txt1
    split
    · simp only [jnS_cons, jnS_one, lit_at]
    split
    · simp only [jnS_cons, jnS_one, lit_eve]
    split
    · simp only [jnS_cons, jnS_one, lit_oct]
    split
    · simp only [jnS_cons, jnS_one, ByteArray.append_assoc, lit_on, lit_aft]
    · simp only [jnS_cons, jnS_one, ByteArray.append_assoc, lit_on, lit_bef]
  split
  · unfold txt2; simp only [jnS_cons, jnS_one, ByteArray.append_assoc, lit_yr, lit_of]
  split
  · unfold txt3; simp only [jnS_cons, jnS_one, ByteArray.append_assoc, lit_yr, lit_by]
  split
  · unfold txt4; simp only [jnS_cons, jnS_one, ByteArray.append_assoc, lit_ind, lit_by]
  · unfold txt5; simp only [jnS_cons, jnS_one, lit_ona]
/-! ### No word has a blank -/
def Fr (x : ByteArray) : Prop := (32 : UInt8) ∉ x.data.toList
theorem fr_name {L : List ByteArray} {lo n : Int} (h : ∀ x ∈ L, Fr x) : Fr (nameN L lo n) := by
  unfold nameN
  split
  · rw [List.getD_eq_getElem?_getD]
    cases e : L[(n - lo).toNat]? with
    | none => show (32 : UInt8) ∉ ([] : List UInt8); simp
    | some x => exact h x (List.mem_of_getElem? e)
  · show (32 : UInt8) ∉ ([] : List UInt8); simp
theorem fr_ord : ∀ x ∈ ordL, Fr x := by unfold Fr; decide +kernel
theorem fr_mon : ∀ x ∈ monL, Fr x := by unfold Fr; decide +kernel
theorem fr_fe : ∀ x ∈ feL, Fr x := by unfold Fr; decide +kernel
theorem fr_wk : ∀ x ∈ wkL, Fr x := by unfold Fr; decide +kernel
theorem fr_sty : ∀ x ∈ styL, Fr x := by unfold Fr; decide +kernel
theorem fr_in : ∀ x ∈ inL, Fr x := by unfold Fr; decide +kernel
theorem digits_free (u : Nat) : (32 : UInt8) ∉ Lib.decDigits u := by
  induction u using Nat.strongRecOn with
  | _ u ih =>
    by_cases h : u < 10
    · rw [Lib.decDigits_one h]
      intro hm
      have hm := List.mem_singleton.1 hm
      have h1 := congrArg UInt8.toNat hm
      simp at h1
      omega
    · rw [Lib.decDigits, dif_neg h]
      intro hm
      rcases List.mem_append.1 hm with hm | hm
      · exact ih (u / 10) (by omega) hm
      · have hm := List.mem_singleton.1 hm
        have h1 := congrArg UInt8.toNat hm
        simp at h1
        omega
theorem fr_dec {z : Int} (h : 0 ≤ z) : Fr (decB z) := by
  obtain ⟨n, rfl⟩ := Int.eq_ofNat_of_zero_le h
  unfold Fr decB
  rw [Lib.itoa_nonneg]
  simpa using digits_free n
theorem fr_king {x : ByteArray} {k : Nat} (h : nameB x.data.toList k = true) : Fr x := by
  unfold nameB allLow at h
  simp only [Bool.and_eq_true, List.all_eq_true] at h
  intro hm
  have h1 := h.1.1 32 hm
  revert h1
  decide

theorem okCl_more {m : Cl} (h : okCl m = true) : (m.kind = 0 → 1 ≤ m.month ∧ 1 ≤ m.number) ∧ (m.kind = 1 → 0 ≤ m.feast ∧ m.feast ≤ 19 ∧ 0 ≤ m.weekday ∧ m.weekday ≤ 6) ∧ (m.kind = 2 → nameB m.king.data.toList 12 = true) ∧ (m.kind = 3 → 0 ≤ m.style ∧ m.style ≤ 6) ∧ (m.kind = 5 → 0 ≤ m.weekday ∧ m.weekday ≤ 6) ∧ (m.kind = 4 → 0 ≤ m.style) := by
  unfold okCl at h
  by_cases h0 : m.kind = 0
  · rw [if_pos h0] at h
    unfold okCl0 dateB inB at h
    simp only [Bool.and_eq_true, decide_eq_true_eq] at h
    exact ⟨fun _ => by omega, by omega, by omega, by omega, by omega, by omega⟩
  rw [if_neg h0] at h
  by_cases h1 : m.kind = 1
  · rw [if_pos h1] at h
    unfold okCl1 relB inB at h
    simp only [Bool.and_eq_true, decide_eq_true_eq] at h
    have h3 := h.2.1
    have h4 := h.2.2.1.2
    exact ⟨by omega, fun _ => by omega, by omega, by omega, by omega, by omega⟩
  rw [if_neg h1] at h
  by_cases h2 : m.kind = 2
  · rw [if_pos h2] at h
    unfold okCl2 at h
    simp only [Bool.and_eq_true] at h
    exact ⟨by omega, by omega, fun _ => h.2.2, by omega, by omega, by omega⟩
  rw [if_neg h2] at h
  by_cases h3 : m.kind = 3
  · rw [if_pos h3] at h
    unfold okCl3 inB at h
    simp only [Bool.and_eq_true, decide_eq_true_eq] at h
    exact ⟨by omega, by omega, by omega, fun _ => by omega, by omega, by omega⟩
  rw [if_neg h3] at h
  by_cases h4 : m.kind = 4
  · rw [if_pos h4] at h
    unfold okCl4 inB at h
    simp only [Bool.and_eq_true, decide_eq_true_eq] at h
    exact ⟨by omega, by omega, by omega, by omega, by omega, fun _ => by omega⟩
  rw [if_neg h4] at h
  by_cases h5 : m.kind = 5
  · rw [if_pos h5] at h
    unfold okCl5 inB at h
    simp only [Bool.and_eq_true, decide_eq_true_eq] at h
    exact ⟨by omega, by omega, by omega, by omega, fun _ => by omega, by omega⟩
  · rw [if_neg h5] at h; cases h
theorem fr_lit : Fr wON ∧ Fr wTHE ∧ Fr wOF ∧ Fr wAT ∧ Fr wEVE ∧ Fr wOCT ∧ Fr wAFT ∧ Fr wBEF ∧ Fr wIN ∧ Fr wYEAR ∧ Fr wBY ∧ Fr wIND ∧ Fr wA := by unfold Fr; decide
theorem wds_fr {m : Cl} (h : okCl m = true) : ∀ x ∈ wdsO m, Fr x := by
  have hb := okCl_bd h
  have hm := okCl_more h
  obtain ⟨l1, l2, l3, l4, l5, l6, l7, l8, l9, l10, l11, l12, l13⟩ := fr_lit
  have n1 := fr_name (lo := 1) (n := m.number) fr_ord
  have n2 := fr_name (lo := 1) (n := m.month) fr_mon
  have n3 := fr_name (lo := 0) (n := m.feast) fr_fe
  have n4 := fr_name (lo := 0) (n := m.weekday) fr_wk
  have n5 := fr_name (lo := 0) (n := m.style) fr_sty
  have n6 := fr_name (lo := 0) (n := m.style) fr_in
  intro x hx
  unfold wdsO at hx
  split at hx
  · simp only [List.mem_cons, List.not_mem_nil, or_false] at hx
    rcases hx with rfl | rfl | rfl | rfl | rfl <;> assumption
  split at hx
  · repeat' split at hx
    all_goals (simp only [List.mem_cons, List.not_mem_nil, or_false] at hx; (first | (rcases hx with rfl | rfl | rfl | rfl | rfl) | (rcases hx with rfl | rfl)) <;> assumption)
  split at hx
  · have n7 := fr_dec (z := m.number) (by have := hb.2.2.2.1 (by assumption); omega)
    have n8 := fr_king (hm.2.2.1 (by assumption))
    simp only [List.mem_cons, List.not_mem_nil, or_false] at hx
    rcases hx with rfl | rfl | rfl | rfl | rfl | rfl <;> assumption
  split at hx
  · have n7 := fr_dec (z := m.number) (by have := hb.2.2.2.2.1 (by assumption); omega)
    simp only [List.mem_cons, List.not_mem_nil, or_false] at hx
    rcases hx with rfl | rfl | rfl | rfl | rfl | rfl <;> assumption
  split at hx
  · have n7 := fr_dec (z := m.number) (by have := hb.2.2.2.2.2 (by assumption); omega)
    simp only [List.mem_cons, List.not_mem_nil, or_false] at hx
    rcases hx with rfl | rfl | rfl | rfl | rfl | rfl <;> assumption
  · simp only [List.mem_cons, List.not_mem_nil, or_false] at hx
    rcases hx with rfl | rfl | rfl <;> assumption
theorem wds_ne (m : Cl) : wdsO m ≠ [] := by
  unfold wdsO
  repeat' split
  all_goals simp
/-! ### The two readings agree -/
def numW (W : List ByteArray) (c : Cl) : List ByteArray := if c.kind = 2 ∨ c.kind = 3 ∨ c.kind = 4 then W.set 3 (decB c.number) else W
theorem okCl_N : okCl clN = false := by decide
theorem nm_fe {x : ByteArray} (h : 0 ≤ ix feL x) : nameN feL 0 (ix feL x) = x := nameN_ix h (by omega)
theorem nm_wk {x : ByteArray} (h : 0 ≤ ix wkL x) : nameN wkL 0 (ix wkL x) = x := nameN_ix h (by omega)
theorem nm_sty {x : ByteArray} (h : 0 ≤ ix styL x) : nameN styL 0 (ix styL x) = x := nameN_ix h (by omega)
theorem nm_in {x : ByteArray} (h : 0 ≤ ix inL x) : nameN inL 0 (ix inL x) = x := nameN_ix h (by omega)
theorem nm_mon {x : ByteArray} (h : 1 ≤ ix monL x + 1) : nameN monL 1 (ix monL x + 1) = x := nameN_ix (by omega) (by omega)
theorem nm_ord {x : ByteArray} (h : 1 ≤ rdOrd x) : nameN ordL 1 (rdOrd x) = x := by
  unfold rdOrd at *
  split at h
  · omega
  · rw [if_neg (by assumption)]
    exact nameN_ix (by omega) (by omega)
theorem fz_back {L : List ByteArray} {x : ByteArray} {hi : Int} (hh : 0 + (L.length : Int) - 1 = hi) (h0 : 0 ≤ fz L x ∧ fz L x ≤ hi) (h : x = nameN L 0 (fz L x)) : fz L x = ix L x := by
  refine fz_ix (ix_mem ?_)
  rw [h]
  exact nameN_mem hh (by unfold inB; simp; omega)
theorem read_fwd (rn : ByteArray → Int) : ∀ W : List ByteArray, okCl (readI rn W) = true → guS rn W = readI rn W ∧ numW W (readI rn W) = wdsO (readI rn W)
  | [], h => by rw [show readI rn [] = clN from rfl, okCl_N] at h; cases h
  | [_], h => by rw [show readI rn [_] = clN from rfl, okCl_N] at h; cases h
  | [a, x], h => by
    rw [readI2] at h ⊢
    by_cases ha : a = wAT
    · rw [if_pos ha] at h ⊢
      have hf : 0 ≤ ix feL x := ((okCl_more h).2.1 rfl).1
      refine ⟨by rw [guS2]; rw [if_pos ha, fz_ix hf], ?_⟩
      simp [numW, wdsO, ha, nm_fe hf]
    · rw [if_neg ha, okCl_N] at h; cases h
  | [a, b, x], h => by
    rw [readI3] at h ⊢
    by_cases ha : a = wON ∧ b = wA
    · rw [if_pos ha] at h ⊢
      have hf : 0 ≤ ix wkL x := ((okCl_more h).2.2.2.2.1 rfl).1
      refine ⟨by rw [guS3]; rw [if_pos ha.1], ?_⟩
      simp [numW, wdsO, ha, nm_wk hf]
    · rw [if_neg ha, okCl_N] at h; cases h
  | [_, _, _, _], h => by rw [show readI rn [_, _, _, _] = clN from rfl, okCl_N] at h; cases h
  | [a, b, x, d, y], h => by
    rw [readI5] at h ⊢; unfold rd5 at h ⊢
    have hna : wON ≠ wAT := by decide
    by_cases h1 : a = wON ∧ b = wTHE ∧ d = wOF
    · rw [if_pos h1] at h ⊢
      have hf := (okCl_more h).1 rfl
      have hf1 : 1 ≤ ix monL y + 1 := hf.1
      have hf2 : 1 ≤ rdOrd x := hf.2
      obtain ⟨rfl, rfl, rfl⟩ := h1
      refine ⟨by rw [guS5]; rw [if_neg hna, if_pos rfl, if_pos rfl], ?_⟩
      simp [numW, wdsO, nm_mon hf1, nm_ord hf2]
    rw [if_neg h1] at h ⊢
    by_cases h2 : a = wAT ∧ b = wTHE ∧ x = wEVE ∧ d = wOF
    · rw [if_pos h2] at h ⊢
      have hf : 0 ≤ ix feL y := ((okCl_more h).2.1 rfl).1
      obtain ⟨rfl, rfl, rfl, rfl⟩ := h2
      refine ⟨by rw [guS5]; rw [if_pos rfl, if_pos rfl, fz_ix hf], ?_⟩
      simp [numW, wdsO, nm_fe hf]
    rw [if_neg h2] at h ⊢
    by_cases h3 : a = wAT ∧ b = wTHE ∧ x = wOCT ∧ d = wOF
    · rw [if_pos h3] at h ⊢
      have hf : 0 ≤ ix feL y := ((okCl_more h).2.1 rfl).1
      obtain ⟨rfl, rfl, rfl, rfl⟩ := h3
      refine ⟨by rw [guS5]; rw [if_pos rfl, if_neg (by decide), fz_ix hf], ?_⟩
      simp [numW, wdsO, nm_fe hf]
    rw [if_neg h3] at h ⊢
    by_cases h4 : a = wON ∧ b = wTHE ∧ d = wAFT
    · rw [if_pos h4] at h ⊢
      have hf := (okCl_more h).2.1 rfl
      have hf1 : 0 ≤ ix feL y := hf.1
      have hf2 : 0 ≤ ix wkL x := hf.2.2.1
      obtain ⟨rfl, rfl, rfl⟩ := h4
      refine ⟨by rw [guS5]; rw [if_neg hna, if_pos rfl, if_neg (by decide), if_neg (by decide), fz_ix hf1], ?_⟩
      simp [numW, wdsO, nm_fe hf1, nm_wk hf2]
    rw [if_neg h4] at h ⊢
    by_cases h5 : a = wON ∧ b = wTHE ∧ d = wBEF
    · rw [if_pos h5] at h ⊢
      have hf := (okCl_more h).2.1 rfl
      have hf1 : 0 ≤ ix feL y := hf.1
      have hf2 : 0 ≤ ix wkL x := hf.2.2.1
      obtain ⟨rfl, rfl, rfl⟩ := h5
      refine ⟨by rw [guS5]; rw [if_neg hna, if_pos rfl, if_neg (by decide), if_pos rfl, fz_ix hf1], ?_⟩
      simp [numW, wdsO, nm_fe hf1, nm_wk hf2]
    · rw [if_neg h5, okCl_N] at h; cases h
  | [a, b, c, x, e, y], h => by
    rw [readI6] at h ⊢; unfold rd6 at h ⊢
    by_cases h1 : a = wIN ∧ b = wTHE ∧ c = wYEAR ∧ e = wOF
    · rw [if_pos h1] at h ⊢
      obtain ⟨rfl, rfl, rfl, rfl⟩ := h1
      refine ⟨by rw [guS6]; rw [if_pos rfl, if_neg (by decide), if_pos rfl], ?_⟩
      simp [numW, wdsO]
    rw [if_neg h1] at h ⊢
    by_cases h2 : a = wIN ∧ b = wTHE ∧ c = wYEAR ∧ e = wBY
    · rw [if_pos h2] at h ⊢
      have hf : 0 ≤ ix styL y := ((okCl_more h).2.2.2.1 rfl).1
      obtain ⟨rfl, rfl, rfl, rfl⟩ := h2
      refine ⟨by rw [guS6]; rw [if_pos rfl, if_neg (by decide), if_neg (by decide), fz_ix hf], ?_⟩
      simp [numW, wdsO, nm_sty hf]
    rw [if_neg h2] at h ⊢
    by_cases h3 : a = wIN ∧ b = wTHE ∧ c = wIND ∧ e = wBY
    · rw [if_pos h3] at h ⊢
      have hf : 0 ≤ ix inL y := (okCl_more h).2.2.2.2.2 rfl
      obtain ⟨rfl, rfl, rfl, rfl⟩ := h3
      refine ⟨by rw [guS6]; rw [if_pos rfl, if_pos rfl], ?_⟩
      simp [numW, wdsO, nm_in hf]
    · rw [if_neg h3, okCl_N] at h; cases h
  | _ :: _ :: _ :: _ :: _ :: _ :: _ :: _, h => by rw [show readI rn (_ :: _ :: _ :: _ :: _ :: _ :: _ :: _) = clN from rfl, okCl_N] at h; cases h
theorem read_bwd (rn : ByteArray → Int) : ∀ W : List ByteArray, okCl (guS rn W) = true → numW W (guS rn W) = wdsO (guS rn W) → readI rn W = guS rn W
  | [], h, _ => by rw [show guS rn [] = clN from rfl, okCl_N] at h; cases h
  | [_], h, _ => by rw [show guS rn [_] = clN from rfl, okCl_N] at h; cases h
  | [a, x], h, hw => by
    rw [guS2] at h hw ⊢
    by_cases ha : a = wAT
    · rw [if_pos ha] at h hw ⊢
      have hf : 0 ≤ fz feL x ∧ fz feL x ≤ 19 := by have := (okCl_more h).2.1 rfl; exact ⟨this.1, this.2.1⟩
      simp [numW, wdsO] at hw
      rw [readI2]
      rw [if_pos ha, fz_back rfl hf hw.2]
    · rw [if_neg ha, okCl_N] at h; cases h
  | [a, b, x], h, hw => by
    rw [guS3] at h hw ⊢
    by_cases ha : a = wON
    · rw [if_pos ha] at h hw ⊢
      simp [numW, wdsO] at hw
      rw [readI3]
      rw [if_pos ⟨ha, hw.2.1⟩]
    · rw [if_neg ha, okCl_N] at h; cases h
  | [_, _, _, _], h, _ => by rw [show guS rn [_, _, _, _] = clN from rfl, okCl_N] at h; cases h
  | [a, b, x, d, y], h, hw => by
    rw [guS5] at h hw ⊢
    have hna : wON ≠ wAT := by decide
    have hne : wAT ≠ wON := by decide
    by_cases ha : a = wAT
    · rw [if_pos ha] at h hw ⊢
      subst ha
      by_cases hx : x = wEVE
      · rw [if_pos hx] at h hw ⊢
        have hf : 0 ≤ fz feL y ∧ fz feL y ≤ 19 := by have := (okCl_more h).2.1 rfl; exact ⟨this.1, this.2.1⟩
        simp [numW, wdsO] at hw
        rw [readI5]; unfold rd5
        rw [if_neg (fun e => hne e.1), if_pos ⟨rfl, hw.1, hx, hw.2.2.1⟩, fz_back rfl hf hw.2.2.2]
      · rw [if_neg hx] at h hw ⊢
        have hf : 0 ≤ fz feL y ∧ fz feL y ≤ 19 := by have := (okCl_more h).2.1 rfl; exact ⟨this.1, this.2.1⟩
        simp [numW, wdsO] at hw
        rw [readI5]; unfold rd5
        rw [if_neg (fun e => hne e.1), if_neg (fun e => hx e.2.2.1), if_pos ⟨rfl, hw.1, hw.2.1, hw.2.2.1⟩, fz_back rfl hf hw.2.2.2]
    rw [if_neg ha] at h hw ⊢
    by_cases ho : a = wON
    · rw [if_pos ho] at h hw ⊢
      subst ho
      by_cases hd : d = wOF
      · rw [if_pos hd] at h hw ⊢
        simp [numW, wdsO] at hw
        rw [readI5]; unfold rd5
        rw [if_pos ⟨rfl, hw.1, hd⟩]
      · rw [if_neg hd] at h hw ⊢
        have hf : 0 ≤ fz feL y ∧ fz feL y ≤ 19 := by have := (okCl_more h).2.1 rfl; exact ⟨this.1, this.2.1⟩
        by_cases hb : d = wBEF
        · rw [if_pos hb] at h hw ⊢
          simp [numW, wdsO] at hw
          rw [readI5]; unfold rd5
          rw [if_neg (fun e => hd e.2.2), if_neg (fun e => hna e.1), if_neg (fun e => hna e.1), if_neg (fun e => absurd (hb.symm.trans e.2.2) (by decide)), if_pos ⟨rfl, hw.1, hb⟩, fz_back rfl hf hw.2.2.2]
        · rw [if_neg hb] at h hw ⊢
          simp [numW, wdsO] at hw
          rw [readI5]; unfold rd5
          rw [if_neg (fun e => hd e.2.2), if_neg (fun e => hna e.1), if_neg (fun e => hna e.1), if_pos ⟨rfl, hw.1, hw.2.2.1⟩, fz_back rfl hf hw.2.2.2]
    · rw [if_neg ho, okCl_N] at h; cases h
  | [a, b, c, x, e, y], h, hw => by
    rw [guS6] at h hw ⊢
    by_cases ha : a = wIN
    · rw [if_pos ha] at h hw ⊢
      subst ha
      by_cases hc : c = wIND
      · rw [if_pos hc] at h hw ⊢
        simp [numW, wdsO] at hw
        rw [readI6]; unfold rd6
        rw [if_neg (fun q => absurd (hc.symm.trans q.2.2.1) (by decide)), if_neg (fun q => absurd (hc.symm.trans q.2.2.1) (by decide)), if_pos ⟨rfl, hw.1, hc, hw.2.2.1⟩]
      · rw [if_neg hc] at h hw ⊢
        by_cases he : e = wOF
        · rw [if_pos he] at h hw ⊢
          simp [numW, wdsO] at hw
          rw [readI6]; unfold rd6
          rw [if_pos ⟨rfl, hw.1, hw.2.1, he⟩]
        · rw [if_neg he] at h hw ⊢
          have hf : 0 ≤ fz styL y ∧ fz styL y ≤ 6 := (okCl_more h).2.2.2.1 rfl
          simp [numW, wdsO] at hw
          rw [readI6]; unfold rd6
          rw [if_neg (fun q => he q.2.2.2), if_pos ⟨rfl, hw.1, hw.2.1, hw.2.2.1⟩, fz_back rfl hf hw.2.2.2]
    · rw [if_neg ha, okCl_N] at h; cases h
  | _ :: _ :: _ :: _ :: _ :: _ :: _ :: _, h, _ => by rw [show guS rn (_ :: _ :: _ :: _ :: _ :: _ :: _ :: _) = clN from rfl, okCl_N] at h; cases h
theorem numW_ne {W : List ByteArray} (c : Cl) (h : W ≠ []) : numW W c ≠ [] := by
  unfold numW
  split
  · intro e
    have := congrArg List.length e
    simp at this
    exact h this
  · exact h
theorem numW_fr {W : List ByteArray} {c : Cl} (h : ∀ x ∈ W, Fr x) (hc : okCl c = true) : ∀ x ∈ numW W c, Fr x := by
  intro x hx
  unfold numW at hx
  split at hx
  · rename_i hk
    rcases List.mem_or_eq_of_mem_set hx with hx | rfl
    · exact h x hx
    · have hb := okCl_bd hc
      refine fr_dec ?_
      rcases hk with hk | hk | hk
      · have := hb.2.2.2.1 hk; omega
      · have := hb.2.2.2.2.1 hk; omega
      · have := hb.2.2.2.2.2 hk; omega
  · exact h x hx
/-- What the reference answers, and that the program answers it. -/
def okS (rn : ByteArray → Int) (W : List ByteArray) : Bool := okCl (guS rn W) && decide (txtB (guS rn W) = jnS 32 (numW W (guS rn W)))
theorem read_law (rn : ByteArray → Int) {W : List ByteArray} (hne : W ≠ []) (hf : ∀ x ∈ W, Fr x) : okS rn W = okCl (readI rn W) ∧ (okCl (readI rn W) = true → guS rn W = readI rn W) := by
  have key : ∀ c, okCl c = true → (txtB c = jnS 32 (numW W c) ↔ numW W c = wdsO c) := fun c hc => by
    rw [txt_wds]
    exact (jnS_inj 32 (wds_ne c) (numW_ne c hne) (wds_fr hc) (numW_fr hf hc)).trans eq_comm
  refine ⟨?_, fun h => (read_fwd rn W h).1⟩
  rw [Bool.eq_iff_iff]
  unfold okS
  simp only [Bool.and_eq_true, decide_eq_true_eq]
  constructor
  · rintro ⟨h1, h2⟩
    rw [read_bwd rn W h1 ((key _ h1).1 h2)]
    exact h1
  · intro h
    obtain ⟨h1, h2⟩ := read_fwd rn W h
    rw [h1]
    exact ⟨h, (key _ h).2 h2⟩

end Go.Proofs.YteajkofgcmfaoaaGreatDoor
