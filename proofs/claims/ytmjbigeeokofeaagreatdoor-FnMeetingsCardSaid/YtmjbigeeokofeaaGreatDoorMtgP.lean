/- What the law of meetings wants: where two could meet each could be, slack is not negative; plain. -/
import Derived.Test.YtmjbigeeokofeaaGreatDoorMeet
import Derived.Test.YtmjbigeeokofeaaGreatDoorCbOne
import Derived.Test.YtmjbigeeokofeaaGreatDoorSlack
namespace Go.Proofs.YtmjbigeeokofeaaGreatDoor

theorem jxl_in {p : Nat → Bool} {x : Int} : ∀ {k : Nat}, x ∈ jxl p k → ∃ v : Nat, x = v ∧ v < k ∧ p v = true
  | 0, h => by cases h
  | k + 1, h => by
    unfold jxl at h
    split at h
    · rename_i hp
      rcases List.mem_append.1 h with h | h
      · obtain ⟨v, h1, h2, h3⟩ := jxl_in h; exact ⟨v, h1, by omega, h3⟩
      · obtain rfl := List.mem_singleton.1 h; exact ⟨k, rfl, by omega, hp⟩
    · obtain ⟨v, h1, h2, h3⟩ := jxl_in h; exact ⟨v, h1, by omega, h3⟩
theorem cb_of {ps : List ByteArray} {ws : List Wy} {xs : List St} {n : Int} {v : Nat} (hi : isItinB ps ws xs = true) (hn : dayB n = true) (hv : v < ps.length) (hp : pP ps.length ws xs n v = true) :
    cbR ps ws xs v n (codeI ps ws xs (placeB ps.length v && dayB n)) = (true, 0) := by
  have hpl : placeB ps.length (v : Int) = true := by simp [placeB, inB]; omega
  have hc : codeI ps ws xs (placeB ps.length v && dayB n) = 0 := by unfold codeI; rw [if_pos hi, hpl, hn]; rfl
  unfold cbR
  rw [if_pos hc, Int.toNat_natCast]
  unfold pP at hp
  rw [hp]
/-- Where two could meet, each could be. -/
theorem meet_law {ps : List ByteArray} {ws : List Wy} {a b : List St} {n x : Int} (h : codeM ps ws a b n = 0) (hx : x ∈ (meetR ps ws a b n (codeM ps ws a b n)).1) :
    cbR ps ws a x n (codeI ps ws a (placeB ps.length x && dayB n)) = (true, 0) ∧ cbR ps ws b x n (codeI ps ws b (placeB ps.length x && dayB n)) = (true, 0) := by
  obtain ⟨h1, h2, h3⟩ := codeM_zero h
  unfold meetR at hx
  rw [if_pos h] at hx
  obtain ⟨v, rfl, hv, hp⟩ := jxl_in hx
  unfold pM at hp
  rw [Bool.and_eq_true] at hp
  exact ⟨cb_of h2 h3 hv hp.1, cb_of h1 h3 hv hp.2⟩
/-- There is never less time than a travel takes. -/
theorem slack_law {ps : List ByteArray} {ws : List Wy} {xs : List St} {z : Int} (h : (slackR ps ws xs z (codeI ps ws xs (inB z 0 ((xs.length : Int) - 2)))).2 = 0) : 0 ≤ (slackR ps ws xs z (codeI ps ws xs (inB z 0 ((xs.length : Int) - 2)))).1 := by
  have hc : codeI ps ws xs (inB z 0 ((xs.length : Int) - 2)) = 0 := by
    unfold slackR at h
    split at h
    · assumption
    · exact h
  obtain ⟨k, A, B, pf, pt, mf, mt, rfl, hk, hx, hy, _, _, _, _, _, _, _, he⟩ := slack_facts hc
  rw [he]
  obtain ⟨h1, _⟩ := codeI_zero hc
  unfold isItinB at h1
  simp only [Bool.and_eq_true, decide_eq_true_eq] at h1
  have hlt := upGo_pair h1.1.2 hx hy
  unfold ltSt at hlt
  simp only [Bool.and_eq_true, decide_eq_true_eq, Int.toNat_natCast] at hlt
  show 0 ≤ mf - pt - travM ps.length ws A B
  omega
end Go.Proofs.YtmjbigeeokofeaaGreatDoor
