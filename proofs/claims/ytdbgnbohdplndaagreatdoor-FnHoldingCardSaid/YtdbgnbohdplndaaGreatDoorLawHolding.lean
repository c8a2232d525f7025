/- Walk: the law FnHolding. Printed by gen_lawhold.py. -/
import Derived.Test.YtdbgnbohdplndaaGreatDoorDrh
import Derived.Test.YtdbgnbohdplndaaGreatDoorDoes
import Derived.Test.YtdbgnbohdplndaaGreatDoorDice
import Derived.Deep.RegionHeldLaw
namespace Go.Proofs.YtdbgnbohdplndaaGreatDoor
open Go.ChangeShapes Go.WideShapes Go.ChangeAt Go.RowKit Go.IntWalk

set_option maxRecDepth 100000 in
set_option maxHeartbeats 8000000 in
theorem lawHolding_any (cs : Option Addr) (cap : Nat) (bs : List Int) (w : World) (_hl : bs.length ≤ maxLen) (hx : Rd encB w cs bs) (hb : ∀ m ∈ bs, goodB m) :
    Calls Tryz.prog 7 #[.slice cs bs.length cap] w fun e w' => e = .returned (.bool true) ∧ Below w.heap.size w w' := by
  have HBIG := Lib.hid (big_any cs cap bs.length w)
  by_cases hbig : 4096 < bs.length
  · have HBIG := Lib.hid ((show decide (4096 < bs.length) = true by simpa using hbig) ▸ HBIG.out)
    go_enter Tryz.func7, Tryz.ntmps7
    go_wp2_with fail
    refine HBIG.out.mono ?_
    rintro e w1 ⟨rfl, rfl⟩
    go_wp2
    go_ret
    exact ⟨rfl, Below.refl _ _⟩
  have HBIG := Lib.hid ((show decide (4096 < bs.length) = false by simpa using hbig) ▸ HBIG.out)
  have hl : bs.length ≤ 4096 := by omega
  go_enter Tryz.func7, Tryz.ntmps7
  go_wp2_with fail
  refine HBIG.out.mono ?_
  rintro e w0 ⟨rfl, rfl⟩
  go_wp2_with fail
  refine (drawNextHolding_any cs cap bs w hx hb hl).mono ?_
  rintro e w1 ⟨g, c, rs, m, n, rfl, hrl, hok, hmk, hn, hown, hB⟩
  clear HBIG hbig
  generalize hW : w1.alloc (.cells #[.int .i64 m.kind, .int .i64 m.number, .int .i64 m.month, .int .i64 m.feast, .int .i64 m.relation, .int .i64 m.weekday, .int .i64 m.style, .string m.king] 57) = W2
  have hB1 : Below w1.heap.size w1 W2 := by rw [← hW]; exact (Below.refl _ _).alloc (Nat.le_refl _) _
  have A0 : W2.cell? ⟨w1.heap.size, 0, none⟩ = some (.int .i64 m.kind) := by rw [← hW]; exact World.cell?_alloc_at _ _ _ _ rfl
  have A1 : W2.cell? ⟨w1.heap.size, 1, none⟩ = some (.int .i64 m.number) := by rw [← hW]; exact World.cell?_alloc_at _ _ _ _ rfl
  have A2 : W2.cell? ⟨w1.heap.size, 2, none⟩ = some (.int .i64 m.month) := by rw [← hW]; exact World.cell?_alloc_at _ _ _ _ rfl
  have A3 : W2.cell? ⟨w1.heap.size, 3, none⟩ = some (.int .i64 m.feast) := by rw [← hW]; exact World.cell?_alloc_at _ _ _ _ rfl
  have A4 : W2.cell? ⟨w1.heap.size, 4, none⟩ = some (.int .i64 m.relation) := by rw [← hW]; exact World.cell?_alloc_at _ _ _ _ rfl
  have A5 : W2.cell? ⟨w1.heap.size, 5, none⟩ = some (.int .i64 m.weekday) := by rw [← hW]; exact World.cell?_alloc_at _ _ _ _ rfl
  have A6 : W2.cell? ⟨w1.heap.size, 6, none⟩ = some (.int .i64 m.style) := by rw [← hW]; exact World.cell?_alloc_at _ _ _ _ rfl
  have A7 : W2.cell? ⟨w1.heap.size, 7, none⟩ = some (.string m.king) := by rw [← hW]; exact World.cell?_alloc_at _ _ _ _ rfl
  have hla : w1.heap.size < W2.heap.size := by rw [← hW]; simp
  have hown := own_below hown hB1
  have hB := stepB hB hB1 hB.size
  clear hB1
  have HNI := Lib.hid (fun W (h : Rd encRg W (some ⟨g, 0, none⟩) rs) => implNext_any (some ⟨g, 0, none⟩) c rs m n W (by omega) h (fun r hr => by have := (hok r hr).1; omega) (by omega))
  have HNS := Lib.hid (fun W (h : Rd encRg W (some ⟨g, 0, none⟩) rs) => specNext_any (some ⟨g, 0, none⟩) c rs m n W (by omega) h (fun r hr => by have := (hok r hr).1; omega) (by omega))
  go_wp2_with fail
  clear hW
  refine (HNI.out _ (Rd.of_own encRg_len (by decide) hown)).mono ?_
  rintro e W3 ⟨rfl, hB1⟩
  have A0 := (hB1.cell (p := ⟨w1.heap.size, 0, none⟩) hla).trans A0
  have A1 := (hB1.cell (p := ⟨w1.heap.size, 1, none⟩) hla).trans A1
  have A2 := (hB1.cell (p := ⟨w1.heap.size, 2, none⟩) hla).trans A2
  have A3 := (hB1.cell (p := ⟨w1.heap.size, 3, none⟩) hla).trans A3
  have A4 := (hB1.cell (p := ⟨w1.heap.size, 4, none⟩) hla).trans A4
  have A5 := (hB1.cell (p := ⟨w1.heap.size, 5, none⟩) hla).trans A5
  have A6 := (hB1.cell (p := ⟨w1.heap.size, 6, none⟩) hla).trans A6
  have A7 := (hB1.cell (p := ⟨w1.heap.size, 7, none⟩) hla).trans A7
  have hla := Nat.lt_of_lt_of_le hla hB1.size
  have hown := own_below hown hB1
  have hB := stepB hB hB1 hB.size
  clear hB1
  go_wp2_with fail
  refine (HNS.out _ (Rd.of_own encRg_len (by decide) hown)).mono ?_
  rintro e W4 ⟨rfl, hB1⟩
  have A0 := (hB1.cell (p := ⟨w1.heap.size, 0, none⟩) hla).trans A0
  have A1 := (hB1.cell (p := ⟨w1.heap.size, 1, none⟩) hla).trans A1
  have A2 := (hB1.cell (p := ⟨w1.heap.size, 2, none⟩) hla).trans A2
  have A3 := (hB1.cell (p := ⟨w1.heap.size, 3, none⟩) hla).trans A3
  have A4 := (hB1.cell (p := ⟨w1.heap.size, 4, none⟩) hla).trans A4
  have A5 := (hB1.cell (p := ⟨w1.heap.size, 5, none⟩) hla).trans A5
  have A6 := (hB1.cell (p := ⟨w1.heap.size, 6, none⟩) hla).trans A6
  have A7 := (hB1.cell (p := ⟨w1.heap.size, 7, none⟩) hla).trans A7
  have hla := Nat.lt_of_lt_of_le hla hB1.size
  have hown := own_below hown hB1
  have hB := stepB hB hB1 hB.size
  clear hB1
  go_wp2_with fail
  refine (drawDoesHold_any cs cap bs _ (hx.below hB) hb hl).mono ?_
  rintro e W5 ⟨g2, c2, rs2, m2, n2, rfl, hrl2, hok2, hmk2, hn2, hown2, hB1⟩
  have hown2 := own_base hown2 hB.size
  have A0 := (hB1.cell (p := ⟨w1.heap.size, 0, none⟩) hla).trans A0
  have A1 := (hB1.cell (p := ⟨w1.heap.size, 1, none⟩) hla).trans A1
  have A2 := (hB1.cell (p := ⟨w1.heap.size, 2, none⟩) hla).trans A2
  have A3 := (hB1.cell (p := ⟨w1.heap.size, 3, none⟩) hla).trans A3
  have A4 := (hB1.cell (p := ⟨w1.heap.size, 4, none⟩) hla).trans A4
  have A5 := (hB1.cell (p := ⟨w1.heap.size, 5, none⟩) hla).trans A5
  have A6 := (hB1.cell (p := ⟨w1.heap.size, 6, none⟩) hla).trans A6
  have A7 := (hB1.cell (p := ⟨w1.heap.size, 7, none⟩) hla).trans A7
  have hla := Nat.lt_of_lt_of_le hla hB1.size
  have hown := own_below hown hB1
  have hB := stepB hB hB1 hB.size
  clear hB1
  generalize hW : W5.alloc (.cells #[.int .i64 m2.kind, .int .i64 m2.number, .int .i64 m2.month, .int .i64 m2.feast, .int .i64 m2.relation, .int .i64 m2.weekday, .int .i64 m2.style, .string m2.king] 57) = W6
  have hB1 : Below W5.heap.size W5 W6 := by rw [← hW]; exact (Below.refl _ _).alloc (Nat.le_refl _) _
  have B0 : W6.cell? ⟨W5.heap.size, 0, none⟩ = some (.int .i64 m2.kind) := by rw [← hW]; exact World.cell?_alloc_at _ _ _ _ rfl
  have B1 : W6.cell? ⟨W5.heap.size, 1, none⟩ = some (.int .i64 m2.number) := by rw [← hW]; exact World.cell?_alloc_at _ _ _ _ rfl
  have B2 : W6.cell? ⟨W5.heap.size, 2, none⟩ = some (.int .i64 m2.month) := by rw [← hW]; exact World.cell?_alloc_at _ _ _ _ rfl
  have B3 : W6.cell? ⟨W5.heap.size, 3, none⟩ = some (.int .i64 m2.feast) := by rw [← hW]; exact World.cell?_alloc_at _ _ _ _ rfl
  have B4 : W6.cell? ⟨W5.heap.size, 4, none⟩ = some (.int .i64 m2.relation) := by rw [← hW]; exact World.cell?_alloc_at _ _ _ _ rfl
  have B5 : W6.cell? ⟨W5.heap.size, 5, none⟩ = some (.int .i64 m2.weekday) := by rw [← hW]; exact World.cell?_alloc_at _ _ _ _ rfl
  have B6 : W6.cell? ⟨W5.heap.size, 6, none⟩ = some (.int .i64 m2.style) := by rw [← hW]; exact World.cell?_alloc_at _ _ _ _ rfl
  have B7 : W6.cell? ⟨W5.heap.size, 7, none⟩ = some (.string m2.king) := by rw [← hW]; exact World.cell?_alloc_at _ _ _ _ rfl
  have hlb : W5.heap.size < W6.heap.size := by rw [← hW]; simp
  have A0 := (hB1.cell (p := ⟨w1.heap.size, 0, none⟩) hla).trans A0
  have A1 := (hB1.cell (p := ⟨w1.heap.size, 1, none⟩) hla).trans A1
  have A2 := (hB1.cell (p := ⟨w1.heap.size, 2, none⟩) hla).trans A2
  have A3 := (hB1.cell (p := ⟨w1.heap.size, 3, none⟩) hla).trans A3
  have A4 := (hB1.cell (p := ⟨w1.heap.size, 4, none⟩) hla).trans A4
  have A5 := (hB1.cell (p := ⟨w1.heap.size, 5, none⟩) hla).trans A5
  have A6 := (hB1.cell (p := ⟨w1.heap.size, 6, none⟩) hla).trans A6
  have A7 := (hB1.cell (p := ⟨w1.heap.size, 7, none⟩) hla).trans A7
  have hla := Nat.lt_of_lt_of_le hla hB1.size
  have hown := own_below hown hB1
  have hown2 := own_below hown2 hB1
  have hB := stepB hB hB1 hB.size
  clear hB1
  have HDI := Lib.hid (fun W (h : Rd encRg W (some ⟨g2, 0, none⟩) rs2) => implDoes_any (some ⟨g2, 0, none⟩) c2 rs2 m2 n2 W (by omega) h (fun r hr => by have := (hok2 r hr).1; omega) (by omega))
  have HDS := Lib.hid (fun W (h : Rd encRg W (some ⟨g2, 0, none⟩) rs2) => specDoes_any (some ⟨g2, 0, none⟩) c2 rs2 m2 n2 W (by omega) h (fun r hr => by have := (hok2 r hr).1; omega) (by omega))
  go_wp2_with fail
  clear hW
  refine (HDI.out _ (Rd.of_own encRg_len (by decide) hown2)).mono ?_
  rintro e W7 ⟨rfl, hB1⟩
  have A0 := (hB1.cell (p := ⟨w1.heap.size, 0, none⟩) hla).trans A0
  have A1 := (hB1.cell (p := ⟨w1.heap.size, 1, none⟩) hla).trans A1
  have A2 := (hB1.cell (p := ⟨w1.heap.size, 2, none⟩) hla).trans A2
  have A3 := (hB1.cell (p := ⟨w1.heap.size, 3, none⟩) hla).trans A3
  have A4 := (hB1.cell (p := ⟨w1.heap.size, 4, none⟩) hla).trans A4
  have A5 := (hB1.cell (p := ⟨w1.heap.size, 5, none⟩) hla).trans A5
  have A6 := (hB1.cell (p := ⟨w1.heap.size, 6, none⟩) hla).trans A6
  have A7 := (hB1.cell (p := ⟨w1.heap.size, 7, none⟩) hla).trans A7
  have B0 := (hB1.cell (p := ⟨W5.heap.size, 0, none⟩) hlb).trans B0
  have B1 := (hB1.cell (p := ⟨W5.heap.size, 1, none⟩) hlb).trans B1
  have B2 := (hB1.cell (p := ⟨W5.heap.size, 2, none⟩) hlb).trans B2
  have B3 := (hB1.cell (p := ⟨W5.heap.size, 3, none⟩) hlb).trans B3
  have B4 := (hB1.cell (p := ⟨W5.heap.size, 4, none⟩) hlb).trans B4
  have B5 := (hB1.cell (p := ⟨W5.heap.size, 5, none⟩) hlb).trans B5
  have B6 := (hB1.cell (p := ⟨W5.heap.size, 6, none⟩) hlb).trans B6
  have B7 := (hB1.cell (p := ⟨W5.heap.size, 7, none⟩) hlb).trans B7
  have hla := Nat.lt_of_lt_of_le hla hB1.size
  have hlb := Nat.lt_of_lt_of_le hlb hB1.size
  have hown := own_below hown hB1
  have hown2 := own_below hown2 hB1
  have hB := stepB hB hB1 hB.size
  clear hB1
  go_wp2_with fail
  refine (HDS.out _ (Rd.of_own encRg_len (by decide) hown2)).mono ?_
  rintro e W8 ⟨rfl, hB1⟩
  have A0 := (hB1.cell (p := ⟨w1.heap.size, 0, none⟩) hla).trans A0
  have A1 := (hB1.cell (p := ⟨w1.heap.size, 1, none⟩) hla).trans A1
  have A2 := (hB1.cell (p := ⟨w1.heap.size, 2, none⟩) hla).trans A2
  have A3 := (hB1.cell (p := ⟨w1.heap.size, 3, none⟩) hla).trans A3
  have A4 := (hB1.cell (p := ⟨w1.heap.size, 4, none⟩) hla).trans A4
  have A5 := (hB1.cell (p := ⟨w1.heap.size, 5, none⟩) hla).trans A5
  have A6 := (hB1.cell (p := ⟨w1.heap.size, 6, none⟩) hla).trans A6
  have A7 := (hB1.cell (p := ⟨w1.heap.size, 7, none⟩) hla).trans A7
  have B0 := (hB1.cell (p := ⟨W5.heap.size, 0, none⟩) hlb).trans B0
  have B1 := (hB1.cell (p := ⟨W5.heap.size, 1, none⟩) hlb).trans B1
  have B2 := (hB1.cell (p := ⟨W5.heap.size, 2, none⟩) hlb).trans B2
  have B3 := (hB1.cell (p := ⟨W5.heap.size, 3, none⟩) hlb).trans B3
  have B4 := (hB1.cell (p := ⟨W5.heap.size, 4, none⟩) hlb).trans B4
  have B5 := (hB1.cell (p := ⟨W5.heap.size, 5, none⟩) hlb).trans B5
  have B6 := (hB1.cell (p := ⟨W5.heap.size, 6, none⟩) hlb).trans B6
  have B7 := (hB1.cell (p := ⟨W5.heap.size, 7, none⟩) hlb).trans B7
  have hla := Nat.lt_of_lt_of_le hla hB1.size
  have hlb := Nat.lt_of_lt_of_le hlb hB1.size
  have hown := own_below hown hB1
  have hown2 := own_below hown2 hB1
  have hB := stepB hB hB1 hB.size
  clear hB1
  have hfact := Lib.hid (fun h => next_ok (rs := rs) (c := m) (n := n) h)
  clear HNI HNS HDI HDS hown2 hok2 hrl2 hmk2 hn2 B0 B1 B2 B3 B4 B5 B6 B7 hlb
  generalize doesR rs2 m2 n2 = DD
  obtain ⟨dd, de⟩ := DD
  generalize nextR rs m n = V at hfact ⊢
  obtain ⟨y, bad⟩ := V
  simp only at hfact ⊢
  have q1 : (bad != bad) = false := by simp
  have q2 : (y != y) = false := by simp
  have q3 : (de != de) = false := by simp
  have q4 : (dd != dd) = false := by simp
  by_cases hbad : bad = 0
  · subst hbad
    obtain ⟨f1, f2, f3, f4, f5, f6, f7⟩ := hfact.out rfl
    have hd : 0 ≤ n ∧ n ≤ 730499 := by simpa [dayB, inB] using f3
    have hy : 0 ≤ y ∧ y ≤ 730499 := by simpa [dayB, inB] using f4
    have hdy : doesR rs m y = (true, 0) := by rw [does_ok (codeC_zero.2 ⟨f1, f2, f4⟩), f5]
    have HYI := Lib.hid (fun W (h : Rd encRg W (some ⟨g, 0, none⟩) rs) => hdy ▸ implDoes_any (some ⟨g, 0, none⟩) c rs m y W (by omega) h (fun r hr => by have := (hok r hr).1; omega) (by omega))
    have HZI := Lib.hid (fun (z : Int) (h0 : n ≤ z) (h1 : z < y) W (h : Rd encRg W (some ⟨g, 0, none⟩) rs) => (show doesR rs m z = (false, 0) by rw [does_ok (codeC_zero.2 ⟨f1, f2, by simp [dayB, inB]; omega⟩), f7 z h0 h1]) ▸ implDoes_any (some ⟨g, 0, none⟩) c rs m z W (by omega) h (fun r hr => by have := (hok r hr).1; omega) (by omega))
    clear hdy hfact f1 f2 f3 f4 f5 f7
    have q5 : decide (y < n) = false := by simp; omega
    go_wp2_with fail
    refine (HYI.out _ (Rd.of_own encRg_len (by decide) hown)).mono ?_
    rintro e W9 ⟨rfl, hB1⟩
    have A0 := (hB1.cell (p := ⟨w1.heap.size, 0, none⟩) hla).trans A0
    have A1 := (hB1.cell (p := ⟨w1.heap.size, 1, none⟩) hla).trans A1
    have A2 := (hB1.cell (p := ⟨w1.heap.size, 2, none⟩) hla).trans A2
    have A3 := (hB1.cell (p := ⟨w1.heap.size, 3, none⟩) hla).trans A3
    have A4 := (hB1.cell (p := ⟨w1.heap.size, 4, none⟩) hla).trans A4
    have A5 := (hB1.cell (p := ⟨w1.heap.size, 5, none⟩) hla).trans A5
    have A6 := (hB1.cell (p := ⟨w1.heap.size, 6, none⟩) hla).trans A6
    have A7 := (hB1.cell (p := ⟨w1.heap.size, 7, none⟩) hla).trans A7
    have hla := Nat.lt_of_lt_of_le hla hB1.size
    have hown := own_below hown hB1
    have hB := stepB hB hB1 hB.size
    clear hB1
    by_cases hyn : y = n
    · have q6 : (y == n) = true := by simpa using hyn
      go_wp2
      go_ret
      exact ⟨rfl, hB⟩
    · have q6 : (y == n) = false := by simpa using hyn
      clear HYI
      have v1 := i64_in (y - n) (by omega)
      have HRO := Lib.hid (roll_any cs cap bs 1101 W9.drew (by decide) (hx.below hB.drew) hb hl)
      have hownd := own_below hown (Below.refl _ W9).drew
      have hBd := hB.drew
      have hgl := (own_lt hownd).2
      have hlad : w1.heap.size < W9.drew.heap.size := hla
      go_wp2_with fail
      go_region_held_law (fun w' => w'.cell? ⟨w1.heap.size, 0, none⟩ = some (.int .i64 m.kind) ∧ w'.cell? ⟨w1.heap.size, 1, none⟩ = some (.int .i64 m.number) ∧ w'.cell? ⟨w1.heap.size, 2, none⟩ = some (.int .i64 m.month) ∧ w'.cell? ⟨w1.heap.size, 3, none⟩ = some (.int .i64 m.feast) ∧ w'.cell? ⟨w1.heap.size, 4, none⟩ = some (.int .i64 m.relation) ∧ w'.cell? ⟨w1.heap.size, 5, none⟩ = some (.int .i64 m.weekday) ∧ w'.cell? ⟨w1.heap.size, 6, none⟩ = some (.int .i64 m.style) ∧ w'.cell? ⟨w1.heap.size, 7, none⟩ = some (.string m.king)) (first | exact ⟨A0, A1, A2, A3, A4, A5, A6, A7⟩ | exact ⟨C0, C1, C2, C3, C4, C5, C6, C7⟩ | exact ⟨D0, D1, D2, D3, D4, D5, D6, D7⟩ | exact ⟨E0, E1, E2, E3, E4, E5, E6, E7⟩)
        (first
          | (go_at_call 39; refine HRO.out.mono ?_; rintro e wr ⟨p, rfl, hdr, hBr⟩; have hownr := own_below hownd hBr; have hBw := stepB hBd hBr hBd.size; have C0 := (hBr.cell (p := ⟨w1.heap.size, 0, none⟩) hlad).trans A0; have C1 := (hBr.cell (p := ⟨w1.heap.size, 1, none⟩) hlad).trans A1; have C2 := (hBr.cell (p := ⟨w1.heap.size, 2, none⟩) hlad).trans A2; have C3 := (hBr.cell (p := ⟨w1.heap.size, 3, none⟩) hlad).trans A3; have C4 := (hBr.cell (p := ⟨w1.heap.size, 4, none⟩) hlad).trans A4; have C5 := (hBr.cell (p := ⟨w1.heap.size, 5, none⟩) hlad).trans A5; have C6 := (hBr.cell (p := ⟨w1.heap.size, 6, none⟩) hlad).trans A6; have C7 := (hBr.cell (p := ⟨w1.heap.size, 7, none⟩) hlad).trans A7)
          | (go_at_call 40; refine (below_any cs cap bs p _ (y - n) w _ (by omega) hx hb hl hBw hBd.size hdr).mono ?_; rintro e ws ⟨r, rfl, hr0, hr1, hBs, hGs⟩; have hpr := own_lt hdr.choose_spec.2.2; have hp1 : g ≠ p := (by omega); have hp2 : w1.heap.size ≠ p := (by omega); have hwr : w1.heap.size < wr.heap.size := Nat.lt_of_lt_of_le hlad hBr.size; have hownz := own_apart2 hownr hGs hp1; have v2 := i64_in (n + r) (by omega); have D0 := (gcell hGs (p := ⟨w1.heap.size, 0, none⟩) hwr (fun g e => by cases e; exact hp2)).trans C0; have D1 := (gcell hGs (p := ⟨w1.heap.size, 1, none⟩) hwr (fun g e => by cases e; exact hp2)).trans C1; have D2 := (gcell hGs (p := ⟨w1.heap.size, 2, none⟩) hwr (fun g e => by cases e; exact hp2)).trans C2; have D3 := (gcell hGs (p := ⟨w1.heap.size, 3, none⟩) hwr (fun g e => by cases e; exact hp2)).trans C3; have D4 := (gcell hGs (p := ⟨w1.heap.size, 4, none⟩) hwr (fun g e => by cases e; exact hp2)).trans C4; have D5 := (gcell hGs (p := ⟨w1.heap.size, 5, none⟩) hwr (fun g e => by cases e; exact hp2)).trans C5; have D6 := (gcell hGs (p := ⟨w1.heap.size, 6, none⟩) hwr (fun g e => by cases e; exact hp2)).trans C6; have D7 := (gcell hGs (p := ⟨w1.heap.size, 7, none⟩) hwr (fun g e => by cases e; exact hp2)).trans C7)
          | (go_at_call 37; refine (HZI.out (n + r) (by omega) (by omega) _ (Rd.of_own encRg_len (by decide) hownz)).mono ?_; rintro e wt ⟨rfl, hBt⟩; have E0 := (hBt.cell (p := ⟨w1.heap.size, 0, none⟩) (Nat.lt_of_lt_of_le hwr hGs.size)).trans D0; have E1 := (hBt.cell (p := ⟨w1.heap.size, 1, none⟩) (Nat.lt_of_lt_of_le hwr hGs.size)).trans D1; have E2 := (hBt.cell (p := ⟨w1.heap.size, 2, none⟩) (Nat.lt_of_lt_of_le hwr hGs.size)).trans D2; have E3 := (hBt.cell (p := ⟨w1.heap.size, 3, none⟩) (Nat.lt_of_lt_of_le hwr hGs.size)).trans D3; have E4 := (hBt.cell (p := ⟨w1.heap.size, 4, none⟩) (Nat.lt_of_lt_of_le hwr hGs.size)).trans D4; have E5 := (hBt.cell (p := ⟨w1.heap.size, 5, none⟩) (Nat.lt_of_lt_of_le hwr hGs.size)).trans D5; have E6 := (hBt.cell (p := ⟨w1.heap.size, 6, none⟩) (Nat.lt_of_lt_of_le hwr hGs.size)).trans D6; have E7 := (hBt.cell (p := ⟨w1.heap.size, 7, none⟩) (Nat.lt_of_lt_of_le hwr hGs.size)).trans D7)
          | fail)
      go_wp2
      go_ret
      exact ⟨rfl, stepB hBs hBt hBs.size⟩
  · have hbad' : (bad != 0) = true := by simpa using hbad
    go_wp2
    go_ret
    exact ⟨rfl, hB⟩
end Go.Proofs.YtdbgnbohdplndaaGreatDoor
