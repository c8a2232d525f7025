/- Walks: slices.IndexFunc and slices.ContainsFunc at slices of int64. Printed by gen_fidx.py. -/
import Derived.Test.YtmjbigeeokofeaaGreatDoorPeopB
import Derived.Test.YtmjbigeeokofeaaGreatDoorTI
import Derived.Test.YtmjbigeeokofeaaGreatDoorFix
namespace Go.Proofs.YtmjbigeeokofeaaGreatDoor
section
open Go.ChangeShapes Go.WideShapes Go.ChangeAt Go.RowKit

set_option maxHeartbeats 4000000 in
theorem specIsPeople_any (a0 a1 : Option Addr) (cap0 cap1 : Nat) (xs0 : List Ps) (xs1 : List Tm) (w : World) (hl0 : xs0.length ≤ 1048576) (hx0 : Rd encPs w a0 xs0) (hs0 : ∀ m ∈ xs0, szPs m ≤ 1048576) (hl1 : xs1.length ≤ 1048576) (hx1 : Rd encTm w a1 xs1) (hs1 : ∀ m ∈ xs1, szTm m ≤ 1048576) :
    Calls Tryz.prog 78 #[.agg #[.slice a0 xs0.length cap0, .slice a1 xs1.length cap1]] w fun e w' => e = .returned (.bool (isPeopleB xs0 xs1)) ∧ Below w.heap.size w w' := by
  have hlens : Hid (isPeopleB xs0 xs1 = (upGo okPs ltPs none xs0 && xs1.all (okTm xs0) && decide (xs0.length ≤ 40) && decide (xs1.length ≤ 60))) := rfl
  generalize isPeopleB xs0 xs1 = R at hlens ⊢
  go_enter Tryz.func78, Tryz.ntmps78
  go_wp2
  have hA : At w [.slice a0 xs0.length cap0, .slice a1 xs1.length cap1] (w.alloc (.cells #[.slice a0 xs0.length cap0, .slice a1 xs1.length cap1] 48)) := At.start _ _ _
  generalize w.alloc (.cells #[.slice a0 xs0.length cap0, .slice a1 xs1.length cap1] 48) = W0 at hA ⊢
  go_loopw [3] (fun i wr => ∃ (k : Nat), k ≤ xs0.length ∧ i = .int .i64 k ∧ Hid (upGo okPs ltPs none xs0 = upGo okPs ltPs (prevOf xs0 k) (xs0.drop k)) ∧ At w [.slice a0 xs0.length cap0, .slice a1 xs1.length cap1] wr) (fun i _ => xs0.length - (intOf i).toNat)
  case atStart => exact ⟨0, Nat.zero_le _, rfl, rfl, hA⟩
  case round =>
    clear hA
    obtain ⟨k, hk, rfl, hH, hA⟩ := hrel
    have b0 := hA.cell 0 _ rfl
    have b1 := hA.cell 1 _ rfl
    have hB := hA.below
    have hn := hA.size
    by_cases hlt : k < xs0.length
    · have hm := List.getElem?_eq_getElem hlt
      generalize xs0[k] = m at hm
      obtain ⟨b, off, rfl, hb, c0, c1, c2⟩ := (hx0.below hB).ps hm
      have hsm : m.name.size ≤ 9223372036854775807 := by have : m.name.size ≤ 1048576 := hs0 m (List.mem_of_getElem? hm); omega
      have bad : Hid (okPs m = false → R = false) := fun h => by rw [hlens.out, hH.out, upGo_bad hm h]; rfl
      have hk1 : (k : Int) < (xs0.length : Int) := by omega
      go_wp2_with fail
      generalize hW : wr.alloc (.cells #[.string m.name, .int .i64 m.fr, .int .i64 m.to] 110) = W
      have hAW : At w [.slice (some ⟨b, off, none⟩) xs0.length cap0, .slice a1 xs1.length cap1] W := hW ▸ hA.step ((Below.refl _ wr).alloc (Nat.le_refl _) _)
      have hlW : wr.heap.size < W.heap.size := by rw [← hW]; simp
      have C0 := Later.cell (w := W) (by rw [← hW]; exact World.cell?_alloc_at _ _ _ _ rfl : W.cell? ⟨wr.heap.size, 0, none⟩ = some (.string m.name)) hlW
      have C1 := Later.cell (w := W) (by rw [← hW]; exact World.cell?_alloc_at _ _ _ _ rfl : W.cell? ⟨wr.heap.size, 1, none⟩ = some (.int .i64 m.fr)) hlW
      have C2 := Later.cell (w := W) (by rw [← hW]; exact World.cell?_alloc_at _ _ _ _ rfl : W.cell? ⟨wr.heap.size, 2, none⟩ = some (.int .i64 m.to)) hlW
      have E0 := Later.cell (hAW.cell 0 _ rfl) hAW.size
      have hcn := fun W => l01Name_any m.name 12 W hsm
      have hcs := fun W => l13Span_any m.fr m.to W
      by_cases hk0 : 0 < k
      · have hpl : k - 1 < xs0.length := by omega
        have hp := List.getElem?_eq_getElem hpl
        generalize xs0[k - 1] = p at hp
        obtain ⟨_, _, e', _, p0, p1, p2⟩ := (hx0.below hB).ps hp
        simp only [Option.some.injEq, Addr.mk.injEq, and_true] at e'
        obtain ⟨rfl, rfl⟩ := e'
        have hN := Lib.hid (upGo_at (ok := okPs) (lt := ltPs) hk0 hp hm)
        have HBAD := Lib.hid (badPs p m)
        have P0 := Later.cell (B := W.heap.size) (w := W) ((hW ▸ World.cell?_alloc_past _ _ _ hb : W.cell? _ = _).trans p0) (by omega)
        have hk2 : (0 : Int) < (k : Int) := by omega
        clear hm hp p0 p1 p2 c0 c1 c2 b0 b1 hA hB
        cases hb0 : nameB m.name.data.toList 12
        · simp only [hb0] at hcn
          have HCN := Lib.hid hcn
          clear hcn
          have HCS := Lib.hid hcs
          clear hcs
          refine wp_region_later W (by kernel_rfl) (by kernel_rfl) ?_
          repeat (go_big_quiet_step ((first | (go_at_call 126; exact Later.call (Nat.le_refl _) (HCN.out _)) | (go_at_call 127; exact Later.call (Nat.le_refl _) (HCS.out _)))))
          refine wpQuiet_nil ?_
          intro z
          have hz := z.prop
          generalize z.val = w2 at hz
          clear C0 C1 C2 E0 P0
          go_wp2
          go_ret
          exact ⟨ret_bool (bad.out (by simp [okPs, *])).symm, stepB hAW.below hz hAW.below.size⟩
        · simp only [hb0] at hcn
          have HCN := Lib.hid hcn
          clear hcn
          cases hb1 : spanB m.fr m.to
          · simp only [hb1] at hcs
            have HCS := Lib.hid hcs
            clear hcs
            refine wp_region_later W (by kernel_rfl) (by kernel_rfl) ?_
            repeat (go_big_quiet_step ((first | (go_at_call 126; exact Later.call (Nat.le_refl _) (HCN.out _)) | (go_at_call 127; exact Later.call (Nat.le_refl _) (HCS.out _)))))
            refine wpQuiet_nil ?_
            intro z
            have hz := z.prop
            generalize z.val = w2 at hz
            clear C0 C1 C2 E0 P0
            go_wp2
            go_ret
            exact ⟨ret_bool (bad.out (by simp [okPs, *])).symm, stepB hAW.below hz hAW.below.size⟩
          · simp only [hb1] at hcs
            have HCS := Lib.hid hcs
            clear hcs
            cases hb2 : Op.bytesLess m.name.toList p.name.toList
            · cases hb3 : m.name.toList == p.name.toList
              · refine wp_region_later W (by kernel_rfl) (by kernel_rfl) ?_
                repeat (go_big_quiet_step ((first | (go_at_call 126; exact Later.call (Nat.le_refl _) (HCN.out _)) | (go_at_call 127; exact Later.call (Nat.le_refl _) (HCS.out _)))))
                refine wpQuiet_nil ?_
                intro z
                have hz := z.prop
                generalize z.val = w2 at hz
                clear C0 C1 C2 E0 P0
                have HOK : Hid (okPs m = true) := by unfold Hid okPs; rw [hb0, hb1]; rfl
                have hlm : Hid (ltPs p m = true) := by unfold Hid; have h9 := HBAD.out; rw [hb2, hb3] at h9; simpa using h9
                go_wp2
                go_roundw
                case rel => exact ⟨k + 1, by omega, by go_num, by unfold Hid; rw [hH.out, hN.out, HOK.out, hlm.out]; rfl, hAW.step hz⟩
                case measure => simp [intOf]; omega
              · refine wp_region_later W (by kernel_rfl) (by kernel_rfl) ?_
                repeat (go_big_quiet_step ((first | (go_at_call 126; exact Later.call (Nat.le_refl _) (HCN.out _)) | (go_at_call 127; exact Later.call (Nat.le_refl _) (HCS.out _)))))
                refine wpQuiet_nil ?_
                intro z
                have hz := z.prop
                generalize z.val = w2 at hz
                clear C0 C1 C2 E0 P0
                have HOK : Hid (okPs m = true) := by unfold Hid okPs; rw [hb0, hb1]; rfl
                have hlm : Hid (ltPs p m = false) := by unfold Hid; have h9 := HBAD.out; rw [hb2, hb3] at h9; simpa using h9
                go_wp2
                go_ret
                exact ⟨ret_bool (by rw [hlens.out, hH.out, hN.out, HOK.out, hlm.out]; rfl), stepB hAW.below hz hAW.below.size⟩
            · refine wp_region_later W (by kernel_rfl) (by kernel_rfl) ?_
              repeat (go_big_quiet_step ((first | (go_at_call 126; exact Later.call (Nat.le_refl _) (HCN.out _)) | (go_at_call 127; exact Later.call (Nat.le_refl _) (HCS.out _)))))
              refine wpQuiet_nil ?_
              intro z
              have hz := z.prop
              generalize z.val = w2 at hz
              clear C0 C1 C2 E0 P0
              have HOK : Hid (okPs m = true) := by unfold Hid okPs; rw [hb0, hb1]; rfl
              have hlm : Hid (ltPs p m = false) := by unfold Hid; have h9 := HBAD.out; rw [hb2] at h9; simpa using h9
              go_wp2
              go_ret
              exact ⟨ret_bool (by rw [hlens.out, hH.out, hN.out, HOK.out, hlm.out]; rfl), stepB hAW.below hz hAW.below.size⟩
      · have hk1' : k = 0 := by omega
        have hN := Lib.hid (upGo_at0 (ok := okPs) (lt := ltPs) hk1' hm)
        have hk2 : decide ((0 : Int) < (k : Int)) = false := by simp; omega
        clear hm hk1' c0 c1 c2 b0 b1 hA hB
        cases hb0 : nameB m.name.data.toList 12
        · simp only [hb0] at hcn
          have HCN := Lib.hid hcn
          clear hcn
          have HCS := Lib.hid hcs
          clear hcs
          refine wp_region_later W (by kernel_rfl) (by kernel_rfl) ?_
          repeat (go_big_quiet_step ((first | (go_at_call 126; exact Later.call (Nat.le_refl _) (HCN.out _)) | (go_at_call 127; exact Later.call (Nat.le_refl _) (HCS.out _)))))
          refine wpQuiet_nil ?_
          intro z
          have hz := z.prop
          generalize z.val = w2 at hz
          clear C0 C1 C2 E0
          go_wp2
          go_ret
          exact ⟨ret_bool (bad.out (by simp [okPs, *])).symm, stepB hAW.below hz hAW.below.size⟩
        · simp only [hb0] at hcn
          have HCN := Lib.hid hcn
          clear hcn
          cases hb1 : spanB m.fr m.to
          · simp only [hb1] at hcs
            have HCS := Lib.hid hcs
            clear hcs
            refine wp_region_later W (by kernel_rfl) (by kernel_rfl) ?_
            repeat (go_big_quiet_step ((first | (go_at_call 126; exact Later.call (Nat.le_refl _) (HCN.out _)) | (go_at_call 127; exact Later.call (Nat.le_refl _) (HCS.out _)))))
            refine wpQuiet_nil ?_
            intro z
            have hz := z.prop
            generalize z.val = w2 at hz
            clear C0 C1 C2 E0
            go_wp2
            go_ret
            exact ⟨ret_bool (bad.out (by simp [okPs, *])).symm, stepB hAW.below hz hAW.below.size⟩
          · simp only [hb1] at hcs
            have HCS := Lib.hid hcs
            clear hcs
            refine wp_region_later W (by kernel_rfl) (by kernel_rfl) ?_
            repeat (go_big_quiet_step ((first | (go_at_call 126; exact Later.call (Nat.le_refl _) (HCN.out _)) | (go_at_call 127; exact Later.call (Nat.le_refl _) (HCS.out _)))))
            refine wpQuiet_nil ?_
            intro z
            have hz := z.prop
            generalize z.val = w2 at hz
            clear C0 C1 C2 E0
            have HOK : Hid (okPs m = true) := by unfold Hid okPs; rw [hb0, hb1]; rfl
            go_wp2
            go_roundw
            case rel => exact ⟨k + 1, by omega, by go_num, by unfold Hid; rw [hH.out, hN.out, HOK.out]; rfl, hAW.step hz⟩
            case measure => simp [intOf]; omega
    · obtain rfl : k = xs0.length := by omega
      have hup : Hid (upGo okPs ltPs none xs0 = true) := by unfold Hid; rw [hH.out, upGo_end (Nat.le_refl _)]
      clear hk hlt hH
      go_wp2
      go_loopw [5] (fun i wr => ∃ (k : Nat), k ≤ xs1.length ∧ i = .int .i64 k ∧ Hid (xs1.all (okTm xs0) = (xs1.drop k).all (okTm xs0)) ∧ At w [.slice a0 xs0.length cap0, .slice a1 xs1.length cap1] wr) (fun i _ => xs1.length - (intOf i).toNat)
      case atStart => exact ⟨0, Nat.zero_le _, rfl, rfl, hA⟩
      case round =>
        clear hA b0 b1 hB hn
        rename_i wr0 wr
        obtain ⟨k, hk, rfl, hT, hA⟩ := hrel
        have b0 := hA.cell 0 _ rfl
        have b1 := hA.cell 1 _ rfl
        have hB := hA.below
        have hn := hA.size
        by_cases hlt : k < xs1.length
        · have hm := List.getElem?_eq_getElem hlt
          generalize xs1[k] = t at hm
          obtain ⟨b, off, rfl, hb, c0, c1, c2, c3⟩ := (hx1.below hB).tm hm
          have hst : t.office.size ≤ 9223372036854775807 := by have h1 := hs1 t (List.mem_of_getElem? hm); unfold szTm at h1; omega
          have bad : Hid (okTm xs0 t = false → R = false) := fun h => by rw [hlens.out, hT.out, all_drop _ hm, h]; simp
          have hd := Lib.hid (all_drop (okTm xs0) hm)
          have hk1 : (k : Int) < (xs1.length : Int) := by omega
          have hix := fun W h => l13Person_any a0 (some ⟨b, off, none⟩) cap0 cap1 xs0 xs1 t.person W hl0 h
          have hcn := fun W => l01Name_any t.office 12 W hst
          have hcs := fun W => l13Span_any t.fr t.to W
          clear hm
          by_cases hneg : personIx xs0 t.person < 0
          · have HBD := Lib.hid (bad.out (okTm_neg hneg))
            have HIX := Lib.hid hix
            clear hix
            go_wp2_with fail
            generalize hW : wr.alloc (.cells #[.string t.office, .string t.person, .int .i64 t.fr, .int .i64 t.to] 105) = W0
            have hAW := hW ▸ hA.step ((Below.refl _ wr).alloc (Nat.le_refl _) _)
            have hlW : wr.heap.size < W0.heap.size := by rw [← hW]; simp
            have d0 : W0.cell? ⟨wr.heap.size, 0, none⟩ = some (.string t.office) := by rw [← hW]; exact World.cell?_alloc_at _ _ _ _ rfl
            have d1 : W0.cell? ⟨wr.heap.size, 1, none⟩ = some (.string t.person) := by rw [← hW]; exact World.cell?_alloc_at _ _ _ _ rfl
            have d2 : W0.cell? ⟨wr.heap.size, 2, none⟩ = some (.int .i64 t.fr) := by rw [← hW]; exact World.cell?_alloc_at _ _ _ _ rfl
            have d3 : W0.cell? ⟨wr.heap.size, 3, none⟩ = some (.int .i64 t.to) := by rw [← hW]; exact World.cell?_alloc_at _ _ _ _ rfl
            clear hW
            refine (HIX.out _ (hx0.below hAW.below)).mono ?_
            rintro e W ⟨rfl, hB1⟩
            have hAW := hAW.step hB1
            have d0 := (hB1.cell (p := ⟨wr.heap.size, 0, none⟩) hlW).trans d0
            have D0 := Later.cell d0 (Nat.lt_of_lt_of_le hlW hB1.size)
            have d1 := (hB1.cell (p := ⟨wr.heap.size, 1, none⟩) hlW).trans d1
            have D1 := Later.cell d1 (Nat.lt_of_lt_of_le hlW hB1.size)
            have d2 := (hB1.cell (p := ⟨wr.heap.size, 2, none⟩) hlW).trans d2
            have D2 := Later.cell d2 (Nat.lt_of_lt_of_le hlW hB1.size)
            have d3 := (hB1.cell (p := ⟨wr.heap.size, 3, none⟩) hlW).trans d3
            have D3 := Later.cell d3 (Nat.lt_of_lt_of_le hlW hB1.size)
            have E0 := Later.cell (hAW.cell 0 _ rfl) hAW.size
            clear b0 b1 c0 c1 c2 c3 hA hB d0 d1 d2 d3
            go_wp2_with fail
            have HCS := Lib.hid hcs
            clear hcs
            cases hb0 : nameB t.office.data.toList 12
            · simp only [hb0] at hcn
              have HCN := Lib.hid hcn
              clear hcn
              refine wp_region_later W (by kernel_rfl) (by kernel_rfl) ?_
              repeat (go_big_quiet_step ((first | (go_at_call 126; exact Later.call (Nat.le_refl _) (HCN.out _)))))
              refine wpQuiet_nil ?_
              intro z
              have hz := z.prop
              generalize z.val = w2 at hz
              clear D0 D1 D2 D3 E0
              go_wp2
              go_ret
              exact ⟨ret_bool HBD.out.symm, stepB hAW.below hz hAW.below.size⟩
            · simp only [hb0] at hcn
              have HCN := Lib.hid hcn
              clear hcn
              refine wp_region_later W (by kernel_rfl) (by kernel_rfl) ?_
              repeat (go_big_quiet_step ((first | (go_at_call 126; exact Later.call (Nat.le_refl _) (HCN.out _)))))
              refine wpQuiet_nil ?_
              intro z
              have hz := z.prop
              generalize z.val = w2 at hz
              clear D0 D1 D2 D3 E0
              go_wp2
              go_ret
              exact ⟨ret_bool HBD.out.symm, stepB hAW.below hz hAW.below.size⟩
          · obtain ⟨j, x, hj, hjl, hxj⟩ := ixOf hneg
            obtain ⟨pb, po, rfl, hpb, q0, q1, q2⟩ := (hx0.below hB).ps hxj
            have hok := okTm_at hj hxj
            have hxo := upGo_all hup.out x (List.mem_of_getElem? hxj)
            have hxs : 0 ≤ x.fr ∧ x.fr ≤ x.to ∧ x.to ≤ 730499 := spanB_bd (by unfold okPs at hxo; rw [Bool.and_eq_true] at hxo; exact hxo.2)
            simp only [hj] at hix
            have HIX := Lib.hid hix
            have HOK := Lib.hid hok
            have hj0 : (0 : Int) ≤ (j : Int) := by omega
            have hj1 : (j : Int) < (xs0.length : Int) := by omega
            have hj2 : decide ((j : Int) < 0) = false := by simp
            clear hix hok hj hxj hxo hneg
            go_wp2_with fail
            generalize hW : wr.alloc (.cells #[.string t.office, .string t.person, .int .i64 t.fr, .int .i64 t.to] 105) = W0
            have hAW := hW ▸ hA.step ((Below.refl _ wr).alloc (Nat.le_refl _) _)
            have hlW : wr.heap.size < W0.heap.size := by rw [← hW]; simp
            have d0 : W0.cell? ⟨wr.heap.size, 0, none⟩ = some (.string t.office) := by rw [← hW]; exact World.cell?_alloc_at _ _ _ _ rfl
            have d1 : W0.cell? ⟨wr.heap.size, 1, none⟩ = some (.string t.person) := by rw [← hW]; exact World.cell?_alloc_at _ _ _ _ rfl
            have d2 : W0.cell? ⟨wr.heap.size, 2, none⟩ = some (.int .i64 t.fr) := by rw [← hW]; exact World.cell?_alloc_at _ _ _ _ rfl
            have d3 : W0.cell? ⟨wr.heap.size, 3, none⟩ = some (.int .i64 t.to) := by rw [← hW]; exact World.cell?_alloc_at _ _ _ _ rfl
            have q1 := (hW ▸ World.cell?_alloc_past _ _ _ hpb : W0.cell? _ = _).trans q1
            have q2 := (hW ▸ World.cell?_alloc_past _ _ _ hpb : W0.cell? _ = _).trans q2
            clear hW
            refine (HIX.out _ (hx0.below hAW.below)).mono ?_
            rintro e W ⟨rfl, hB1⟩
            have hAW := hAW.step hB1
            have d0 := (hB1.cell (p := ⟨wr.heap.size, 0, none⟩) hlW).trans d0
            have D0 := Later.cell d0 (Nat.lt_of_lt_of_le hlW hB1.size)
            have d1 := (hB1.cell (p := ⟨wr.heap.size, 1, none⟩) hlW).trans d1
            have D1 := Later.cell d1 (Nat.lt_of_lt_of_le hlW hB1.size)
            have d2 := (hB1.cell (p := ⟨wr.heap.size, 2, none⟩) hlW).trans d2
            have D2 := Later.cell d2 (Nat.lt_of_lt_of_le hlW hB1.size)
            have d3 := (hB1.cell (p := ⟨wr.heap.size, 3, none⟩) hlW).trans d3
            have D3 := Later.cell d3 (Nat.lt_of_lt_of_le hlW hB1.size)
            have q1 := (hB1.cell (p := ⟨pb, po + j * 3 + 1, none⟩) (by simp; omega)).trans q1
            have q2 := (hB1.cell (p := ⟨pb, po + j * 3 + 2, none⟩) (by simp; omega)).trans q2
            have hpW : pb < W.heap.size := by have := hB1.size; omega
            have P1 := Later.cell q1 hpW
            have P2 := Later.cell q2 hpW
            have E0 := Later.cell (hAW.cell 0 _ rfl) hAW.size
            clear b0 b1 c0 c1 c2 c3 hA hB d0 d1 d2 d3 q0 q1 q2
            go_wp2_with fail
            cases hb0 : nameB t.office.data.toList 12
            · simp only [hb0] at hcn
              have HCN := Lib.hid hcn
              clear hcn
              have HCS := Lib.hid hcs
              clear hcs
              refine wp_region_later W (by kernel_rfl) (by kernel_rfl) ?_
              repeat (go_big_quiet_step ((first | (go_at_call 126; exact Later.call (Nat.le_refl _) (HCN.out _)) | (go_at_call 127; exact Later.call (Nat.le_refl _) (HCS.out _)))))
              refine wpQuiet_nil ?_
              intro z
              have hz := z.prop
              generalize z.val = w2 at hz
              clear D0 D1 D2 D3 E0 P1 P2
              have hbd : Hid (R = false) := bad.out (by rw [HOK.out]; simp [*]; try omega)
              go_wp2
              go_ret
              exact ⟨ret_bool hbd.out.symm, stepB hAW.below hz hAW.below.size⟩
            · simp only [hb0] at hcn
              have HCN := Lib.hid hcn
              clear hcn
              cases hb1 : spanB t.fr t.to
              · simp only [hb1] at hcs
                have HCS := Lib.hid hcs
                clear hcs
                refine wp_region_later W (by kernel_rfl) (by kernel_rfl) ?_
                repeat (go_big_quiet_step ((first | (go_at_call 126; exact Later.call (Nat.le_refl _) (HCN.out _)) | (go_at_call 127; exact Later.call (Nat.le_refl _) (HCS.out _)))))
                refine wpQuiet_nil ?_
                intro z
                have hz := z.prop
                generalize z.val = w2 at hz
                clear D0 D1 D2 D3 E0 P1 P2
                have hbd : Hid (R = false) := bad.out (by rw [HOK.out]; simp [*]; try omega)
                go_wp2
                go_ret
                exact ⟨ret_bool hbd.out.symm, stepB hAW.below hz hAW.below.size⟩
              · simp only [hb1] at hcs
                have HCS := Lib.hid hcs
                clear hcs
                by_cases hb2 : t.fr < x.fr
                · refine wp_region_later W (by kernel_rfl) (by kernel_rfl) ?_
                  repeat (go_big_quiet_step ((first | (go_at_call 126; exact Later.call (Nat.le_refl _) (HCN.out _)) | (go_at_call 127; exact Later.call (Nat.le_refl _) (HCS.out _)))))
                  refine wpQuiet_nil ?_
                  intro z
                  have hz := z.prop
                  generalize z.val = w2 at hz
                  clear D0 D1 D2 D3 E0 P1 P2
                  have hbd : Hid (R = false) := bad.out (by rw [HOK.out]; simp [*]; try omega)
                  go_wp2
                  go_ret
                  exact ⟨ret_bool hbd.out.symm, stepB hAW.below hz hAW.below.size⟩
                · have hn2 : decide (t.fr < x.fr) = false := by simpa using hb2
                  by_cases hb3 : x.to < t.to
                  · refine wp_region_later W (by kernel_rfl) (by kernel_rfl) ?_
                    repeat (go_big_quiet_step ((first | (go_at_call 126; exact Later.call (Nat.le_refl _) (HCN.out _)) | (go_at_call 127; exact Later.call (Nat.le_refl _) (HCS.out _)))))
                    refine wpQuiet_nil ?_
                    intro z
                    have hz := z.prop
                    generalize z.val = w2 at hz
                    clear D0 D1 D2 D3 E0 P1 P2
                    have hbd : Hid (R = false) := bad.out (by rw [HOK.out]; simp [*]; try omega)
                    go_wp2
                    go_ret
                    exact ⟨ret_bool hbd.out.symm, stepB hAW.below hz hAW.below.size⟩
                  · have hn3 : decide (x.to < t.to) = false := by simpa using hb3
                    refine wp_region_later W (by kernel_rfl) (by kernel_rfl) ?_
                    repeat (go_big_quiet_step ((first | (go_at_call 126; exact Later.call (Nat.le_refl _) (HCN.out _)) | (go_at_call 127; exact Later.call (Nat.le_refl _) (HCS.out _)))))
                    refine wpQuiet_nil ?_
                    intro z
                    have hz := z.prop
                    generalize z.val = w2 at hz
                    clear D0 D1 D2 D3 E0 P1 P2
                    have hgo : Hid (okTm xs0 t = true) := by unfold Hid; rw [HOK.out]; simp [*]; omega
                    go_wp2
                    go_roundw
                    case rel => exact ⟨k + 1, by omega, by go_num, by unfold Hid; rw [hT.out, hd.out, hgo.out]; rfl, hAW.step hz⟩
                    case measure => simp [intOf]; omega
        · obtain rfl : k = xs1.length := by omega
          have hts : Hid (xs1.all (okTm xs0) = true) := by unfold Hid; rw [hT.out, List.drop_eq_nil_of_le (Nat.le_refl _)]; rfl
          by_cases hf1 : (xs0.length : Int) ≤ 40 <;> by_cases hf2 : (xs1.length : Int) ≤ 60
          all_goals
            go_wp2
            go_ret
            refine ⟨ret_bool ?_, hB⟩
            rw [hlens.out, hup.out, hts.out, Bool.eq_iff_iff]
            simp
            omega
end

section
open Go.ChangeShapes Go.WideShapes Go.ChangeAt Go.RowKit

set_option maxHeartbeats 4000000 in
theorem implIsPeople_any (a0 a1 : Option Addr) (cap0 cap1 : Nat) (xs0 : List Ps) (xs1 : List Tm) (w : World) (hl0 : xs0.length ≤ 1048576) (hx0 : Rd encPs w a0 xs0) (hs0 : ∀ m ∈ xs0, szPs m ≤ 1048576) (hl1 : xs1.length ≤ 1048576) (hx1 : Rd encTm w a1 xs1) (hs1 : ∀ m ∈ xs1, szTm m ≤ 1048576) :
    Calls Tryz.prog 33 #[.agg #[.slice a0 xs0.length cap0, .slice a1 xs1.length cap1]] w fun e w' => e = .returned (.bool (isPeopleB xs0 xs1)) ∧ Below w.heap.size w w' := by
  have hlens : Hid (isPeopleB xs0 xs1 = (upGo okPs ltPs none xs0 && xs1.all (okTm xs0) && decide (xs0.length ≤ 40) && decide (xs1.length ≤ 60))) := rfl
  generalize isPeopleB xs0 xs1 = R at hlens ⊢
  by_cases hlA : 40 < (xs0.length : Int)
  · go_enter Tryz.func33, Tryz.ntmps33
    go_wp2
    go_ret
    exact ⟨ret_bool (by rw [hlens.out]; have : decide (xs0.length ≤ 40) = false := by simp; omega
                        rw [this]; simp), by go_grown⟩
  by_cases hlB : 60 < (xs1.length : Int)
  · go_enter Tryz.func33, Tryz.ntmps33
    go_wp2
    go_ret
    exact ⟨ret_bool (by rw [hlens.out]; have : decide (xs1.length ≤ 60) = false := by simp; omega
                        rw [this]; simp), by go_grown⟩
  go_enter Tryz.func33, Tryz.ntmps33
  go_wp2
  have hA : At w [.slice a0 xs0.length cap0, .slice a1 xs1.length cap1] (w.alloc (.cells #[.slice a0 xs0.length cap0, .slice a1 xs1.length cap1] 48)) := At.start _ _ _
  generalize w.alloc (.cells #[.slice a0 xs0.length cap0, .slice a1 xs1.length cap1] 48) = W0 at hA ⊢
  go_loopw [21] (fun i wr => ∃ (k : Nat), k ≤ xs0.length ∧ i = .int .i64 k ∧ Hid (upGo okPs ltPs none xs0 = upGo okPs ltPs (prevOf xs0 k) (xs0.drop k)) ∧ At w [.slice a0 xs0.length cap0, .slice a1 xs1.length cap1] wr) (fun i _ => xs0.length - (intOf i).toNat)
  case atStart => exact ⟨0, Nat.zero_le _, rfl, rfl, hA⟩
  case round =>
    clear hA
    obtain ⟨k, hk, rfl, hH, hA⟩ := hrel
    have b0 := hA.cell 0 _ rfl
    have b1 := hA.cell 1 _ rfl
    have hB := hA.below
    have hn := hA.size
    by_cases hlt : k < xs0.length
    · have hm := List.getElem?_eq_getElem hlt
      generalize xs0[k] = m at hm
      obtain ⟨b, off, rfl, hb, c0, c1, c2⟩ := (hx0.below hB).ps hm
      have hsm : m.name.size ≤ 9223372036854775807 := by have : m.name.size ≤ 1048576 := hs0 m (List.mem_of_getElem? hm); omega
      have bad : Hid (okPs m = false → R = false) := fun h => by rw [hlens.out, hH.out, upGo_bad hm h]; rfl
      have hk1 : (k : Int) < (xs0.length : Int) := by omega
      go_wp2_with fail
      generalize hW : wr.alloc (.cells #[.string m.name, .int .i64 m.fr, .int .i64 m.to] 110) = W
      have hAW : At w [.slice (some ⟨b, off, none⟩) xs0.length cap0, .slice a1 xs1.length cap1] W := hW ▸ hA.step ((Below.refl _ wr).alloc (Nat.le_refl _) _)
      have hlW : wr.heap.size < W.heap.size := by rw [← hW]; simp
      have C0 := Later.cell (w := W) (by rw [← hW]; exact World.cell?_alloc_at _ _ _ _ rfl : W.cell? ⟨wr.heap.size, 0, none⟩ = some (.string m.name)) hlW
      have C1 := Later.cell (w := W) (by rw [← hW]; exact World.cell?_alloc_at _ _ _ _ rfl : W.cell? ⟨wr.heap.size, 1, none⟩ = some (.int .i64 m.fr)) hlW
      have C2 := Later.cell (w := W) (by rw [← hW]; exact World.cell?_alloc_at _ _ _ _ rfl : W.cell? ⟨wr.heap.size, 2, none⟩ = some (.int .i64 m.to)) hlW
      have E0 := Later.cell (hAW.cell 0 _ rfl) hAW.size
      have hcn := fun W => isSmall_any m.name 12 W hsm
      have hcf := fun W => isDay_any m.fr W
      have hct := fun W => isDay_any m.to W
      by_cases hk0 : 0 < k
      · have hpl : k - 1 < xs0.length := by omega
        have hp := List.getElem?_eq_getElem hpl
        generalize xs0[k - 1] = p at hp
        obtain ⟨_, _, e', _, p0, p1, p2⟩ := (hx0.below hB).ps hp
        simp only [Option.some.injEq, Addr.mk.injEq, and_true] at e'
        obtain ⟨rfl, rfl⟩ := e'
        have hN := Lib.hid (upGo_at (ok := okPs) (lt := ltPs) hk0 hp hm)
        have HBAD := Lib.hid (badPs p m)
        have P0 := Later.cell (B := W.heap.size) (w := W) ((hW ▸ World.cell?_alloc_past _ _ _ hb : W.cell? _ = _).trans p0) (by omega)
        have hk2 : (0 : Int) < (k : Int) := by omega
        clear hm hp p0 p1 p2 c0 c1 c2 b0 b1 hA hB
        cases hb0 : nameB m.name.data.toList 12
        · simp only [hb0] at hcn
          have HCN := Lib.hid hcn
          clear hcn
          have HCF := Lib.hid hcf
          clear hcf
          have HCT := Lib.hid hct
          clear hct
          refine wp_region_later W (by kernel_rfl) (by kernel_rfl) ?_
          repeat (go_big_quiet_step ((first | (go_at_call 95; exact Later.call (Nat.le_refl _) (HCN.out _)) | (go_at_call_of 52 (Value.int .i64 m.fr); exact Later.same (HCF.out _)) | (go_at_call_of 52 (Value.int .i64 m.to); exact Later.same (HCT.out _)))))
          refine wpQuiet_nil ?_
          intro z
          have hz := z.prop
          generalize z.val = w2 at hz
          clear C0 C1 C2 E0 P0
          go_wp2
          go_ret
          exact ⟨ret_bool (bad.out (by simp [okPs, spanB, *])).symm, stepB hAW.below hz hAW.below.size⟩
        · simp only [hb0] at hcn
          have HCN := Lib.hid hcn
          clear hcn
          cases hb1 : dayB m.fr
          · simp only [hb1] at hcf
            have HCF := Lib.hid hcf
            clear hcf
            have HCT := Lib.hid hct
            clear hct
            refine wp_region_later W (by kernel_rfl) (by kernel_rfl) ?_
            repeat (go_big_quiet_step ((first | (go_at_call 95; exact Later.call (Nat.le_refl _) (HCN.out _)) | (go_at_call_of 52 (Value.int .i64 m.fr); exact Later.same (HCF.out _)) | (go_at_call_of 52 (Value.int .i64 m.to); exact Later.same (HCT.out _)))))
            refine wpQuiet_nil ?_
            intro z
            have hz := z.prop
            generalize z.val = w2 at hz
            clear C0 C1 C2 E0 P0
            go_wp2
            go_ret
            exact ⟨ret_bool (bad.out (by simp [okPs, spanB, *])).symm, stepB hAW.below hz hAW.below.size⟩
          · simp only [hb1] at hcf
            have HCF := Lib.hid hcf
            clear hcf
            cases hb2 : dayB m.to
            · simp only [hb2] at hct
              have HCT := Lib.hid hct
              clear hct
              refine wp_region_later W (by kernel_rfl) (by kernel_rfl) ?_
              repeat (go_big_quiet_step ((first | (go_at_call 95; exact Later.call (Nat.le_refl _) (HCN.out _)) | (go_at_call_of 52 (Value.int .i64 m.fr); exact Later.same (HCF.out _)) | (go_at_call_of 52 (Value.int .i64 m.to); exact Later.same (HCT.out _)))))
              refine wpQuiet_nil ?_
              intro z
              have hz := z.prop
              generalize z.val = w2 at hz
              clear C0 C1 C2 E0 P0
              go_wp2
              go_ret
              exact ⟨ret_bool (bad.out (by simp [okPs, spanB, *])).symm, stepB hAW.below hz hAW.below.size⟩
            · simp only [hb2] at hct
              have HCT := Lib.hid hct
              clear hct
              by_cases hb3 : m.to < m.fr
              · refine wp_region_later W (by kernel_rfl) (by kernel_rfl) ?_
                repeat (go_big_quiet_step ((first | (go_at_call 95; exact Later.call (Nat.le_refl _) (HCN.out _)) | (go_at_call_of 52 (Value.int .i64 m.fr); exact Later.same (HCF.out _)) | (go_at_call_of 52 (Value.int .i64 m.to); exact Later.same (HCT.out _)))))
                refine wpQuiet_nil ?_
                intro z
                have hz := z.prop
                generalize z.val = w2 at hz
                clear C0 C1 C2 E0 P0
                go_wp2
                go_ret
                exact ⟨ret_bool (bad.out (by simp [okPs, spanB, *])).symm, stepB hAW.below hz hAW.below.size⟩
              · have hn3 : decide (m.to < m.fr) = false := by simpa using hb3
                cases hb4 : Op.bytesLess m.name.toList p.name.toList
                · cases hb5 : m.name.toList == p.name.toList
                  · refine wp_region_later W (by kernel_rfl) (by kernel_rfl) ?_
                    repeat (go_big_quiet_step ((first | (go_at_call 95; exact Later.call (Nat.le_refl _) (HCN.out _)) | (go_at_call_of 52 (Value.int .i64 m.fr); exact Later.same (HCF.out _)) | (go_at_call_of 52 (Value.int .i64 m.to); exact Later.same (HCT.out _)))))
                    refine wpQuiet_nil ?_
                    intro z
                    have hz := z.prop
                    generalize z.val = w2 at hz
                    clear C0 C1 C2 E0 P0
                    have HOK : Hid (okPs m = true) := by unfold Hid okPs spanB; rw [hb0, hb1, hb2]; simp; omega
                    have hlm : Hid (ltPs p m = true) := by unfold Hid; have h9 := HBAD.out; rw [hb4, hb5] at h9; simpa using h9
                    go_wp2
                    go_roundw
                    case rel => exact ⟨k + 1, by omega, by go_num, by unfold Hid; rw [hH.out, hN.out, HOK.out, hlm.out]; rfl, hAW.step hz⟩
                    case measure => simp [intOf]; omega
                  · refine wp_region_later W (by kernel_rfl) (by kernel_rfl) ?_
                    repeat (go_big_quiet_step ((first | (go_at_call 95; exact Later.call (Nat.le_refl _) (HCN.out _)) | (go_at_call_of 52 (Value.int .i64 m.fr); exact Later.same (HCF.out _)) | (go_at_call_of 52 (Value.int .i64 m.to); exact Later.same (HCT.out _)))))
                    refine wpQuiet_nil ?_
                    intro z
                    have hz := z.prop
                    generalize z.val = w2 at hz
                    clear C0 C1 C2 E0 P0
                    have HOK : Hid (okPs m = true) := by unfold Hid okPs spanB; rw [hb0, hb1, hb2]; simp; omega
                    have hlm : Hid (ltPs p m = false) := by unfold Hid; have h9 := HBAD.out; rw [hb4, hb5] at h9; simpa using h9
                    go_wp2
                    go_ret
                    exact ⟨ret_bool (by rw [hlens.out, hH.out, hN.out, HOK.out, hlm.out]; rfl), stepB hAW.below hz hAW.below.size⟩
                · refine wp_region_later W (by kernel_rfl) (by kernel_rfl) ?_
                  repeat (go_big_quiet_step ((first | (go_at_call 95; exact Later.call (Nat.le_refl _) (HCN.out _)) | (go_at_call_of 52 (Value.int .i64 m.fr); exact Later.same (HCF.out _)) | (go_at_call_of 52 (Value.int .i64 m.to); exact Later.same (HCT.out _)))))
                  refine wpQuiet_nil ?_
                  intro z
                  have hz := z.prop
                  generalize z.val = w2 at hz
                  clear C0 C1 C2 E0 P0
                  have HOK : Hid (okPs m = true) := by unfold Hid okPs spanB; rw [hb0, hb1, hb2]; simp; omega
                  have hlm : Hid (ltPs p m = false) := by unfold Hid; have h9 := HBAD.out; rw [hb4] at h9; simpa using h9
                  go_wp2
                  go_ret
                  exact ⟨ret_bool (by rw [hlens.out, hH.out, hN.out, HOK.out, hlm.out]; rfl), stepB hAW.below hz hAW.below.size⟩
      · have hk1' : k = 0 := by omega
        have hN := Lib.hid (upGo_at0 (ok := okPs) (lt := ltPs) hk1' hm)
        have hk2 : decide ((0 : Int) < (k : Int)) = false := by simp; omega
        clear hm hk1' c0 c1 c2 b0 b1 hA hB
        cases hb0 : nameB m.name.data.toList 12
        · simp only [hb0] at hcn
          have HCN := Lib.hid hcn
          clear hcn
          have HCF := Lib.hid hcf
          clear hcf
          have HCT := Lib.hid hct
          clear hct
          refine wp_region_later W (by kernel_rfl) (by kernel_rfl) ?_
          repeat (go_big_quiet_step ((first | (go_at_call 95; exact Later.call (Nat.le_refl _) (HCN.out _)) | (go_at_call_of 52 (Value.int .i64 m.fr); exact Later.same (HCF.out _)) | (go_at_call_of 52 (Value.int .i64 m.to); exact Later.same (HCT.out _)))))
          refine wpQuiet_nil ?_
          intro z
          have hz := z.prop
          generalize z.val = w2 at hz
          clear C0 C1 C2 E0
          go_wp2
          go_ret
          exact ⟨ret_bool (bad.out (by simp [okPs, spanB, *])).symm, stepB hAW.below hz hAW.below.size⟩
        · simp only [hb0] at hcn
          have HCN := Lib.hid hcn
          clear hcn
          cases hb1 : dayB m.fr
          · simp only [hb1] at hcf
            have HCF := Lib.hid hcf
            clear hcf
            have HCT := Lib.hid hct
            clear hct
            refine wp_region_later W (by kernel_rfl) (by kernel_rfl) ?_
            repeat (go_big_quiet_step ((first | (go_at_call 95; exact Later.call (Nat.le_refl _) (HCN.out _)) | (go_at_call_of 52 (Value.int .i64 m.fr); exact Later.same (HCF.out _)) | (go_at_call_of 52 (Value.int .i64 m.to); exact Later.same (HCT.out _)))))
            refine wpQuiet_nil ?_
            intro z
            have hz := z.prop
            generalize z.val = w2 at hz
            clear C0 C1 C2 E0
            go_wp2
            go_ret
            exact ⟨ret_bool (bad.out (by simp [okPs, spanB, *])).symm, stepB hAW.below hz hAW.below.size⟩
          · simp only [hb1] at hcf
            have HCF := Lib.hid hcf
            clear hcf
            cases hb2 : dayB m.to
            · simp only [hb2] at hct
              have HCT := Lib.hid hct
              clear hct
              refine wp_region_later W (by kernel_rfl) (by kernel_rfl) ?_
              repeat (go_big_quiet_step ((first | (go_at_call 95; exact Later.call (Nat.le_refl _) (HCN.out _)) | (go_at_call_of 52 (Value.int .i64 m.fr); exact Later.same (HCF.out _)) | (go_at_call_of 52 (Value.int .i64 m.to); exact Later.same (HCT.out _)))))
              refine wpQuiet_nil ?_
              intro z
              have hz := z.prop
              generalize z.val = w2 at hz
              clear C0 C1 C2 E0
              go_wp2
              go_ret
              exact ⟨ret_bool (bad.out (by simp [okPs, spanB, *])).symm, stepB hAW.below hz hAW.below.size⟩
            · simp only [hb2] at hct
              have HCT := Lib.hid hct
              clear hct
              by_cases hb3 : m.to < m.fr
              · refine wp_region_later W (by kernel_rfl) (by kernel_rfl) ?_
                repeat (go_big_quiet_step ((first | (go_at_call 95; exact Later.call (Nat.le_refl _) (HCN.out _)) | (go_at_call_of 52 (Value.int .i64 m.fr); exact Later.same (HCF.out _)) | (go_at_call_of 52 (Value.int .i64 m.to); exact Later.same (HCT.out _)))))
                refine wpQuiet_nil ?_
                intro z
                have hz := z.prop
                generalize z.val = w2 at hz
                clear C0 C1 C2 E0
                go_wp2
                go_ret
                exact ⟨ret_bool (bad.out (by simp [okPs, spanB, *])).symm, stepB hAW.below hz hAW.below.size⟩
              · have hn3 : decide (m.to < m.fr) = false := by simpa using hb3
                refine wp_region_later W (by kernel_rfl) (by kernel_rfl) ?_
                repeat (go_big_quiet_step ((first | (go_at_call 95; exact Later.call (Nat.le_refl _) (HCN.out _)) | (go_at_call_of 52 (Value.int .i64 m.fr); exact Later.same (HCF.out _)) | (go_at_call_of 52 (Value.int .i64 m.to); exact Later.same (HCT.out _)))))
                refine wpQuiet_nil ?_
                intro z
                have hz := z.prop
                generalize z.val = w2 at hz
                clear C0 C1 C2 E0
                have HOK : Hid (okPs m = true) := by unfold Hid okPs spanB; rw [hb0, hb1, hb2]; simp; omega
                go_wp2
                go_roundw
                case rel => exact ⟨k + 1, by omega, by go_num, by unfold Hid; rw [hH.out, hN.out, HOK.out]; rfl, hAW.step hz⟩
                case measure => simp [intOf]; omega
    · obtain rfl : k = xs0.length := by omega
      have hup : Hid (upGo okPs ltPs none xs0 = true) := by unfold Hid; rw [hH.out, upGo_end (Nat.le_refl _)]
      clear hk hlt hH
      go_wp2
      go_loopw [69] (fun i wr => ∃ (k : Nat), k ≤ xs1.length ∧ i = .int .i64 k ∧ Hid (xs1.all (okTm xs0) = (xs1.drop k).all (okTm xs0)) ∧ At w [.slice a0 xs0.length cap0, .slice a1 xs1.length cap1] wr) (fun i _ => xs1.length - (intOf i).toNat)
      case atStart => exact ⟨0, Nat.zero_le _, rfl, rfl, hA⟩
      case round =>
        clear hA b0 b1 hB hn
        rename_i wr0 wr
        obtain ⟨k, hk, rfl, hT, hA⟩ := hrel
        have b0 := hA.cell 0 _ rfl
        have b1 := hA.cell 1 _ rfl
        have hB := hA.below
        have hn := hA.size
        by_cases hlt : k < xs1.length
        · have hm := List.getElem?_eq_getElem hlt
          generalize xs1[k] = t at hm
          obtain ⟨b, off, rfl, hb, c0, c1, c2, c3⟩ := (hx1.below hB).tm hm
          have hst : t.office.size ≤ 9223372036854775807 := by have h1 := hs1 t (List.mem_of_getElem? hm); unfold szTm at h1; omega
          have bad : Hid (okTm xs0 t = false → R = false) := fun h => by rw [hlens.out, hT.out, all_drop _ hm, h]; simp
          have hd := Lib.hid (all_drop (okTm xs0) hm)
          have hk1 : (k : Int) < (xs1.length : Int) := by omega
          have hix := fun W h => personIndex_any a0 (some ⟨b, off, none⟩) cap0 cap1 xs0 xs1 t.person W hl0 h
          have hcn := fun W => isSmall_any t.office 12 W hst
          clear hm
          by_cases hneg : personIx xs0 t.person < 0
          · have HBD := Lib.hid (bad.out (okTm_neg hneg))
            have HIX := Lib.hid hix
            clear hix
            go_wp2_with fail
            generalize hW : wr.alloc (.cells #[.string t.office, .string t.person, .int .i64 t.fr, .int .i64 t.to] 105) = W0
            have hAW := hW ▸ hA.step ((Below.refl _ wr).alloc (Nat.le_refl _) _)
            have hlW : wr.heap.size < W0.heap.size := by rw [← hW]; simp
            have d0 : W0.cell? ⟨wr.heap.size, 0, none⟩ = some (.string t.office) := by rw [← hW]; exact World.cell?_alloc_at _ _ _ _ rfl
            have d1 : W0.cell? ⟨wr.heap.size, 1, none⟩ = some (.string t.person) := by rw [← hW]; exact World.cell?_alloc_at _ _ _ _ rfl
            have d2 : W0.cell? ⟨wr.heap.size, 2, none⟩ = some (.int .i64 t.fr) := by rw [← hW]; exact World.cell?_alloc_at _ _ _ _ rfl
            have d3 : W0.cell? ⟨wr.heap.size, 3, none⟩ = some (.int .i64 t.to) := by rw [← hW]; exact World.cell?_alloc_at _ _ _ _ rfl
            clear hW
            refine (HIX.out _ (hx0.below hAW.below)).mono ?_
            rintro e W ⟨rfl, hB1⟩
            have hAW := hAW.step hB1
            have d0 := (hB1.cell (p := ⟨wr.heap.size, 0, none⟩) hlW).trans d0
            have D0 := Later.cell d0 (Nat.lt_of_lt_of_le hlW hB1.size)
            have d1 := (hB1.cell (p := ⟨wr.heap.size, 1, none⟩) hlW).trans d1
            have D1 := Later.cell d1 (Nat.lt_of_lt_of_le hlW hB1.size)
            have d2 := (hB1.cell (p := ⟨wr.heap.size, 2, none⟩) hlW).trans d2
            have D2 := Later.cell d2 (Nat.lt_of_lt_of_le hlW hB1.size)
            have d3 := (hB1.cell (p := ⟨wr.heap.size, 3, none⟩) hlW).trans d3
            have D3 := Later.cell d3 (Nat.lt_of_lt_of_le hlW hB1.size)
            have E0 := Later.cell (hAW.cell 0 _ rfl) hAW.size
            clear b0 b1 c0 c1 c2 c3 hA hB d0 d1 d2 d3
            go_wp2_with fail
            have HCN := Lib.hid hcn
            clear hcn
            refine wp_region_later W (by kernel_rfl) (by kernel_rfl) ?_
            repeat (go_big_quiet_step ((first | (go_at_call 95; exact Later.call (Nat.le_refl _) (HCN.out _)))))
            refine wpQuiet_nil ?_
            intro z
            have hz := z.prop
            generalize z.val = w2 at hz
            clear D0 D1 D2 D3 E0
            go_wp2
            go_ret
            exact ⟨ret_bool HBD.out.symm, stepB hAW.below hz hAW.below.size⟩
          · obtain ⟨j, x, hj, hjl, hxj⟩ := ixOf hneg
            obtain ⟨pb, po, rfl, hpb, q0, q1, q2⟩ := (hx0.below hB).ps hxj
            have hok := okTm_at hj hxj
            have hxo := upGo_all hup.out x (List.mem_of_getElem? hxj)
            have hxs : 0 ≤ x.fr ∧ x.fr ≤ x.to ∧ x.to ≤ 730499 := spanB_bd (by unfold okPs at hxo; rw [Bool.and_eq_true] at hxo; exact hxo.2)
            simp only [hj] at hix
            have HIX := Lib.hid hix
            have HOK := Lib.hid hok
            have hj0 : (0 : Int) ≤ (j : Int) := by omega
            have hj1 : (j : Int) < (xs0.length : Int) := by omega
            have hj2 : decide ((j : Int) < 0) = false := by simp
            clear hix hok hj hxj hxo hneg
            go_wp2_with fail
            generalize hW : wr.alloc (.cells #[.string t.office, .string t.person, .int .i64 t.fr, .int .i64 t.to] 105) = W0
            have hAW := hW ▸ hA.step ((Below.refl _ wr).alloc (Nat.le_refl _) _)
            have hlW : wr.heap.size < W0.heap.size := by rw [← hW]; simp
            have d0 : W0.cell? ⟨wr.heap.size, 0, none⟩ = some (.string t.office) := by rw [← hW]; exact World.cell?_alloc_at _ _ _ _ rfl
            have d1 : W0.cell? ⟨wr.heap.size, 1, none⟩ = some (.string t.person) := by rw [← hW]; exact World.cell?_alloc_at _ _ _ _ rfl
            have d2 : W0.cell? ⟨wr.heap.size, 2, none⟩ = some (.int .i64 t.fr) := by rw [← hW]; exact World.cell?_alloc_at _ _ _ _ rfl
            have d3 : W0.cell? ⟨wr.heap.size, 3, none⟩ = some (.int .i64 t.to) := by rw [← hW]; exact World.cell?_alloc_at _ _ _ _ rfl
            have q1 := (hW ▸ World.cell?_alloc_past _ _ _ hpb : W0.cell? _ = _).trans q1
            have q2 := (hW ▸ World.cell?_alloc_past _ _ _ hpb : W0.cell? _ = _).trans q2
            clear hW
            refine (HIX.out _ (hx0.below hAW.below)).mono ?_
            rintro e W ⟨rfl, hB1⟩
            have hAW := hAW.step hB1
            have d0 := (hB1.cell (p := ⟨wr.heap.size, 0, none⟩) hlW).trans d0
            have D0 := Later.cell d0 (Nat.lt_of_lt_of_le hlW hB1.size)
            have d1 := (hB1.cell (p := ⟨wr.heap.size, 1, none⟩) hlW).trans d1
            have D1 := Later.cell d1 (Nat.lt_of_lt_of_le hlW hB1.size)
            have d2 := (hB1.cell (p := ⟨wr.heap.size, 2, none⟩) hlW).trans d2
            have D2 := Later.cell d2 (Nat.lt_of_lt_of_le hlW hB1.size)
            have d3 := (hB1.cell (p := ⟨wr.heap.size, 3, none⟩) hlW).trans d3
            have D3 := Later.cell d3 (Nat.lt_of_lt_of_le hlW hB1.size)
            have q1 := (hB1.cell (p := ⟨pb, po + j * 3 + 1, none⟩) (by simp; omega)).trans q1
            have q2 := (hB1.cell (p := ⟨pb, po + j * 3 + 2, none⟩) (by simp; omega)).trans q2
            have hpW : pb < W.heap.size := by have := hB1.size; omega
            have P1 := Later.cell q1 hpW
            have P2 := Later.cell q2 hpW
            have E0 := Later.cell (hAW.cell 0 _ rfl) hAW.size
            clear b0 b1 c0 c1 c2 c3 hA hB d0 d1 d2 d3 q0 q1 q2
            go_wp2_with fail
            cases hb0 : nameB t.office.data.toList 12
            · simp only [hb0] at hcn
              have HCN := Lib.hid hcn
              clear hcn
              refine wp_region_later W (by kernel_rfl) (by kernel_rfl) ?_
              repeat (go_big_quiet_step ((first | (go_at_call 95; exact Later.call (Nat.le_refl _) (HCN.out _)))))
              refine wpQuiet_nil ?_
              intro z
              have hz := z.prop
              generalize z.val = w2 at hz
              clear D0 D1 D2 D3 E0 P1 P2
              have hbd : Hid (R = false) := bad.out (by rw [HOK.out]; simp [spanB, *]; try omega)
              go_wp2
              go_ret
              exact ⟨ret_bool hbd.out.symm, stepB hAW.below hz hAW.below.size⟩
            · simp only [hb0] at hcn
              have HCN := Lib.hid hcn
              clear hcn
              by_cases hb1 : t.to < t.fr
              · refine wp_region_later W (by kernel_rfl) (by kernel_rfl) ?_
                repeat (go_big_quiet_step ((first | (go_at_call 95; exact Later.call (Nat.le_refl _) (HCN.out _)))))
                refine wpQuiet_nil ?_
                intro z
                have hz := z.prop
                generalize z.val = w2 at hz
                clear D0 D1 D2 D3 E0 P1 P2
                have hbd : Hid (R = false) := bad.out (by rw [HOK.out]; simp [spanB, *]; try omega)
                go_wp2
                go_ret
                exact ⟨ret_bool hbd.out.symm, stepB hAW.below hz hAW.below.size⟩
              · have hn1 : decide (t.to < t.fr) = false := by simpa using hb1
                by_cases hb2 : t.fr < x.fr
                · refine wp_region_later W (by kernel_rfl) (by kernel_rfl) ?_
                  repeat (go_big_quiet_step ((first | (go_at_call 95; exact Later.call (Nat.le_refl _) (HCN.out _)))))
                  refine wpQuiet_nil ?_
                  intro z
                  have hz := z.prop
                  generalize z.val = w2 at hz
                  clear D0 D1 D2 D3 E0 P1 P2
                  have hbd : Hid (R = false) := bad.out (by rw [HOK.out]; simp [spanB, *]; try omega)
                  go_wp2
                  go_ret
                  exact ⟨ret_bool hbd.out.symm, stepB hAW.below hz hAW.below.size⟩
                · have hn2 : decide (t.fr < x.fr) = false := by simpa using hb2
                  by_cases hb3 : x.to < t.to
                  · refine wp_region_later W (by kernel_rfl) (by kernel_rfl) ?_
                    repeat (go_big_quiet_step ((first | (go_at_call 95; exact Later.call (Nat.le_refl _) (HCN.out _)))))
                    refine wpQuiet_nil ?_
                    intro z
                    have hz := z.prop
                    generalize z.val = w2 at hz
                    clear D0 D1 D2 D3 E0 P1 P2
                    have hbd : Hid (R = false) := bad.out (by rw [HOK.out]; simp [spanB, *]; try omega)
                    go_wp2
                    go_ret
                    exact ⟨ret_bool hbd.out.symm, stepB hAW.below hz hAW.below.size⟩
                  · have hn3 : decide (x.to < t.to) = false := by simpa using hb3
                    refine wp_region_later W (by kernel_rfl) (by kernel_rfl) ?_
                    repeat (go_big_quiet_step ((first | (go_at_call 95; exact Later.call (Nat.le_refl _) (HCN.out _)))))
                    refine wpQuiet_nil ?_
                    intro z
                    have hz := z.prop
                    generalize z.val = w2 at hz
                    clear D0 D1 D2 D3 E0 P1 P2
                    have hgo : Hid (okTm xs0 t = true) := by unfold Hid; rw [HOK.out]; simp [*, spanB, dayB, inB]; omega
                    go_wp2
                    go_roundw
                    case rel => exact ⟨k + 1, by omega, by go_num, by unfold Hid; rw [hT.out, hd.out, hgo.out]; rfl, hAW.step hz⟩
                    case measure => simp [intOf]; omega
        · obtain rfl : k = xs1.length := by omega
          have hts : Hid (xs1.all (okTm xs0) = true) := by unfold Hid; rw [hT.out, List.drop_eq_nil_of_le (Nat.le_refl _)]; rfl
          go_wp2
          go_ret
          exact ⟨ret_bool (by rw [hlens.out, hup.out, hts.out]; simp; omega), hB⟩
end

section
open Go.ChangeShapes Go.WideShapes Go.ChangeAt Go.RowKit

set_option maxHeartbeats 400000 in
theorem indexFunc_checkPeople_1 (a : Option Addr) (cap : Nat) (xs : List Int) (p : Int → Bool) (w : World) (hl : xs.length ≤ 1048576) (hx : Rd encI w a xs)
    (hf : ∀ W, Below w.heap.size w W → ∀ m ∈ xs, Calls Tryz.prog 128 #[.int .i64 m] W fun e w' => e = .returned (.bool (p m)) ∧ Below W.heap.size W w') :
    Calls Tryz.prog 110 #[.slice a xs.length cap, .func (.func 128) #[] #[]] w fun e w' => e = .returned (.int .i64 (fidx p xs 0)) ∧ Below w.heap.size w w' := by
  have HF := Lib.hid hf
  clear hf
  go_enter Tryz.func110, Tryz.ntmps110
  go_wp2
  go_loopw [8] (fun i wr => ∃ (k : Nat), k ≤ xs.length ∧ i = .int .i64 k ∧ Hid (fidx p xs 0 = fidx p (xs.drop k) k) ∧ Below w.heap.size w wr) (fun i _ => xs.length - (intOf i).toNat)
  case atStart => exact ⟨0, Nat.zero_le _, rfl, rfl, Below.refl _ _⟩
  case round =>
    obtain ⟨k, hk, rfl, hH, hB⟩ := hrel
    by_cases hlt : k < xs.length
    · have hm := List.getElem?_eq_getElem hlt
      generalize xs[k] = m at hm
      obtain ⟨b, off, rfl, hb, c0⟩ := (hx.below hB).i hm
      have hd := Lib.hid (fidx_drop p k k hm)
      have hc := HF.out wr hB m (List.mem_of_getElem? hm)
      have hk1 : (k : Int) < (xs.length : Int) := by omega
      clear hm
      cases hp : p m
      · rw [hp] at hc
        have HC := Lib.hid hc
        clear hc
        go_wp2_with fail
        refine HC.out.mono ?_
        rintro e w1 ⟨rfl, hB1⟩
        go_wp2
        go_roundw
        case rel => exact ⟨k + 1, by omega, by go_num, by unfold Hid; rw [hH.out, hd.out, hp]; rfl, stepB hB hB1 hB.size⟩
        case measure => simp [intOf]; omega
      · rw [hp] at hc
        have HC := Lib.hid hc
        clear hc
        go_wp2_with fail
        refine HC.out.mono ?_
        rintro e w1 ⟨rfl, hB1⟩
        go_wp2
        go_ret
        exact ⟨ret_int (by rw [hH.out, hd.out, hp]; rfl), stepB hB hB1 hB.size⟩
    · go_wp2
      go_ret
      exact ⟨ret_int (by rw [hH.out, List.drop_eq_nil_of_le (by omega)]; rfl), hB⟩
theorem containsFunc_checkPeople_1 (a : Option Addr) (cap : Nat) (xs : List Int) (p : Int → Bool) (w : World) (hl : xs.length ≤ 1048576) (hx : Rd encI w a xs) (hf : ∀ W, Below w.heap.size w W → ∀ m ∈ xs, Calls Tryz.prog 128 #[.int .i64 m] W fun e w' => e = .returned (.bool (p m)) ∧ Below W.heap.size W w') : Calls Tryz.prog 114 #[.slice a xs.length cap, .func (.func 128) #[] #[]] w fun e w' => e = .returned (.bool (xs.any p)) ∧ Below w.heap.size w w' := by
  have HC := Lib.hid (indexFunc_checkPeople_1 a cap xs p w hl hx hf)
  clear hf
  have hd := fidx_any p xs
  generalize fidx p xs 0 = r at *
  have HD := Lib.hid hd
  clear hd
  go_enter Tryz.func114, Tryz.ntmps114
  go_wp2_with fail
  refine HC.out.mono ?_
  rintro e w1 ⟨rfl, hB1⟩
  go_wp2
  go_ret
  exact ⟨ret_bool HD.out, hB1⟩
end
end Go.Proofs.YtmjbigeeokofeaaGreatDoor
