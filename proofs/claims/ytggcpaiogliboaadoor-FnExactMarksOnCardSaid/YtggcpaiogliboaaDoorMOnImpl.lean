/- Walks: MarksOn of the program. -/
import Derived.Test.YtggcpaiogliboaaDoorMOnPlain
namespace Go.Proofs.YtggcpaiogliboaaDoor
open Go.ChangeShapes Go.WideShapes Go.ChangeAt Go.RowKit

theorem own_form1 {w : World} {base : Nat} {e : TypeId} {k n : Nat} {v : Value} {xs : List Value} (h : w.ownsRow base e k v n xs) (hn : 0 < n) : ∃ g c, v = .slice (some ⟨g, 0, none⟩) n c := by
  rcases h.2 with ⟨h1, h2⟩ | ⟨g, c, _, e, _⟩
  · omega
  · exact ⟨_, c, e⟩
set_option maxHeartbeats 1000000 in
theorem implMarksOn_any (a : Option Addr) (cap : Nat) (xs : List Mk) (n : Int) (w : World) (hl : xs.length ≤ 1048576) (hx : Rd encMk w a xs) (hs : ∀ m ∈ xs, m.name.size ≤ 1048576) :
    Calls Tryd.prog 18 #[.slice a xs.length cap, .int .i64 n] w fun e w' => ∃ b c, e = .returned (.tuple #[.slice b (marksOnR xs n).1.length c, .int .i64 (marksOnR xs n).2]) ∧
      w'.ownsRow w.heap.size 9 1 (.slice b (marksOnR xs n).1.length c) (marksOnR xs n).1.length ((marksOnR xs n).1.flatMap encS) ∧ Below w.heap.size w w' := by
  obtain ⟨i0, hi, hz0, hz1, hz2⟩ := info_parts infoS
  have hB := Below.refl w.heap.size w
  cases hA : areMarksB xs
  · have hR : Hid (marksOnR xs n = ([], 1)) := by unfold Hid marksOnR; rw [hA]; rfl
    have HM := Lib.hid (fun W (h : Rd encMk W a xs) => hA ▸ implAreMarks_any a cap xs W hl h hs)
    clear hA
    go_enter Tryd.func18, Tryd.ntmps18
    go_wp2_with fail
    refine (HM.out _ hx).mono ?_
    rintro e w1 ⟨rfl, hB1⟩
    go_wp2
    go_ret2
    rw [hR.out]
    exact ⟨none, 0, rfl, World.ownsRow_nil _ _ _ _, hB1⟩
  · have HM := Lib.hid (fun W (h : Rd encMk W a xs) => hA ▸ implAreMarks_any a cap xs W hl h hs)
    cases hD : dayB n
    · have hR : Hid (marksOnR xs n = ([], 2)) := by unfold Hid marksOnR; rw [hA, hD]; rfl
      have HD := Lib.hid (fun W => hD ▸ isDay_any n W)
      clear hA hD
      go_enter Tryd.func18, Tryd.ntmps18
      go_wp2_with fail
      refine (HM.out _ hx).mono ?_
      rintro e w1 ⟨rfl, hB1⟩
      go_wp2_with fail
      refine (HD.out _).mono ?_
      rintro e w2 ⟨rfl, rfl⟩
      go_wp2
      go_ret2
      rw [hR.out]
      exact ⟨none, 0, rfl, World.ownsRow_nil _ _ _ _, hB1⟩
    · have hR : Hid (marksOnR xs n = (onSpec n xs, 0)) := by unfold Hid marksOnR; rw [hA, hD]; rfl
      have hP := Lib.hid (compact_on (n := n) hA)
      have HD := Lib.hid (fun W => hD ▸ isDay_any n W)
      clear hA hD
      go_enter Tryd.func18, Tryd.ntmps18
      go_wp2_with fail
      refine (HM.out _ hx).mono ?_
      rintro e w1 ⟨rfl, hB1⟩
      go_wp2_with fail
      refine (HD.out _).mono ?_
      rintro e w2 ⟨rfl, rfl⟩
      go_wp2
      go_loopw [6, 20] (fun o i wr => ∃ (k : Nat) (g : Nat) (c : Nat), k ≤ xs.length ∧ i = .int .i64 k ∧ o = .slice (some ⟨g, 0, none⟩) (onImpl n (xs.take k)).length c ∧ wr.ownsRow w.heap.size 9 1 (.slice (some ⟨g, 0, none⟩) (onImpl n (xs.take k)).length c) (onImpl n (xs.take k)).length ((onImpl n (xs.take k)).flatMap encS) ∧ Below w.heap.size w wr) (fun _ i _ => xs.length - (intOf i).toNat)
      case atStart => exact ⟨0, _, _, Nat.zero_le _, rfl, rfl, World.ownsRow_made w1 #[] 0 hB1.size (by decide) rfl, hB1.alloc hB1.size _⟩
      case round =>
        clear hB
        rename_i wr
        obtain ⟨k, b0, c0', hk, rfl, rfl, hown, hB⟩ := hrel
        by_cases hlt : k < xs.length
        · have hm := List.getElem?_eq_getElem hlt
          generalize xs[k] = m at hm
          obtain ⟨b, off, rfl, hb, c0, c1, c2⟩ := (hx.below hB).mk hm
          have hst := Lib.hid (onImpl_take (n := n) hm)
          have hk1 : (k : Int) < (xs.length : Int) := by omega
          have hsn := hs m (List.mem_of_getElem? hm)
          have hlen := onImpl_len n (xs.take k)
          rw [List.length_take] at hlen
          clear hm
          generalize onImpl n (xs.take k) = out at hst hown hlen
          have HI := Lib.hid (fun W => within_any n m.fr m.to W)
          cases hb0 : inB n m.fr m.to
          · have HI := Lib.hid (fun W => hb0 ▸ HI.out W)
            have hst' : Hid (onImpl n (xs.take (k + 1)) = out) := by unfold Hid; rw [hst.out]; unfold onStepI; simp [hb0]
            clear hst
            go_wp2_with fail
            refine (HI.out _).mono ?_
            rintro e w2 ⟨rfl, rfl⟩
            go_wp2
            go_roundw
            case rel => exact ⟨k + 1, b0, c0', by omega, by go_num, by rw [hst'.out], by rw [hst'.out]; exact hown.alloc _, hB.alloc hB.size _⟩
            case measure => simp [intOf]; omega
          · have HI := Lib.hid (fun W => hb0 ▸ HI.out W)
            have hst' : Hid (onImpl n (xs.take (k + 1)) = out ++ [m.name]) := by unfold Hid; rw [hst.out]; unfold onStepI; simp [hb0]
            clear hst
            go_wp2_with fail
            refine (HI.out _).mono ?_
            rintro e w2 ⟨rfl, rfl⟩
            go_wp2_with (at_builtin; refine wpList_append_own _ rfl _ _ 24 rfl w.heap.size 9 i0 (.string ⟨#[]⟩) 1 16 Tryd.underlying24 hi hz0 hz1 hz2 rfl (by decide) _ _ _ rfl ((hown.alloc _).alloc _) ⟨wr.heap.size + 1, 0, none⟩ 1 1 [.string m.name] rfl rfl ?c1 ?c2 ?c3 ?c4 ?c5 ?_)
            case c1 => have := cell_one_new (wr.alloc (.cells #[.string m.name, .int .i64 m.fr, .int .i64 m.to] 98)) (.string m.name) 9; simpa using this
            case c2 => intro u hu; simp at hu; subst hu; rfl
            case c3 => unfold maxLen; omega
            case c4 => omega
            case c5 => have := hB.size; simp; omega
            intro v' w3 hown' hgr _
            have hB' := (((hB.alloc hB.size _).alloc (by have := hB.size; simp; omega) _)).grown hgr (by have := hB.size; simp; omega) (fun g hg => ((hown.lt g hg).1))
            obtain ⟨b', c', rfl⟩ := own_form1 hown' (by omega)
            clear hgr hown hB
            go_wp2
            go_roundw
            case rel => exact ⟨k + 1, b', c', by omega, by go_num, by rw [hst'.out, List.length_append]; rfl, by rw [hst'.out, List.length_append, List.flatMap_append]; exact hown', hB'⟩
            case measure => simp [intOf]; omega
        · obtain rfl : k = xs.length := by omega
          rw [List.take_length] at hown
          simp only [List.take_length]
          have hl2 := onImpl_len n xs
          have hco : (onImpl n xs).length ≤ c0' := by
            rcases hown.2 with ⟨h1, _⟩ | ⟨g', c', cur, e, _, _, hc, _⟩
            · simp at h1
            · injection e with e1 e2 e3
              omega
          have hg0 := (hown.lt b0 rfl).1
          go_wp2_with fail
          refine (compactS_any w.heap.size b0 c0' (onImpl n xs) _ hown (by omega) hco).mono ?_
          rintro e w2 ⟨rfl, ho, hg⟩
          go_wp2
          go_ret2
          rw [hR.out]
          rw [hP.out] at ho
          exact ⟨some ⟨b0, 0, none⟩, c0', by rw [hP.out]; rfl, ho, hB.grown hg hB.size (fun g e => by cases e; exact hg0)⟩
end Go.Proofs.YtggcpaiogliboaaDoor
