/- Walks: MarksOn of the reference. -/
import Derived.Test.YtggcpaiogliboaaDoorMarkSpec
import Derived.Test.YtggcpaiogliboaaDoorMarkImpl
import Derived.Test.YtggcpaiogliboaaDoorLandIx
namespace Go.Proofs.YtggcpaiogliboaaDoor
open Go.ChangeShapes Go.WideShapes Go.ChangeAt Go.RowKit

def onStep (n : Int) (out : List ByteArray) (m : Mk) : List ByteArray := if inB n m.fr m.to && decide (fidx (isS m.name) out 0 < 0) then out ++ [m.name] else out
def onSpec (n : Int) (xs : List Mk) : List ByteArray := xs.foldl (onStep n) []
theorem foldl_on_len (n : Int) : ∀ (xs : List Mk) (out : List ByteArray), (xs.foldl (onStep n) out).length ≤ out.length + xs.length
  | [], out => Nat.le_refl _
  | m :: xs, out => by
    have h := foldl_on_len n xs (onStep n out m)
    have h2 : (onStep n out m).length ≤ out.length + 1 := by unfold onStep; split <;> simp
    simp only [List.foldl_cons, List.length_cons]
    omega
theorem onSpec_len (n : Int) (xs : List Mk) : (onSpec n xs).length ≤ xs.length := by have := foldl_on_len n xs []; simpa [onSpec] using this
theorem onSpec_take {n : Int} {xs : List Mk} {k : Nat} {m : Mk} (h : xs[k]? = some m) : onSpec n (xs.take (k + 1)) = onStep n (onSpec n (xs.take k)) m := by
  obtain ⟨hk, rfl⟩ := List.getElem?_eq_some_iff.1 h
  unfold onSpec
  rw [List.take_succ_eq_append_getElem hk, List.foldl_append]
  rfl
theorem own_form {w : World} {base : Nat} {e : TypeId} {k n : Nat} {v : Value} {xs : List Value} (h : w.ownsRow base e k v n xs) : ∃ a c, v = .slice a n c := by
  rcases h.2 with ⟨h1, h2⟩ | ⟨g, c, _, e, _⟩
  · exact ⟨none, 0, by rw [h1, h2]⟩
  · exact ⟨_, c, e⟩
def marksOnR (xs : List Mk) (n : Int) : List ByteArray × Int := if areMarksB xs then (if dayB n then (onSpec n xs, 0) else ([], 2)) else ([], 1)
theorem marksOnR_len (xs : List Mk) (n : Int) : (marksOnR xs n).1.length ≤ xs.length := by
  unfold marksOnR
  split
  · split
    · exact onSpec_len n xs
    · simp
  · simp

set_option maxHeartbeats 1000000 in
theorem specMarksOn_any (a : Option Addr) (cap : Nat) (xs : List Mk) (n : Int) (w : World) (hl : xs.length ≤ 1048576) (hx : Rd encMk w a xs) (hs : ∀ m ∈ xs, m.name.size ≤ 1048576) :
    Calls Tryd.prog 16 #[.slice a xs.length cap, .int .i64 n] w fun e w' => ∃ b c, e = .returned (.tuple #[.slice b (marksOnR xs n).1.length c, .int .i64 (marksOnR xs n).2]) ∧
      w'.ownsRow w.heap.size 9 1 (.slice b (marksOnR xs n).1.length c) (marksOnR xs n).1.length ((marksOnR xs n).1.flatMap encS) ∧ Below w.heap.size w w' := by
  obtain ⟨i0, hi, hz0, hz1, hz2⟩ := info_parts infoS
  have hB := Below.refl w.heap.size w
  cases hA : areMarksB xs
  · have hR : Hid (marksOnR xs n = ([], 1)) := by unfold Hid marksOnR; rw [hA]; rfl
    have HM := Lib.hid (fun W (h : Rd encMk W a xs) => hA ▸ specAreMarks_any a cap xs W hl h hs)
    clear hA
    go_enter Tryd.func16, Tryd.ntmps16
    go_wp2_with fail
    refine (HM.out _ hx).mono ?_
    rintro e w1 ⟨rfl, hB1⟩
    go_wp2
    go_ret2
    rw [hR.out]
    exact ⟨none, 0, rfl, World.ownsRow_nil _ _ _ _, hB1⟩
  · have HM := Lib.hid (fun W (h : Rd encMk W a xs) => hA ▸ specAreMarks_any a cap xs W hl h hs)
    cases hD : dayB n
    · have hR : Hid (marksOnR xs n = ([], 2)) := by unfold Hid marksOnR; rw [hA, hD]; rfl
      have HD := Lib.hid (fun W => hD ▸ l01Day_any n W)
      clear hA hD
      go_enter Tryd.func16, Tryd.ntmps16
      go_wp2_with fail
      refine (HM.out _ hx).mono ?_
      rintro e w1 ⟨rfl, hB1⟩
      go_wp2_with fail
      refine (HD.out _).mono ?_
      rintro e w2 ⟨rfl, rfl⟩
      go_wp2
      go_ret2
      rw [hR.out]
      exact ⟨none, 0, rfl, World.ownsRow_nil _ _ _ _, hB1⟩
    · have hR : Hid (marksOnR xs n = (onSpec n xs, 0)) := by unfold Hid marksOnR; rw [hA, hD]; rfl
      have HD := Lib.hid (fun W => hD ▸ l01Day_any n W)
      clear hA hD
      go_enter Tryd.func16, Tryd.ntmps16
      go_wp2_with fail
      refine (HM.out _ hx).mono ?_
      rintro e w1 ⟨rfl, hB1⟩
      go_wp2_with fail
      refine (HD.out _).mono ?_
      rintro e w2 ⟨rfl, rfl⟩
      go_wp2
      go_loopw [6, 7] (fun o i wr => ∃ (k : Nat) (b : Option Addr) (c : Nat), k ≤ xs.length ∧ i = .int .i64 k ∧ o = .slice b (onSpec n (xs.take k)).length c ∧ wr.ownsRow w.heap.size 9 1 (.slice b (onSpec n (xs.take k)).length c) (onSpec n (xs.take k)).length ((onSpec n (xs.take k)).flatMap encS) ∧ Below w.heap.size w wr) (fun _ i _ => xs.length - (intOf i).toNat)
      case atStart => exact ⟨0, _, _, Nat.zero_le _, rfl, rfl, World.ownsRow_made w1 #[] 0 hB1.size (by decide) rfl, hB1.alloc hB1.size _⟩
      case round =>
        clear hB
        rename_i wr
        obtain ⟨k, b0, c0', hk, rfl, rfl, hown, hB⟩ := hrel
        by_cases hlt : k < xs.length
        · have hm := List.getElem?_eq_getElem hlt
          generalize xs[k] = m at hm
          obtain ⟨b, off, rfl, hb, c0, c1, c2⟩ := (hx.below hB).mk hm
          have hst := Lib.hid (onSpec_take (n := n) hm)
          have hk1 : (k : Int) < (xs.length : Int) := by omega
          have hsn := hs m (List.mem_of_getElem? hm)
          have hlen := onSpec_len n (xs.take k)
          rw [List.length_take] at hlen
          clear hm
          generalize onSpec n (xs.take k) = out at hst hown hlen
          have hro : Rd encS wr b0 out := Rd.of_own encS_len (by decide) hown
          have HI := Lib.hid (fun W => l01In_any n m.fr m.to W)
          have HT := Lib.hid (fun W (h : Rd encS W b0 out) => l01Text_any b0 c0' out.length out m.name W rfl (by omega) h)
          go_wp2_with fail
          have C0 := Later.cell c0 hb
          have C1 := Later.cell c1 hb
          have C2 := Later.cell c2 hb
          cases hb0 : inB n m.fr m.to
          · have HI := Lib.hid (fun W => hb0 ▸ HI.out W)
            refine wp_region_later wr (by kernel_rfl) (by kernel_rfl) ?_
            repeat (go_big_quiet_step ((first | (go_at_call 66; exact Later.same (HI.out _)) | (go_at_call 67; exact Later.same (HT.out _ (hro.below (Later.prop _)))))))
            refine wpQuiet_nil ?_
            intro z
            have hz := z.prop
            generalize z.val = w2 at hz
            clear C0 C1 C2
            have hst' : Hid (onSpec n (xs.take (k + 1)) = out) := by unfold Hid; rw [hst.out]; unfold onStep; simp [hb0]
            clear hst
            have hown := own_below hown hz
            have hB := stepB hB hz hB.size
            go_wp2
            go_roundw
            case rel => exact ⟨k + 1, b0, c0', by omega, by go_num, by rw [hst'.out], by rw [hst'.out]; exact hown, hB⟩
            case measure => simp [intOf]; omega
          · have HI := Lib.hid (fun W => hb0 ▸ HI.out W)
            by_cases hb1 : fidx (isS m.name) out 0 < 0
            · refine wp_region_later wr (by kernel_rfl) (by kernel_rfl) ?_
              repeat (go_big_quiet_step ((first | (go_at_call 66; exact Later.same (HI.out _)) | (go_at_call 67; exact Later.same (HT.out _ (hro.below (Later.prop _)))))))
              refine wpQuiet_nil ?_
              intro z
              have hz := z.prop
              generalize z.val = w2 at hz
              clear C0 C1 C2
              have hst' : Hid (onSpec n (xs.take (k + 1)) = out ++ [m.name]) := by unfold Hid; rw [hst.out]; unfold onStep; simp [hb0, hb1]
              clear hst
              have hown := own_below hown hz
              have hB := stepB hB hz hB.size
              have c0 := ((bcell hz).1 _ _ hb).trans c0
              clear c1 c2 hz hro
              go_wp2_with (at_builtin; refine wpList_append_own _ rfl _ _ 24 rfl w.heap.size 9 i0 (.string ⟨#[]⟩) 1 16 Tryd.underlying24 hi hz0 hz1 hz2 rfl (by decide) _ _ _ rfl (hown.alloc _) ⟨w2.heap.size, 0, none⟩ 1 1 [.string m.name] rfl rfl (cell_one_new _ _ _) ?c2 ?c3 ?c4 ?c5 ?_)
              case c2 => intro u hu; simp at hu; subst hu; rfl
              case c3 => unfold maxLen; omega
              case c4 => omega
              case c5 => have := hB.size; simp; omega
              intro v' w3 hown' hgr _
              have hB' := (hB.alloc hB.size _).grown hgr (by have := hB.size; simp; omega) (fun g hg => ((hown.lt g hg).1))
              obtain ⟨b', c', rfl⟩ := own_form hown'
              clear hgr hown hB
              go_wp2
              go_roundw
              case rel => exact ⟨k + 1, b', c', by omega, by go_num, by rw [hst'.out, List.length_append]; rfl, by rw [hst'.out, List.length_append, List.flatMap_append]; exact hown', hB'⟩
              case measure => simp [intOf]; omega
            · refine wp_region_later wr (by kernel_rfl) (by kernel_rfl) ?_
              repeat (go_big_quiet_step ((first | (go_at_call 66; exact Later.same (HI.out _)) | (go_at_call 67; exact Later.same (HT.out _ (hro.below (Later.prop _)))))))
              refine wpQuiet_nil ?_
              intro z
              have hz := z.prop
              generalize z.val = w2 at hz
              clear C0 C1 C2
              have hst' : Hid (onSpec n (xs.take (k + 1)) = out) := by unfold Hid; rw [hst.out]; unfold onStep; simp [hb0, hb1]
              clear hst
              have hown := own_below hown hz
              have hB := stepB hB hz hB.size
              go_wp2
              go_roundw
              case rel => exact ⟨k + 1, b0, c0', by omega, by go_num, by rw [hst'.out], by rw [hst'.out]; exact hown, hB⟩
              case measure => simp [intOf]; omega
        · obtain rfl : k = xs.length := by omega
          go_wp2
          go_ret2
          rw [hR.out]
          rw [List.take_length] at hown
          exact ⟨b0, c0', by rw [List.take_length]; rfl, hown, hB⟩
end Go.Proofs.YtggcpaiogliboaaDoor
