/- slices.Compact on an own row of strings. -/
import Derived.Test.YtggcpaiogliboaaDoorTS
import Derived.Test.YtggcpaiogliboaaDoorShelf
namespace Go.Proofs.YtggcpaiogliboaaDoor
open Go.ChangeShapes Go.WideShapes Go.ChangeAt Go.RowKit

def baOf (l : List UInt8) : ByteArray := ⟨l.toArray⟩
def cmpct (ys : List ByteArray) : List ByteArray := (Lib.compact (ys.map fun s : ByteArray => s.data.toList)).map baOf
theorem own_prefix {base : Nat} {E : TypeId} {k g n m cap : Nat} {xs ys : List Value} {w : World} (h : w.ownsRow base E k (.slice (some ⟨g, 0, none⟩) n cap) n (xs ++ ys)) (hm : xs.length = m * k) (hmn : m ≤ n) : w.ownsRow base E k (.slice (some ⟨g, 0, none⟩) m cap) m xs := by
  refine ⟨hm, .inr ?_⟩
  rcases h.2 with ⟨h1, _⟩ | ⟨g', c', cur, e, hb, hh, hn, hc, hs, ht⟩
  · simp at h1
  · injection e with e1 e2 e3
    have e1' : g = g' := by simpa using e1
    subst e1' e3
    refine ⟨g, cap, cur, rfl, hb, hh, by omega, hc, hs, ?_⟩
    have hle : m * k ≤ n * k := Nat.mul_le_mul_right k hmn
    have h2 : cur.toList.take (m * k) = (cur.toList.take (n * k)).take (m * k) := by rw [List.take_take, Nat.min_eq_left hle]
    rw [h2, ht, ← hm, List.take_left']
    rfl
theorem strsOf_map (ys : List ByteArray) : Lib.strsOf (fun i => ys.getD i ⟨#[]⟩) ys.length = ys.map fun s : ByteArray => s.data.toList := by
  unfold Lib.strsOf
  apply List.ext_getElem
  · simp
  · intro i h1 h2
    have hi : i < ys.length := by simpa using h2
    simp [hi]
theorem encS_map (ls : List (List UInt8)) : (ls.map baOf).flatMap encS = ls.map encStr := by
  induction ls with
  | nil => rfl
  | cons l ls ih => simp only [List.map_cons, List.flatMap_cons, ih]; rfl
theorem cmpct_len (ys : List ByteArray) : (cmpct ys).length ≤ ys.length := by
  unfold cmpct
  rw [List.length_map]
  exact Nat.le_trans (Lib.compact_length_le _) (by simp)
theorem compactS_any (base g c : Nat) (ys : List ByteArray) (w : World) (h : w.ownsRow base 9 1 (.slice (some ⟨g, 0, none⟩) ys.length c) ys.length (ys.flatMap encS)) (hl : ys.length ≤ 1048576) (hc : ys.length ≤ c) :
    Calls Tryd.prog 72 #[.slice (some ⟨g, 0, none⟩) ys.length c] w fun e w' => e = .returned (.slice (some ⟨g, 0, none⟩) (cmpct ys).length c) ∧
      w'.ownsRow base 9 1 (.slice (some ⟨g, 0, none⟩) (cmpct ys).length c) (cmpct ys).length ((cmpct ys).flatMap encS) ∧ w.grownBy w' (some g) := by
  have hcell : ∀ i, i < ys.length → w.cell? ⟨g, 0 + i, none⟩ = some (.string (ys.getD i ⟨#[]⟩)) := fun i hi => by
    have := h.cellAt i (by omega)
    rw [Nat.zero_add, this]
    have h2 := flatMap_at encS 1 encS_len ys i (ys.getD i ⟨#[]⟩) 0 (.string (ys.getD i ⟨#[]⟩)) (by simp [hi]) rfl
    simpa using h2
  refine (Tryd.slices_Compact_string_cells g 0 ys.length c (fun i => ys.getD i ⟨#[]⟩) w (by omega) hc hcell (fun j hj => by rw [Nat.zero_add]; exact h.frozenAt j)).mono ?_
  rintro e w' ⟨rfl, q, rfl⟩
  rw [strsOf_map]
  have hlen : (Lib.compact (ys.map fun s : ByteArray => s.data.toList)).length = (cmpct ys).length := by simp [cmpct]
  have hle := cmpct_len ys
  rw [hlen]
  have h2 := own_setCells ((Lib.compact (ys.map fun s : ByteArray => s.data.toList) ++ List.replicate (ys.length - (cmpct ys).length) []).map encStr) (ys.flatMap encS) [] [] (w.drewN q)
    (by rw [length_flatMap_enc encS 1 encS_len, List.length_map, List.length_append, hlen, List.length_replicate]; omega) (by rw [List.nil_append, List.append_nil]; exact h)
  have h4 : ((w.drewN q).setCells g 0 ((Lib.compact (ys.map fun s : ByteArray => s.data.toList) ++ List.replicate (ys.length - (cmpct ys).length) []).map encStr)).ownsRow base 9 1 (.slice (some ⟨g, 0, none⟩) ys.length c) ys.length ([] ++ ((Lib.compact (ys.map fun s : ByteArray => s.data.toList) ++ List.replicate (ys.length - (cmpct ys).length) []).map encStr) ++ []) := h2.1
  have h5 : w.grownBy ((w.drewN q).setCells g 0 ((Lib.compact (ys.map fun s : ByteArray => s.data.toList) ++ List.replicate (ys.length - (cmpct ys).length) []).map encStr)) (some g) := gT (w1 := w.drewN q) ⟨rfl, rfl, rfl, Nat.le_refl _, fun _ _ _ => rfl⟩ h2.2
  clear h2
  generalize (w.drewN q).setCells g 0 _ = W at h4 h5
  refine ⟨rfl, ?_, h5⟩
  rw [List.nil_append, List.append_nil, List.map_append] at h4
  have := own_prefix (m := (cmpct ys).length) h4 (by simp [hlen]) hle
  have e : (cmpct ys).flatMap encS = (Lib.compact (ys.map fun s : ByteArray => s.data.toList)).map encStr := encS_map _
  rw [e]
  exact this
end Go.Proofs.YtggcpaiogliboaaDoor
