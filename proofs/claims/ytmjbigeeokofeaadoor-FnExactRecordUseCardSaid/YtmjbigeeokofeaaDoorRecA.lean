/- Walks: RecordUse of the reference. -/
import Derived.Test.YtmjbigeeokofeaaDoorRecS
namespace Go.Proofs.YtmjbigeeokofeaaDoor
open Go.ChangeShapes Go.WideShapes Go.ChangeAt Go.RowKit Go.IntWalk

theorem wpList_append_any {P : Program} (w : World) {ops : Array Oper} {rest : List Oper} {o : Oper} {a : Act} {Q : Exit → Act → World → Prop} (hgd : o.guard = none) (s x : Operand) (t : TypeId)
    (ho : o.op = .call { callee := .builtin .append, args := #[s, x], argTypes := #[t, t] })
    (base : Nat) (e : TypeId) (i : TypeInfo) (z : Value) (size bytes : Nat) (ht : P.underlying t = some (.slice e)) (hi : P.info? e = some i) (hz : i.zero = some z)
    (hsize : i.size = size) (hby : i.bytes = bytes) (hzs : z.cells.size = size) (hsz : 0 < size)
    (g0 c0 : Nat) (n : Nat) (xs : List Value) (hs : a.eval s = .slice (some ⟨g0, 0, none⟩) n c0) (hown : w.ownsRow base e size (.slice (some ⟨g0, 0, none⟩) n c0) n xs)
    (ad : Addr) (m c : Nat) (news : List Value) (hx : a.eval x = .slice (some ad) m c) (hl : news.length = m * size) (hnews : ∀ j u, news[j]? = some u → w.cell? (ad.add j) = some u) (h1 : ∀ u ∈ news, u.oneCell' = true)
    (h63 : n + m ≤ maxLen) (hbytes : (n + m) * bytes ≤ 140737488355328) (hbase : base ≤ w.heap.size)
    (h : ∀ g cap w', w'.ownsRow base e size (.slice (some ⟨g, 0, none⟩) (n + m) cap) (n + m) (xs ++ news) → w.grownBy w' (some g0) → (g = g0 ∨ g = w.heap.size) → wpList P ops Q rest (a.put o.dst (.slice (some ⟨g, 0, none⟩) (n + m) cap)) w') : wpList P ops Q (o :: rest) a w :=
  wpList_plain hgd fun _ hK => by
    obtain ⟨g, cap, w', hr, h2, h3, h4⟩ := run_append_any (P := P) w t o.type base e i z size bytes ht hi hz hsize hby hzs hsz g0 c0 n xs hown ad m c news hl hnews h1 h63 hbytes hbase
    unfold Oper.wp execOp
    simp only [ho, resolve, invoke, builtin, Sem.run_bind, Sem.run_pure, Result.andThen_ok, List.map_toArray, List.map_cons, List.map_nil, hs, hx, hr]
    exact hK _ _ (h g cap w' h2 h3 h4)
theorem rd_news {α : Type} {enc : α → List Value} {k : Nat} (hk : ∀ x, (enc x).length = k) (hk0 : 0 < k) {w : World} {g : Nat} {xs : List α} (h : Rd enc w (some ⟨g, 0, none⟩) xs) : ∀ j u, (xs.flatMap enc)[j]? = some u → w.cell? (Addr.add ⟨g, 0, none⟩ j) = some u := by
  intro j u hu
  rw [Addr.add_lit]
  exact rd_cells hk hk0 h j u hu
theorem hitM_not {nm : ByteArray} {n aw : Int} {m : Mk} (h : (m.name.toList == nm.toList) = false) : hitM nm n aw m = false := by unfold hitM; rw [h]; rfl
theorem hitM_in {nm : ByteArray} {n aw : Int} {m : Mk} {b : Bool} (h : (m.name.toList == nm.toList) = true) (h2 : inB n (m.fr - aw) (m.to + aw) = b) : hitM nm n aw m = b := by unfold hitM; rw [h, h2]; rfl
theorem okRec_bd {nm : ByteArray} {n aw : Int} (h : okRec nm n aw = true) : 0 ≤ aw ∧ aw ≤ 10000 := by
  unfold okRec at h; simp only [Bool.and_eq_true] at h; have := h.2; simp [inB] at this; exact this
theorem recR_bad {xs : List Mk} {nm : ByteArray} {n aw : Int} (h : areMarksB xs = false) : recR xs nm n aw = ([], 1) := by unfold recR; rw [h]; rfl
theorem recR_rng {xs : List Mk} {nm : ByteArray} {n aw : Int} (h : areMarksB xs = true) (h2 : okRec nm n aw = false) : recR xs nm n aw = ([], 2) := by unfold recR; rw [h, h2]; rfl
theorem recR_hit {xs : List Mk} {nm : ByteArray} {n aw : Int} {k : Nat} {m : Mk} (h : areMarksB xs = true) (h2 : okRec nm n aw = true) (hm : xs[k]? = some m) (hb : ∀ x ∈ xs.take k, hitM nm n aw x = false) (hh : hitM nm n aw m = true) : recR xs nm n aw = (xs.set k (wideM n m), 0) := by
  unfold recR; rw [h, h2, widM_at hm hb hh]; rfl
theorem recR_lim {xs : List Mk} {nm : ByteArray} {n aw : Int} (h : areMarksB xs = true) (h2 : okRec nm n aw = true) (hb : ∀ x ∈ xs, hitM nm n aw x = false) (hl : xs.length = 40) : recR xs nm n aw = ([], 3) := by
  unfold recR; rw [h, h2, widM_none hb]; simp [hl]
theorem recR_new {xs : List Mk} {nm : ByteArray} {n aw : Int} (h : areMarksB xs = true) (h2 : okRec nm n aw = true) (hb : ∀ x ∈ xs, hitM nm n aw x = false) (hl : xs.length < 40) : recR xs nm n aw = (insM ⟨nm, n, n⟩ xs, 0) := by
  unfold recR; rw [h, h2, widM_none hb]; simp; omega
theorem take_hit {nm : ByteArray} {n aw : Int} {xs : List Mk} {k : Nat} {m : Mk} (hm : xs[k]? = some m) (hb : ∀ x ∈ xs.take k, hitM nm n aw x = false) (h : hitM nm n aw m = false) : ∀ x ∈ xs.take (k + 1), hitM nm n aw x = false := by
  obtain ⟨hk, rfl⟩ := List.getElem?_eq_some_iff.1 hm
  intro x hx
  rw [List.take_succ_eq_append_getElem hk] at hx
  rcases List.mem_append.1 hx with hx | hx
  · exact hb x hx
  · rw [List.mem_singleton.1 hx]; exact h
/-- A mark of an own row is made wider: two cells. -/
theorem own_wide {w : World} {base : Nat} {E : TypeId} {g n c : Nat} {xs : List Mk} {k : Nat} {m : Mk} (h : w.ownsRow base E 3 (.slice (some ⟨g, 0, none⟩) n c) n (xs.flatMap encMk)) (hm : xs[k]? = some m) (f t : Int) :
    ((w.setCell ⟨g, k * 3 + 1, none⟩ (.int .i64 f)).setCell ⟨g, k * 3 + 2, none⟩ (.int .i64 t)).ownsRow base E 3 (.slice (some ⟨g, 0, none⟩) n c) n ((xs.set k ⟨m.name, f, t⟩).flatMap encMk) ∧ w.grownBy ((w.setCell ⟨g, k * 3 + 1, none⟩ (.int .i64 f)).setCell ⟨g, k * 3 + 2, none⟩ (.int .i64 t)) (some g) := by
  obtain ⟨hk, rfl⟩ := List.getElem?_eq_some_iff.1 hm
  have e : xs = xs.take k ++ xs[k] :: xs.drop (k + 1) := by rw [← List.drop_eq_getElem_cons hk, List.take_append_drop]
  have e2 : xs.set k ⟨xs[k].name, f, t⟩ = xs.take k ++ ⟨xs[k].name, f, t⟩ :: xs.drop (k + 1) := by rw [List.set_eq_take_append_cons_drop, if_pos hk]
  have hl : ((xs.take k).flatMap encMk).length = k * 3 := by rw [length_flatMap_enc encMk 3 encMk_len, List.length_take, Nat.min_eq_left (by omega)]
  rw [e2]
  have h0 : w.ownsRow base E 3 (.slice (some ⟨g, 0, none⟩) n c) n (((xs.take k).flatMap encMk ++ [.string xs[k].name]) ++ .int .i64 xs[k].fr :: (.int .i64 xs[k].to :: (xs.drop (k + 1)).flatMap encMk)) := by
    have e3 : xs.flatMap encMk = ((xs.take k).flatMap encMk ++ [.string xs[k].name]) ++ .int .i64 xs[k].fr :: (.int .i64 xs[k].to :: (xs.drop (k + 1)).flatMap encMk) :=
      (congrArg (List.flatMap encMk) e).trans (by rw [List.flatMap_append, List.flatMap_cons, List.append_assoc]; rfl)
    rw [← e3]; exact h
  have h1 := own_put h0 (i := k * 3 + 1) (by simp [hl]) (.int .i64 f)
  have h2 : (w.setCell ⟨g, k * 3 + 1, none⟩ (.int .i64 f)).ownsRow base E 3 (.slice (some ⟨g, 0, none⟩) n c) n (((xs.take k).flatMap encMk ++ [.string xs[k].name, .int .i64 f]) ++ .int .i64 xs[k].to :: (xs.drop (k + 1)).flatMap encMk) := by simpa using h1.1
  have h3 := own_put h2 (i := k * 3 + 2) (by simp [hl]) (.int .i64 t)
  refine ⟨?_, gT h1.2 h3.2⟩
  simpa [encMk] using h3.1
end Go.Proofs.YtmjbigeeokofeaaDoor
