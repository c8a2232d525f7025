/- Walks: AddStay of the program. Printed by gen_addi.py. -/
import Derived.Test.YtipdcgfdejmjfaaGreatDoorStabM
import Derived.Test.YtipdcgfdejmjfaaGreatDoorItinS
import Derived.Test.YtipdcgfdejmjfaaGreatDoorAppAny
import Derived.Test.YtipdcgfdejmjfaaGreatDoorTSt
import Derived.Test.YtipdcgfdejmjfaaGreatDoorBox
import Derived.Test.YtipdcgfdejmjfaaGreatDoorIxl
import Derived.Test.YtipdcgfdejmjfaaGreatDoorPlaceOn
import Derived.Test.YtipdcgfdejmjfaaGreatDoorDrB
import Derived.Deep.CutRange
import Derived.Deep.CutBlock
import Derived.Test.YtipdcgfdejmjfaaGreatDoorStabJ
namespace Go.Proofs.YtipdcgfdejmjfaaGreatDoor
section
def insSt (s : St) : List St → List St
  | [] => [s]
  | x :: xs => if x.fr ≤ s.fr then x :: insSt s xs else s :: x :: xs
theorem insSt_at {s : St} : ∀ {xs : List St} {k : Nat}, (∀ x ∈ xs.take k, x.fr ≤ s.fr) → (∀ x, xs[k]? = some x → ¬ x.fr ≤ s.fr) → insSt s xs = xs.take k ++ s :: xs.drop k
  | [], k, _, _ => by simp [insSt]
  | x :: xs, 0, _, h2 => by
    have := h2 x (by simp)
    simp [insSt, this]
  | x :: xs, k + 1, h1, h2 => by
    have h3 := h1 x (by simp)
    have ih := insSt_at (xs := xs) (k := k) (fun y hy => h1 y (by simp [hy])) (fun y hy => h2 y (by simpa using hy))
    simp [insSt, h3, ih]
theorem insSt_perm (s : St) : ∀ xs : List St, (insSt s xs).Perm (xs ++ [s])
  | [] => List.Perm.refl _
  | x :: xs => by
    unfold insSt
    split
    · exact (insSt_perm s xs).cons x
    · exact (List.perm_append_singleton s (x :: xs)).symm
theorem insSt_len (s : St) (xs : List St) : (insSt s xs).length = xs.length + 1 := by simpa using (insSt_perm s xs).length_eq
def Str (l : List St) : Prop := l.Pairwise fun x y => x.fr < y.fr
theorem Str.srt {l : List St} (h : Str l) : Srt l := h.imp Int.le_of_lt
theorem insSt_srt {s : St} : ∀ {xs : List St}, Srt xs → Srt (insSt s xs)
  | [], _ => srt_one s
  | x :: xs, h => by
    unfold insSt
    have h2 := List.pairwise_cons.1 h
    split
    · refine List.pairwise_cons.2 ⟨fun y hy => ?_, insSt_srt h2.2⟩
      rcases List.mem_append.1 ((insSt_perm s xs).mem_iff.1 hy) with hy | hy
      · exact h2.1 y hy
      · rw [List.mem_singleton.1 hy]; assumption
    · refine List.pairwise_cons.2 ⟨fun y hy => ?_, h⟩
      rcases List.mem_cons.1 hy with rfl | hy
      · omega
      · have := h2.1 y hy
        omega
/-- Two sorted lists of the same stays are one, where one of them has no day twice. -/
theorem srt_unique {C D : List St} (hp : C.Perm D) (hC : Srt C) (hD : Str D) : C = D := by
  have hne : C.Pairwise fun x y => x.fr ≠ y.fr := (hp.pairwise_iff (fun {a b} e => fun h => e h.symm)).2 (hD.imp (fun {a b} e => by omega))
  have hC2 : Str C := (hC.and hne).imp (fun {a b} e => by omega)
  exact hp.eq_of_pairwise (fun a b _ _ h1 h2 => by omega) hC2 hD
theorem str_go {n : Nat} {ws : List Wy} : ∀ {xs : List St} {p : St}, okSt n p = true → upGo (okSt n) (ltSt n ws) (some p) xs = true → (∀ x ∈ xs, p.fr < x.fr) ∧ Str xs
  | [], _, _, _ => ⟨by simp, List.Pairwise.nil⟩
  | x :: xs, p, hp, h => by
    simp only [upGo, Bool.and_eq_true] at h
    obtain ⟨h1, h2⟩ := str_go h.1.1 h.2
    have h3 : p.fr < x.fr := by
      have h4 := h.1.2
      unfold ltSt at h4
      simp only [Bool.and_eq_true, decide_eq_true_eq] at h4
      unfold okSt at hp
      simp only [Bool.and_eq_true] at hp
      have := spanB_bd hp.2
      omega
    refine ⟨fun y hy => ?_, List.Pairwise.cons h1 h2⟩
    rcases List.mem_cons.1 hy with rfl | hy
    · exact h3
    · have := h1 y hy
      omega
theorem itin_str {ps : List ByteArray} {ws : List Wy} {xs : List St} (h : isItinB ps ws xs = true) : Str xs ∧ xs.length ≤ 40 := by
  unfold isItinB areStaysB at h
  simp only [Bool.and_eq_true, decide_eq_true_eq] at h
  refine ⟨?_, h.2⟩
  cases xs with
  | nil => exact List.Pairwise.nil
  | cons x xs =>
    have h1 := h.1.2
    simp only [upGo, Bool.and_eq_true] at h1
    have := str_go h1.1 h1.2
    exact List.Pairwise.cons this.1 this.2
theorem add_one {ps : List ByteArray} {ws : List Wy} {xs C : List St} {s : St} (h : isItinB ps ws xs = true) (hp : C.Perm (xs ++ [s])) (hs : Srt C) :
    isItinB ps ws C = isItinB ps ws (insSt s xs) ∧ (isItinB ps ws (insSt s xs) = true → C = insSt s xs) := by
  have h1 := insSt_srt (s := s) (itin_str h).1.srt
  have hq := hp.trans (insSt_perm s xs).symm
  have e1 : isItinB ps ws (insSt s xs) = true → C = insSt s xs := fun e => srt_unique hq hs (itin_str e).1
  refine ⟨?_, e1⟩
  cases e : isItinB ps ws C
  · cases e2 : isItinB ps ws (insSt s xs)
    · rfl
    · rw [e1 e2, e2] at e; cases e
  · have := srt_unique hq.symm h1 (itin_str e).1
    rw [this, e]
def addR (ps : List ByteArray) (ws : List Wy) (xs : List St) (s : St) : List St × Int :=
  if isItinB ps ws xs then (if okSt ps.length s then (if xs.length = 40 then ([], 3) else if isItinB ps ws (insSt s xs) then (insSt s xs, 0) else ([], 5)) else ([], 2)) else ([], 1)
theorem addR_bad {ps : List ByteArray} {ws : List Wy} {xs : List St} {s : St} (h : isItinB ps ws xs = false) : addR ps ws xs s = ([], 1) := by unfold addR; rw [h]; rfl
theorem addR_rng {ps : List ByteArray} {ws : List Wy} {xs : List St} {s : St} (h : isItinB ps ws xs = true) (h2 : okSt ps.length s = false) : addR ps ws xs s = ([], 2) := by unfold addR; rw [h, h2]; rfl
theorem addR_lim {ps : List ByteArray} {ws : List Wy} {xs : List St} {s : St} (h : isItinB ps ws xs = true) (h2 : okSt ps.length s = true) (h3 : xs.length = 40) : addR ps ws xs s = ([], 3) := by unfold addR; rw [if_pos h, if_pos h2, if_pos h3]
theorem addR_not {ps : List ByteArray} {ws : List Wy} {xs : List St} {s : St} (h : isItinB ps ws xs = true) (h2 : okSt ps.length s = true) (h3 : ¬ xs.length = 40) (h4 : isItinB ps ws (insSt s xs) = false) : addR ps ws xs s = ([], 5) := by unfold addR; rw [if_pos h, if_pos h2, if_neg h3, h4]; rfl
theorem addR_ok {ps : List ByteArray} {ws : List Wy} {xs : List St} {s : St} (h : isItinB ps ws xs = true) (h2 : okSt ps.length s = true) (h3 : ¬ xs.length = 40) (h4 : isItinB ps ws (insSt s xs) = true) : addR ps ws xs s = (insSt s xs, 0) := by unfold addR; rw [if_pos h, if_pos h2, if_neg h3, if_pos h4]
theorem addR_len (ps : List ByteArray) (ws : List Wy) (xs : List St) (s : St) : (addR ps ws xs s).1.length ≤ 41 := by
  unfold addR
  split
  · rename_i h
    have := (itin_str h).2
    repeat' split
    all_goals simp [insSt_len]
    all_goals omega
  · simp
end

section
open Go.ChangeShapes Go.WideShapes Go.ChangeAt Go.RowKit Go.IntWalk

theorem wpList_append_all {P : Program} (w : World) {ops : Array Oper} {rest : List Oper} {o : Oper} {a : Act} {Q : Exit → Act → World → Prop} (hgd : o.guard = none) (s x : Operand) (t : TypeId)
    (ho : o.op = .call { callee := .builtin .append, args := #[s, x], argTypes := #[t, t] })
    (base : Nat) (e : TypeId) (i : TypeInfo) (z : Value) (size bytes : Nat) (ht : P.underlying t = some (.slice e)) (hi : P.info? e = some i) (hz : i.zero = some z)
    (hsize : i.size = size) (hby : i.bytes = bytes) (hzs : z.cells.size = size) (hsz : 0 < size)
    (g0 c0 : Nat) (n : Nat) (xs : List Value) (hs : a.eval s = .slice (some ⟨g0, 0, none⟩) n c0) (hown : w.ownsRow base e size (.slice (some ⟨g0, 0, none⟩) n c0) n xs)
    (ad : Addr) (m c : Nat) (news : List Value) (hx : a.eval x = .slice (some ad) m c) (hl : news.length = m * size) (hnews : ∀ j u, news[j]? = some u → w.cell? (ad.add j) = some u) (h1 : ∀ u ∈ news, u.oneCell' = true)
    (h63 : n + m ≤ maxLen) (hbytes : (n + m) * bytes ≤ 140737488355328) (hbase : base ≤ w.heap.size)
    (h : ∀ g cap w', w'.ownsRow base e size (.slice (some ⟨g, 0, none⟩) (n + m) cap) (n + m) (xs ++ news) → w.grownBy w' (some g0) → (g = g0 ∨ g = w.heap.size) → wpList P ops Q rest (a.put o.dst (.slice (some ⟨g, 0, none⟩) (n + m) cap)) w') : wpList P ops Q (o :: rest) a w :=
  wpList_plain hgd fun _ hK => by
    obtain ⟨g, cap, w', hr, h2, h3, h4⟩ := run_append_any (P := P) w t o.type base e i z size bytes ht hi hz hsize hby hzs hsz g0 c0 n xs hown ad m c news hl hnews h1 h63 hbytes hbase
    unfold Oper.wp execOp
    simp only [ho, resolve, invoke, builtin, Sem.run_bind, Sem.run_pure, Result.andThen_ok, List.map_toArray, List.map_cons, List.map_nil, hs, hx, hr]
    exact hK _ _ (h g cap w' h2 h3 h4)
theorem belowC (w : World) (o : Obj) : Below w.heap.size w (w.alloc o) := (Below.refl _ _).alloc (Nat.le_refl _) _
theorem rd_partQ {α : Type} {enc : α → List Value} {k : Nat} (hk : ∀ x, (enc x).length = k) (hk0 : 0 < k) {w : World} {g : Nat} {xs : List α} (h : Rd enc w (some ⟨g, 0, none⟩) xs) (q r : Nat) : ∀ j u, (((xs.drop q).take r).flatMap enc)[j]? = some u → w.cell? (Addr.add ⟨g, q * k, none⟩ j) = some u := by
  intro j u hu
  rw [Addr.add_lit]
  have hj := (List.getElem?_eq_some_iff.1 hu).1
  rw [length_flatMap_enc enc k hk] at hj
  have hi : j / k < ((xs.drop q).take r).length := (Nat.div_lt_iff_lt_mul hk0).2 hj
  have hx := List.getElem?_eq_getElem hi
  have hv := List.getElem?_eq_getElem (show j % k < (enc ((xs.drop q).take r)[j / k]).length by rw [hk]; exact Nat.mod_lt _ hk0)
  have h3 := flatMap_at enc k hk _ (j / k) _ (j % k) _ hx hv
  have hjk : j / k * k + j % k = j := by rw [Nat.mul_comm]; exact Nat.div_add_mod j k
  rw [hjk, hu] at h3
  injection h3 with h3
  generalize ((xs.drop q).take r)[j / k] = x at hx hv h3
  have hx2 : xs[q + j / k]? = some x := by
    rw [List.getElem?_take] at hx
    split at hx
    · rw [List.getElem?_drop] at hx; exact hx
    · cases hx
  obtain ⟨b, off, e0, hb, hc⟩ := h _ x hx2
  injection e0 with e0
  injection e0 with e0 e1
  subst e0; subst e1
  have := hc _ _ hv
  rw [← h3] at this
  rw [hk, Nat.zero_add, Nat.add_mul] at this
  rw [← hjk, ← Nat.add_assoc]
  exact this
theorem rd_allQ {α : Type} {enc : α → List Value} {k : Nat} (hk : ∀ x, (enc x).length = k) (hk0 : 0 < k) {w : World} {g : Nat} {xs : List α} (h : Rd enc w (some ⟨g, 0, none⟩) xs) : ∀ j u, (xs.flatMap enc)[j]? = some u → w.cell? (Addr.add ⟨g, 0, none⟩ j) = some u := by
  have := rd_partQ hk hk0 h 0 xs.length
  simpa using this
theorem rd_takeQ {α : Type} {enc : α → List Value} {k : Nat} (hk : ∀ x, (enc x).length = k) (hk0 : 0 < k) {w : World} {g : Nat} {xs : List α} (h : Rd enc w (some ⟨g, 0, none⟩) xs) (q : Nat) : ∀ j u, ((xs.take q).flatMap enc)[j]? = some u → w.cell? (Addr.add ⟨g, 0, none⟩ j) = some u := by
  have := rd_partQ hk hk0 h 0 q
  simpa using this
theorem rd_dropQ {α : Type} {enc : α → List Value} {k : Nat} (hk : ∀ x, (enc x).length = k) (hk0 : 0 < k) {w : World} {g : Nat} {xs : List α} (h : Rd enc w (some ⟨g, 0, none⟩) xs) (q : Nat) : ∀ j u, ((xs.drop q).flatMap enc)[j]? = some u → w.cell? (Addr.add ⟨g, q * k, none⟩ j) = some u := by
  have := rd_partQ hk hk0 h q (xs.length - q)
  rw [List.take_of_length_le (by simp)] at this
  exact this
theorem Box.newsQ {B : Nat} {w : World} {T : TypeId} {g : Nat} {xs : List Value} (h : Box B w T g xs) : ∀ j u, xs[j]? = some u → w.cell? (Addr.add ⟨g, 0, none⟩ j) = some u := by
  intro j u hu
  rw [Addr.add_lit, Nat.zero_add]
  exact Box.cell h j u hu
theorem stOne1 (m : St) : ∀ u ∈ encSt m, u.oneCell' = true := fun u hu => by simp [encSt] at hu; rcases hu with rfl | rfl | rfl <;> rfl
theorem stOne (l : List St) : ∀ u ∈ l.flatMap encSt, u.oneCell' = true := fun u hu => by
  obtain ⟨m, _, hm⟩ := List.mem_flatMap.1 hu
  exact stOne1 m u hm
end

section
open Go.ChangeShapes Go.WideShapes Go.ChangeAt Go.RowKit Go.IntWalk

set_option maxRecDepth 100000 in
set_option maxHeartbeats 8000000 in
theorem specAdd_any (a0 a1 : Option Addr) (ga cap0 cap1 cap : Nat) (xs0 : List ByteArray) (xs1 : List Wy) (xs2 : List St) (s : St) (w : World) (hc0 : xs0.length ≤ cap0) (hc1 : cap0 ≤ 9223372036854775807) (hl0 : xs0.length ≤ 1048576) (hx0 : Rd encS w a0 xs0) (hs0 : ∀ m ∈ xs0, m.size ≤ 1048576) (hl1 : xs1.length ≤ 1048576) (hx1 : Rd encWy w a1 xs1) (hl2 : xs2.length ≤ 1048576) (hx2 : Rd encSt w (some ⟨ga, 0, none⟩) xs2) (hcap : xs2.length ≤ cap) :
    Calls Tryz.prog 21 #[.agg #[.slice a0 xs0.length cap0, .slice a1 xs1.length cap1], .slice (some ⟨ga, 0, none⟩) xs2.length cap, .agg #[.int .i64 s.place, .int .i64 s.fr, .int .i64 s.to]] w fun e w' => ∃ b c, e = .returned (.tuple #[.slice b (addR xs0 xs1 xs2 s).1.length c, .int .i64 (addR xs0 xs1 xs2 s).2]) ∧ w'.ownsRow w.heap.size 49 3 (.slice b (addR xs0 xs1 xs2 s).1.length c) (addR xs0 xs1 xs2 s).1.length ((addR xs0 xs1 xs2 s).1.flatMap encSt) ∧ Below w.heap.size w w' := by
  obtain ⟨i0, hi, hz0, hz1, hz2⟩ := info_parts infoSt
  have HS0 := Lib.hid (fun W => l15Stay_any a0 a1 cap0 cap1 xs0.length xs1.length s W hl0)
  have HM0 := Lib.hid (fun b W (h0 : Rd encS W a0 xs0) (h1 : Rd encWy W a1 xs1) (h2 : Rd encSt W (some ⟨ga, 0, none⟩) xs2) => l15Code_any a0 a1 (some ⟨ga, 0, none⟩) cap0 cap1 cap xs0 xs1 xs2 b W hc0 hc1 hl0 h0 hs0 hl1 h1 hl2 h2)
  have HI0 := Lib.hid (fun W a2 c2 n (h0 : Rd encS W a0 xs0) (h1 : Rd encWy W a1 xs1) (ys : List St) (hn : ys.length = n) (h2 : Rd encSt W a2 ys) (hl : ys.length ≤ 1048576) => hn ▸ specIsItin_any a0 a1 a2 cap0 cap1 c2 xs0 xs1 ys W hc0 hc1 hl0 h0 hs0 hl1 h1 hl h2)
  cases hA : isItinB xs0 xs1 xs2
  · have hR := Lib.hid (addR_bad (s := s) hA)
    have HS : Hid (∀ W, Calls Tryz.prog 61 #[.agg #[.slice a0 xs0.length cap0, .slice a1 xs1.length cap1], .agg #[.int .i64 s.place, .int .i64 s.fr, .int .i64 s.to]] W fun e w' => e = .returned (.bool (okSt xs0.length s)) ∧ Below W.heap.size W w') := HS0.out
    have HM := Lib.hid (fun W h0 h1 h2 => show Calls _ _ _ _ (fun e w' => e = .returned (.int .i64 1) ∧ Below W.heap.size W w') from (show codeI xs0 xs1 xs2 (okSt xs0.length s) = 1 by unfold codeI; rw [hA]; rfl) ▸ HM0.out (okSt xs0.length s) W h0 h1 h2)
    clear hA HS0 HM0 HI0
    generalize okSt xs0.length s = bs at HS HM
    go_enter Tryz.func21, Tryz.ntmps21
    go_upto_region 1 with (fail)
    generalize hW : (w.alloc (.cells #[.slice a0 xs0.length cap0, .slice a1 xs1.length cap1] 35)).alloc (.cells #[.int .i64 s.place, .int .i64 s.fr, .int .i64 s.to] 49) = W
    have hB0 : Below w.heap.size w W := by rw [← hW]; go_grown
    have hs9 : W.heap.size = w.heap.size + 2 := by rw [← hW]; simp
    have HC : Hid (∀ V, Below W.heap.size W V → V.cell? ⟨w.heap.size, 0, none⟩ = some (.slice a0 xs0.length cap0) ∧ V.cell? ⟨w.heap.size, 1, none⟩ = some (.slice a1 xs1.length cap1) ∧ V.cell? ⟨w.heap.size + 1, 0, none⟩ = some (.int .i64 s.place) ∧ V.cell? ⟨w.heap.size + 1, 1, none⟩ = some (.int .i64 s.fr) ∧ V.cell? ⟨w.heap.size + 1, 2, none⟩ = some (.int .i64 s.to)) := by
      intro V hV
      refine ⟨((bcell hV).1 _ _ (by omega)).trans ?_, ((bcell hV).1 _ _ (by omega)).trans ?_, ((bcell hV).1 _ _ (by omega)).trans ?_, ((bcell hV).1 _ _ (by omega)).trans ?_, ((bcell hV).1 _ _ (by omega)).trans ?_⟩
      · rw [← hW, World.cell?_alloc_past _ _ _ (by simp)]; exact World.cell?_alloc_at _ _ _ _ rfl
      · rw [← hW, World.cell?_alloc_past _ _ _ (by simp)]; exact World.cell?_alloc_at _ _ _ _ rfl
      · rw [← hW]; exact World.cell?_alloc_at _ _ _ _ (by simp)
      · rw [← hW]; exact World.cell?_alloc_at _ _ _ _ (by simp)
      · rw [← hW]; exact World.cell?_alloc_at _ _ _ _ (by simp)
    clear hW
    have hb0 : w.heap.size < W.heap.size := by omega
    have hb1 : w.heap.size + 1 < W.heap.size := by omega
    clear hs9
    obtain ⟨l0, l1, d0, d1, d2⟩ := HC.out W (Below.refl _ _)
    have L0 := Later.cell l0 hb0
    have L1 := Later.cell l1 hb0
    have D0 := Later.cell d0 hb1
    have D1 := Later.cell d1 hb1
    have D2 := Later.cell d2 hb1
    refine wp_region_later W (by kernel_rfl) (by kernel_rfl) ?_
    repeat (go_big_quiet_step ((first | (go_at_call 61; exact Later.call (Nat.le_refl _) (HS.out _)) | (go_at_call 43; exact Later.call (Nat.le_refl _) (HM.out _ ((hx0.below hB0).below (Later.prop _)) ((hx1.below hB0).below (Later.prop _)) ((hx2.below hB0).below (Later.prop _)))))))
    refine wpQuiet_nil ?_
    intro z
    have hz := z.prop
    generalize z.val = V1 at hz
    clear L0 L1 D0 D1 D2 l0 l1 d0 d1 d2
    go_wp2
    go_ret2
    rw [hR.out]
    exact ⟨none, 0, rfl, World.ownsRow_nil _ _ _ _, stepB hB0 hz hB0.size⟩

  have HA := Lib.hid hA
  have h40 := (itin_str hA).2
  cases hD : okSt xs0.length s
  · have hR := Lib.hid (addR_rng hA hD)
    have HS := Lib.hid (fun W => hD ▸ HS0.out W)
    have HM := Lib.hid (fun W h0 h1 h2 => show Calls _ _ _ _ (fun e w' => e = .returned (.int .i64 2) ∧ Below W.heap.size W w') from (show codeI xs0 xs1 xs2 false = 2 by unfold codeI; rw [hA]; rfl) ▸ HM0.out false W h0 h1 h2)
    clear hA hD HS0 HM0 HI0
    go_enter Tryz.func21, Tryz.ntmps21
    go_upto_region 1 with (fail)
    generalize hW : (w.alloc (.cells #[.slice a0 xs0.length cap0, .slice a1 xs1.length cap1] 35)).alloc (.cells #[.int .i64 s.place, .int .i64 s.fr, .int .i64 s.to] 49) = W
    have hB0 : Below w.heap.size w W := by rw [← hW]; go_grown
    have hs9 : W.heap.size = w.heap.size + 2 := by rw [← hW]; simp
    have HC : Hid (∀ V, Below W.heap.size W V → V.cell? ⟨w.heap.size, 0, none⟩ = some (.slice a0 xs0.length cap0) ∧ V.cell? ⟨w.heap.size, 1, none⟩ = some (.slice a1 xs1.length cap1) ∧ V.cell? ⟨w.heap.size + 1, 0, none⟩ = some (.int .i64 s.place) ∧ V.cell? ⟨w.heap.size + 1, 1, none⟩ = some (.int .i64 s.fr) ∧ V.cell? ⟨w.heap.size + 1, 2, none⟩ = some (.int .i64 s.to)) := by
      intro V hV
      refine ⟨((bcell hV).1 _ _ (by omega)).trans ?_, ((bcell hV).1 _ _ (by omega)).trans ?_, ((bcell hV).1 _ _ (by omega)).trans ?_, ((bcell hV).1 _ _ (by omega)).trans ?_, ((bcell hV).1 _ _ (by omega)).trans ?_⟩
      · rw [← hW, World.cell?_alloc_past _ _ _ (by simp)]; exact World.cell?_alloc_at _ _ _ _ rfl
      · rw [← hW, World.cell?_alloc_past _ _ _ (by simp)]; exact World.cell?_alloc_at _ _ _ _ rfl
      · rw [← hW]; exact World.cell?_alloc_at _ _ _ _ (by simp)
      · rw [← hW]; exact World.cell?_alloc_at _ _ _ _ (by simp)
      · rw [← hW]; exact World.cell?_alloc_at _ _ _ _ (by simp)
    clear hW
    have hb0 : w.heap.size < W.heap.size := by omega
    have hb1 : w.heap.size + 1 < W.heap.size := by omega
    clear hs9
    obtain ⟨l0, l1, d0, d1, d2⟩ := HC.out W (Below.refl _ _)
    have L0 := Later.cell l0 hb0
    have L1 := Later.cell l1 hb0
    have D0 := Later.cell d0 hb1
    have D1 := Later.cell d1 hb1
    have D2 := Later.cell d2 hb1
    refine wp_region_later W (by kernel_rfl) (by kernel_rfl) ?_
    repeat (go_big_quiet_step ((first | (go_at_call 61; exact Later.call (Nat.le_refl _) (HS.out _)) | (go_at_call 43; exact Later.call (Nat.le_refl _) (HM.out _ ((hx0.below hB0).below (Later.prop _)) ((hx1.below hB0).below (Later.prop _)) ((hx2.below hB0).below (Later.prop _)))))))
    refine wpQuiet_nil ?_
    intro z
    have hz := z.prop
    generalize z.val = V1 at hz
    clear L0 L1 D0 D1 D2 l0 l1 d0 d1 d2
    go_wp2
    go_ret2
    rw [hR.out]
    exact ⟨none, 0, rfl, World.ownsRow_nil _ _ _ _, stepB hB0 hz hB0.size⟩

  have HD := Lib.hid hD
  have HS := Lib.hid (fun W => hD ▸ HS0.out W)
  have HM := Lib.hid (fun W h0 h1 h2 => show Calls _ _ _ _ (fun e w' => e = .returned (.int .i64 0) ∧ Below W.heap.size W w') from (show codeI xs0 xs1 xs2 true = 0 by unfold codeI; rw [hA]; rfl) ▸ HM0.out true W h0 h1 h2)
  clear hA hD HS0 HM0
  by_cases h4 : xs2.length = 40
  · have h41 : (xs2.length : Int) = 40 := by omega
    have hR := Lib.hid (addR_lim HA.out HD.out h4)
    clear HI0 h4
    go_enter Tryz.func21, Tryz.ntmps21
    go_upto_region 1 with (fail)
    generalize hW : (w.alloc (.cells #[.slice a0 xs0.length cap0, .slice a1 xs1.length cap1] 35)).alloc (.cells #[.int .i64 s.place, .int .i64 s.fr, .int .i64 s.to] 49) = W
    have hB0 : Below w.heap.size w W := by rw [← hW]; go_grown
    have hs9 : W.heap.size = w.heap.size + 2 := by rw [← hW]; simp
    have HC : Hid (∀ V, Below W.heap.size W V → V.cell? ⟨w.heap.size, 0, none⟩ = some (.slice a0 xs0.length cap0) ∧ V.cell? ⟨w.heap.size, 1, none⟩ = some (.slice a1 xs1.length cap1) ∧ V.cell? ⟨w.heap.size + 1, 0, none⟩ = some (.int .i64 s.place) ∧ V.cell? ⟨w.heap.size + 1, 1, none⟩ = some (.int .i64 s.fr) ∧ V.cell? ⟨w.heap.size + 1, 2, none⟩ = some (.int .i64 s.to)) := by
      intro V hV
      refine ⟨((bcell hV).1 _ _ (by omega)).trans ?_, ((bcell hV).1 _ _ (by omega)).trans ?_, ((bcell hV).1 _ _ (by omega)).trans ?_, ((bcell hV).1 _ _ (by omega)).trans ?_, ((bcell hV).1 _ _ (by omega)).trans ?_⟩
      · rw [← hW, World.cell?_alloc_past _ _ _ (by simp)]; exact World.cell?_alloc_at _ _ _ _ rfl
      · rw [← hW, World.cell?_alloc_past _ _ _ (by simp)]; exact World.cell?_alloc_at _ _ _ _ rfl
      · rw [← hW]; exact World.cell?_alloc_at _ _ _ _ (by simp)
      · rw [← hW]; exact World.cell?_alloc_at _ _ _ _ (by simp)
      · rw [← hW]; exact World.cell?_alloc_at _ _ _ _ (by simp)
    clear hW
    have hb0 : w.heap.size < W.heap.size := by omega
    have hb1 : w.heap.size + 1 < W.heap.size := by omega
    clear hs9
    obtain ⟨l0, l1, d0, d1, d2⟩ := HC.out W (Below.refl _ _)
    have L0 := Later.cell l0 hb0
    have L1 := Later.cell l1 hb0
    have D0 := Later.cell d0 hb1
    have D1 := Later.cell d1 hb1
    have D2 := Later.cell d2 hb1
    refine wp_region_later W (by kernel_rfl) (by kernel_rfl) ?_
    repeat (go_big_quiet_step ((first | (go_at_call 61; exact Later.call (Nat.le_refl _) (HS.out _)) | (go_at_call 43; exact Later.call (Nat.le_refl _) (HM.out _ ((hx0.below hB0).below (Later.prop _)) ((hx1.below hB0).below (Later.prop _)) ((hx2.below hB0).below (Later.prop _)))))))
    refine wpQuiet_nil ?_
    intro z
    have hz := z.prop
    generalize z.val = V1 at hz
    clear L0 L1 D0 D1 D2 l0 l1 d0 d1 d2
    go_wp2
    go_ret2
    rw [hR.out]
    exact ⟨none, 0, rfl, World.ownsRow_nil _ _ _ _, stepB hB0 hz hB0.size⟩

  have h41 : ((xs2.length : Int) == 40) = false := by simp; omega
  have hRn := Lib.hid (addR_not HA.out HD.out h4)
  have hRo := Lib.hid (addR_ok HA.out HD.out h4)
  replace h4 := Lib.hid h4
  go_enter Tryz.func21, Tryz.ntmps21
  go_upto_region 1 with (fail)
  generalize hW : (w.alloc (.cells #[.slice a0 xs0.length cap0, .slice a1 xs1.length cap1] 35)).alloc (.cells #[.int .i64 s.place, .int .i64 s.fr, .int .i64 s.to] 49) = W
  have hB0 : Below w.heap.size w W := by rw [← hW]; go_grown
  have hs9 : W.heap.size = w.heap.size + 2 := by rw [← hW]; simp
  have HC : Hid (∀ V, Below W.heap.size W V → V.cell? ⟨w.heap.size, 0, none⟩ = some (.slice a0 xs0.length cap0) ∧ V.cell? ⟨w.heap.size, 1, none⟩ = some (.slice a1 xs1.length cap1) ∧ V.cell? ⟨w.heap.size + 1, 0, none⟩ = some (.int .i64 s.place) ∧ V.cell? ⟨w.heap.size + 1, 1, none⟩ = some (.int .i64 s.fr) ∧ V.cell? ⟨w.heap.size + 1, 2, none⟩ = some (.int .i64 s.to)) := by
    intro V hV
    refine ⟨((bcell hV).1 _ _ (by omega)).trans ?_, ((bcell hV).1 _ _ (by omega)).trans ?_, ((bcell hV).1 _ _ (by omega)).trans ?_, ((bcell hV).1 _ _ (by omega)).trans ?_, ((bcell hV).1 _ _ (by omega)).trans ?_⟩
    · rw [← hW, World.cell?_alloc_past _ _ _ (by simp)]; exact World.cell?_alloc_at _ _ _ _ rfl
    · rw [← hW, World.cell?_alloc_past _ _ _ (by simp)]; exact World.cell?_alloc_at _ _ _ _ rfl
    · rw [← hW]; exact World.cell?_alloc_at _ _ _ _ (by simp)
    · rw [← hW]; exact World.cell?_alloc_at _ _ _ _ (by simp)
    · rw [← hW]; exact World.cell?_alloc_at _ _ _ _ (by simp)
  clear hW
  have hb0 : w.heap.size < W.heap.size := by omega
  have hb1 : w.heap.size + 1 < W.heap.size := by omega
  clear hs9
  obtain ⟨l0, l1, d0, d1, d2⟩ := HC.out W (Below.refl _ _)
  have L0 := Later.cell l0 hb0
  have L1 := Later.cell l1 hb0
  have D0 := Later.cell d0 hb1
  have D1 := Later.cell d1 hb1
  have D2 := Later.cell d2 hb1
  refine wp_region_later W (by kernel_rfl) (by kernel_rfl) ?_
  repeat (go_big_quiet_step ((first | (go_at_call 61; exact Later.call (Nat.le_refl _) (HS.out _)) | (go_at_call 43; exact Later.call (Nat.le_refl _) (HM.out _ ((hx0.below hB0).below (Later.prop _)) ((hx1.below hB0).below (Later.prop _)) ((hx2.below hB0).below (Later.prop _)))))))
  refine wpQuiet_nil ?_
  intro z
  have hz := z.prop
  generalize z.val = V1 at hz
  clear L0 L1 D0 D1 D2 l0 l1 d0 d1 d2
  clear HS HM
  go_upto_block 1 with (fail)
  go_cut [9] from 25 to 40 (fun s9 wx => ∃ q : Nat, s9 = .int .i64 q ∧ q ≤ xs2.length ∧ Hid (∀ x ∈ xs2.take q, x.fr ≤ s.fr) ∧ Hid (∀ x, xs2[q]? = some x → ¬ x.fr ≤ s.fr) ∧ Below W.heap.size W wx)
  case first =>
    go_wp2
    go_loopw [9] (fun i wr => ∃ k : Nat, k ≤ xs2.length ∧ i = .int .i64 k ∧ Hid (∀ x ∈ xs2.take k, x.fr ≤ s.fr) ∧ Below W.heap.size W wr) (fun i _ => xs2.length - (intOf i).toNat)
    case atStart => exact ⟨0, Nat.zero_le _, rfl, fun x hx => by simp at hx, hz⟩
    case round =>
      clear hz
      obtain ⟨k, hk, rfl, hlo, hz⟩ := hrel
      obtain ⟨-, -, -, d1, -⟩ := HC.out _ hz
      have hb1r : w.heap.size + 1 < wr.heap.size := Nat.lt_of_lt_of_le hb1 hz.size
      by_cases hlt : k < xs2.length
      · have hk1 : (k : Int) < (xs2.length : Int) := by omega
        have hm := List.getElem?_eq_getElem hlt
        generalize xs2[k] = m at hm
        obtain ⟨b, off, e0, hbb, c0, c1, c2⟩ := ((hx2.below hB0).below hz).st hm
        injection e0 with e0
        injection e0 with e0 e1
        subst e0; subst e1
        have D1 := Later.cell d1 hb1r
        rw [Nat.zero_add] at c1
        have C1 := Later.cell c1 hbb
        clear c0 c1 c2 d1
        by_cases hle : m.fr ≤ s.fr
        · have hstep : Hid (∀ x ∈ xs2.take (k + 1), x.fr ≤ s.fr) := by
            intro x hx
            obtain ⟨h1, rfl⟩ := List.getElem?_eq_some_iff.1 hm
            rw [List.take_succ_eq_append_getElem h1] at hx
            rcases List.mem_append.1 hx with hx | hx
            · exact hlo.out x hx
            · rw [List.mem_singleton.1 hx]; exact hle
          clear hm
          go_wp2_with fail
          refine wp_region_later wr (by kernel_rfl) (by kernel_rfl) ?_
          repeat (go_big_quiet_step (fail))
          refine wpQuiet_nil ?_
          intro z'
          have hy := z'.prop
          generalize z'.val = w5 at hy
          clear C1 D1
          replace hz := stepB hz hy hz.size
          clear hy
          go_wp2
          go_roundw
          case rel => exact ⟨k + 1, by omega, by go_num, hstep, hz⟩
          case measure => simp [intOf]; omega
        · have hle' : decide (m.fr ≤ s.fr) = false := by simpa using hle
          have hstop : Hid (∀ x, xs2[k]? = some x → ¬ x.fr ≤ s.fr) := by
            intro x hx
            rw [hm] at hx
            cases hx
            exact hle
          clear hm hle
          go_wp2_with fail
          refine wp_region_later wr (by kernel_rfl) (by kernel_rfl) ?_
          repeat (go_big_quiet_step (fail))
          refine wpQuiet_nil ?_
          intro z'
          have hy := z'.prop
          generalize z'.val = w5 at hy
          clear C1 D1
          replace hz := stepB hz hy hz.size
          clear hy
          go_wp2
          go_meet
          case rel => exact ⟨k, rfl, hk, hlo, hstop, hz⟩
      · have hk1 : decide ((k : Int) < (xs2.length : Int)) = false := by simp; omega
        have hk2 : decide (k < xs2.length) = false := by simp; omega
        have hstop : Hid (∀ x, xs2[k]? = some x → ¬ x.fr ≤ s.fr) := by
          intro x hx
          rw [List.getElem?_eq_none (by omega)] at hx
          cases hx
        have D1 := Later.cell d1 hb1r
        go_wp2_with fail
        refine wp_region_later wr (by kernel_rfl) (by kernel_rfl) ?_
        repeat (go_big_quiet_step (fail))
        refine wpQuiet_nil ?_
        intro z'
        have hy := z'.prop
        generalize z'.val = w5 at hy
        clear D1 d1
        replace hz := stepB hz hy hz.size
        clear hy
        go_wp2
        go_meet
        case rel => exact ⟨k, rfl, hk, hlo, hstop, hz⟩
  case rest =>
    clear hz
    obtain ⟨q, rfl, hq, hlo, hhi, hBV⟩ := hcut
    by_cases hcq1 : cap = q
    · obtain rfl : q = xs2.length := by omega
      subst hcq1
      have hins : Hid (insSt s xs2 = xs2.take xs2.length ++ s :: xs2.drop xs2.length) := insSt_at hlo.out hhi.out
      clear hlo hhi
      have hqc : (xs2.length : Int) ≤ (xs2.length : Int) := by omega
      have hqk : (xs2.length : Int) ≤ (xs2.length : Int) := by omega
      go_upto_region 9 with (fail)
      refine MAny.region (S := fun w' => w'.cell? ⟨w.heap.size + 1, 0, none⟩ = some (.int .i64 s.place) ∧ w'.cell? ⟨w.heap.size + 1, 1, none⟩ = some (.int .i64 s.fr) ∧ w'.cell? ⟨w.heap.size + 1, 2, none⟩ = some (.int .i64 s.to)) (last := 12) (by kernel_rfl) ?_
      have hzV := (Below.refl wc.heap.size wc).drew
      generalize wc.drew = V0 at hzV ⊢
      have hN := Below.refl V0.heap.size V0
      obtain ⟨N0, hN0⟩ : ∃ N0, V0.heap.size = N0 := ⟨_, rfl⟩
      have hNN : ∀ W, Below N0 V0 W → Below V0.heap.size V0 W := fun W h => by rw [hN0]; exact h
      rw [hN0] at hN
      have HNN := Lib.hid hNN
      clear hNN
      replace hN0 := Lib.hid hN0
      have HD3 : Hid (∀ U, Below N0 V0 U → U.cell? ⟨w.heap.size + 1, 0, none⟩ = some (.int .i64 s.place) ∧ U.cell? ⟨w.heap.size + 1, 1, none⟩ = some (.int .i64 s.fr) ∧ U.cell? ⟨w.heap.size + 1, 2, none⟩ = some (.int .i64 s.to)) := fun U hU => (HC.out U (stepB (stepB hBV hzV hBV.size) (HNN.out U hU) (stepB hBV hzV hBV.size).size)).2.2
      have HX : Hid (∀ U, Below N0 V0 U → Rd encSt U (some ⟨ga, 0, none⟩) xs2) := fun U hU => (hx2.below hB0).below (stepB (stepB hBV hzV hBV.size) (HNN.out U hU) (stepB hBV hzV hBV.size).size)
      have hHeld := HD3.out _ hN
      refine MAny.take (i := 1) (v := ?_) rfl (by kernel_rfl) (by kernel_rfl) (by kernel_rfl) (fun _ _ _ h => h) (by kernel_rfl) (Or.inl ⟨by rfl, ?_⟩) (by assumption) ?_
      rotate_left
      · (intro w' hSw; (try dsimp only at hSw); go_simp; try (with_reducible rfl))
      try simp only [Act.put, List.setIfInBounds_toArray]
      refine MAny.take (i := 2) (v := ?_) rfl (by kernel_rfl) (by kernel_rfl) (by kernel_rfl) (fun _ _ _ h => h) (by kernel_rfl) (Or.inl ⟨by rfl, ?_⟩) (by assumption) ?_
      rotate_left
      · (intro w' hSw; (try dsimp only at hSw); go_simp; try (with_reducible rfl))
      try simp only [Act.put]
      refine MAny.take (i := 3) (v := ?_) rfl (by kernel_rfl) (by kernel_rfl) (by kernel_rfl) (fun _ _ _ h => h) (by kernel_rfl) (Or.inl ⟨by rfl, ?_⟩) (by assumption) ?_
      rotate_left
      · (intro w' hSw; (try dsimp only at hSw); go_simp; try (with_reducible rfl))
      try simp only [Act.put]
      refine MAny.take (i := 5) (v := ?_) rfl (by kernel_rfl) (by kernel_rfl) (by kernel_rfl) (fun _ _ _ h => h) (by kernel_rfl) (Or.inl ⟨by rfl, ?_⟩) (by assumption) ?_
      rotate_left
      · (intro w' hSw; (try dsimp only at hSw); go_simp; try (with_reducible rfl))
      try simp only [Act.put]
      refine MAny.take (i := 8) (v := ?_) rfl (by kernel_rfl) (by kernel_rfl) (by kernel_rfl) (fun _ _ _ h => h) (by kernel_rfl) (Or.inl ⟨by rfl, ?_⟩) (by assumption) ?_
      rotate_left
      · (intro w' hSw; (try dsimp only at hSw); go_simp; try (with_reducible rfl))
      try simp only [Act.put]
      refine MAny.take (i := 9) (v := ?_) rfl (by kernel_rfl) (by kernel_rfl) (by kernel_rfl) (fun _ _ _ h => h) (by kernel_rfl) (Or.inl ⟨by rfl, ?_⟩) (by assumption) ?_
      rotate_left
      · (intro w' hSw; (try dsimp only at hSw); go_simp; try (with_reducible rfl))
      try simp only [Act.put]
      refine MAny.take (i := 10) (v := ?_) rfl (by kernel_rfl) (by kernel_rfl) (by kernel_rfl) (fun _ _ _ h => h) (by kernel_rfl) (Or.inl ⟨by rfl, ?_⟩) (by assumption) ?_
      rotate_left
      · (intro w' hSw; (try dsimp only at hSw); go_simp; try (with_reducible rfl))
      try simp only [Act.put]
      refine MAny.ready (rs := [0, 6]) (by kernel_rfl) (by simp) ?_
      refine MReady.cons rfl (fun K hK => ?_) (MReady.cons rfl (fun K hK => ?_) MReady.nil)
      · go_simp
        have ow := World.ownsRow_made V0 #[] 0 (Nat.le_trans (Nat.le_of_eq hN0.out.symm) hN.size) (by decide) rfl (e := 49) (size := 3)
        have hz := belowC V0 (.cells #[] 49)
        replace hN := stepB hN hz (Nat.le_trans (Nat.le_of_eq hN0.out.symm) hN.size)
        clear hz
        generalize V0.alloc (.cells #[] 49) = Wa at ow hN ⊢
        generalize V0.heap.size = og at ow ⊢
        have hHeld := HD3.out _ hN
        refine hK.out _ _ (.inr hHeld) ?_
        clear hK K
        refine MAny.ready (rs := [4, 6]) (by kernel_rfl) (by simp) ?_
        refine MReady.cons rfl (fun K hK => ?_) (MReady.cons rfl (fun K hK => ?_) MReady.nil)
        · refine step_append_any _ (by rfl) (.tmp 41) (.tmp 44) 36 (by rfl) N0 49 i0 (.agg #[.int .i64 0, .int .i64 0, .int .i64 0]) 3 24 Tryz.underlying36 hi hz0 hz1 hz2 rfl (by decide) _ _ 0 ([]) (by rfl) ow ⟨ga, 0, none⟩ xs2.length xs2.length ((xs2.take xs2.length).flatMap encSt) (by rfl) (by rw [length_flatMap_enc encSt 3 encSt_len, List.length_take, Nat.min_eq_left (by omega)]) (rd_takeQ encSt_len (by decide) (HX.out _ hN) xs2.length) (stOne (xs2.take xs2.length)) (by unfold maxLen; omega) (by omega) (Nat.le_trans (Nat.le_of_eq hN0.out.symm) hN.size) ?_
          intro og oc Wb ow2 hgr hor
          replace hN := hN.grown hgr (Nat.le_trans (Nat.le_of_eq hN0.out.symm) hN.size) (fun g e => by cases e; exact (own_lt ow).1)
          clear hor hgr
          replace ow := ow2
          clear ow2
          try simp only [Act.put, List.setIfInBounds_toArray]
          simp only [Nat.zero_add, List.nil_append] at ow ⊢
          have hHeld := HD3.out _ hN
          refine hK.out _ _ (.inr hHeld) ?_
          clear hK K
          refine MAny.ready (rs := [6]) (by kernel_rfl) (by simp) ?_
          refine MReady.cons rfl (fun K hK => ?_) MReady.nil
          go_simp
          have xb := Box.new Wb 49 [.int .i64 s.place, .int .i64 s.fr, .int .i64 s.to] N0 (Nat.le_trans (Nat.le_of_eq hN0.out.symm) hN.size) (by simp)
          have hz := belowC Wb (.cells #[.int .i64 s.place, .int .i64 s.fr, .int .i64 s.to] 49)
          have hxe : Wb.heap.size ≠ og := Nat.ne_of_gt (own_lt ow).2
          replace ow := own_below ow hz
          replace hN := stepB hN hz (Nat.le_trans (Nat.le_of_eq hN0.out.symm) hN.size)
          clear hz
          change Box _ (Wb.alloc (.cells #[.int .i64 s.place, .int .i64 s.fr, .int .i64 s.to] 49)) _ _ _ at xb
          generalize Wb.alloc (.cells #[.int .i64 s.place, .int .i64 s.fr, .int .i64 s.to] 49) = Wc at xb hN ow ⊢
          generalize Wb.heap.size = xg at xb hxe ⊢
          have hHeld := HD3.out _ hN
          refine hK.out _ _ (.inr hHeld) ?_
          clear hK K
          refine MAny.ready (rs := [7]) (by kernel_rfl) (by simp) ?_
          refine MReady.cons rfl (fun K hK => ?_) MReady.nil
          refine step_append_any _ (by rfl) (.tmp 45) (.tmp 47) 36 (by rfl) N0 49 i0 (.agg #[.int .i64 0, .int .i64 0, .int .i64 0]) 3 24 Tryz.underlying36 hi hz0 hz1 hz2 rfl (by decide) _ _ xs2.length ((xs2.take xs2.length).flatMap encSt) (by rfl) ow ⟨xg, 0, none⟩ 1 1 (encSt s) (by rfl) rfl (Box.newsQ xb) (stOne1 s) (by unfold maxLen; omega) (by omega) (Nat.le_trans (Nat.le_of_eq hN0.out.symm) hN.size) ?_
          intro og oc Wcb ow2 hgr hor
          have xl := (own_lt xb).2
          replace xb := Box.keep xb hgr hxe
          replace hxe : xg ≠ og := by rcases hor with e | e <;> omega
          clear xl
          replace hN := hN.grown hgr (Nat.le_trans (Nat.le_of_eq hN0.out.symm) hN.size) (fun g e => by cases e; exact (own_lt ow).1)
          clear hor hgr
          replace ow := ow2
          clear ow2
          try simp only [Act.put, List.setIfInBounds_toArray]
          have hHeld := HD3.out _ hN
          refine hK.out _ _ (.inr hHeld) ?_
          clear hK K
          refine MAny.ready (rs := [11]) (by kernel_rfl) (by simp) ?_
          refine MReady.cons rfl (fun K hK => ?_) MReady.nil
          first
            | refine step_append_any _ (by rfl) (.tmp 48) (.tmp 51) 36 (by rfl) N0 49 i0 (.agg #[.int .i64 0, .int .i64 0, .int .i64 0]) 3 24 Tryz.underlying36 hi hz0 hz1 hz2 rfl (by decide) _ _ (xs2.length + 1) ((xs2.take xs2.length).flatMap encSt ++ encSt s) (by rfl) ow ⟨ga, xs2.length * 3, none⟩ (xs2.length - xs2.length) (xs2.length - xs2.length) ((xs2.drop xs2.length).flatMap encSt) (by rfl) (by rw [length_flatMap_enc encSt 3 encSt_len, List.length_drop]) (rd_dropQ encSt_len (by decide) (HX.out _ hN) xs2.length) (stOne (xs2.drop xs2.length)) (by unfold maxLen; omega) (by omega) (Nat.le_trans (Nat.le_of_eq hN0.out.symm) hN.size) ?_
            | refine step_append_any _ (by rfl) (.tmp 48) (.tmp 51) 36 (by rfl) N0 49 i0 (.agg #[.int .i64 0, .int .i64 0, .int .i64 0]) 3 24 Tryz.underlying36 hi hz0 hz1 hz2 rfl (by decide) _ _ (xs2.length + 1) ((xs2.take xs2.length).flatMap encSt ++ encSt s) (by rfl) ow ⟨ga, 0, none⟩ 0 0 ([]) (by rfl) rfl (fun j u hu => by cases hu) (fun u hu => by cases hu) (by unfold maxLen; omega) (by omega) (Nat.le_trans (Nat.le_of_eq hN0.out.symm) hN.size) ?_
          intro og oc Wcc ow2 hgr hor
          have xl := (own_lt xb).2
          replace xb := Box.keep xb hgr hxe
          replace hxe : xg ≠ og := by rcases hor with e | e <;> omega
          clear xl
          replace hN := hN.grown hgr (Nat.le_trans (Nat.le_of_eq hN0.out.symm) hN.size) (fun g e => by cases e; exact (own_lt ow).1)
          clear hor hgr
          replace ow := ow2
          clear ow2
          try simp only [Act.put]
          first
            | (have hen : xs2.length + 1 + (xs2.length - xs2.length) = xs2.length + 1 := by omega
               have hcnt : (xs2.take xs2.length).flatMap encSt ++ encSt s ++ (xs2.drop xs2.length).flatMap encSt = (insSt s xs2).flatMap encSt := by rw [hins.out]; simp
               rw [hen, hcnt] at ow
               simp only [hen]
               clear hen hcnt)
            | (have hen : xs2.length + 1 + 0 = xs2.length + 1 := by omega
               have hcnt : (xs2.take xs2.length).flatMap encSt ++ encSt s ++ [] = (insSt s xs2).flatMap encSt := by rw [hins.out, List.drop_eq_nil_of_le (by omega)]; simp
               rw [hen, hcnt] at ow
               simp only [hen]
               clear hen hcnt)
          have hHeld := HD3.out _ hN
          refine hK.out _ _ (.inr hHeld) ?_
          clear hK K
          refine MAny.ready (rs := [12]) (by kernel_rfl) (by simp) ?_
          refine MReady.cons rfl (fun K hK => ?_) MReady.nil
          go_simp
          refine hK.out _ _ (.inl rfl) ?_
          clear hK K
          refine MAny.done (by kernel_rfl) ?_ _
          try simp only [List.getElem_toArray, List.getElem_cons_succ, List.getElem_cons_zero]
          have hV := stepB hBV hzV hBV.size
          have hN1 := stepB hV (HNN.out _ hN) hV.size
          have hw1 := stepB hB0 hN1 hB0.size
          have ow := own_base ow (show w.heap.size ≤ N0 by rw [← hN0.out]; exact (stepB hB0 hV hB0.size).size)
          clear hN HX HNN hN0 hHeld hxe xb
          obtain ⟨l0, l1, d0, d1, d2⟩ := HC.out _ hN1
          have HI := Lib.hid (fun W h0 h1 h2 => HI0.out W (some ⟨og, 0, none⟩) oc (xs2.length + 1) h0 h1 (insSt s xs2) (insSt_len s xs2) h2 (by rw [insSt_len]; omega))
          go_wp2_with fail
          refine (HI.out _ (hx0.below hw1) (hx1.below hw1) (Rd.of_own encSt_len (by decide) ow)).mono ?_
          rintro e U1 ⟨rfl, hB1⟩
          clear HI l0 l1 d0 d1 d2
          replace ow := own_below ow hB1
          have hw2 := stepB hw1 hB1 hw1.size
          have HLN := Lib.hid (insSt_len s xs2)
          cases hb : isItinB xs0 xs1 (insSt s xs2)
          · have hR := Lib.hid (hRn.out hb)
            clear hb
            go_wp2
            go_ret2
            rw [hR.out]
            exact ⟨none, 0, rfl, World.ownsRow_nil _ _ _ _, hw2⟩
          · have hR := Lib.hid (hRo.out hb)
            clear hb
            go_wp2
            go_ret2
            rw [hR.out]
            exact ⟨some ⟨og, 0, none⟩, oc, by rw [HLN.out]; rfl, by rw [HLN.out]; exact ow, hw2⟩
        · go_simp
          have xb := Box.new Wa 49 [.int .i64 s.place, .int .i64 s.fr, .int .i64 s.to] N0 (Nat.le_trans (Nat.le_of_eq hN0.out.symm) hN.size) (by simp)
          have hz := belowC Wa (.cells #[.int .i64 s.place, .int .i64 s.fr, .int .i64 s.to] 49)
          have hxe : Wa.heap.size ≠ og := Nat.ne_of_gt (own_lt ow).2
          replace ow := own_below ow hz
          replace hN := stepB hN hz (Nat.le_trans (Nat.le_of_eq hN0.out.symm) hN.size)
          clear hz
          change Box _ (Wa.alloc (.cells #[.int .i64 s.place, .int .i64 s.fr, .int .i64 s.to] 49)) _ _ _ at xb
          generalize Wa.alloc (.cells #[.int .i64 s.place, .int .i64 s.fr, .int .i64 s.to] 49) = Wb at xb hN ow ⊢
          generalize Wa.heap.size = xg at xb hxe ⊢
          have hHeld := HD3.out _ hN
          refine hK.out _ _ (.inr hHeld) ?_
          clear hK K
          refine MAny.ready (rs := [4]) (by kernel_rfl) (by simp) ?_
          refine MReady.cons rfl (fun K hK => ?_) MReady.nil
          refine step_append_any _ (by rfl) (.tmp 41) (.tmp 44) 36 (by rfl) N0 49 i0 (.agg #[.int .i64 0, .int .i64 0, .int .i64 0]) 3 24 Tryz.underlying36 hi hz0 hz1 hz2 rfl (by decide) _ _ 0 ([]) (by rfl) ow ⟨ga, 0, none⟩ xs2.length xs2.length ((xs2.take xs2.length).flatMap encSt) (by rfl) (by rw [length_flatMap_enc encSt 3 encSt_len, List.length_take, Nat.min_eq_left (by omega)]) (rd_takeQ encSt_len (by decide) (HX.out _ hN) xs2.length) (stOne (xs2.take xs2.length)) (by unfold maxLen; omega) (by omega) (Nat.le_trans (Nat.le_of_eq hN0.out.symm) hN.size) ?_
          intro og oc Wc ow2 hgr hor
          have xl := (own_lt xb).2
          replace xb := Box.keep xb hgr hxe
          replace hxe : xg ≠ og := by rcases hor with e | e <;> omega
          clear xl
          replace hN := hN.grown hgr (Nat.le_trans (Nat.le_of_eq hN0.out.symm) hN.size) (fun g e => by cases e; exact (own_lt ow).1)
          clear hor hgr
          replace ow := ow2
          clear ow2
          try simp only [Act.put, List.setIfInBounds_toArray]
          simp only [Nat.zero_add, List.nil_append] at ow ⊢
          have hHeld := HD3.out _ hN
          refine hK.out _ _ (.inr hHeld) ?_
          clear hK K
          refine MAny.ready (rs := [7]) (by kernel_rfl) (by simp) ?_
          refine MReady.cons rfl (fun K hK => ?_) MReady.nil
          refine step_append_any _ (by rfl) (.tmp 45) (.tmp 47) 36 (by rfl) N0 49 i0 (.agg #[.int .i64 0, .int .i64 0, .int .i64 0]) 3 24 Tryz.underlying36 hi hz0 hz1 hz2 rfl (by decide) _ _ xs2.length ((xs2.take xs2.length).flatMap encSt) (by rfl) ow ⟨xg, 0, none⟩ 1 1 (encSt s) (by rfl) rfl (Box.newsQ xb) (stOne1 s) (by unfold maxLen; omega) (by omega) (Nat.le_trans (Nat.le_of_eq hN0.out.symm) hN.size) ?_
          intro og oc Wcb ow2 hgr hor
          have xl := (own_lt xb).2
          replace xb := Box.keep xb hgr hxe
          replace hxe : xg ≠ og := by rcases hor with e | e <;> omega
          clear xl
          replace hN := hN.grown hgr (Nat.le_trans (Nat.le_of_eq hN0.out.symm) hN.size) (fun g e => by cases e; exact (own_lt ow).1)
          clear hor hgr
          replace ow := ow2
          clear ow2
          try simp only [Act.put]
          have hHeld := HD3.out _ hN
          refine hK.out _ _ (.inr hHeld) ?_
          clear hK K
          refine MAny.ready (rs := [11]) (by kernel_rfl) (by simp) ?_
          refine MReady.cons rfl (fun K hK => ?_) MReady.nil
          first
            | refine step_append_any _ (by rfl) (.tmp 48) (.tmp 51) 36 (by rfl) N0 49 i0 (.agg #[.int .i64 0, .int .i64 0, .int .i64 0]) 3 24 Tryz.underlying36 hi hz0 hz1 hz2 rfl (by decide) _ _ (xs2.length + 1) ((xs2.take xs2.length).flatMap encSt ++ encSt s) (by rfl) ow ⟨ga, xs2.length * 3, none⟩ (xs2.length - xs2.length) (xs2.length - xs2.length) ((xs2.drop xs2.length).flatMap encSt) (by rfl) (by rw [length_flatMap_enc encSt 3 encSt_len, List.length_drop]) (rd_dropQ encSt_len (by decide) (HX.out _ hN) xs2.length) (stOne (xs2.drop xs2.length)) (by unfold maxLen; omega) (by omega) (Nat.le_trans (Nat.le_of_eq hN0.out.symm) hN.size) ?_
            | refine step_append_any _ (by rfl) (.tmp 48) (.tmp 51) 36 (by rfl) N0 49 i0 (.agg #[.int .i64 0, .int .i64 0, .int .i64 0]) 3 24 Tryz.underlying36 hi hz0 hz1 hz2 rfl (by decide) _ _ (xs2.length + 1) ((xs2.take xs2.length).flatMap encSt ++ encSt s) (by rfl) ow ⟨ga, 0, none⟩ 0 0 ([]) (by rfl) rfl (fun j u hu => by cases hu) (fun u hu => by cases hu) (by unfold maxLen; omega) (by omega) (Nat.le_trans (Nat.le_of_eq hN0.out.symm) hN.size) ?_
          intro og oc Wcc ow2 hgr hor
          have xl := (own_lt xb).2
          replace xb := Box.keep xb hgr hxe
          replace hxe : xg ≠ og := by rcases hor with e | e <;> omega
          clear xl
          replace hN := hN.grown hgr (Nat.le_trans (Nat.le_of_eq hN0.out.symm) hN.size) (fun g e => by cases e; exact (own_lt ow).1)
          clear hor hgr
          replace ow := ow2
          clear ow2
          try simp only [Act.put]
          first
            | (have hen : xs2.length + 1 + (xs2.length - xs2.length) = xs2.length + 1 := by omega
               have hcnt : (xs2.take xs2.length).flatMap encSt ++ encSt s ++ (xs2.drop xs2.length).flatMap encSt = (insSt s xs2).flatMap encSt := by rw [hins.out]; simp
               rw [hen, hcnt] at ow
               simp only [hen]
               clear hen hcnt)
            | (have hen : xs2.length + 1 + 0 = xs2.length + 1 := by omega
               have hcnt : (xs2.take xs2.length).flatMap encSt ++ encSt s ++ [] = (insSt s xs2).flatMap encSt := by rw [hins.out, List.drop_eq_nil_of_le (by omega)]; simp
               rw [hen, hcnt] at ow
               simp only [hen]
               clear hen hcnt)
          have hHeld := HD3.out _ hN
          refine hK.out _ _ (.inr hHeld) ?_
          clear hK K
          refine MAny.ready (rs := [12]) (by kernel_rfl) (by simp) ?_
          refine MReady.cons rfl (fun K hK => ?_) MReady.nil
          go_simp
          refine hK.out _ _ (.inl rfl) ?_
          clear hK K
          refine MAny.done (by kernel_rfl) ?_ _
          try simp only [List.getElem_toArray, List.getElem_cons_succ, List.getElem_cons_zero]
          have hV := stepB hBV hzV hBV.size
          have hN1 := stepB hV (HNN.out _ hN) hV.size
          have hw1 := stepB hB0 hN1 hB0.size
          have ow := own_base ow (show w.heap.size ≤ N0 by rw [← hN0.out]; exact (stepB hB0 hV hB0.size).size)
          clear hN HX HNN hN0 hHeld hxe xb
          obtain ⟨l0, l1, d0, d1, d2⟩ := HC.out _ hN1
          have HI := Lib.hid (fun W h0 h1 h2 => HI0.out W (some ⟨og, 0, none⟩) oc (xs2.length + 1) h0 h1 (insSt s xs2) (insSt_len s xs2) h2 (by rw [insSt_len]; omega))
          go_wp2_with fail
          refine (HI.out _ (hx0.below hw1) (hx1.below hw1) (Rd.of_own encSt_len (by decide) ow)).mono ?_
          rintro e U1 ⟨rfl, hB1⟩
          clear HI l0 l1 d0 d1 d2
          replace ow := own_below ow hB1
          have hw2 := stepB hw1 hB1 hw1.size
          have HLN := Lib.hid (insSt_len s xs2)
          cases hb : isItinB xs0 xs1 (insSt s xs2)
          · have hR := Lib.hid (hRn.out hb)
            clear hb
            go_wp2
            go_ret2
            rw [hR.out]
            exact ⟨none, 0, rfl, World.ownsRow_nil _ _ _ _, hw2⟩
          · have hR := Lib.hid (hRo.out hb)
            clear hb
            go_wp2
            go_ret2
            rw [hR.out]
            exact ⟨some ⟨og, 0, none⟩, oc, by rw [HLN.out]; rfl, by rw [HLN.out]; exact ow, hw2⟩
      · go_simp
        have xb := Box.new V0 49 [.int .i64 s.place, .int .i64 s.fr, .int .i64 s.to] N0 (Nat.le_trans (Nat.le_of_eq hN0.out.symm) hN.size) (by simp)
        have hz := belowC V0 (.cells #[.int .i64 s.place, .int .i64 s.fr, .int .i64 s.to] 49)
        replace hN := stepB hN hz (Nat.le_trans (Nat.le_of_eq hN0.out.symm) hN.size)
        clear hz
        change Box _ (V0.alloc (.cells #[.int .i64 s.place, .int .i64 s.fr, .int .i64 s.to] 49)) _ _ _ at xb
        generalize V0.alloc (.cells #[.int .i64 s.place, .int .i64 s.fr, .int .i64 s.to] 49) = Wa at xb hN ⊢
        generalize V0.heap.size = xg at xb ⊢
        have hHeld := HD3.out _ hN
        refine hK.out _ _ (.inr hHeld) ?_
        clear hK K
        refine MAny.ready (rs := [0]) (by kernel_rfl) (by simp) ?_
        refine MReady.cons rfl (fun K hK => ?_) MReady.nil
        go_simp
        have ow := World.ownsRow_made Wa #[] 0 (Nat.le_trans (Nat.le_of_eq hN0.out.symm) hN.size) (by decide) rfl (e := 49) (size := 3)
        have hz := belowC Wa (.cells #[] 49)
        have hxe : xg ≠ Wa.heap.size := Nat.ne_of_lt (own_lt xb).2
        replace xb := Box.below xb hz
        replace hN := stepB hN hz (Nat.le_trans (Nat.le_of_eq hN0.out.symm) hN.size)
        clear hz
        generalize Wa.alloc (.cells #[] 49) = Wb at ow hN xb ⊢
        generalize Wa.heap.size = og at ow hxe ⊢
        have hHeld := HD3.out _ hN
        refine hK.out _ _ (.inr hHeld) ?_
        clear hK K
        refine MAny.ready (rs := [4]) (by kernel_rfl) (by simp) ?_
        refine MReady.cons rfl (fun K hK => ?_) MReady.nil
        refine step_append_any _ (by rfl) (.tmp 41) (.tmp 44) 36 (by rfl) N0 49 i0 (.agg #[.int .i64 0, .int .i64 0, .int .i64 0]) 3 24 Tryz.underlying36 hi hz0 hz1 hz2 rfl (by decide) _ _ 0 ([]) (by rfl) ow ⟨ga, 0, none⟩ xs2.length xs2.length ((xs2.take xs2.length).flatMap encSt) (by rfl) (by rw [length_flatMap_enc encSt 3 encSt_len, List.length_take, Nat.min_eq_left (by omega)]) (rd_takeQ encSt_len (by decide) (HX.out _ hN) xs2.length) (stOne (xs2.take xs2.length)) (by unfold maxLen; omega) (by omega) (Nat.le_trans (Nat.le_of_eq hN0.out.symm) hN.size) ?_
        intro og oc Wc ow2 hgr hor
        have xl := (own_lt xb).2
        replace xb := Box.keep xb hgr hxe
        replace hxe : xg ≠ og := by rcases hor with e | e <;> omega
        clear xl
        replace hN := hN.grown hgr (Nat.le_trans (Nat.le_of_eq hN0.out.symm) hN.size) (fun g e => by cases e; exact (own_lt ow).1)
        clear hor hgr
        replace ow := ow2
        clear ow2
        try simp only [Act.put, List.setIfInBounds_toArray]
        simp only [Nat.zero_add, List.nil_append] at ow ⊢
        have hHeld := HD3.out _ hN
        refine hK.out _ _ (.inr hHeld) ?_
        clear hK K
        refine MAny.ready (rs := [7]) (by kernel_rfl) (by simp) ?_
        refine MReady.cons rfl (fun K hK => ?_) MReady.nil
        refine step_append_any _ (by rfl) (.tmp 45) (.tmp 47) 36 (by rfl) N0 49 i0 (.agg #[.int .i64 0, .int .i64 0, .int .i64 0]) 3 24 Tryz.underlying36 hi hz0 hz1 hz2 rfl (by decide) _ _ xs2.length ((xs2.take xs2.length).flatMap encSt) (by rfl) ow ⟨xg, 0, none⟩ 1 1 (encSt s) (by rfl) rfl (Box.newsQ xb) (stOne1 s) (by unfold maxLen; omega) (by omega) (Nat.le_trans (Nat.le_of_eq hN0.out.symm) hN.size) ?_
        intro og oc Wcb ow2 hgr hor
        have xl := (own_lt xb).2
        replace xb := Box.keep xb hgr hxe
        replace hxe : xg ≠ og := by rcases hor with e | e <;> omega
        clear xl
        replace hN := hN.grown hgr (Nat.le_trans (Nat.le_of_eq hN0.out.symm) hN.size) (fun g e => by cases e; exact (own_lt ow).1)
        clear hor hgr
        replace ow := ow2
        clear ow2
        try simp only [Act.put]
        have hHeld := HD3.out _ hN
        refine hK.out _ _ (.inr hHeld) ?_
        clear hK K
        refine MAny.ready (rs := [11]) (by kernel_rfl) (by simp) ?_
        refine MReady.cons rfl (fun K hK => ?_) MReady.nil
        first
          | refine step_append_any _ (by rfl) (.tmp 48) (.tmp 51) 36 (by rfl) N0 49 i0 (.agg #[.int .i64 0, .int .i64 0, .int .i64 0]) 3 24 Tryz.underlying36 hi hz0 hz1 hz2 rfl (by decide) _ _ (xs2.length + 1) ((xs2.take xs2.length).flatMap encSt ++ encSt s) (by rfl) ow ⟨ga, xs2.length * 3, none⟩ (xs2.length - xs2.length) (xs2.length - xs2.length) ((xs2.drop xs2.length).flatMap encSt) (by rfl) (by rw [length_flatMap_enc encSt 3 encSt_len, List.length_drop]) (rd_dropQ encSt_len (by decide) (HX.out _ hN) xs2.length) (stOne (xs2.drop xs2.length)) (by unfold maxLen; omega) (by omega) (Nat.le_trans (Nat.le_of_eq hN0.out.symm) hN.size) ?_
          | refine step_append_any _ (by rfl) (.tmp 48) (.tmp 51) 36 (by rfl) N0 49 i0 (.agg #[.int .i64 0, .int .i64 0, .int .i64 0]) 3 24 Tryz.underlying36 hi hz0 hz1 hz2 rfl (by decide) _ _ (xs2.length + 1) ((xs2.take xs2.length).flatMap encSt ++ encSt s) (by rfl) ow ⟨ga, 0, none⟩ 0 0 ([]) (by rfl) rfl (fun j u hu => by cases hu) (fun u hu => by cases hu) (by unfold maxLen; omega) (by omega) (Nat.le_trans (Nat.le_of_eq hN0.out.symm) hN.size) ?_
        intro og oc Wcc ow2 hgr hor
        have xl := (own_lt xb).2
        replace xb := Box.keep xb hgr hxe
        replace hxe : xg ≠ og := by rcases hor with e | e <;> omega
        clear xl
        replace hN := hN.grown hgr (Nat.le_trans (Nat.le_of_eq hN0.out.symm) hN.size) (fun g e => by cases e; exact (own_lt ow).1)
        clear hor hgr
        replace ow := ow2
        clear ow2
        try simp only [Act.put]
        first
          | (have hen : xs2.length + 1 + (xs2.length - xs2.length) = xs2.length + 1 := by omega
             have hcnt : (xs2.take xs2.length).flatMap encSt ++ encSt s ++ (xs2.drop xs2.length).flatMap encSt = (insSt s xs2).flatMap encSt := by rw [hins.out]; simp
             rw [hen, hcnt] at ow
             simp only [hen]
             clear hen hcnt)
          | (have hen : xs2.length + 1 + 0 = xs2.length + 1 := by omega
             have hcnt : (xs2.take xs2.length).flatMap encSt ++ encSt s ++ [] = (insSt s xs2).flatMap encSt := by rw [hins.out, List.drop_eq_nil_of_le (by omega)]; simp
             rw [hen, hcnt] at ow
             simp only [hen]
             clear hen hcnt)
        have hHeld := HD3.out _ hN
        refine hK.out _ _ (.inr hHeld) ?_
        clear hK K
        refine MAny.ready (rs := [12]) (by kernel_rfl) (by simp) ?_
        refine MReady.cons rfl (fun K hK => ?_) MReady.nil
        go_simp
        refine hK.out _ _ (.inl rfl) ?_
        clear hK K
        refine MAny.done (by kernel_rfl) ?_ _
        try simp only [List.getElem_toArray, List.getElem_cons_succ, List.getElem_cons_zero]
        have hV := stepB hBV hzV hBV.size
        have hN1 := stepB hV (HNN.out _ hN) hV.size
        have hw1 := stepB hB0 hN1 hB0.size
        have ow := own_base ow (show w.heap.size ≤ N0 by rw [← hN0.out]; exact (stepB hB0 hV hB0.size).size)
        clear hN HX HNN hN0 hHeld hxe xb
        obtain ⟨l0, l1, d0, d1, d2⟩ := HC.out _ hN1
        have HI := Lib.hid (fun W h0 h1 h2 => HI0.out W (some ⟨og, 0, none⟩) oc (xs2.length + 1) h0 h1 (insSt s xs2) (insSt_len s xs2) h2 (by rw [insSt_len]; omega))
        go_wp2_with fail
        refine (HI.out _ (hx0.below hw1) (hx1.below hw1) (Rd.of_own encSt_len (by decide) ow)).mono ?_
        rintro e U1 ⟨rfl, hB1⟩
        clear HI l0 l1 d0 d1 d2
        replace ow := own_below ow hB1
        have hw2 := stepB hw1 hB1 hw1.size
        have HLN := Lib.hid (insSt_len s xs2)
        cases hb : isItinB xs0 xs1 (insSt s xs2)
        · have hR := Lib.hid (hRn.out hb)
          clear hb
          go_wp2
          go_ret2
          rw [hR.out]
          exact ⟨none, 0, rfl, World.ownsRow_nil _ _ _ _, hw2⟩
        · have hR := Lib.hid (hRo.out hb)
          clear hb
          go_wp2
          go_ret2
          rw [hR.out]
          exact ⟨some ⟨og, 0, none⟩, oc, by rw [HLN.out]; rfl, by rw [HLN.out]; exact ow, hw2⟩
    · have hcq : (cap = q) = False := eq_false hcq1
      have hins : Hid (insSt s xs2 = xs2.take q ++ s :: xs2.drop q) := insSt_at hlo.out hhi.out
      clear hlo hhi
      have hqc : (q : Int) ≤ (cap : Int) := by omega
      have hqk : (q : Int) ≤ (xs2.length : Int) := by omega
      go_upto_region 9 with (fail)
      refine MAny.region (S := fun w' => w'.cell? ⟨w.heap.size + 1, 0, none⟩ = some (.int .i64 s.place) ∧ w'.cell? ⟨w.heap.size + 1, 1, none⟩ = some (.int .i64 s.fr) ∧ w'.cell? ⟨w.heap.size + 1, 2, none⟩ = some (.int .i64 s.to)) (last := 12) (by kernel_rfl) ?_
      have hzV := (Below.refl wc.heap.size wc).drew
      generalize wc.drew = V0 at hzV ⊢
      have hN := Below.refl V0.heap.size V0
      obtain ⟨N0, hN0⟩ : ∃ N0, V0.heap.size = N0 := ⟨_, rfl⟩
      have hNN : ∀ W, Below N0 V0 W → Below V0.heap.size V0 W := fun W h => by rw [hN0]; exact h
      rw [hN0] at hN
      have HNN := Lib.hid hNN
      clear hNN
      replace hN0 := Lib.hid hN0
      have HD3 : Hid (∀ U, Below N0 V0 U → U.cell? ⟨w.heap.size + 1, 0, none⟩ = some (.int .i64 s.place) ∧ U.cell? ⟨w.heap.size + 1, 1, none⟩ = some (.int .i64 s.fr) ∧ U.cell? ⟨w.heap.size + 1, 2, none⟩ = some (.int .i64 s.to)) := fun U hU => (HC.out U (stepB (stepB hBV hzV hBV.size) (HNN.out U hU) (stepB hBV hzV hBV.size).size)).2.2
      have HX : Hid (∀ U, Below N0 V0 U → Rd encSt U (some ⟨ga, 0, none⟩) xs2) := fun U hU => (hx2.below hB0).below (stepB (stepB hBV hzV hBV.size) (HNN.out U hU) (stepB hBV hzV hBV.size).size)
      have hHeld := HD3.out _ hN
      refine MAny.take (i := 1) (v := ?_) rfl (by kernel_rfl) (by kernel_rfl) (by kernel_rfl) (fun _ _ _ h => h) (by kernel_rfl) (Or.inl ⟨by rfl, ?_⟩) (by assumption) ?_
      rotate_left
      · (intro w' hSw; (try dsimp only at hSw); go_simp; try (with_reducible rfl))
      try simp only [Act.put, List.setIfInBounds_toArray]
      refine MAny.take (i := 2) (v := ?_) rfl (by kernel_rfl) (by kernel_rfl) (by kernel_rfl) (fun _ _ _ h => h) (by kernel_rfl) (Or.inl ⟨by rfl, ?_⟩) (by assumption) ?_
      rotate_left
      · (intro w' hSw; (try dsimp only at hSw); go_simp; try (with_reducible rfl))
      try simp only [Act.put]
      refine MAny.take (i := 3) (v := ?_) rfl (by kernel_rfl) (by kernel_rfl) (by kernel_rfl) (fun _ _ _ h => h) (by kernel_rfl) (Or.inl ⟨by rfl, ?_⟩) (by assumption) ?_
      rotate_left
      · (intro w' hSw; (try dsimp only at hSw); go_simp; try (with_reducible rfl))
      try simp only [Act.put]
      refine MAny.take (i := 5) (v := ?_) rfl (by kernel_rfl) (by kernel_rfl) (by kernel_rfl) (fun _ _ _ h => h) (by kernel_rfl) (Or.inl ⟨by rfl, ?_⟩) (by assumption) ?_
      rotate_left
      · (intro w' hSw; (try dsimp only at hSw); go_simp; try (with_reducible rfl))
      try simp only [Act.put]
      refine MAny.take (i := 8) (v := ?_) rfl (by kernel_rfl) (by kernel_rfl) (by kernel_rfl) (fun _ _ _ h => h) (by kernel_rfl) (Or.inl ⟨by rfl, ?_⟩) (by assumption) ?_
      rotate_left
      · (intro w' hSw; (try dsimp only at hSw); go_simp; try (with_reducible rfl))
      try simp only [Act.put]
      refine MAny.take (i := 9) (v := ?_) rfl (by kernel_rfl) (by kernel_rfl) (by kernel_rfl) (fun _ _ _ h => h) (by kernel_rfl) (Or.inl ⟨by rfl, ?_⟩) (by assumption) ?_
      rotate_left
      · (intro w' hSw; (try dsimp only at hSw); go_simp; try (with_reducible rfl))
      try simp only [Act.put]
      refine MAny.take (i := 10) (v := ?_) rfl (by kernel_rfl) (by kernel_rfl) (by kernel_rfl) (fun _ _ _ h => h) (by kernel_rfl) (Or.inl ⟨by rfl, ?_⟩) (by assumption) ?_
      rotate_left
      · (intro w' hSw; (try dsimp only at hSw); go_simp; try (with_reducible rfl))
      try simp only [Act.put]
      refine MAny.ready (rs := [0, 6]) (by kernel_rfl) (by simp) ?_
      refine MReady.cons rfl (fun K hK => ?_) (MReady.cons rfl (fun K hK => ?_) MReady.nil)
      · go_simp
        have ow := World.ownsRow_made V0 #[] 0 (Nat.le_trans (Nat.le_of_eq hN0.out.symm) hN.size) (by decide) rfl (e := 49) (size := 3)
        have hz := belowC V0 (.cells #[] 49)
        replace hN := stepB hN hz (Nat.le_trans (Nat.le_of_eq hN0.out.symm) hN.size)
        clear hz
        generalize V0.alloc (.cells #[] 49) = Wa at ow hN ⊢
        generalize V0.heap.size = og at ow ⊢
        have hHeld := HD3.out _ hN
        refine hK.out _ _ (.inr hHeld) ?_
        clear hK K
        refine MAny.ready (rs := [4, 6]) (by kernel_rfl) (by simp) ?_
        refine MReady.cons rfl (fun K hK => ?_) (MReady.cons rfl (fun K hK => ?_) MReady.nil)
        · refine step_append_any _ (by rfl) (.tmp 41) (.tmp 44) 36 (by rfl) N0 49 i0 (.agg #[.int .i64 0, .int .i64 0, .int .i64 0]) 3 24 Tryz.underlying36 hi hz0 hz1 hz2 rfl (by decide) _ _ 0 ([]) (by rfl) ow ⟨ga, 0, none⟩ q cap ((xs2.take q).flatMap encSt) (by rfl) (by rw [length_flatMap_enc encSt 3 encSt_len, List.length_take, Nat.min_eq_left (by omega)]) (rd_takeQ encSt_len (by decide) (HX.out _ hN) q) (stOne (xs2.take q)) (by unfold maxLen; omega) (by omega) (Nat.le_trans (Nat.le_of_eq hN0.out.symm) hN.size) ?_
          intro og oc Wb ow2 hgr hor
          replace hN := hN.grown hgr (Nat.le_trans (Nat.le_of_eq hN0.out.symm) hN.size) (fun g e => by cases e; exact (own_lt ow).1)
          clear hor hgr
          replace ow := ow2
          clear ow2
          try simp only [Act.put, List.setIfInBounds_toArray]
          simp only [Nat.zero_add, List.nil_append] at ow ⊢
          have hHeld := HD3.out _ hN
          refine hK.out _ _ (.inr hHeld) ?_
          clear hK K
          refine MAny.ready (rs := [6]) (by kernel_rfl) (by simp) ?_
          refine MReady.cons rfl (fun K hK => ?_) MReady.nil
          go_simp
          have xb := Box.new Wb 49 [.int .i64 s.place, .int .i64 s.fr, .int .i64 s.to] N0 (Nat.le_trans (Nat.le_of_eq hN0.out.symm) hN.size) (by simp)
          have hz := belowC Wb (.cells #[.int .i64 s.place, .int .i64 s.fr, .int .i64 s.to] 49)
          have hxe : Wb.heap.size ≠ og := Nat.ne_of_gt (own_lt ow).2
          replace ow := own_below ow hz
          replace hN := stepB hN hz (Nat.le_trans (Nat.le_of_eq hN0.out.symm) hN.size)
          clear hz
          change Box _ (Wb.alloc (.cells #[.int .i64 s.place, .int .i64 s.fr, .int .i64 s.to] 49)) _ _ _ at xb
          generalize Wb.alloc (.cells #[.int .i64 s.place, .int .i64 s.fr, .int .i64 s.to] 49) = Wc at xb hN ow ⊢
          generalize Wb.heap.size = xg at xb hxe ⊢
          have hHeld := HD3.out _ hN
          refine hK.out _ _ (.inr hHeld) ?_
          clear hK K
          refine MAny.ready (rs := [7]) (by kernel_rfl) (by simp) ?_
          refine MReady.cons rfl (fun K hK => ?_) MReady.nil
          refine step_append_any _ (by rfl) (.tmp 45) (.tmp 47) 36 (by rfl) N0 49 i0 (.agg #[.int .i64 0, .int .i64 0, .int .i64 0]) 3 24 Tryz.underlying36 hi hz0 hz1 hz2 rfl (by decide) _ _ q ((xs2.take q).flatMap encSt) (by rfl) ow ⟨xg, 0, none⟩ 1 1 (encSt s) (by rfl) rfl (Box.newsQ xb) (stOne1 s) (by unfold maxLen; omega) (by omega) (Nat.le_trans (Nat.le_of_eq hN0.out.symm) hN.size) ?_
          intro og oc Wcb ow2 hgr hor
          have xl := (own_lt xb).2
          replace xb := Box.keep xb hgr hxe
          replace hxe : xg ≠ og := by rcases hor with e | e <;> omega
          clear xl
          replace hN := hN.grown hgr (Nat.le_trans (Nat.le_of_eq hN0.out.symm) hN.size) (fun g e => by cases e; exact (own_lt ow).1)
          clear hor hgr
          replace ow := ow2
          clear ow2
          try simp only [Act.put, List.setIfInBounds_toArray]
          have hHeld := HD3.out _ hN
          refine hK.out _ _ (.inr hHeld) ?_
          clear hK K
          refine MAny.ready (rs := [11]) (by kernel_rfl) (by simp) ?_
          refine MReady.cons rfl (fun K hK => ?_) MReady.nil
          first
            | refine step_append_any _ (by rfl) (.tmp 48) (.tmp 51) 36 (by rfl) N0 49 i0 (.agg #[.int .i64 0, .int .i64 0, .int .i64 0]) 3 24 Tryz.underlying36 hi hz0 hz1 hz2 rfl (by decide) _ _ (q + 1) ((xs2.take q).flatMap encSt ++ encSt s) (by rfl) ow ⟨ga, q * 3, none⟩ (xs2.length - q) (cap - q) ((xs2.drop q).flatMap encSt) (by rfl) (by rw [length_flatMap_enc encSt 3 encSt_len, List.length_drop]) (rd_dropQ encSt_len (by decide) (HX.out _ hN) q) (stOne (xs2.drop q)) (by unfold maxLen; omega) (by omega) (Nat.le_trans (Nat.le_of_eq hN0.out.symm) hN.size) ?_
            | refine step_append_any _ (by rfl) (.tmp 48) (.tmp 51) 36 (by rfl) N0 49 i0 (.agg #[.int .i64 0, .int .i64 0, .int .i64 0]) 3 24 Tryz.underlying36 hi hz0 hz1 hz2 rfl (by decide) _ _ (q + 1) ((xs2.take q).flatMap encSt ++ encSt s) (by rfl) ow ⟨ga, 0, none⟩ 0 0 ([]) (by rfl) rfl (fun j u hu => by cases hu) (fun u hu => by cases hu) (by unfold maxLen; omega) (by omega) (Nat.le_trans (Nat.le_of_eq hN0.out.symm) hN.size) ?_
          intro og oc Wcc ow2 hgr hor
          have xl := (own_lt xb).2
          replace xb := Box.keep xb hgr hxe
          replace hxe : xg ≠ og := by rcases hor with e | e <;> omega
          clear xl
          replace hN := hN.grown hgr (Nat.le_trans (Nat.le_of_eq hN0.out.symm) hN.size) (fun g e => by cases e; exact (own_lt ow).1)
          clear hor hgr
          replace ow := ow2
          clear ow2
          try simp only [Act.put]
          first
            | (have hen : q + 1 + (xs2.length - q) = xs2.length + 1 := by omega
               have hcnt : (xs2.take q).flatMap encSt ++ encSt s ++ (xs2.drop q).flatMap encSt = (insSt s xs2).flatMap encSt := by rw [hins.out]; simp
               rw [hen, hcnt] at ow
               simp only [hen]
               clear hen hcnt)
            | (have hen : q + 1 + 0 = xs2.length + 1 := by omega
               have hcnt : (xs2.take q).flatMap encSt ++ encSt s ++ [] = (insSt s xs2).flatMap encSt := by rw [hins.out, List.drop_eq_nil_of_le (by omega)]; simp
               rw [hen, hcnt] at ow
               simp only [hen]
               clear hen hcnt)
          have hHeld := HD3.out _ hN
          refine hK.out _ _ (.inr hHeld) ?_
          clear hK K
          refine MAny.ready (rs := [12]) (by kernel_rfl) (by simp) ?_
          refine MReady.cons rfl (fun K hK => ?_) MReady.nil
          go_simp
          refine hK.out _ _ (.inl rfl) ?_
          clear hK K
          refine MAny.done (by kernel_rfl) ?_ _
          try simp only [List.getElem_toArray, List.getElem_cons_succ, List.getElem_cons_zero]
          have hV := stepB hBV hzV hBV.size
          have hN1 := stepB hV (HNN.out _ hN) hV.size
          have hw1 := stepB hB0 hN1 hB0.size
          have ow := own_base ow (show w.heap.size ≤ N0 by rw [← hN0.out]; exact (stepB hB0 hV hB0.size).size)
          clear hN HX HNN hN0 hHeld hxe xb
          obtain ⟨l0, l1, d0, d1, d2⟩ := HC.out _ hN1
          have HI := Lib.hid (fun W h0 h1 h2 => HI0.out W (some ⟨og, 0, none⟩) oc (xs2.length + 1) h0 h1 (insSt s xs2) (insSt_len s xs2) h2 (by rw [insSt_len]; omega))
          go_wp2_with fail
          refine (HI.out _ (hx0.below hw1) (hx1.below hw1) (Rd.of_own encSt_len (by decide) ow)).mono ?_
          rintro e U1 ⟨rfl, hB1⟩
          clear HI l0 l1 d0 d1 d2
          replace ow := own_below ow hB1
          have hw2 := stepB hw1 hB1 hw1.size
          have HLN := Lib.hid (insSt_len s xs2)
          cases hb : isItinB xs0 xs1 (insSt s xs2)
          · have hR := Lib.hid (hRn.out hb)
            clear hb
            go_wp2
            go_ret2
            rw [hR.out]
            exact ⟨none, 0, rfl, World.ownsRow_nil _ _ _ _, hw2⟩
          · have hR := Lib.hid (hRo.out hb)
            clear hb
            go_wp2
            go_ret2
            rw [hR.out]
            exact ⟨some ⟨og, 0, none⟩, oc, by rw [HLN.out]; rfl, by rw [HLN.out]; exact ow, hw2⟩
        · go_simp
          have xb := Box.new Wa 49 [.int .i64 s.place, .int .i64 s.fr, .int .i64 s.to] N0 (Nat.le_trans (Nat.le_of_eq hN0.out.symm) hN.size) (by simp)
          have hz := belowC Wa (.cells #[.int .i64 s.place, .int .i64 s.fr, .int .i64 s.to] 49)
          have hxe : Wa.heap.size ≠ og := Nat.ne_of_gt (own_lt ow).2
          replace ow := own_below ow hz
          replace hN := stepB hN hz (Nat.le_trans (Nat.le_of_eq hN0.out.symm) hN.size)
          clear hz
          change Box _ (Wa.alloc (.cells #[.int .i64 s.place, .int .i64 s.fr, .int .i64 s.to] 49)) _ _ _ at xb
          generalize Wa.alloc (.cells #[.int .i64 s.place, .int .i64 s.fr, .int .i64 s.to] 49) = Wb at xb hN ow ⊢
          generalize Wa.heap.size = xg at xb hxe ⊢
          have hHeld := HD3.out _ hN
          refine hK.out _ _ (.inr hHeld) ?_
          clear hK K
          refine MAny.ready (rs := [4]) (by kernel_rfl) (by simp) ?_
          refine MReady.cons rfl (fun K hK => ?_) MReady.nil
          refine step_append_any _ (by rfl) (.tmp 41) (.tmp 44) 36 (by rfl) N0 49 i0 (.agg #[.int .i64 0, .int .i64 0, .int .i64 0]) 3 24 Tryz.underlying36 hi hz0 hz1 hz2 rfl (by decide) _ _ 0 ([]) (by rfl) ow ⟨ga, 0, none⟩ q cap ((xs2.take q).flatMap encSt) (by rfl) (by rw [length_flatMap_enc encSt 3 encSt_len, List.length_take, Nat.min_eq_left (by omega)]) (rd_takeQ encSt_len (by decide) (HX.out _ hN) q) (stOne (xs2.take q)) (by unfold maxLen; omega) (by omega) (Nat.le_trans (Nat.le_of_eq hN0.out.symm) hN.size) ?_
          intro og oc Wc ow2 hgr hor
          have xl := (own_lt xb).2
          replace xb := Box.keep xb hgr hxe
          replace hxe : xg ≠ og := by rcases hor with e | e <;> omega
          clear xl
          replace hN := hN.grown hgr (Nat.le_trans (Nat.le_of_eq hN0.out.symm) hN.size) (fun g e => by cases e; exact (own_lt ow).1)
          clear hor hgr
          replace ow := ow2
          clear ow2
          try simp only [Act.put, List.setIfInBounds_toArray]
          simp only [Nat.zero_add, List.nil_append] at ow ⊢
          have hHeld := HD3.out _ hN
          refine hK.out _ _ (.inr hHeld) ?_
          clear hK K
          refine MAny.ready (rs := [7]) (by kernel_rfl) (by simp) ?_
          refine MReady.cons rfl (fun K hK => ?_) MReady.nil
          refine step_append_any _ (by rfl) (.tmp 45) (.tmp 47) 36 (by rfl) N0 49 i0 (.agg #[.int .i64 0, .int .i64 0, .int .i64 0]) 3 24 Tryz.underlying36 hi hz0 hz1 hz2 rfl (by decide) _ _ q ((xs2.take q).flatMap encSt) (by rfl) ow ⟨xg, 0, none⟩ 1 1 (encSt s) (by rfl) rfl (Box.newsQ xb) (stOne1 s) (by unfold maxLen; omega) (by omega) (Nat.le_trans (Nat.le_of_eq hN0.out.symm) hN.size) ?_
          intro og oc Wcb ow2 hgr hor
          have xl := (own_lt xb).2
          replace xb := Box.keep xb hgr hxe
          replace hxe : xg ≠ og := by rcases hor with e | e <;> omega
          clear xl
          replace hN := hN.grown hgr (Nat.le_trans (Nat.le_of_eq hN0.out.symm) hN.size) (fun g e => by cases e; exact (own_lt ow).1)
          clear hor hgr
          replace ow := ow2
          clear ow2
          try simp only [Act.put]
          have hHeld := HD3.out _ hN
          refine hK.out _ _ (.inr hHeld) ?_
          clear hK K
          refine MAny.ready (rs := [11]) (by kernel_rfl) (by simp) ?_
          refine MReady.cons rfl (fun K hK => ?_) MReady.nil
          first
            | refine step_append_any _ (by rfl) (.tmp 48) (.tmp 51) 36 (by rfl) N0 49 i0 (.agg #[.int .i64 0, .int .i64 0, .int .i64 0]) 3 24 Tryz.underlying36 hi hz0 hz1 hz2 rfl (by decide) _ _ (q + 1) ((xs2.take q).flatMap encSt ++ encSt s) (by rfl) ow ⟨ga, q * 3, none⟩ (xs2.length - q) (cap - q) ((xs2.drop q).flatMap encSt) (by rfl) (by rw [length_flatMap_enc encSt 3 encSt_len, List.length_drop]) (rd_dropQ encSt_len (by decide) (HX.out _ hN) q) (stOne (xs2.drop q)) (by unfold maxLen; omega) (by omega) (Nat.le_trans (Nat.le_of_eq hN0.out.symm) hN.size) ?_
            | refine step_append_any _ (by rfl) (.tmp 48) (.tmp 51) 36 (by rfl) N0 49 i0 (.agg #[.int .i64 0, .int .i64 0, .int .i64 0]) 3 24 Tryz.underlying36 hi hz0 hz1 hz2 rfl (by decide) _ _ (q + 1) ((xs2.take q).flatMap encSt ++ encSt s) (by rfl) ow ⟨ga, 0, none⟩ 0 0 ([]) (by rfl) rfl (fun j u hu => by cases hu) (fun u hu => by cases hu) (by unfold maxLen; omega) (by omega) (Nat.le_trans (Nat.le_of_eq hN0.out.symm) hN.size) ?_
          intro og oc Wcc ow2 hgr hor
          have xl := (own_lt xb).2
          replace xb := Box.keep xb hgr hxe
          replace hxe : xg ≠ og := by rcases hor with e | e <;> omega
          clear xl
          replace hN := hN.grown hgr (Nat.le_trans (Nat.le_of_eq hN0.out.symm) hN.size) (fun g e => by cases e; exact (own_lt ow).1)
          clear hor hgr
          replace ow := ow2
          clear ow2
          try simp only [Act.put]
          first
            | (have hen : q + 1 + (xs2.length - q) = xs2.length + 1 := by omega
               have hcnt : (xs2.take q).flatMap encSt ++ encSt s ++ (xs2.drop q).flatMap encSt = (insSt s xs2).flatMap encSt := by rw [hins.out]; simp
               rw [hen, hcnt] at ow
               simp only [hen]
               clear hen hcnt)
            | (have hen : q + 1 + 0 = xs2.length + 1 := by omega
               have hcnt : (xs2.take q).flatMap encSt ++ encSt s ++ [] = (insSt s xs2).flatMap encSt := by rw [hins.out, List.drop_eq_nil_of_le (by omega)]; simp
               rw [hen, hcnt] at ow
               simp only [hen]
               clear hen hcnt)
          have hHeld := HD3.out _ hN
          refine hK.out _ _ (.inr hHeld) ?_
          clear hK K
          refine MAny.ready (rs := [12]) (by kernel_rfl) (by simp) ?_
          refine MReady.cons rfl (fun K hK => ?_) MReady.nil
          go_simp
          refine hK.out _ _ (.inl rfl) ?_
          clear hK K
          refine MAny.done (by kernel_rfl) ?_ _
          try simp only [List.getElem_toArray, List.getElem_cons_succ, List.getElem_cons_zero]
          have hV := stepB hBV hzV hBV.size
          have hN1 := stepB hV (HNN.out _ hN) hV.size
          have hw1 := stepB hB0 hN1 hB0.size
          have ow := own_base ow (show w.heap.size ≤ N0 by rw [← hN0.out]; exact (stepB hB0 hV hB0.size).size)
          clear hN HX HNN hN0 hHeld hxe xb
          obtain ⟨l0, l1, d0, d1, d2⟩ := HC.out _ hN1
          have HI := Lib.hid (fun W h0 h1 h2 => HI0.out W (some ⟨og, 0, none⟩) oc (xs2.length + 1) h0 h1 (insSt s xs2) (insSt_len s xs2) h2 (by rw [insSt_len]; omega))
          go_wp2_with fail
          refine (HI.out _ (hx0.below hw1) (hx1.below hw1) (Rd.of_own encSt_len (by decide) ow)).mono ?_
          rintro e U1 ⟨rfl, hB1⟩
          clear HI l0 l1 d0 d1 d2
          replace ow := own_below ow hB1
          have hw2 := stepB hw1 hB1 hw1.size
          have HLN := Lib.hid (insSt_len s xs2)
          cases hb : isItinB xs0 xs1 (insSt s xs2)
          · have hR := Lib.hid (hRn.out hb)
            clear hb
            go_wp2
            go_ret2
            rw [hR.out]
            exact ⟨none, 0, rfl, World.ownsRow_nil _ _ _ _, hw2⟩
          · have hR := Lib.hid (hRo.out hb)
            clear hb
            go_wp2
            go_ret2
            rw [hR.out]
            exact ⟨some ⟨og, 0, none⟩, oc, by rw [HLN.out]; rfl, by rw [HLN.out]; exact ow, hw2⟩
      · go_simp
        have xb := Box.new V0 49 [.int .i64 s.place, .int .i64 s.fr, .int .i64 s.to] N0 (Nat.le_trans (Nat.le_of_eq hN0.out.symm) hN.size) (by simp)
        have hz := belowC V0 (.cells #[.int .i64 s.place, .int .i64 s.fr, .int .i64 s.to] 49)
        replace hN := stepB hN hz (Nat.le_trans (Nat.le_of_eq hN0.out.symm) hN.size)
        clear hz
        change Box _ (V0.alloc (.cells #[.int .i64 s.place, .int .i64 s.fr, .int .i64 s.to] 49)) _ _ _ at xb
        generalize V0.alloc (.cells #[.int .i64 s.place, .int .i64 s.fr, .int .i64 s.to] 49) = Wa at xb hN ⊢
        generalize V0.heap.size = xg at xb ⊢
        have hHeld := HD3.out _ hN
        refine hK.out _ _ (.inr hHeld) ?_
        clear hK K
        refine MAny.ready (rs := [0]) (by kernel_rfl) (by simp) ?_
        refine MReady.cons rfl (fun K hK => ?_) MReady.nil
        go_simp
        have ow := World.ownsRow_made Wa #[] 0 (Nat.le_trans (Nat.le_of_eq hN0.out.symm) hN.size) (by decide) rfl (e := 49) (size := 3)
        have hz := belowC Wa (.cells #[] 49)
        have hxe : xg ≠ Wa.heap.size := Nat.ne_of_lt (own_lt xb).2
        replace xb := Box.below xb hz
        replace hN := stepB hN hz (Nat.le_trans (Nat.le_of_eq hN0.out.symm) hN.size)
        clear hz
        generalize Wa.alloc (.cells #[] 49) = Wb at ow hN xb ⊢
        generalize Wa.heap.size = og at ow hxe ⊢
        have hHeld := HD3.out _ hN
        refine hK.out _ _ (.inr hHeld) ?_
        clear hK K
        refine MAny.ready (rs := [4]) (by kernel_rfl) (by simp) ?_
        refine MReady.cons rfl (fun K hK => ?_) MReady.nil
        refine step_append_any _ (by rfl) (.tmp 41) (.tmp 44) 36 (by rfl) N0 49 i0 (.agg #[.int .i64 0, .int .i64 0, .int .i64 0]) 3 24 Tryz.underlying36 hi hz0 hz1 hz2 rfl (by decide) _ _ 0 ([]) (by rfl) ow ⟨ga, 0, none⟩ q cap ((xs2.take q).flatMap encSt) (by rfl) (by rw [length_flatMap_enc encSt 3 encSt_len, List.length_take, Nat.min_eq_left (by omega)]) (rd_takeQ encSt_len (by decide) (HX.out _ hN) q) (stOne (xs2.take q)) (by unfold maxLen; omega) (by omega) (Nat.le_trans (Nat.le_of_eq hN0.out.symm) hN.size) ?_
        intro og oc Wc ow2 hgr hor
        have xl := (own_lt xb).2
        replace xb := Box.keep xb hgr hxe
        replace hxe : xg ≠ og := by rcases hor with e | e <;> omega
        clear xl
        replace hN := hN.grown hgr (Nat.le_trans (Nat.le_of_eq hN0.out.symm) hN.size) (fun g e => by cases e; exact (own_lt ow).1)
        clear hor hgr
        replace ow := ow2
        clear ow2
        try simp only [Act.put, List.setIfInBounds_toArray]
        simp only [Nat.zero_add, List.nil_append] at ow ⊢
        have hHeld := HD3.out _ hN
        refine hK.out _ _ (.inr hHeld) ?_
        clear hK K
        refine MAny.ready (rs := [7]) (by kernel_rfl) (by simp) ?_
        refine MReady.cons rfl (fun K hK => ?_) MReady.nil
        refine step_append_any _ (by rfl) (.tmp 45) (.tmp 47) 36 (by rfl) N0 49 i0 (.agg #[.int .i64 0, .int .i64 0, .int .i64 0]) 3 24 Tryz.underlying36 hi hz0 hz1 hz2 rfl (by decide) _ _ q ((xs2.take q).flatMap encSt) (by rfl) ow ⟨xg, 0, none⟩ 1 1 (encSt s) (by rfl) rfl (Box.newsQ xb) (stOne1 s) (by unfold maxLen; omega) (by omega) (Nat.le_trans (Nat.le_of_eq hN0.out.symm) hN.size) ?_
        intro og oc Wcb ow2 hgr hor
        have xl := (own_lt xb).2
        replace xb := Box.keep xb hgr hxe
        replace hxe : xg ≠ og := by rcases hor with e | e <;> omega
        clear xl
        replace hN := hN.grown hgr (Nat.le_trans (Nat.le_of_eq hN0.out.symm) hN.size) (fun g e => by cases e; exact (own_lt ow).1)
        clear hor hgr
        replace ow := ow2
        clear ow2
        try simp only [Act.put]
        have hHeld := HD3.out _ hN
        refine hK.out _ _ (.inr hHeld) ?_
        clear hK K
        refine MAny.ready (rs := [11]) (by kernel_rfl) (by simp) ?_
        refine MReady.cons rfl (fun K hK => ?_) MReady.nil
        first
          | refine step_append_any _ (by rfl) (.tmp 48) (.tmp 51) 36 (by rfl) N0 49 i0 (.agg #[.int .i64 0, .int .i64 0, .int .i64 0]) 3 24 Tryz.underlying36 hi hz0 hz1 hz2 rfl (by decide) _ _ (q + 1) ((xs2.take q).flatMap encSt ++ encSt s) (by rfl) ow ⟨ga, q * 3, none⟩ (xs2.length - q) (cap - q) ((xs2.drop q).flatMap encSt) (by rfl) (by rw [length_flatMap_enc encSt 3 encSt_len, List.length_drop]) (rd_dropQ encSt_len (by decide) (HX.out _ hN) q) (stOne (xs2.drop q)) (by unfold maxLen; omega) (by omega) (Nat.le_trans (Nat.le_of_eq hN0.out.symm) hN.size) ?_
          | refine step_append_any _ (by rfl) (.tmp 48) (.tmp 51) 36 (by rfl) N0 49 i0 (.agg #[.int .i64 0, .int .i64 0, .int .i64 0]) 3 24 Tryz.underlying36 hi hz0 hz1 hz2 rfl (by decide) _ _ (q + 1) ((xs2.take q).flatMap encSt ++ encSt s) (by rfl) ow ⟨ga, 0, none⟩ 0 0 ([]) (by rfl) rfl (fun j u hu => by cases hu) (fun u hu => by cases hu) (by unfold maxLen; omega) (by omega) (Nat.le_trans (Nat.le_of_eq hN0.out.symm) hN.size) ?_
        intro og oc Wcc ow2 hgr hor
        have xl := (own_lt xb).2
        replace xb := Box.keep xb hgr hxe
        replace hxe : xg ≠ og := by rcases hor with e | e <;> omega
        clear xl
        replace hN := hN.grown hgr (Nat.le_trans (Nat.le_of_eq hN0.out.symm) hN.size) (fun g e => by cases e; exact (own_lt ow).1)
        clear hor hgr
        replace ow := ow2
        clear ow2
        try simp only [Act.put]
        first
          | (have hen : q + 1 + (xs2.length - q) = xs2.length + 1 := by omega
             have hcnt : (xs2.take q).flatMap encSt ++ encSt s ++ (xs2.drop q).flatMap encSt = (insSt s xs2).flatMap encSt := by rw [hins.out]; simp
             rw [hen, hcnt] at ow
             simp only [hen]
             clear hen hcnt)
          | (have hen : q + 1 + 0 = xs2.length + 1 := by omega
             have hcnt : (xs2.take q).flatMap encSt ++ encSt s ++ [] = (insSt s xs2).flatMap encSt := by rw [hins.out, List.drop_eq_nil_of_le (by omega)]; simp
             rw [hen, hcnt] at ow
             simp only [hen]
             clear hen hcnt)
        have hHeld := HD3.out _ hN
        refine hK.out _ _ (.inr hHeld) ?_
        clear hK K
        refine MAny.ready (rs := [12]) (by kernel_rfl) (by simp) ?_
        refine MReady.cons rfl (fun K hK => ?_) MReady.nil
        go_simp
        refine hK.out _ _ (.inl rfl) ?_
        clear hK K
        refine MAny.done (by kernel_rfl) ?_ _
        try simp only [List.getElem_toArray, List.getElem_cons_succ, List.getElem_cons_zero]
        have hV := stepB hBV hzV hBV.size
        have hN1 := stepB hV (HNN.out _ hN) hV.size
        have hw1 := stepB hB0 hN1 hB0.size
        have ow := own_base ow (show w.heap.size ≤ N0 by rw [← hN0.out]; exact (stepB hB0 hV hB0.size).size)
        clear hN HX HNN hN0 hHeld hxe xb
        obtain ⟨l0, l1, d0, d1, d2⟩ := HC.out _ hN1
        have HI := Lib.hid (fun W h0 h1 h2 => HI0.out W (some ⟨og, 0, none⟩) oc (xs2.length + 1) h0 h1 (insSt s xs2) (insSt_len s xs2) h2 (by rw [insSt_len]; omega))
        go_wp2_with fail
        refine (HI.out _ (hx0.below hw1) (hx1.below hw1) (Rd.of_own encSt_len (by decide) ow)).mono ?_
        rintro e U1 ⟨rfl, hB1⟩
        clear HI l0 l1 d0 d1 d2
        replace ow := own_below ow hB1
        have hw2 := stepB hw1 hB1 hw1.size
        have HLN := Lib.hid (insSt_len s xs2)
        cases hb : isItinB xs0 xs1 (insSt s xs2)
        · have hR := Lib.hid (hRn.out hb)
          clear hb
          go_wp2
          go_ret2
          rw [hR.out]
          exact ⟨none, 0, rfl, World.ownsRow_nil _ _ _ _, hw2⟩
        · have hR := Lib.hid (hRo.out hb)
          clear hb
          go_wp2
          go_ret2
          rw [hR.out]
          exact ⟨some ⟨og, 0, none⟩, oc, by rw [HLN.out]; rfl, by rw [HLN.out]; exact ow, hw2⟩
end

section
open Go.ChangeShapes Go.WideShapes Go.ChangeAt Go.RowKit Go.IntWalk

set_option maxHeartbeats 1000000 in
theorem cloneSt_any (g0 cap n : Nat) (xs : List St) (w : World) (hn : xs.length = n) (hl : n ≤ 1048576) (hx : Rd encSt w (some ⟨g0, 0, none⟩) xs) :
    Calls Tryz.prog 57 #[.slice (some ⟨g0, 0, none⟩) n cap] w fun e w' => ∃ g c, e = .returned (.slice (some ⟨g, 0, none⟩) n c) ∧ w'.ownsRow w.heap.size 49 3 (.slice (some ⟨g, 0, none⟩) n c) n (xs.flatMap encSt) ∧ Below w.heap.size w w' := by
  subst hn
  obtain ⟨i0, hi, hz0, hz1, hz2⟩ := info_parts infoSt
  have q22 : ∀ (w : World) (a : Option Addr) (n c n' c' : Nat), (binOp .eql 36 (.slice a n c) (.slice none n' c')).run Tryz.prog w = .ok (.bool a.isNone) w := fun w a n c n' c' => Lib.run_eql_slice_nil w _ _ a n c n' c' Tryz.underlying36
  have hz : Below w.heap.size w (w.alloc (.cells #[] 49)) := belowC _ _
  have ow := World.ownsRow_made w #[] 0 (Nat.le_refl w.heap.size) (by decide) rfl (e := 49) (size := 3)
  go_enter Tryz.func57, Tryz.ntmps57
  go_wp2_with (at_builtin; refine wpList_append_all _ rfl _ _ 36 rfl w.heap.size 49 i0 (.agg #[.int .i64 0, .int .i64 0, .int .i64 0]) 3 24 Tryz.underlying36 hi hz0 hz1 hz2 rfl (by decide) _ _ 0 [] rfl ow ⟨g0, 0, none⟩ xs.length cap (xs.flatMap encSt) rfl (length_flatMap_enc encSt 3 encSt_len xs) (rd_allQ encSt_len (by decide) (hx.below hz)) (stOne xs) (by unfold maxLen; omega) (by omega) (by simp) ?_)
  intro og oc W3 ow2 hgr hor
  go_wp2
  go_ret
  exact ⟨og, oc, rfl, by simpa using ow2, hz.grown hgr hz.size (fun g e => by cases e; exact (own_lt ow).1)⟩

set_option maxRecDepth 100000 in
set_option maxHeartbeats 8000000 in
theorem implAdd_any (a0 a1 : Option Addr) (ga cap0 cap1 cap : Nat) (xs0 : List ByteArray) (xs1 : List Wy) (xs2 : List St) (s : St) (w : World) (hc0 : xs0.length ≤ cap0) (hc1 : cap0 ≤ 9223372036854775807) (hl0 : xs0.length ≤ 1048576) (hx0 : Rd encS w a0 xs0) (hs0 : ∀ m ∈ xs0, m.size ≤ 1048576) (hl1 : xs1.length ≤ 1048576) (hx1 : Rd encWy w a1 xs1) (hl2 : xs2.length ≤ 1048576) (hx2 : Rd encSt w (some ⟨ga, 0, none⟩) xs2) :
    Calls Tryz.prog 20 #[.agg #[.slice a0 xs0.length cap0, .slice a1 xs1.length cap1], .slice (some ⟨ga, 0, none⟩) xs2.length cap, .agg #[.int .i64 s.place, .int .i64 s.fr, .int .i64 s.to]] w fun e w' => ∃ b c, e = .returned (.tuple #[.slice b (addR xs0 xs1 xs2 s).1.length c, .int .i64 (addR xs0 xs1 xs2 s).2]) ∧ w'.ownsRow w.heap.size 49 3 (.slice b (addR xs0 xs1 xs2 s).1.length c) (addR xs0 xs1 xs2 s).1.length ((addR xs0 xs1 xs2 s).1.flatMap encSt) ∧ Below w.heap.size w w' := by
  obtain ⟨i0, hi, hz0, hz1, hz2⟩ := info_parts infoSt
  have HS0 := Lib.hid (fun W => isStay_any a0 a1 cap0 cap1 xs0.length xs1.length s W hl0)
  have HI0 := Lib.hid (fun W a2 c2 n (h0 : Rd encS W a0 xs0) (h1 : Rd encWy W a1 xs1) (ys : List St) (hn : ys.length = n) (h2 : Rd encSt W a2 ys) (hl : ys.length ≤ 1048576) => hn ▸ implIsItin_any a0 a1 a2 cap0 cap1 c2 xs0 xs1 ys W hc0 hc1 hl0 h0 hs0 hl1 h1 hl h2)
  have HM0 := Lib.hid (fun W (h0 : Rd encS W a0 xs0) (h1 : Rd encWy W a1 xs1) (h2 : Rd encSt W (some ⟨ga, 0, none⟩) xs2) => implIsItin_any a0 a1 (some ⟨ga, 0, none⟩) cap0 cap1 cap xs0 xs1 xs2 W hc0 hc1 hl0 h0 hs0 hl1 h1 hl2 h2)
  cases hA : isItinB xs0 xs1 xs2
  · have hR := Lib.hid (addR_bad (s := s) hA)
    have HM := Lib.hid (fun W h0 h1 h2 => hA ▸ HM0.out W h0 h1 h2)
    clear hA HS0 HI0 HM0
    go_enter Tryz.func20, Tryz.ntmps20
    go_upto_region 1 with (fail)
    generalize hW : (w.alloc (.cells #[.slice a0 xs0.length cap0, .slice a1 xs1.length cap1] 35)).alloc (.cells #[.int .i64 s.place, .int .i64 s.fr, .int .i64 s.to] 49) = W
    have hB0 : Below w.heap.size w W := by rw [← hW]; go_grown
    have hs9 : W.heap.size = w.heap.size + 2 := by rw [← hW]; simp
    have HC : Hid (∀ V, Below W.heap.size W V → V.cell? ⟨w.heap.size, 0, none⟩ = some (.slice a0 xs0.length cap0) ∧ V.cell? ⟨w.heap.size, 1, none⟩ = some (.slice a1 xs1.length cap1) ∧ V.cell? ⟨w.heap.size + 1, 0, none⟩ = some (.int .i64 s.place) ∧ V.cell? ⟨w.heap.size + 1, 1, none⟩ = some (.int .i64 s.fr) ∧ V.cell? ⟨w.heap.size + 1, 2, none⟩ = some (.int .i64 s.to)) := by
      intro V hV
      refine ⟨((bcell hV).1 _ _ (by omega)).trans ?_, ((bcell hV).1 _ _ (by omega)).trans ?_, ((bcell hV).1 _ _ (by omega)).trans ?_, ((bcell hV).1 _ _ (by omega)).trans ?_, ((bcell hV).1 _ _ (by omega)).trans ?_⟩
      · rw [← hW, World.cell?_alloc_past _ _ _ (by simp)]; exact World.cell?_alloc_at _ _ _ _ rfl
      · rw [← hW, World.cell?_alloc_past _ _ _ (by simp)]; exact World.cell?_alloc_at _ _ _ _ rfl
      · rw [← hW]; exact World.cell?_alloc_at _ _ _ _ (by simp)
      · rw [← hW]; exact World.cell?_alloc_at _ _ _ _ (by simp)
      · rw [← hW]; exact World.cell?_alloc_at _ _ _ _ (by simp)
    clear hW
    have hb0 : w.heap.size < W.heap.size := by omega
    have hb1 : w.heap.size + 1 < W.heap.size := by omega
    clear hs9
    obtain ⟨l0, l1, -, -, -⟩ := HC.out W (Below.refl _ _)
    go_wp2_with fail
    refine (HM.out _ (hx0.below hB0) (hx1.below hB0) (hx2.below hB0)).mono ?_
    rintro e V1 ⟨rfl, hz⟩
    clear l0 l1
    go_wp2
    go_ret2
    rw [hR.out]
    exact ⟨none, 0, rfl, World.ownsRow_nil _ _ _ _, stepB hB0 hz hB0.size⟩

  have HA := Lib.hid hA
  have h40 := (itin_str hA).2
  have HM := Lib.hid (fun W h0 h1 h2 => hA ▸ HM0.out W h0 h1 h2)
  clear HM0
  cases hD : okSt xs0.length s
  · have hR := Lib.hid (addR_rng hA hD)
    have HS := Lib.hid (fun W => hD ▸ HS0.out W)
    clear hA hD HS0 HI0
    go_enter Tryz.func20, Tryz.ntmps20
    go_upto_region 1 with (fail)
    generalize hW : (w.alloc (.cells #[.slice a0 xs0.length cap0, .slice a1 xs1.length cap1] 35)).alloc (.cells #[.int .i64 s.place, .int .i64 s.fr, .int .i64 s.to] 49) = W
    have hB0 : Below w.heap.size w W := by rw [← hW]; go_grown
    have hs9 : W.heap.size = w.heap.size + 2 := by rw [← hW]; simp
    have HC : Hid (∀ V, Below W.heap.size W V → V.cell? ⟨w.heap.size, 0, none⟩ = some (.slice a0 xs0.length cap0) ∧ V.cell? ⟨w.heap.size, 1, none⟩ = some (.slice a1 xs1.length cap1) ∧ V.cell? ⟨w.heap.size + 1, 0, none⟩ = some (.int .i64 s.place) ∧ V.cell? ⟨w.heap.size + 1, 1, none⟩ = some (.int .i64 s.fr) ∧ V.cell? ⟨w.heap.size + 1, 2, none⟩ = some (.int .i64 s.to)) := by
      intro V hV
      refine ⟨((bcell hV).1 _ _ (by omega)).trans ?_, ((bcell hV).1 _ _ (by omega)).trans ?_, ((bcell hV).1 _ _ (by omega)).trans ?_, ((bcell hV).1 _ _ (by omega)).trans ?_, ((bcell hV).1 _ _ (by omega)).trans ?_⟩
      · rw [← hW, World.cell?_alloc_past _ _ _ (by simp)]; exact World.cell?_alloc_at _ _ _ _ rfl
      · rw [← hW, World.cell?_alloc_past _ _ _ (by simp)]; exact World.cell?_alloc_at _ _ _ _ rfl
      · rw [← hW]; exact World.cell?_alloc_at _ _ _ _ (by simp)
      · rw [← hW]; exact World.cell?_alloc_at _ _ _ _ (by simp)
      · rw [← hW]; exact World.cell?_alloc_at _ _ _ _ (by simp)
    clear hW
    have hb0 : w.heap.size < W.heap.size := by omega
    have hb1 : w.heap.size + 1 < W.heap.size := by omega
    clear hs9
    obtain ⟨l0, l1, -, -, -⟩ := HC.out W (Below.refl _ _)
    go_wp2_with fail
    refine (HM.out _ (hx0.below hB0) (hx1.below hB0) (hx2.below hB0)).mono ?_
    rintro e V1 ⟨rfl, hz⟩
    clear l0 l1
    obtain ⟨l0, l1, d0, d1, d2⟩ := HC.out _ hz
    go_wp2_with fail
    refine (HS.out _).mono ?_
    rintro e V2 ⟨rfl, hz2⟩
    clear l0 l1 d0 d1 d2
    replace hz := stepB hz hz2 hz.size
    clear hz2
    go_wp2
    go_ret2
    rw [hR.out]
    exact ⟨none, 0, rfl, World.ownsRow_nil _ _ _ _, stepB hB0 hz hB0.size⟩

  have HD := Lib.hid hD
  have HS := Lib.hid (fun W => hD ▸ HS0.out W)
  clear hA hD HS0
  by_cases h4 : xs2.length = 40
  · have h41 : (xs2.length : Int) = 40 := by omega
    have hR := Lib.hid (addR_lim HA.out HD.out h4)
    clear HI0 h4
    go_enter Tryz.func20, Tryz.ntmps20
    go_upto_region 1 with (fail)
    generalize hW : (w.alloc (.cells #[.slice a0 xs0.length cap0, .slice a1 xs1.length cap1] 35)).alloc (.cells #[.int .i64 s.place, .int .i64 s.fr, .int .i64 s.to] 49) = W
    have hB0 : Below w.heap.size w W := by rw [← hW]; go_grown
    have hs9 : W.heap.size = w.heap.size + 2 := by rw [← hW]; simp
    have HC : Hid (∀ V, Below W.heap.size W V → V.cell? ⟨w.heap.size, 0, none⟩ = some (.slice a0 xs0.length cap0) ∧ V.cell? ⟨w.heap.size, 1, none⟩ = some (.slice a1 xs1.length cap1) ∧ V.cell? ⟨w.heap.size + 1, 0, none⟩ = some (.int .i64 s.place) ∧ V.cell? ⟨w.heap.size + 1, 1, none⟩ = some (.int .i64 s.fr) ∧ V.cell? ⟨w.heap.size + 1, 2, none⟩ = some (.int .i64 s.to)) := by
      intro V hV
      refine ⟨((bcell hV).1 _ _ (by omega)).trans ?_, ((bcell hV).1 _ _ (by omega)).trans ?_, ((bcell hV).1 _ _ (by omega)).trans ?_, ((bcell hV).1 _ _ (by omega)).trans ?_, ((bcell hV).1 _ _ (by omega)).trans ?_⟩
      · rw [← hW, World.cell?_alloc_past _ _ _ (by simp)]; exact World.cell?_alloc_at _ _ _ _ rfl
      · rw [← hW, World.cell?_alloc_past _ _ _ (by simp)]; exact World.cell?_alloc_at _ _ _ _ rfl
      · rw [← hW]; exact World.cell?_alloc_at _ _ _ _ (by simp)
      · rw [← hW]; exact World.cell?_alloc_at _ _ _ _ (by simp)
      · rw [← hW]; exact World.cell?_alloc_at _ _ _ _ (by simp)
    clear hW
    have hb0 : w.heap.size < W.heap.size := by omega
    have hb1 : w.heap.size + 1 < W.heap.size := by omega
    clear hs9
    obtain ⟨l0, l1, -, -, -⟩ := HC.out W (Below.refl _ _)
    go_wp2_with fail
    refine (HM.out _ (hx0.below hB0) (hx1.below hB0) (hx2.below hB0)).mono ?_
    rintro e V1 ⟨rfl, hz⟩
    clear l0 l1
    obtain ⟨l0, l1, d0, d1, d2⟩ := HC.out _ hz
    go_wp2_with fail
    refine (HS.out _).mono ?_
    rintro e V2 ⟨rfl, hz2⟩
    clear l0 l1 d0 d1 d2
    replace hz := stepB hz hz2 hz.size
    clear hz2
    go_wp2
    go_ret2
    rw [hR.out]
    exact ⟨none, 0, rfl, World.ownsRow_nil _ _ _ _, stepB hB0 hz hB0.size⟩

  have h41 : ((xs2.length : Int) == 40) = false := by simp; omega
  have hRn := Lib.hid (addR_not HA.out HD.out h4)
  have hRo := Lib.hid (addR_ok HA.out HD.out h4)
  have h40 : xs2.length < 40 := by omega
  replace h4 := Lib.hid h4
  go_enter Tryz.func20, Tryz.ntmps20
  go_upto_region 1 with (fail)
  generalize hW : (w.alloc (.cells #[.slice a0 xs0.length cap0, .slice a1 xs1.length cap1] 35)).alloc (.cells #[.int .i64 s.place, .int .i64 s.fr, .int .i64 s.to] 49) = W
  have hB0 : Below w.heap.size w W := by rw [← hW]; go_grown
  have hs9 : W.heap.size = w.heap.size + 2 := by rw [← hW]; simp
  have HC : Hid (∀ V, Below W.heap.size W V → V.cell? ⟨w.heap.size, 0, none⟩ = some (.slice a0 xs0.length cap0) ∧ V.cell? ⟨w.heap.size, 1, none⟩ = some (.slice a1 xs1.length cap1) ∧ V.cell? ⟨w.heap.size + 1, 0, none⟩ = some (.int .i64 s.place) ∧ V.cell? ⟨w.heap.size + 1, 1, none⟩ = some (.int .i64 s.fr) ∧ V.cell? ⟨w.heap.size + 1, 2, none⟩ = some (.int .i64 s.to)) := by
    intro V hV
    refine ⟨((bcell hV).1 _ _ (by omega)).trans ?_, ((bcell hV).1 _ _ (by omega)).trans ?_, ((bcell hV).1 _ _ (by omega)).trans ?_, ((bcell hV).1 _ _ (by omega)).trans ?_, ((bcell hV).1 _ _ (by omega)).trans ?_⟩
    · rw [← hW, World.cell?_alloc_past _ _ _ (by simp)]; exact World.cell?_alloc_at _ _ _ _ rfl
    · rw [← hW, World.cell?_alloc_past _ _ _ (by simp)]; exact World.cell?_alloc_at _ _ _ _ rfl
    · rw [← hW]; exact World.cell?_alloc_at _ _ _ _ (by simp)
    · rw [← hW]; exact World.cell?_alloc_at _ _ _ _ (by simp)
    · rw [← hW]; exact World.cell?_alloc_at _ _ _ _ (by simp)
  clear hW
  have hb0 : w.heap.size < W.heap.size := by omega
  have hb1 : w.heap.size + 1 < W.heap.size := by omega
  clear hs9
  obtain ⟨l0, l1, -, -, -⟩ := HC.out W (Below.refl _ _)
  go_wp2_with fail
  refine (HM.out _ (hx0.below hB0) (hx1.below hB0) (hx2.below hB0)).mono ?_
  rintro e V1 ⟨rfl, hz⟩
  clear l0 l1
  obtain ⟨l0, l1, d0, d1, d2⟩ := HC.out _ hz
  go_wp2_with fail
  refine (HS.out _).mono ?_
  rintro e V2 ⟨rfl, hz2⟩
  clear l0 l1 d0 d1 d2
  replace hz := stepB hz hz2 hz.size
  clear hz2
  have hBV := hz
  clear hz
  go_upto_region 7 with (fail)
  refine MAny.region (S := fun w' => w'.cell? ⟨w.heap.size + 1, 0, none⟩ = some (.int .i64 s.place) ∧ w'.cell? ⟨w.heap.size + 1, 1, none⟩ = some (.int .i64 s.fr) ∧ w'.cell? ⟨w.heap.size + 1, 2, none⟩ = some (.int .i64 s.to)) (last := 5) (by kernel_rfl) ?_
  have hzV := (Below.refl V2.heap.size V2).drew
  generalize V2.drew = V0 at hzV ⊢
  have hN := Below.refl V0.heap.size V0
  obtain ⟨N0, hN0⟩ : ∃ N0, V0.heap.size = N0 := ⟨_, rfl⟩
  have hNN : ∀ W, Below N0 V0 W → Below V0.heap.size V0 W := fun W h => by rw [hN0]; exact h
  rw [hN0] at hN
  have HNN := Lib.hid hNN
  clear hNN
  replace hN0 := Lib.hid hN0
  have HD3 : Hid (∀ U, Below N0 V0 U → U.cell? ⟨w.heap.size + 1, 0, none⟩ = some (.int .i64 s.place) ∧ U.cell? ⟨w.heap.size + 1, 1, none⟩ = some (.int .i64 s.fr) ∧ U.cell? ⟨w.heap.size + 1, 2, none⟩ = some (.int .i64 s.to)) := fun U hU => (HC.out U (stepB (stepB hBV hzV hBV.size) (HNN.out U hU) (stepB hBV hzV hBV.size).size)).2.2
  have HX : Hid (∀ U, Below N0 V0 U → Rd encSt U (some ⟨ga, 0, none⟩) xs2) := fun U hU => (hx2.below hB0).below (stepB (stepB hBV hzV hBV.size) (HNN.out U hU) (stepB hBV hzV hBV.size).size)
  have hWN : Hid (w.heap.size < N0) := by show _ < _; rw [← hN0.out]; exact Nat.lt_of_lt_of_le hb0 (stepB hBV hzV hBV.size).size
  have hHeld := HD3.out _ hN
  refine MAny.take (i := 0) (v := ?_) rfl (by kernel_rfl) (by kernel_rfl) (by kernel_rfl) (fun _ _ _ h => h) (by kernel_rfl) (Or.inl ⟨by rfl, ?_⟩) (by assumption) ?_
  rotate_left
  · (intro w' hSw; (try dsimp only at hSw); go_simp; try (with_reducible rfl))
  try simp only [Act.put, List.setIfInBounds_toArray]
  refine MAny.take (i := 2) (v := ?_) rfl (by kernel_rfl) (by kernel_rfl) (by kernel_rfl) (fun _ _ _ h => h) (by kernel_rfl) (Or.inl ⟨by rfl, ?_⟩) (by assumption) ?_
  rotate_left
  · (intro w' hSw; (try dsimp only at hSw); go_simp; try (with_reducible rfl))
  try simp only [Act.put]
  refine MAny.ready (rs := [1, 3]) (by kernel_rfl) (by simp) ?_
  refine MReady.cons rfl (fun K hK => ?_) (MReady.cons rfl (fun K hK => ?_) MReady.nil)
  · go_simp
    go_wp2_with (go_at_call 57; refine (cloneSt_any ga cap xs2.length xs2 V0 rfl (by omega) (HX.out _ hN)).mono ?_; rintro e Wa ⟨og, oc, rfl, ow, hB1⟩)
    replace ow := own_base ow (show N0 ≤ _ from Nat.le_trans (Nat.le_of_eq hN0.out.symm) hN.size)
    replace hN := stepB hN hB1 (Nat.le_trans (Nat.le_of_eq hN0.out.symm) hN.size)
    clear hB1
    have hHeld := HD3.out _ hN
    refine hK.out _ _ (.inr hHeld) ?_
    clear hK K
    refine MAny.ready (rs := [3]) (by kernel_rfl) (by simp) ?_
    refine MReady.cons rfl (fun K hK => ?_) MReady.nil
    go_simp
    have xb := Box.new Wa 49 [.int .i64 s.place, .int .i64 s.fr, .int .i64 s.to] N0 (Nat.le_trans (Nat.le_of_eq hN0.out.symm) hN.size) (by simp)
    have hz := belowC Wa (.cells #[.int .i64 s.place, .int .i64 s.fr, .int .i64 s.to] 49)
    have hxe : Wa.heap.size ≠ og := Nat.ne_of_gt (own_lt ow).2
    replace ow := own_below ow hz
    replace hN := stepB hN hz (Nat.le_trans (Nat.le_of_eq hN0.out.symm) hN.size)
    clear hz
    change Box _ (Wa.alloc (.cells #[.int .i64 s.place, .int .i64 s.fr, .int .i64 s.to] 49)) _ _ _ at xb
    generalize Wa.alloc (.cells #[.int .i64 s.place, .int .i64 s.fr, .int .i64 s.to] 49) = Wb at xb hN ow ⊢
    generalize Wa.heap.size = xg at xb hxe ⊢
    have hHeld := HD3.out _ hN
    refine hK.out _ _ (.inr hHeld) ?_
    clear hK K
    refine MAny.ready (rs := [4]) (by kernel_rfl) (by simp) ?_
    refine MReady.cons rfl (fun K hK => ?_) MReady.nil
    refine step_append_any _ (by rfl) (.tmp 24) (.tmp 26) 36 (by rfl) N0 49 i0 (.agg #[.int .i64 0, .int .i64 0, .int .i64 0]) 3 24 Tryz.underlying36 hi hz0 hz1 hz2 rfl (by decide) _ _ xs2.length (xs2.flatMap encSt) (by rfl) ow ⟨xg, 0, none⟩ 1 1 (encSt s) (by rfl) rfl (Box.newsQ xb) (stOne1 s) (by unfold maxLen; omega) (by omega) (Nat.le_trans (Nat.le_of_eq hN0.out.symm) hN.size) ?_
    intro og oc Wc ow2 hgr hor
    have xl := (own_lt xb).2
    replace xb := Box.keep xb hgr hxe
    replace hxe : xg ≠ og := by rcases hor with e | e <;> omega
    clear xl
    replace hN := hN.grown hgr (Nat.le_trans (Nat.le_of_eq hN0.out.symm) hN.size) (fun g e => by cases e; exact (own_lt ow).1)
    clear hor hgr
    replace ow := ow2
    clear ow2
    try simp only [Act.put, List.setIfInBounds_toArray]
    have hHeld := HD3.out _ hN
    refine hK.out _ _ (.inr hHeld) ?_
    clear hK K
    refine MAny.ready (rs := [5]) (by kernel_rfl) (by simp) ?_
    refine MReady.cons rfl (fun K hK => ?_) MReady.nil
    go_simp
    refine hK.out _ _ (.inl rfl) ?_
    clear hK K
    refine MAny.done (by kernel_rfl) ?_ _
    try simp only [List.getElem_toArray, List.getElem_cons_succ, List.getElem_cons_zero]
    have hnog : Hid (w.heap.size ≠ og) := Nat.ne_of_lt (Nat.lt_of_lt_of_le hWN.out (own_lt ow).1)
    have hV := stepB hBV hzV hBV.size
    have hN1 := stepB hV (HNN.out _ hN) hV.size
    have hw1 := stepB hB0 hN1 hB0.size
    have ow := own_base ow (show w.heap.size ≤ N0 by rw [← hN0.out]; exact (stepB hB0 hV hB0.size).size)
    clear hN HX HNN hN0 hHeld hxe xb
    have ow : Wc.ownsRow w.heap.size 49 3 (.slice (some ⟨og, 0, none⟩) (xs2.length + 1) oc) (xs2.length + 1) ((xs2 ++ [s]).flatMap encSt) := by rw [List.flatMap_append]; exact ow
    have HSO := Lib.hid (sortStable_any w.heap.size og (xs2.length + 1) oc (xs2 ++ [s]) Wc ow (by simp) (by omega))
    have hog := Lib.hid (own_lt ow).1
    go_wp2_with fail
    refine HSO.out.mono ?_
    rintro e U0 ⟨C, pC, sC, rfl, owC, hgr⟩
    have hogW := Lib.hid (own_lt ow).2
    clear HSO ow
    replace hw1 := hw1.grown hgr hw1.size (fun g e => by cases e; exact hog.out)
    have hcells : U0.cell? ⟨w.heap.size, 0, none⟩ = some (.slice a0 xs0.length cap0) ∧ U0.cell? ⟨w.heap.size, 1, none⟩ = some (.slice a1 xs1.length cap1) := by
      obtain ⟨l0, l1, -, -, -⟩ := HC.out _ hN1
      exact ⟨hgr.cell l0 (fun e => by injection e with e; exact hnog.out e), hgr.cell l1 (fun e => by injection e with e; exact hnog.out e)⟩
    obtain ⟨l0, l1⟩ := hcells
    have hone := add_one HA.out pC sC
    have hlC : C.length = xs2.length + 1 := by simpa using pC.length_eq
    have HI := Lib.hid (fun W h0 h1 h2 => HI0.out W (some ⟨og, 0, none⟩) oc (xs2.length + 1) h0 h1 C hlC h2 (by omega))
    rw [hone.1] at HI
    have hon2 := Lib.hid hone.2
    clear hone hgr hlC
    go_wp2_with fail
    refine (HI.out _ (hx0.below hw1) (hx1.below hw1) (Rd.of_own encSt_len (by decide) owC)).mono ?_
    rintro e U1 ⟨rfl, hB1⟩
    clear HI l0 l1
    replace owC := own_below owC hB1
    have hw2 := stepB hw1 hB1 hw1.size
    have HLN := Lib.hid (insSt_len s xs2)
    cases hb : isItinB xs0 xs1 (insSt s xs2)
    · have hR := Lib.hid (hRn.out hb)
      clear hb
      go_wp2
      go_ret2
      rw [hR.out]
      exact ⟨none, 0, rfl, World.ownsRow_nil _ _ _ _, hw2⟩
    · have hR := Lib.hid (hRo.out hb)
      have hCe := hon2.out hb
      subst hCe
      clear hb
      go_wp2
      go_ret2
      rw [hR.out]
      exact ⟨some ⟨og, 0, none⟩, oc, by rw [HLN.out]; rfl, by rw [HLN.out]; exact owC, hw2⟩
  · go_simp
    have xb := Box.new V0 49 [.int .i64 s.place, .int .i64 s.fr, .int .i64 s.to] N0 (Nat.le_trans (Nat.le_of_eq hN0.out.symm) hN.size) (by simp)
    have hz := belowC V0 (.cells #[.int .i64 s.place, .int .i64 s.fr, .int .i64 s.to] 49)
    replace hN := stepB hN hz (Nat.le_trans (Nat.le_of_eq hN0.out.symm) hN.size)
    clear hz
    change Box _ (V0.alloc (.cells #[.int .i64 s.place, .int .i64 s.fr, .int .i64 s.to] 49)) _ _ _ at xb
    generalize V0.alloc (.cells #[.int .i64 s.place, .int .i64 s.fr, .int .i64 s.to] 49) = Wa at xb hN ⊢
    generalize V0.heap.size = xg at xb ⊢
    have hHeld := HD3.out _ hN
    refine hK.out _ _ (.inr hHeld) ?_
    clear hK K
    refine MAny.ready (rs := [1]) (by kernel_rfl) (by simp) ?_
    refine MReady.cons rfl (fun K hK => ?_) MReady.nil
    go_simp
    go_wp2_with (go_at_call 57; refine (cloneSt_any ga cap xs2.length xs2 Wa rfl (by omega) (HX.out _ hN)).mono ?_; rintro e Wb ⟨og, oc, rfl, ow, hB1⟩)
    have hxe : xg ≠ og := Nat.ne_of_lt (Nat.lt_of_lt_of_le (own_lt xb).2 (own_lt ow).1)
    replace xb := Box.below xb hB1
    replace ow := own_base ow (show N0 ≤ _ from Nat.le_trans (Nat.le_of_eq hN0.out.symm) hN.size)
    replace hN := stepB hN hB1 (Nat.le_trans (Nat.le_of_eq hN0.out.symm) hN.size)
    clear hB1
    have hHeld := HD3.out _ hN
    refine hK.out _ _ (.inr hHeld) ?_
    clear hK K
    refine MAny.ready (rs := [4]) (by kernel_rfl) (by simp) ?_
    refine MReady.cons rfl (fun K hK => ?_) MReady.nil
    refine step_append_any _ (by rfl) (.tmp 24) (.tmp 26) 36 (by rfl) N0 49 i0 (.agg #[.int .i64 0, .int .i64 0, .int .i64 0]) 3 24 Tryz.underlying36 hi hz0 hz1 hz2 rfl (by decide) _ _ xs2.length (xs2.flatMap encSt) (by rfl) ow ⟨xg, 0, none⟩ 1 1 (encSt s) (by rfl) rfl (Box.newsQ xb) (stOne1 s) (by unfold maxLen; omega) (by omega) (Nat.le_trans (Nat.le_of_eq hN0.out.symm) hN.size) ?_
    intro og oc Wc ow2 hgr hor
    have xl := (own_lt xb).2
    replace xb := Box.keep xb hgr hxe
    replace hxe : xg ≠ og := by rcases hor with e | e <;> omega
    clear xl
    replace hN := hN.grown hgr (Nat.le_trans (Nat.le_of_eq hN0.out.symm) hN.size) (fun g e => by cases e; exact (own_lt ow).1)
    clear hor hgr
    replace ow := ow2
    clear ow2
    try simp only [Act.put, List.setIfInBounds_toArray]
    have hHeld := HD3.out _ hN
    refine hK.out _ _ (.inr hHeld) ?_
    clear hK K
    refine MAny.ready (rs := [5]) (by kernel_rfl) (by simp) ?_
    refine MReady.cons rfl (fun K hK => ?_) MReady.nil
    go_simp
    refine hK.out _ _ (.inl rfl) ?_
    clear hK K
    refine MAny.done (by kernel_rfl) ?_ _
    try simp only [List.getElem_toArray, List.getElem_cons_succ, List.getElem_cons_zero]
    have hnog : Hid (w.heap.size ≠ og) := Nat.ne_of_lt (Nat.lt_of_lt_of_le hWN.out (own_lt ow).1)
    have hV := stepB hBV hzV hBV.size
    have hN1 := stepB hV (HNN.out _ hN) hV.size
    have hw1 := stepB hB0 hN1 hB0.size
    have ow := own_base ow (show w.heap.size ≤ N0 by rw [← hN0.out]; exact (stepB hB0 hV hB0.size).size)
    clear hN HX HNN hN0 hHeld hxe xb
    have ow : Wc.ownsRow w.heap.size 49 3 (.slice (some ⟨og, 0, none⟩) (xs2.length + 1) oc) (xs2.length + 1) ((xs2 ++ [s]).flatMap encSt) := by rw [List.flatMap_append]; exact ow
    have HSO := Lib.hid (sortStable_any w.heap.size og (xs2.length + 1) oc (xs2 ++ [s]) Wc ow (by simp) (by omega))
    have hog := Lib.hid (own_lt ow).1
    go_wp2_with fail
    refine HSO.out.mono ?_
    rintro e U0 ⟨C, pC, sC, rfl, owC, hgr⟩
    have hogW := Lib.hid (own_lt ow).2
    clear HSO ow
    replace hw1 := hw1.grown hgr hw1.size (fun g e => by cases e; exact hog.out)
    have hcells : U0.cell? ⟨w.heap.size, 0, none⟩ = some (.slice a0 xs0.length cap0) ∧ U0.cell? ⟨w.heap.size, 1, none⟩ = some (.slice a1 xs1.length cap1) := by
      obtain ⟨l0, l1, -, -, -⟩ := HC.out _ hN1
      exact ⟨hgr.cell l0 (fun e => by injection e with e; exact hnog.out e), hgr.cell l1 (fun e => by injection e with e; exact hnog.out e)⟩
    obtain ⟨l0, l1⟩ := hcells
    have hone := add_one HA.out pC sC
    have hlC : C.length = xs2.length + 1 := by simpa using pC.length_eq
    have HI := Lib.hid (fun W h0 h1 h2 => HI0.out W (some ⟨og, 0, none⟩) oc (xs2.length + 1) h0 h1 C hlC h2 (by omega))
    rw [hone.1] at HI
    have hon2 := Lib.hid hone.2
    clear hone hgr hlC
    go_wp2_with fail
    refine (HI.out _ (hx0.below hw1) (hx1.below hw1) (Rd.of_own encSt_len (by decide) owC)).mono ?_
    rintro e U1 ⟨rfl, hB1⟩
    clear HI l0 l1
    replace owC := own_below owC hB1
    have hw2 := stepB hw1 hB1 hw1.size
    have HLN := Lib.hid (insSt_len s xs2)
    cases hb : isItinB xs0 xs1 (insSt s xs2)
    · have hR := Lib.hid (hRn.out hb)
      clear hb
      go_wp2
      go_ret2
      rw [hR.out]
      exact ⟨none, 0, rfl, World.ownsRow_nil _ _ _ _, hw2⟩
    · have hR := Lib.hid (hRo.out hb)
      have hCe := hon2.out hb
      subst hCe
      clear hb
      go_wp2
      go_ret2
      rw [hR.out]
      exact ⟨some ⟨og, 0, none⟩, oc, by rw [HLN.out]; rfl, by rw [HLN.out]; exact owC, hw2⟩
end
end Go.Proofs.YtipdcgfdejmjfaaGreatDoor
