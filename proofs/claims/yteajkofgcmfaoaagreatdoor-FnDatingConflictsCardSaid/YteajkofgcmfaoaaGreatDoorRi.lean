/- Rows of numbers that are written at an index; own blocks of two types lie apart. -/
import Derived.Test.YteajkofgcmfaoaaGreatDoorTt
import Derived.StillTailTactics
import Derived.Test.YteajkofgcmfaoaaGreatDoorBB
namespace Go.Proofs.YteajkofgcmfaoaaGreatDoor
section
def upd2 (M : Nat → Nat → Int) (i j : Nat) (v : Int) : Nat → Nat → Int := fun x y => if x = i ∧ y = j then v else M x y
def Ed (ws : List Wy) (i j : Nat) (d : Int) : Prop := ∃ m ∈ ws, m.days = d ∧ ((m.a.toNat = i ∧ m.b.toNat = j) ∨ (m.b.toNat = i ∧ m.a.toNat = j))
def OkW (n : Nat) (ws : List Wy) : Prop := ∀ m ∈ ws, m.a.toNat < n ∧ m.b.toNat < n ∧ m.a.toNat ≠ m.b.toNat ∧ 1 ≤ m.days ∧ m.days ≤ 60
theorem Ed.ok {n : Nat} {ws : List Wy} (ho : OkW n ws) {i j : Nat} {d : Int} (h : Ed ws i j d) : i < n ∧ j < n ∧ 1 ≤ d ∧ d ≤ 60 := by
  obtain ⟨m, hm, rfl, ⟨rfl, rfl⟩ | ⟨rfl, rfl⟩⟩ := h <;> have := ho m hm <;> omega
inductive Walk (ws : List Wy) (i : Nat) : Nat → Int → Prop
  | nil : Walk ws i i 0
  | snoc {j k : Nat} {c d : Int} : Walk ws i j c → Ed ws j k d → Walk ws i k (c + d)
theorem Walk.trans {ws : List Wy} {i j k : Nat} {c d : Int} (h : Walk ws i j c) (g : Walk ws j k d) : Walk ws i k (c + d) := by
  induction g with
  | nil => simpa using h
  | snoc _ e ih => rw [← Int.add_assoc]; exact .snoc ih e
theorem Walk.nn {n : Nat} {ws : List Wy} (ho : OkW n ws) {i j : Nat} {c : Int} (h : Walk ws i j c) : 0 ≤ c := by
  induction h with
  | nil => omega
  | snoc _ e ih => have := e.ok ho; omega
inductive WK (ws : List Wy) (K : Nat) : Nat → Nat → Int → Prop
  | nil (i : Nat) : WK ws K i i 0
  | edge {i j : Nat} {d : Int} : Ed ws i j d → WK ws K i j d
  | via {i j : Nat} {c d : Int} (m : Nat) : WK ws K i m c → m < K → WK ws K m j d → WK ws K i j (c + d)
theorem WK.nn {n : Nat} {ws : List Wy} (ho : OkW n ws) {K i j : Nat} {c : Int} (h : WK ws K i j c) : 0 ≤ c := by
  induction h with
  | nil => omega
  | edge e => have := e.ok ho; omega
  | via _ _ _ _ ih1 ih2 => omega
theorem WK.split {n : Nat} {ws : List Wy} (ho : OkW n ws) {K K1 i j : Nat} {c : Int} (h : WK ws K1 i j c) (hK : K1 = K + 1) :
    (∃ c', c' ≤ c ∧ WK ws K i j c') ∨ (∃ c1 c2, c1 + c2 ≤ c ∧ WK ws K i K c1 ∧ WK ws K K j c2) := by
  induction h with
  | nil i => exact .inl ⟨0, Int.le_refl _, .nil i⟩
  | edge e => exact .inl ⟨_, Int.le_refl _, .edge e⟩
  | @via i j c d m h1 hm h2 ih1 ih2 =>
    by_cases e : m = K
    · subst e
      right
      obtain ⟨c1, k1, w1⟩ : ∃ c1, c1 ≤ c ∧ WK ws m i m c1 := by
        rcases ih1 with ⟨c', h, w⟩ | ⟨c1, c2, h, w1, w2⟩
        · exact ⟨c', h, w⟩
        · exact ⟨c1, by have := w2.nn ho; omega, w1⟩
      obtain ⟨c2, k2, w2⟩ : ∃ c2, c2 ≤ d ∧ WK ws m m j c2 := by
        rcases ih2 with ⟨c', h, w⟩ | ⟨c1, c2, h, w1, w2⟩
        · exact ⟨c', h, w⟩
        · exact ⟨c2, by have := w1.nn ho; omega, w2⟩
      exact ⟨c1, c2, by omega, w1, w2⟩
    · have hm : m < K := by omega
      rcases ih1 with ⟨a, ha, wa⟩ | ⟨a1, a2, ha, wa1, wa2⟩ <;> rcases ih2 with ⟨b, hb, wb⟩ | ⟨b1, b2, hb, wb1, wb2⟩
      · exact .inl ⟨a + b, by omega, .via m wa hm wb⟩
      · exact .inr ⟨a + b1, b2, by omega, .via m wa hm wb1, wb2⟩
      · exact .inr ⟨a1, a2 + b, by omega, wa1, .via m wa2 hm wb⟩
      · exact .inr ⟨a1, b2, by have := wa2.nn ho; have := wb1.nn ho; omega, wa1, wb2⟩
def Snd (n : Nat) (ws : List Wy) (M : Nat → Nat → Int) : Prop := ∀ i j, i < n → j < n → 0 ≤ M i j ∧ M i j ≤ 1000000 ∧ (M i j < 1000000 → Walk ws i j (M i j))
theorem Snd.put {n : Nat} {ws : List Wy} {M : Nat → Nat → Int} (h : Snd n ws M) (i j : Nat) (v : Int) (h0 : 0 ≤ v) (hv : v ≤ M i j) (hij : i < n ∧ j < n) (hw : v < M i j → Walk ws i j v) : Snd n ws (upd2 M i j v) := fun x y hx hy => by
  have h1 := h x y hx hy
  unfold upd2
  split
  · rename_i e
    obtain ⟨rfl, rfl⟩ := e
    refine ⟨h0, by omega, fun hlt => ?_⟩
    by_cases e : v = M x y
    · rw [e]; exact h1.2.2 (by omega)
    · exact hw (by omega)
  · exact h1
theorem Ed.walk {ws : List Wy} {i j : Nat} {d : Int} (h : Ed ws i j d) : Walk ws i j d := by
  have := Walk.snoc Walk.nil h
  simpa using this
/-! The reference's rounds. -/
end

section
open Go.ChangeShapes Go.WideShapes Go.ChangeAt Go.RowKit

theorem gcell {w w' : World} {r : Option Nat} (h : w.grownBy w' r) {p : Addr} (hp : p.block < w.heap.size) (hn : ∀ g, r = some g → p.block ≠ g) : w'.cell? p = w.cell? p :=
  World.cell?_of_block (w := w) (h.block p.block hp (fun e => hn p.block e.symm rfl))
theorem At.grown {w : World} {box : List Value} {wr w' : World} (h : At w box wr) {r : Option Nat} (hg : wr.grownBy w' r) (hr : ∀ g, r = some g → w.heap.size < g) : At w box w' :=
  ⟨h.below.grown hg h.below.size (fun g e => Nat.le_of_lt (hr g e)), Nat.lt_of_lt_of_le h.size hg.size, fun j v hv => (gcell hg (p := ⟨w.heap.size, j, none⟩) h.size (fun g e => Nat.ne_of_lt (hr g e))).trans (h.cell j v hv)⟩
theorem own_apart {B B' : Nat} {E E' : TypeId} {k k' g g' n n' c c' : Nat} {xs ys : List Value} {w : World} (h : w.ownsRow B E k (.slice (some ⟨g, 0, none⟩) n c) n xs) (h' : w.ownsRow B' E' k' (.slice (some ⟨g', 0, none⟩) n' c') n' ys) (hE : E ≠ E') : g ≠ g' := by
  rintro rfl
  rcases h.2 with ⟨h1, _⟩ | ⟨g1, c1, cur, e, hb, hh, _⟩
  · simp at h1
  · rcases h'.2 with ⟨h1, _⟩ | ⟨g2, c2, cur2, e2, hb2, hh2, _⟩
    · simp at h1
    · obtain rfl : g = g1 := by injection e with e; simpa using e
      obtain rfl : g = g2 := by injection e2 with e2; simpa using e2
      rw [hh] at hh2
      injection hh2 with e3
      injection e3 with _ e4
      exact hE e4
def OkWs (n : Nat) (ws : List Wy) : Prop := ∀ m ∈ ws, ∃ A B : Nat, m.a = A ∧ m.b = B ∧ A < n ∧ B < n ∧ A ≠ B ∧ 1 ≤ m.days ∧ m.days ≤ 60
theorem OkWs.ok {n : Nat} {ws : List Wy} (h : OkWs n ws) : OkW n ws := fun m hm => by
  obtain ⟨A, B, ha, hb, h1⟩ := h m hm
  rw [ha, hb]
  simpa using h1
theorem infoI : (Tryz.prog.info? 2).map (fun i => (i.zero, i.size, i.bytes)) = some (some (.int .i64 0), 1, 8) := by kernel_rfl
end
end Go.Proofs.YteajkofgcmfaoaaGreatDoor
