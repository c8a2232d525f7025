/- Rows of numbers that are written at an index; own blocks of two types lie apart. -/
import Derived.Test.YteajkofgcmfaoaaGreatDoorTI
import Derived.Test.YteajkofgcmfaoaaGreatDoorBB
import Derived.Test.YteajkofgcmfaoaaGreatDoorTravPlain
import Derived.StillTailTactics
namespace Go.Proofs.YteajkofgcmfaoaaGreatDoor
open Go.ChangeShapes Go.WideShapes Go.ChangeAt Go.RowKit

def rowI (n : Nat) (f : Nat → Int) : List Value := (List.range n).map fun j => .int .i64 (f j)
theorem rowI_len (n : Nat) (f : Nat → Int) : (rowI n f).length = n := by simp [rowI]
theorem rowI_at {n j : Nat} (f : Nat → Int) (h : j < n) : (rowI n f)[j]? = some (.int .i64 (f j)) := by simp [rowI, h]
theorem rowI_set {n j : Nat} (f : Nat → Int) (v : Int) : (rowI n f).set j (.int .i64 v) = rowI n (upd f j v) := by
  apply List.ext_getElem
  · simp [rowI]
  · intro i h1 h2
    simp only [rowI, upd, List.getElem_set, List.getElem_map, List.getElem_range]
    by_cases e : i = j
    · subst e; simp
    · rw [if_neg (fun h => e h.symm), if_neg e]
theorem rowI_flat (n : Nat) (f : Nat → Int) : ((List.range n).map f).flatMap encI = rowI n f := by
  unfold rowI
  induction List.range n with
  | nil => rfl
  | cons x xs ih => simp only [List.map_cons, List.flatMap_cons, ih]; rfl
theorem own_rowI {base : Nat} {E : TypeId} {g n cap : Nat} {f : Nat → Int} {w : World} (h : w.ownsRow base E 1 (.slice (some ⟨g, 0, none⟩) n cap) n (rowI n f)) {j : Nat} (hj : j < n) : w.cell? ⟨g, j, none⟩ = some (.int .i64 (f j)) :=
  (h.cellAt j (by omega)).trans (rowI_at f hj)
theorem own_putI {base : Nat} {E : TypeId} {g n cap : Nat} {f : Nat → Int} {w : World} (h : w.ownsRow base E 1 (.slice (some ⟨g, 0, none⟩) n cap) n (rowI n f)) (j : Nat) (v : Int) :
    (w.setCell ⟨g, j, none⟩ (.int .i64 v)).ownsRow base E 1 (.slice (some ⟨g, 0, none⟩) n cap) n (rowI n (upd f j v)) ∧ w.grownBy (w.setCell ⟨g, j, none⟩ (.int .i64 v)) (some g) := by
  have := h.stored j (.int .i64 v)
  rw [rowI_set] at this
  exact this
theorem gcell {w w' : World} {r : Option Nat} (h : w.grownBy w' r) {p : Addr} (hp : p.block < w.heap.size) (hn : ∀ g, r = some g → p.block ≠ g) : w'.cell? p = w.cell? p :=
  World.cell?_of_block (w := w) (h.block p.block hp (fun e => hn p.block e.symm rfl))
theorem At.grown {w : World} {box : List Value} {wr w' : World} (h : At w box wr) {r : Option Nat} (hg : wr.grownBy w' r) (hr : ∀ g, r = some g → w.heap.size < g) : At w box w' :=
  ⟨h.below.grown hg h.below.size (fun g e => Nat.le_of_lt (hr g e)), Nat.lt_of_lt_of_le h.size hg.size, fun j v hv => (gcell hg (p := ⟨w.heap.size, j, none⟩) h.size (fun g e => Nat.ne_of_lt (hr g e))).trans (h.cell j v hv)⟩
theorem own_apart {B B' : Nat} {E E' : TypeId} {k k' g g' n n' c c' : Nat} {xs ys : List Value} {w : World} (h : w.ownsRow B E k (.slice (some ⟨g, 0, none⟩) n c) n xs) (h' : w.ownsRow B' E' k' (.slice (some ⟨g', 0, none⟩) n' c') n' ys) (hE : E ≠ E') : g ≠ g' := by
  rintro rfl
  rcases h.2 with ⟨h1, _⟩ | ⟨g1, c1, cur, e, hb, hh, _⟩
  · simp at h1
  · rcases h'.2 with ⟨h1, _⟩ | ⟨g2, c2, cur2, e2, hb2, hh2, _⟩
    · simp at h1
    · obtain rfl : g = g1 := by injection e with e; simpa using e
      obtain rfl : g = g2 := by injection e2 with e2; simpa using e2
      rw [hh] at hh2
      injection hh2 with e3
      injection e3 with _ e4
      exact hE e4
def OkWs (n : Nat) (ws : List Wy) : Prop := ∀ m ∈ ws, ∃ A B : Nat, m.a = A ∧ m.b = B ∧ A < n ∧ B < n ∧ A ≠ B ∧ 1 ≤ m.days ∧ m.days ≤ 60
theorem OkWs.ok {n : Nat} {ws : List Wy} (h : OkWs n ws) : OkW n ws := fun m hm => by
  obtain ⟨A, B, ha, hb, h1⟩ := h m hm
  rw [ha, hb]
  simpa using h1
theorem infoI : (Tryz.prog.info? 2).map (fun i => (i.zero, i.size, i.bytes)) = some (some (.int .i64 0), 1, 8) := by kernel_rfl
theorem madeI (n : Nat) : (madeCells (Value.int .i64 0).cells (n * 1)).toList = rowI n (fun _ => 0) := by
  apply List.ext_getElem?
  intro i
  rw [Nat.mul_one]
  simp only [madeCells, rowI]
  simp
  congr 1
  funext x
  rw [show (Value.int IntKind.i64 0).cells = #[.int .i64 0] from rfl]
  simp [Nat.mod_one]
theorem rowI_congr {n : Nat} {f g : Nat → Int} (h : ∀ j, j < n → f j = g j) : rowI n f = rowI n g := by
  unfold rowI
  apply List.map_congr_left
  intro j hj
  rw [h j (List.mem_range.1 hj)]
end Go.Proofs.YteajkofgcmfaoaaGreatDoor
