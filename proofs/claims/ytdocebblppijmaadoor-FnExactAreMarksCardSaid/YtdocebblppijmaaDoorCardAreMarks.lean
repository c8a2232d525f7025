/- FnExactAreMarks: for every list of marks the law returns true and leaves its argument as it was; the listed tables of the library start as the program's text lays them. -/
import Derived.Test.YtdocebblppijmaaDoorLawAreMarks
import Derived.Test.YtdocebblppijmaaDoorWit
namespace Go.Proofs.YtdocebblppijmaaDoor.lawAreMarks
open Go.ChangeShapes Go.WideShapes Go.ChangeAt Go.RowKit Go.Deep

def goodMk (m : Mk) : Prop := m.name.size ≤ maxLen
set_option maxRecDepth 100000
theorem mk_row {H : Type} {enc0 : TypeId × Value → H} {w : World} {base : Nat} {spare : Nat → Bool} {held : Bool} (n : Nat) (cs : List Value) (y : DataW H × List MemPlace) (hl : cs.length = 3)
    (h : DataW.trod enc0 Tryd.prog w base spare held n 104 cs = some y) : ∃ x, goodMk x ∧ cs = encMk x := by
  have hf := row_fields Tryd.underlying104 (by kernel_rfl) hl h
  obtain ⟨v0, m0, y0, c0, t0⟩ := hf 0 _ rfl
  obtain ⟨v1, m1, y1, c1, t1⟩ := hf 1 _ rfl
  obtain ⟨v2, m2, y2, c2, t2⟩ := hf 2 _ rfl
  obtain ⟨s, e0, _, hs⟩ := DataW.trod_string Tryd.underlying9 t0
  obtain ⟨a, e1, _, _⟩ := DataW.trod_int Tryd.underlying2 t1
  obtain ⟨b, e2, _, _⟩ := DataW.trod_int Tryd.underlying2 t2
  simp only [List.cons.injEq, and_true] at e0 e1 e2
  refine ⟨⟨s, a, b⟩, hs, ?_⟩
  match cs, hl with
  | [x0, x1, x2], _ =>
    simp at c0 c1 c2
    simp [encMk, ← e0, ← e1, ← e2, c0, c1, c2]

theorem contract (H : Type) (enc : TypeId × Value → H) (W : World) (base : Nat) (args : Array Value) (ds gs : List (DataW H)) (before : List MemPlace)
    (hval : ∀ (j : Nat) t v, Tryd.f4.params[j]? = some t → args[j]? = some v → Value.okWide Tryd.prog W .any base t v)
    (hW : DataW.Whole enc Tryd.prog Tryd.f4.params.toList Rows.fnExactAreMarksSpec.vars false W args.toList ds gs before) :
    Calls Tryd.prog 4 args W fun e W' => ∃ v, e = .returned v ∧ Rows.fnExactAreMarksSpec.post enc Tryd.prog Tryd.f4 false true false false W args v W' := by
  have hW' := hW
  obtain ⟨p, q, hA0, hV, rfl, hfz, hnd⟩ := hW
  have hA : DataW.TrodAll enc Tryd.prog W 0 (fun _ => true) true Tryd.f4.params.toList args.toList ds p := hA0
  rw [Tryd.params4] at hA hval
  obtain ⟨v0, vs0, d0, ds0, p0, q0, hargs, rfl, rfl, h0, r0⟩ := trodAll_cons hA
  obtain ⟨rfl, rfl, rfl⟩ := trodAll_nil r0
  obtain rfl : args = #[v0] := by cases args; simp_all
  obtain ⟨rfl, rfl⟩ := trodVars_none hV
  clear hA0
  simp only [List.append_nil] at hW'
  obtain ⟨a, xs, cap, rfl, hl, hg, hR⟩ := open_rows encMk goodMk 3 encMk_len (by decide) Tryd.underlying33 (by kernel_rfl) mk_row (hval 0 33 v0 rfl rfl) h0
  have hlt : ∀ x ∈ p0, x.block < W.heap.size := fun x hx => by simpa using hW'.lt x hx
  refine (lawAreMarks_any a cap xs W hl hR hg).mono fun e W' ⟨he, hB⟩ => ?_
  subst he
  exact ⟨_, rfl, _, _, _, [], p0 ++ [], [], hW', trodAll_cons_mk (shut_bool Tryd.underlying4 _) trodAll_mk0, trodAll_cons_mk (Below.trod laidOut (by kernel_rfl) (of_decide_eq_true (by kernel_rfl)) h0 hB hlt) trodAll_mk0, rfl, hB.frame _, fun h => by cases h⟩

theorem reads (os : Os) {H : Type} (enc : TypeId × Value → H) : ∃ places, DataW.whole enc Tryd.prog ((laidWorld os).forCall (fun _ _ => 0) ⟨#[], #[.slice none 0 0], []⟩).memory Tryd.f4.params.toList Rows.fnExactAreMarksSpec.vars false #[Value.slice none 0 0].toList 8 = some ([.nil], [], places) :=
  ⟨[], by kernel_rfl⟩

set_option maxRecDepth 100000 in
theorem lifted (os : Os) (started : os.Started) (H : Type) (enc : TypeId × Value → H) (F : Stop.Interp) :
    ReturnsInHanded {} Tryd.checked os 4 .any ((OpenSpec.ofChange Rows.fnExactAreMarksSpec).preRow enc Tryd.prog Tryd.f4 Rows.fnExactAreMarksRow.domain false Rows.fnExactAreMarksRow.laid) (((OpenSpec.ofChange Rows.fnExactAreMarksSpec).at F).post enc Tryd.prog Tryd.f4 false true false false) := by
  obtain ⟨places, hx⟩ := reads os enc
  refine returnsInHanded_of_row (C := Tryd.checked) (s := OpenSpec.ofChange Rows.fnExactAreMarksSpec) own started (by kernel_rfl) Tryd.func4
    (witness_row_at (enc := enc) (C := Tryd.checked) false (laidWorld os) #[.slice none 0 0] rfl (wit_vars os _) (wit_rest os _) (by kernel_rfl)
      (OpenSpec.preRow_of_cond 8 hx (by kernel_rfl) (fun k hk => by cases hk) (by kernel_rfl) (laid_met os _))) ?_
  intro W base args ds gs before hval hW _ _ _ hL _ _
  exact contract H enc W base args ds gs before hval hW

theorem said : Rows.FnExactAreMarksSaid :=
  OpenClaim.holds_of_cond 4 Tryd.f4 rfl rfl rfl rfl rfl rfl rfl ⟨rfl, rfl, rfl, rfl, rfl⟩ rfl rfl rfl rfl rfl (by kernel_rfl) Tryd.func4 (by kernel_rfl)
    (of_decide_eq_true (by kernel_rfl)) (by unfold Func.isWrapper; first | (rw [if_pos (by decide +kernel)]; kernel_rfl) | (rw [if_neg (by decide +kernel)]; exact ⟨rfl, rfl⟩))
    (fun os started H enc _ F => by rw [OpenClaim.pre_eq_preRow]; exact lifted os started H enc F)

theorem plain (f : FuncId) (fn : Func) (hf : Tryd.pinned.checked.prog.funcNamed "loop.example/g01034/laws.FnExactAreMarks" = some f) (hfn : Tryd.pinned.checked.prog.funcs[f]? = some fn) :
    false = Tryd.pinned.checked.prog.looks [] ∧ ∀ (j : Nat) t, fn.params[j]? = some t → Tryd.pinned.checked.prog.wantsStandIn t = false := by
  obtain rfl : f = 4 := Option.some.inj ((show Tryd.prog.funcNamed "loop.example/g01034/laws.FnExactAreMarks" = some 4 by kernel_rfl).symm.trans hf) |>.symm
  obtain rfl : fn = Tryd.f4 := (Option.some.inj (Tryd.func4.symm.trans hfn)).symm
  refine ⟨looksNot, fun j t ht => ?_⟩
  rw [Tryd.params4] at ht
  obtain rfl : t = 33 := by simpa using Array.mem_of_getElem? ht
  exact (show Tryd.prog.wantsStandIn 33 = false by kernel_rfl)

theorem card : Rows.FnExactAreMarksCardSaid :=
  Claim7.holds_tied_plain_at .later [] _ _ _ _ said (fun _ h => by cases h) (by kernel_rfl) (fun _ h => by cases h) fnExactAreMarks_row_tie rfl ⟨rfl, rfl⟩ mainIsThat rfl plain (by kernel_rfl)
end Go.Proofs.YtdocebblppijmaaDoor.lawAreMarks
