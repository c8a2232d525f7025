/- FnExactRouteOf: for every input the law returns true and leaves its arguments as they were; the listed tables of the library start as the program's text lays them. -/
import Derived.Test.YtihmacmieofbgaaDoorLawRoute
import Derived.Test.YtihmacmieofbgaaDoorWit
import Derived.Test.YtihmacmieofbgaaDoorRS
import Derived.Test.YtihmacmieofbgaaDoorRWy
namespace Go.Proofs.YtihmacmieofbgaaDoor.lawRoute
open Go.ChangeShapes Go.WideShapes Go.ChangeAt Go.RowKit Go.Deep
set_option maxRecDepth 100000
theorem contract (H : Type) (enc : TypeId × Value → H) (W : World) (base : Nat) (args : Array Value) (ds gs : List (DataW H)) (before : List MemPlace)
    (hval : ∀ (j : Nat) t v, Tryd.f5.params[j]? = some t → args[j]? = some v → Value.okWide Tryd.prog W .any base t v)
    (hW : DataW.Whole enc Tryd.prog Tryd.f5.params.toList Rows.fnExactRouteOfSpec.vars false W args.toList ds gs before) :
    Calls Tryd.prog 5 args W fun e W' => ∃ v, e = .returned v ∧ Rows.fnExactRouteOfSpec.post enc Tryd.prog Tryd.f5 false true false false W args v W' := by
  have hW' := hW
  obtain ⟨p, q, hA0, hV, rfl, hfz, hnd⟩ := hW
  have hA : DataW.TrodAll enc Tryd.prog W 0 (fun _ => true) true Tryd.f5.params.toList args.toList ds p := hA0
  rw [Tryd.params5] at hA hval
  obtain ⟨v0, vs0, d0, ds0, p0, q0, hargs0, rfl, rfl, h0, r0⟩ := trodAll_cons hA
  obtain ⟨v1, vs1, d1, ds1, p1, q1, hargs1, rfl, rfl, h1, r1⟩ := trodAll_cons r0
  subst hargs1
  obtain ⟨v2, vs2, d2, ds2, p2, q2, hargs2, rfl, rfl, h2, r2⟩ := trodAll_cons r1
  subst hargs2
  obtain ⟨rfl, rfl, rfl⟩ := trodAll_nil r2
  obtain rfl : args = #[v0, v1, v2] := by cases args; simp_all
  obtain ⟨rfl, rfl⟩ := trodVars_none hV
  clear hA0
  simp only [List.append_nil] at hW'
  obtain ⟨cs0, n0, y0, rfl, hsz0, hf0⟩ := open_struct Tryd.underlying54 (hval 0 54 v0 rfl rfl) h0
  have hcl0 : cs0.toList.length = 2 := by rw [Array.length_toList, hsz0]; kernel_rfl
  have hrf0 := row_fields Tryd.underlying54 (by kernel_rfl) hcl0 hf0
  obtain ⟨u0, m0, x0, c0, t0⟩ := hrf0 0 _ rfl
  obtain ⟨a0, xs0, cap0, rfl, hl0, hg0, hR0⟩ := open_rows1 encS goodS 1 encS_len (by decide) Tryd.underlying24 (by kernel_rfl) row_S t0
  obtain ⟨u1, m1, x1, c1, t1⟩ := hrf0 1 _ rfl
  obtain ⟨a1, xs1, cap1, rfl, hl1, hg1, hR1⟩ := open_rows1 encWy goodWy 3 encWy_len (by decide) Tryd.underlying52 (by kernel_rfl) row_Wy t1
  obtain rfl : cs0 = #[.slice a0 xs0.length cap0, .slice a1 xs1.length cap1] := by
    obtain ⟨l⟩ := cs0
    match l, hcl0 with
    | [b0, b1], _ =>
      simp at c0 c1
      simp [c0, c1]
  obtain ⟨z1, rfl, rfl, rfl, wz1⟩ := open_int Tryd.underlying2 (hval 1 2 v1 rfl rfl) h1
  have hz1 : -9223372036854775808 ≤ z1 ∧ z1 ≤ 9223372036854775807 := by simpa [Lit.wf, IntKind.min, IntKind.max, IntKind.signed, IntKind.bits] using wz1
  obtain ⟨z2, rfl, rfl, rfl, wz2⟩ := open_int Tryd.underlying2 (hval 2 2 v2 rfl rfl) h2
  have hz2 : -9223372036854775808 ≤ z2 ∧ z2 ≤ 9223372036854775807 := by simpa [Lit.wf, IntKind.min, IntKind.max, IntKind.signed, IntKind.bits] using wz2
  have hlt0 : ∀ x ∈ p0, x.block < W.heap.size := fun x hx => by have := hW'.lt x (by simp [hx]); simpa using this
  refine (lawRoute_any a0 cap0 xs0 a1 cap1 xs1 z1 z2 W hl0 hR0 hg0 hl1 hR1 hg1 hz1 hz2).mono fun e W' ⟨he, hB⟩ => ?_
  subst he
  refine ⟨_, rfl, _, _, _, [], _, [], hW', trodAll_cons_mk (shut_bool Tryd.underlying4 _) trodAll_mk0, trodAll_cons_mk (Below.trod laidOut (by kernel_rfl) (of_decide_eq_true (by kernel_rfl)) h0 hB hlt0) (trodAll_cons_mk (shut_int Tryd.underlying2 wz1) (trodAll_cons_mk (shut_int Tryd.underlying2 wz2) (trodAll_mk0))), rfl, hB.frame _, fun h => by cases h⟩

theorem reads (os : Os) {H : Type} (enc : TypeId × Value → H) : ∃ places, DataW.whole enc Tryd.prog ((laidWorld os).forCall (fun _ _ => 0) ⟨#[], #[.agg #[.slice none 0 0, .slice none 0 0], .int .i64 0, .int .i64 0], []⟩).memory Tryd.f5.params.toList Rows.fnExactRouteOfSpec.vars false (#[.agg #[.slice none 0 0, .slice none 0 0], .int .i64 0, .int .i64 0] : Array Value).toList 8 = some ([.agg [.nil, .nil], .lit (.int .i64 0), .lit (.int .i64 0)], [], places) :=
  ⟨[], by kernel_rfl⟩
theorem lifted (os : Os) (started : os.Started) (H : Type) (enc : TypeId × Value → H) (F : Stop.Interp) :
    ReturnsInHanded {} Tryd.checked os 5 .any ((OpenSpec.ofChange Rows.fnExactRouteOfSpec).preRow enc Tryd.prog Tryd.f5 Rows.fnExactRouteOfRow.domain false Rows.fnExactRouteOfRow.laid) (((OpenSpec.ofChange Rows.fnExactRouteOfSpec).at F).post enc Tryd.prog Tryd.f5 false true false false) := by
  obtain ⟨places, hx⟩ := reads os enc
  refine returnsInHanded_of_row (C := Tryd.checked) (s := OpenSpec.ofChange Rows.fnExactRouteOfSpec) own started (by kernel_rfl) Tryd.func5
    (witness_row_at (enc := enc) (C := Tryd.checked) false (laidWorld os) #[.agg #[.slice none 0 0, .slice none 0 0], .int .i64 0, .int .i64 0] rfl (wit_vars os _) (wit_rest os _) (by kernel_rfl)
      (OpenSpec.preRow_of_cond 8 hx (by kernel_rfl) (fun k hk => by cases hk) (by kernel_rfl) (laid_met os _))) ?_
  intro W base args ds gs before hval hW _ _ _ hL _ _
  exact contract H enc W base args ds gs before hval hW
theorem j0 : Tryd.pinned.checked.prog.funcNamed "loop.example/g01034/laws.FnExactRouteOf" = some 5 := by kernel_rfl
theorem j1 : (Rows.fnExactRouteOfRow.inPlace == Tryd.pinned.checked.prog.inPlace 5) = true := by kernel_rfl
theorem j2 : (Rows.fnExactRouteOfRow.unfollowed == Tryd.pinned.checked.prog.unfollowed 5) = true := by kernel_rfl
theorem j3 : (Rows.fnExactRouteOfRow.recurses == Tryd.pinned.checked.prog.recurses 5) = true := by kernel_rfl
theorem j4 : (Rows.fnExactRouteOfRow.named == Tryd.pinned.checked.prog.varsNamed 5) = true := by kernel_rfl
theorem joined : joinedFacts Tryd.pinned.checked.prog 5 Tryd.f5 (OpenSpec.ofChange Rows.fnExactRouteOfSpec).bare Rows.fnExactRouteOfRow = true := by
  unfold joinedFacts
  rw [j1, j2, j3, j4]
  kernel_rfl
theorem said : Rows.FnExactRouteOfSaid :=
  OpenClaim.holds_of_cond 5 Tryd.f5 rfl rfl rfl rfl rfl rfl rfl ⟨rfl, rfl, rfl, rfl, rfl⟩ rfl rfl rfl rfl rfl j0 Tryd.func5 joined
    (of_decide_eq_true (by kernel_rfl)) (by unfold Func.isWrapper; first | (rw [if_pos (by decide +kernel)]; kernel_rfl) | (rw [if_neg (by decide +kernel)]; exact ⟨rfl, rfl⟩))
    (fun os started H enc _ F => by rw [OpenClaim.pre_eq_preRow]; exact lifted os started H enc F)
theorem plain (f : FuncId) (fn : Func) (hf : Tryd.pinned.checked.prog.funcNamed "loop.example/g01034/laws.FnExactRouteOf" = some f) (hfn : Tryd.pinned.checked.prog.funcs[f]? = some fn) :
    false = Tryd.pinned.checked.prog.looks [] ∧ ∀ (j : Nat) t, fn.params[j]? = some t → Tryd.pinned.checked.prog.wantsStandIn t = false := by
  obtain rfl : f = 5 := Option.some.inj ((show Tryd.prog.funcNamed "loop.example/g01034/laws.FnExactRouteOf" = some 5 by kernel_rfl).symm.trans hf) |>.symm
  obtain rfl : fn = Tryd.f5 := (Option.some.inj (Tryd.func5.symm.trans hfn)).symm
  refine ⟨looksNot, fun j t ht => ?_⟩
  rw [Tryd.params5] at ht
  have hm := Array.mem_of_getElem? ht
  simp only [List.mem_toArray, List.mem_cons, List.not_mem_nil, or_false] at hm
  rcases hm with rfl | rfl | rfl
  · exact (show Tryd.prog.wantsStandIn 54 = false by kernel_rfl)
  · exact (show Tryd.prog.wantsStandIn 2 = false by kernel_rfl)
  · exact (show Tryd.prog.wantsStandIn 2 = false by kernel_rfl)
theorem card : Rows.FnExactRouteOfCardSaid :=
  Claim7.holds_tied_plain_at .later [] _ _ _ _ said (fun _ h => by cases h) (by kernel_rfl) (fun _ h => by cases h) fnExactRouteOf_row_tie rfl ⟨rfl, rfl⟩ mainIsThat rfl plain (by kernel_rfl)
end Go.Proofs.YtihmacmieofbgaaDoor.lawRoute
