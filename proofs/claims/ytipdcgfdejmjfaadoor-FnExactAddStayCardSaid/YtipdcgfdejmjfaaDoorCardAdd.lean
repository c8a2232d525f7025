/- FnExactAddStay: for every input the law returns true and leaves its arguments as they were; the listed tables of the library start as the program's text lays them. -/
import Derived.Test.YtipdcgfdejmjfaaDoorLawAdd
import Derived.Test.YtipdcgfdejmjfaaDoorWit
import Derived.Test.YtipdcgfdejmjfaaDoorRS
import Derived.Test.YtipdcgfdejmjfaaDoorRSt
import Derived.Test.YtipdcgfdejmjfaaDoorRWy
namespace Go.Proofs.YtipdcgfdejmjfaaDoor.lawAdd
open Go.ChangeShapes Go.WideShapes Go.ChangeAt Go.RowKit Go.Deep
set_option maxRecDepth 100000
set_option maxHeartbeats 1000000 in
theorem contract (H : Type) (enc : TypeId × Value → H) (W : World) (base : Nat) (args : Array Value) (ds gs : List (DataW H)) (before : List MemPlace)
    (hval : ∀ (j : Nat) t v, Tryd.f3.params[j]? = some t → args[j]? = some v → Value.okWide Tryd.prog W .any base t v)
    (hW : DataW.Whole enc Tryd.prog Tryd.f3.params.toList Rows.fnExactAddStaySpec.vars false W args.toList ds gs before) :
    Calls Tryd.prog 3 args W fun e W' => ∃ v, e = .returned v ∧ Rows.fnExactAddStaySpec.post enc Tryd.prog Tryd.f3 false true false false W args v W' := by
  have hW' := hW
  obtain ⟨p, q, hA0, hV, rfl, hfz, hnd⟩ := hW
  have hA : DataW.TrodAll enc Tryd.prog W 0 (fun _ => true) true Tryd.f3.params.toList args.toList ds p := hA0
  rw [Tryd.params3] at hA hval
  obtain ⟨v0, vs0, d0, ds0, p0, q0, hargs0, rfl, rfl, h0, r0⟩ := trodAll_cons hA
  obtain ⟨v1, vs1, d1, ds1, p1, q1, hargs1, rfl, rfl, h1, r1⟩ := trodAll_cons r0
  subst hargs1
  obtain ⟨v2, vs2, d2, ds2, p2, q2, hargs2, rfl, rfl, h2, r2⟩ := trodAll_cons r1
  subst hargs2
  obtain ⟨rfl, rfl, rfl⟩ := trodAll_nil r2
  obtain rfl : args = #[v0, v1, v2] := by cases args; simp_all
  obtain ⟨rfl, rfl⟩ := trodVars_none hV
  clear hA0
  simp only [List.append_nil] at hW'
  obtain ⟨cs0, n0, y0, rfl, hsz0, hf0⟩ := open_struct Tryd.underlying25 (hval 0 25 v0 rfl rfl) h0
  have hcl0 : cs0.toList.length = 2 := by rw [Array.length_toList, hsz0]; kernel_rfl
  have hrf0 := row_fields Tryd.underlying25 (by kernel_rfl) hcl0 hf0
  obtain ⟨u0, m0, x0, c0, t0⟩ := hrf0 0 _ rfl
  obtain ⟨a0, xs0, cap0, rfl, hl0, hg0, hR0⟩ := open_rows1 encS goodS 1 encS_len (by decide) Tryd.underlying22 (by kernel_rfl) row_S t0
  obtain ⟨u1, m1, x1, c1, t1⟩ := hrf0 1 _ rfl
  obtain ⟨a1, xs1, cap1, rfl, hl1, hg1, hR1⟩ := open_rows1 encWy goodWy 3 encWy_len (by decide) Tryd.underlying23 (by kernel_rfl) row_Wy t1
  obtain rfl : cs0 = #[.slice a0 xs0.length cap0, .slice a1 xs1.length cap1] := by
    obtain ⟨l⟩ := cs0
    match l, hcl0 with
    | [b0, b1], _ =>
      simp at c0 c1
      simp [c0, c1]
  obtain ⟨a11, xs11, cap11, rfl, hl11, hg11, hR11⟩ := open_rows encSt goodSt 3 encSt_len (by decide) Tryd.underlying26 (by kernel_rfl) row_St (hval 1 26 v1 rfl rfl) h1
  obtain ⟨cs2, n2, y2, rfl, hsz2, hf2⟩ := open_struct Tryd.underlying28 (hval 2 28 v2 rfl rfl) h2
  have hcl2 : cs2.toList.length = 3 := by rw [Array.length_toList, hsz2]; kernel_rfl
  obtain ⟨m2, hg2, he2⟩ := row_St _ _ _ hcl2 hf2
  obtain rfl : cs2 = (encSt m2).toArray := by rw [← he2]
  have hlt0 : ∀ x ∈ p0, x.block < W.heap.size := fun x hx => by have := hW'.lt x (by simp [hx]); simpa using this
  have hlt1 : ∀ x ∈ p1, x.block < W.heap.size := fun x hx => by have := hW'.lt x (by simp [hx]); simpa using this
  have hlt2 : ∀ x ∈ p2, x.block < W.heap.size := fun x hx => by have := hW'.lt x (by simp [hx]); simpa using this
  refine (lawAdd_any a0 cap0 xs0 a1 cap1 xs1 a11 cap11 xs11 m2 W hl0 hR0 hg0 hl1 hR1 hg1 hl11 hR11 hg11 hg2).mono fun e W' ⟨he, hB⟩ => ?_
  subst he
  refine ⟨_, rfl, _, _, _, [], _, [], hW', trodAll_cons_mk (shut_bool Tryd.underlying4 _) trodAll_mk0, trodAll_cons_mk (Below.trod laidOut (by kernel_rfl) (of_decide_eq_true (by kernel_rfl)) h0 hB hlt0) (trodAll_cons_mk (Below.trod laidOut (by kernel_rfl) (of_decide_eq_true (by kernel_rfl)) h1 hB hlt1) (trodAll_cons_mk (Below.trod laidOut (by kernel_rfl) (of_decide_eq_true (by kernel_rfl)) h2 hB hlt2) (trodAll_mk0))), rfl, hB.frame _, fun h => by cases h⟩

theorem reads (os : Os) {H : Type} (enc : TypeId × Value → H) : ∃ places, DataW.whole enc Tryd.prog ((laidWorld os).forCall (fun _ _ => 0) ⟨#[], #[.agg #[.slice none 0 0, .slice none 0 0], .slice none 0 0, .agg #[.int .i64 0, .int .i64 0, .int .i64 0]], []⟩).memory Tryd.f3.params.toList Rows.fnExactAddStaySpec.vars false (#[.agg #[.slice none 0 0, .slice none 0 0], .slice none 0 0, .agg #[.int .i64 0, .int .i64 0, .int .i64 0]] : Array Value).toList 8 = some ([.agg [.nil, .nil], .nil, .agg [.lit (.int .i64 0), .lit (.int .i64 0), .lit (.int .i64 0)]], [], places) :=
  ⟨[], by kernel_rfl⟩
theorem lifted (os : Os) (started : os.Started) (H : Type) (enc : TypeId × Value → H) (F : Stop.Interp) :
    ReturnsInHanded {} Tryd.checked os 3 .any ((OpenSpec.ofChange Rows.fnExactAddStaySpec).preRow enc Tryd.prog Tryd.f3 Rows.fnExactAddStayRow.domain false Rows.fnExactAddStayRow.laid) (((OpenSpec.ofChange Rows.fnExactAddStaySpec).at F).post enc Tryd.prog Tryd.f3 false true false false) := by
  obtain ⟨places, hx⟩ := reads os enc
  refine returnsInHanded_of_row (C := Tryd.checked) (s := OpenSpec.ofChange Rows.fnExactAddStaySpec) own started (by kernel_rfl) Tryd.func3
    (witness_row_at (enc := enc) (C := Tryd.checked) false (laidWorld os) #[.agg #[.slice none 0 0, .slice none 0 0], .slice none 0 0, .agg #[.int .i64 0, .int .i64 0, .int .i64 0]] rfl (wit_vars os _) (wit_rest os _) (by kernel_rfl)
      (OpenSpec.preRow_of_cond 8 hx (by kernel_rfl) (fun k hk => by cases hk) (by kernel_rfl) (laid_met os _))) ?_
  intro W base args ds gs before hval hW _ _ _ hL _ _
  exact contract H enc W base args ds gs before hval hW
theorem j0 : Tryd.pinned.checked.prog.funcNamed "loop.example/g01034/laws.FnExactAddStay" = some 3 := by kernel_rfl
theorem j1 : (Rows.fnExactAddStayRow.inPlace == Tryd.pinned.checked.prog.inPlace 3) = true := by kernel_rfl
theorem j2 : (Rows.fnExactAddStayRow.unfollowed == Tryd.pinned.checked.prog.unfollowed 3) = true := by kernel_rfl
theorem j3 : (Rows.fnExactAddStayRow.recurses == Tryd.pinned.checked.prog.recurses 3) = true := by kernel_rfl
theorem j4 : (Rows.fnExactAddStayRow.named == Tryd.pinned.checked.prog.varsNamed 3) = true := by kernel_rfl
theorem joined : joinedFacts Tryd.pinned.checked.prog 3 Tryd.f3 (OpenSpec.ofChange Rows.fnExactAddStaySpec).bare Rows.fnExactAddStayRow = true := by
  unfold joinedFacts
  rw [j1, j2, j3, j4]
  kernel_rfl
theorem said : Rows.FnExactAddStaySaid :=
  OpenClaim.holds_of_cond 3 Tryd.f3 rfl rfl rfl rfl rfl rfl rfl ⟨rfl, rfl, rfl, rfl, rfl⟩ rfl rfl rfl rfl rfl j0 Tryd.func3 joined
    (of_decide_eq_true (by kernel_rfl)) (by unfold Func.isWrapper; first | (rw [if_pos (by decide +kernel)]; kernel_rfl) | (rw [if_neg (by decide +kernel)]; exact ⟨rfl, rfl⟩))
    (fun os started H enc _ F => by rw [OpenClaim.pre_eq_preRow]; exact lifted os started H enc F)
theorem plain (f : FuncId) (fn : Func) (hf : Tryd.pinned.checked.prog.funcNamed "loop.example/g01034/laws.FnExactAddStay" = some f) (hfn : Tryd.pinned.checked.prog.funcs[f]? = some fn) :
    false = Tryd.pinned.checked.prog.looks [] ∧ ∀ (j : Nat) t, fn.params[j]? = some t → Tryd.pinned.checked.prog.wantsStandIn t = false := by
  obtain rfl : f = 3 := Option.some.inj ((show Tryd.prog.funcNamed "loop.example/g01034/laws.FnExactAddStay" = some 3 by kernel_rfl).symm.trans hf) |>.symm
  obtain rfl : fn = Tryd.f3 := (Option.some.inj (Tryd.func3.symm.trans hfn)).symm
  refine ⟨looksNot, fun j t ht => ?_⟩
  rw [Tryd.params3] at ht
  have hm := Array.mem_of_getElem? ht
  simp only [List.mem_toArray, List.mem_cons, List.not_mem_nil, or_false] at hm
  rcases hm with rfl | rfl | rfl
  · exact (show Tryd.prog.wantsStandIn 25 = false by kernel_rfl)
  · exact (show Tryd.prog.wantsStandIn 26 = false by kernel_rfl)
  · exact (show Tryd.prog.wantsStandIn 28 = false by kernel_rfl)
theorem card : Rows.FnExactAddStayCardSaid :=
  Claim7.holds_tied_plain_at .later [] _ _ _ _ said (fun _ h => by cases h) (by kernel_rfl) (fun _ h => by cases h) fnExactAddStay_row_tie rfl ⟨rfl, rfl⟩ mainIsThat rfl plain (by kernel_rfl)
end Go.Proofs.YtipdcgfdejmjfaaDoor.lawAdd
