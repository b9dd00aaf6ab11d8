/-
  shoallaw9.LaneHolds returns true for every list of integers, which reads behind the call as it read before.
-/
import Derived.Test.YtgiphcfpopgchaaRows
import Derived.Test.YtgiphcfpopgchaaLaneW
import Derived.Test.YtgiphcfpopgchaaAv22
namespace Go.Proofs.Ytgiphcfpopgchaa
open Go.ChangeShapes Go.WideShapes Go.ChangeAt Go.RowKit Go.Av
set_option maxRecDepth 100000
set_option maxHeartbeats 4000000
set_option linter.unusedSimpArgs false
set_option linter.unusedVariables false

noncomputable def e3d : Code := lf (rg (rg (rg (rg body3))))
noncomputable def g3c : Code := lf (rg (rg (rg (rg (rg body3)))))
noncomputable def k3 : Code := rg (rg (rg (rg (rg (rg body3)))))
theorem e3d_eq : e3d = .seq (lf e3d) (.block 0 (.loop w0c)) := by kernel_rfl
theorem g3c_eq : g3c = .seq (lf g3c) (.block 2 (.loop w2c)) := by kernel_rfl
theorem body3_eq : body3 = .seq (lf body3) (.seq (lf (rg body3)) (.seq (lf (rg (rg body3))) (.seq (lf (rg (rg (rg body3)))) (.seq e3d (.seq g3c k3))))) := by kernel_rfl

theorem f3_body : Try.f3.body = some body3 := by kernel_rfl
theorem f3_ntmps : Try.f3.ntmps = 37 := by kernel_rfl
theorem f3_results : Try.f3.results = #[.tmp 2] := by kernel_rfl

theorem H1 (R : Rec) (t : List AV) (h : AH) : stepCode E R 3 (lf body3) ⟨t, h⟩ = some (.normal, ⟨t.set 2 (.b false), h⟩) := by
  simp [body3, lf, rg, Try.f3, stepTask, stepCall, bodyA, stepCode, stepOps, List.range_succ, step1, wantedA, stepOp, execA, evA, putA, ofV, builtinA, lenA, binA, unA, resultsA, resA, indexAddrA, fieldAddrA, storeA, cells_i, cells_own, callFnA, E_P, E_fun, E_mode, E_hook, E_phook, E_ext, E_own, E_glob, Try.underlying2, Try.underlying22, Try.underlying3, Try.underlying50, sz2, sz22, sz3, agg2, agg22, agg3, intA, loadA, cellsAt, tk0, tk1, tk2, tk3, tk3, undefA]

theorem H2 (R : Rec) (t : List AV) (h h0 : AH) (ht : t.length = 37) (ha : R (.call 8 [] h) = some (.ret (.b true) h0)) : stepCode E R 3 (lf (rg body3)) ⟨t, h⟩ = some (.normal, ⟨(t.set 6 (.b true)).set 7 (.b false), h0⟩) := by
  simp [body3, lf, rg, Try.f3, Try.func8, Try.f8, stepTask, stepCall, bodyA, stepCode, stepOps, List.range_succ, step1, wantedA, stepOp, execA, evA, putA, ofV, builtinA, lenA, binA, unA, resultsA, resA, indexAddrA, fieldAddrA, storeA, cells_i, cells_own, callFnA, E_P, E_fun, E_mode, E_hook, E_phook, E_ext, E_own, E_glob, Try.underlying2, Try.underlying22, Try.underlying3, Try.underlying50, sz2, sz22, sz3, agg2, agg22, agg3, intA, loadA, cellsAt, tk0, tk1, tk2, tk3, tk3, undefA, ha, List.getElem?_set, List.getElem_set, ht]

theorem H3 (R : Rec) (t : List AV) (h : AH) (cs : List AV) (m : Nat) (ht : t.length = 37) (t0 : t[0]? = some (.imm cs m)) (hm : m ≤ 60) : stepCode E R 3 (lf (rg (rg body3))) ⟨t, h⟩ = some (.normal, ⟨((t.set 8 (.imm cs m)).set 9 (.i .i64 m)).set 10 (.b false), h⟩) := by
  have g0 := slot (by omega) t0
  have c1 : decide ((60 : Int) < m) = false := by simp; omega
  simp [body3, lf, rg, Try.f3, stepTask, stepCall, bodyA, stepCode, stepOps, List.range_succ, step1, wantedA, stepOp, execA, evA, putA, ofV, builtinA, lenA, binA, unA, resultsA, resA, indexAddrA, fieldAddrA, storeA, cells_i, cells_own, callFnA, E_P, E_fun, E_mode, E_hook, E_phook, E_ext, E_own, E_glob, Try.underlying2, Try.underlying22, Try.underlying3, Try.underlying50, sz2, sz22, sz3, agg2, agg22, agg3, intA, loadA, cellsAt, tk0, tk1, tk2, tk3, tk3, undefA, List.getElem?_set, List.getElem_set, ht, g0, c1]

theorem H4 (R : Rec) (t : List AV) (h h1 : AH) (p : Nat) (ht : t.length = 37) (ha : R (.call 9 [] h) = some (.ret (.p (some (p, 0))) h1)) : stepCode E R 3 (lf (rg (rg (rg body3)))) ⟨t, h⟩ = some (.normal, ⟨(t.set 11 (.p (some (p, 0)))).set 3 (.p (some (p, 0))), h1⟩) := by
  simp [body3, lf, rg, Try.f3, Try.func9, Try.f9, stepTask, stepCall, bodyA, stepCode, stepOps, List.range_succ, step1, wantedA, stepOp, execA, evA, putA, ofV, builtinA, lenA, binA, unA, resultsA, resA, indexAddrA, fieldAddrA, storeA, cells_i, cells_own, callFnA, E_P, E_fun, E_mode, E_hook, E_phook, E_ext, E_own, E_glob, Try.underlying2, Try.underlying22, Try.underlying3, Try.underlying50, sz2, sz22, sz3, agg2, agg22, agg3, intA, loadA, cellsAt, tk0, tk1, tk2, tk3, tk3, undefA, ha, List.getElem?_set, List.getElem_set, ht]

theorem H5 (R : Rec) (t : List AV) (h : AH) : stepCode E R 3 (lf e3d) ⟨t, h⟩ = some (.normal, ⟨t.set 4 (.i .i64 0), h⟩) := by
  simp [e3d, body3, lf, rg, Try.f3, stepTask, stepCall, bodyA, stepCode, stepOps, List.range_succ, step1, wantedA, stepOp, execA, evA, putA, ofV, builtinA, lenA, binA, unA, resultsA, resA, indexAddrA, fieldAddrA, storeA, cells_i, cells_own, callFnA, E_P, E_fun, E_mode, E_hook, E_phook, E_ext, E_own, E_glob, Try.underlying2, Try.underlying22, Try.underlying3, Try.underlying50, sz2, sz22, sz3, agg2, agg22, agg3, intA, loadA, cellsAt, tk0, tk1, tk2, tk3, tk3, undefA]

theorem H6 (R : Rec) (t : List AV) (h : AH) : stepCode E R 3 (lf g3c) ⟨t, h⟩ = some (.normal, ⟨t.set 5 (.i .i64 0), h⟩) := by
  simp [g3c, body3, lf, rg, Try.f3, stepTask, stepCall, bodyA, stepCode, stepOps, List.range_succ, step1, wantedA, stepOp, execA, evA, putA, ofV, builtinA, lenA, binA, unA, resultsA, resA, indexAddrA, fieldAddrA, storeA, cells_i, cells_own, callFnA, E_P, E_fun, E_mode, E_hook, E_phook, E_ext, E_own, E_glob, Try.underlying2, Try.underlying22, Try.underlying3, Try.underlying50, sz2, sz22, sz3, agg2, agg22, agg3, intA, loadA, cellsAt, tk0, tk1, tk2, tk3, tk3, undefA]

theorem H7 (R : Rec) (t : List AV) (h h' : AH) (p : Nat) (A B : AV) (ht : t.length = 37) (t0 : t[0]? = some B) (t3 : t[3]? = some (.p (some (p, 0)))) (ha : R (.call 13 [.p (some (p, 0))] h) = some (.ret A h')) (hi : R (.call 12 [A, B] h') = some (.ret (.b true) h')) :
    ∃ T, stepCode E R 3 k3 ⟨t, h⟩ = some (.ret, ⟨T, h'⟩) ∧ T[2]? = some (.b true) := by
  have g0 := slot (by omega) t0
  have g3 := slot (by omega) t3
  refine ⟨((((t.set 33 (.p (some (p, 0)))).set 34 A).set 35 B).set 36 (.b true)).set 2 (.b true), ?_, by simp [List.getElem?_set, ht]⟩
  simp [k3, body3, lf, rg, Try.f3, Try.func12, Try.f12, Try.func13, Try.f13, stepTask, stepCall, bodyA, stepCode, stepOps, List.range_succ, step1, wantedA, stepOp, execA, evA, putA, ofV, builtinA, lenA, binA, unA, resultsA, resA, indexAddrA, fieldAddrA, storeA, cells_i, cells_own, callFnA, E_P, E_fun, E_mode, E_hook, E_phook, E_ext, E_own, E_glob, Try.underlying2, Try.underlying22, Try.underlying3, Try.underlying50, sz2, sz22, sz3, agg2, agg22, agg3, intA, loadA, cellsAt, tk0, tk1, tk2, tk3, tk4, undefA, ha, hi, List.getElem?_set, List.getElem_set, ht, g0, g3]

theorem holds_run {xs : List Int} (hx : xs.length ≤ 60) : saysTrue (run E 501 (.call 3 [.imm (xs.map I) xs.length] emptyH)) = true := by
  obtain ⟨h0, ha⟩ := awake_run (n := 500) (by omega)
  have hnew := new_run h0 499
  rw [show 499 + 1 = 500 from rfl] at hnew
  have hl0 := new_lane h0
  generalize hh1 : h0.new (.cells 5 (obj .nsl ⟨0, 0, 0, 0⟩)) = h1 at hnew hl0
  generalize hp : h0.next = p at hnew hl0
  -- the temporaries, step by step
  obtain ⟨t0, e0, l0, z0⟩ : ∃ t0, t0 = AV.imm (xs.map I) xs.length :: List.replicate 36 undefA ∧ t0.length = 37 ∧ t0[0]? = some (.imm (xs.map I) xs.length) := ⟨_, rfl, by simp, by simp⟩
  have a1 := H1 (run E 500) t0 emptyH
  obtain ⟨t1, e1, l1, z1⟩ : ∃ t1, t1 = t0.set 2 (.b false) ∧ t1.length = 37 ∧ t1[0]? = some (.imm (xs.map I) xs.length) := ⟨_, rfl, by simp [l0], by simp [List.getElem?_set, z0]⟩
  rw [← e1] at a1
  have a2 := H2 (run E 500) t1 emptyH h0 l1 ha
  obtain ⟨t2, e2, l2, z2⟩ : ∃ t2, t2 = (t1.set 6 (.b true)).set 7 (.b false) ∧ t2.length = 37 ∧ t2[0]? = some (.imm (xs.map I) xs.length) := ⟨_, rfl, by simp [l1], by simp [List.getElem?_set, z1]⟩
  rw [← e2] at a2
  have a3 := H3 (run E 500) t2 h0 _ _ l2 z2 hx
  obtain ⟨t3, e3, l3, z3⟩ : ∃ t3, t3 = ((t2.set 8 (.imm (xs.map I) xs.length)).set 9 (.i .i64 xs.length)).set 10 (.b false) ∧ t3.length = 37 ∧ t3[0]? = some (.imm (xs.map I) xs.length) := ⟨_, rfl, by simp [l2], by simp [List.getElem?_set, z2]⟩
  rw [← e3] at a3
  have a4 := H4 (run E 500) t3 h0 h1 p l3 hnew
  obtain ⟨t4, e3', l4, z4, y4⟩ : ∃ t4, t4 = (t3.set 11 (.p (some (p, 0)))).set 3 (.p (some (p, 0))) ∧ t4.length = 37 ∧ t4[0]? = some (.imm (xs.map I) xs.length) ∧ t4[3]? = some (.p (some (p, 0))) := ⟨_, rfl, by simp [l3], by simp [List.getElem?_set, z3], by simp [List.getElem?_set, l3]⟩
  rw [← e3'] at a4
  have a5 := H5 (run E 500) t4 h1
  obtain ⟨t5, h5, Q5, r5, l5, z5, y5, L5⟩ := w0 (p := p) (xs := xs) (by omega) xs.length 0 (t4.set 4 (.i .i64 0)) h1 none 500 (by omega) (by omega) (by simp [l4]) (by simp [List.getElem?_set, z4]) (by simp [List.getElem?_set, y4]) (by simp [List.getElem?_set, l4]) (by simpa using hl0)
  have a6 := H6 (run E 500) t5 h5
  obtain ⟨t6, h6, Q6, r6, l6, z6, y6, L6⟩ := w2 (p := p) (xs := xs) (by omega) xs.length 0 (t5.set 5 (.i .i64 0)) h5 Q5 500 (by omega) (by omega) (by simp [l5]) (by simp [List.getElem?_set, z5]) (by simp [List.getElem?_set, y5]) (by simp [List.getElem?_set, l5]) (by simpa using L5)
  obtain ⟨S7, h7, al, rd, _, _⟩ := all_run L6 (by simp; omega) 498
  have hin := ints_run (n := 499) rd (by simpa using Rd.imm h7 (xs.map I)) (by omega) (by omega)
  obtain ⟨T, a7, zT⟩ := H7 (run E 500) t6 h6 h7 p S7 _ l6 z6 y6 al hin
  have hbody : stepCode E (run E 500) 3 body3 ⟨t0, emptyH⟩ = some (.ret, ⟨T, h7⟩) := by
    rw [body3_eq]
    simp only [stepCode, a1, a2, a3, a4]
    rw [e3d_eq, g3c_eq]
    simp only [stepCode, a5, r5, a6, r6, a7, if_true]
  rw [run]
  simp only [stepTask, stepCall, E_phook, E_hook, E_fun, Try.func3, E_mode, bodyA, f3_body, f3_ntmps]
  rw [if_neg (by decide), if_neg (by decide), if_neg (by decide)]
  have : ([AV.imm (xs.map I) xs.length] ++ List.replicate (37 - [AV.imm (xs.map I) xs.length].length) undefA) = t0 := by rw [e0]; rfl
  rw [this, hbody]
  have hT : T.getD 2 undefA = .b true := by simp [List.getD_eq_getElem?_getD, zT]
  simp only [resultsA, f3_results, List.mapM_cons, List.mapM_nil, resA, hT]
  rfl
theorem G3 (R : Rec) (t : List AV) (h : AH) (cs : List AV) (m : Nat) (ht : t.length = 37) (t0 : t[0]? = some (.imm cs m)) (hm : 60 < m) :
    ∃ T, stepCode E R 3 (lf (rg (rg body3))) ⟨t, h⟩ = some (.ret, ⟨T, h⟩) ∧ T[2]? = some (.b true) := by
  have g0 := slot (by omega) t0
  have c1 : decide ((60 : Int) < m) = true := by simp; omega
  refine ⟨(((t.set 8 (.imm cs m)).set 9 (.i .i64 m)).set 10 (.b true)).set 2 (.b true), ?_, by simp [List.getElem?_set, ht]⟩
  simp [body3, lf, rg, Try.f3, stepTask, stepCall, bodyA, stepCode, stepOps, List.range_succ, step1, wantedA, stepOp, execA, evA, putA, ofV, builtinA, lenA, binA, unA, resultsA, resA, indexAddrA, fieldAddrA, storeA, cells_i, cells_own, callFnA, E_P, E_fun, E_mode, E_hook, E_phook, E_ext, E_own, E_glob, Try.underlying2, Try.underlying22, Try.underlying3, Try.underlying50, sz2, sz22, sz3, agg2, agg22, agg3, intA, loadA, cellsAt, tk0, tk1, tk2, tk3, tk3, undefA, List.getElem?_set, List.getElem_set, ht, g0, c1]

theorem holds_long {xs : List Int} (hx : 60 < xs.length) : saysTrue (run E 501 (.call 3 [.imm (xs.map I) xs.length] emptyH)) = true := by
  obtain ⟨h0, ha⟩ := awake_run (n := 500) (by omega)
  obtain ⟨t0, e0, l0, z0⟩ : ∃ t0, t0 = AV.imm (xs.map I) xs.length :: List.replicate 36 undefA ∧ t0.length = 37 ∧ t0[0]? = some (.imm (xs.map I) xs.length) := ⟨_, rfl, by simp, by simp⟩
  have a1 := H1 (run E 500) t0 emptyH
  obtain ⟨t1, e1, l1, z1⟩ : ∃ t1, t1 = t0.set 2 (.b false) ∧ t1.length = 37 ∧ t1[0]? = some (.imm (xs.map I) xs.length) := ⟨_, rfl, by simp [l0], by simp [List.getElem?_set, z0]⟩
  rw [← e1] at a1
  have a2 := H2 (run E 500) t1 emptyH h0 l1 ha
  obtain ⟨t2, e2, l2, z2⟩ : ∃ t2, t2 = (t1.set 6 (.b true)).set 7 (.b false) ∧ t2.length = 37 ∧ t2[0]? = some (.imm (xs.map I) xs.length) := ⟨_, rfl, by simp [l1], by simp [List.getElem?_set, z1]⟩
  rw [← e2] at a2
  obtain ⟨T, a3, zT⟩ := G3 (run E 500) t2 h0 _ _ l2 z2 hx
  have hbody : stepCode E (run E 500) 3 body3 ⟨t0, emptyH⟩ = some (.ret, ⟨T, h0⟩) := by
    rw [body3_eq]
    simp only [stepCode, a1, a2, a3]
  rw [run]
  simp only [stepTask, stepCall, E_phook, E_hook, E_fun, Try.func3, E_mode, bodyA, f3_body, f3_ntmps]
  rw [if_neg (by decide), if_neg (by decide), if_neg (by decide)]
  have : ([AV.imm (xs.map I) xs.length] ++ List.replicate (37 - [AV.imm (xs.map I) xs.length].length) undefA) = t0 := by rw [e0]; rfl
  rw [this, hbody]
  have hT : T.getD 2 undefA = .b true := by simp [List.getD_eq_getElem?_getD, zT]
  simp only [resultsA, f3_results, List.mapM_cons, List.mapM_nil, resA, hT]
  rfl

theorem holds_nil : saysTrue (run E 501 (.call 3 [.nsl] emptyH)) = true := by kernel_rfl

theorem own : ownKnob Try.prog.godebug = none := by kernel_rfl
theorem laidOut : laidOutB Try.prog = true := by kernel_rfl
theorem cells3 : Try.prog.cellsOf 3 = 1 := by kernel_rfl
theorem E_P' : E.P = Try.prog := rfl

theorem holds_calls (W : World) (v : Value) (hv : v = .slice none 0 0 ∨ ∃ zs : List Int, (∀ n ∈ zs, (Lit.int .i64 n).wf = true) ∧ VRel noI (Zed.all W) (.imm (zs.map fun n => .i .i64 n) zs.length) v) :
    Calls Try.prog 3 #[v] W fun e W' => e = .returned (.bool true) ∧ Keeps W W' := by
  have hG : Glob noI (Zed.all W) E := fun g cs e => by cases e
  rcases hv with rfl | ⟨zs, _, hv⟩
  · exact calls_true (E := E) (n := 501) (f := 3) (args := [.nsl]) good holds_nil W [.slice none 0 0] hG (.cons .nsl .nil)
  · have hs : saysTrue (run E 501 (.call 3 [.imm (zs.map I) zs.length] emptyH)) = true := by
      by_cases hl : zs.length ≤ 60
      · exact holds_run hl
      · exact holds_long (by omega)
    exact calls_true (E := E) (n := 501) (f := 3) (args := [.imm (zs.map I) zs.length]) good hs W [v] hG (.cons hv .nil)

theorem holds_lifted (os : Os) (started : os.Started) (H : Type) (enc : TypeId × Value → H) :
    ReturnsInHanded {} Try.checked os 3 .any (Rows.laneHoldsSpec.pre6 enc Try.prog Try.f3 Rows.laneHoldsRow.domain false) (Rows.laneHoldsSpec.post enc Try.prog Try.f3 false true false false) := by
  refine returnsInHanded_of_change (C := Try.checked) own started (by kernel_rfl) Try.func3
    (ChangeSpec.witness6 (enc := enc) (C := Try.checked) false ⟨#[], #[.slice none 0 0], []⟩ 8 (by kernel_rfl) (by kernel_rfl) (by kernel_rfl) (by kernel_rfl)) ?_
  intro W base args ds gs before hval0 hW hcnd _
  have hval : ∀ (j : Nat) t v, Try.f3.params[j]? = some t → args[j]? = some v → Value.okWide Try.prog W .any base t v := hval0
  have hW' := hW
  have hlt : ∀ x ∈ before, x.block < W.heap.size := fun x hx => hW.lt x hx
  obtain ⟨p, q, hA0, hV, rfl, hfz, hnd⟩ := hW
  have hA : DataW.TrodAll enc Try.prog W 0 (fun _ => true) true Try.f3.params.toList args.toList ds p := hA0
  rw [Try.params3] at hA hval
  obtain ⟨v0, vs0, d0, ds0, p0, q0, hargs, rfl, rfl, h0, r0⟩ := trodAll_cons hA
  obtain ⟨rfl, rfl, rfl⟩ := trodAll_nil r0
  obtain rfl : args = #[v0] := by cases args; simp_all
  obtain ⟨rfl, rfl⟩ := trodVars_none hV
  have hv := ints_rel Try.underlying22 Try.underlying3 cells3 (hval 0 22 v0 rfl rfl) h0
  clear hA0 hval0
  refine (holds_calls W v0 hv).mono fun e W' ⟨he, hk⟩ => ?_
  subst he
  simp only [List.append_nil] at hW' hlt
  refine ⟨_, rfl, post_of_kept (pa := p0) (pv := []) hW' (fun _ _ _ => trodAll_cons_mk (shut_bool Try.underlying4 _) trodAll_mk0)
    (fun sp hs => ?_) (fun _ _ => rfl) (by simp) hk (ok_one (t := 4) (by kernel_rfl) rfl (okWide_bool_mk Try.underlying4 _))⟩
  rw [Try.params3]
  exact trodAll_mk1 (hk.trod laidOut (by kernel_rfl) (of_decide_eq_true (by kernel_rfl)) h0 hlt hs)

theorem laneHolds_holds : Rows.LaneHoldsSaid :=
  OpenClaim.holds_of_wide 3 Try.f3 rfl rfl rfl rfl rfl rfl rfl ⟨rfl, rfl, rfl, rfl, rfl⟩ rfl rfl rfl rfl rfl (by kernel_rfl) Try.func3 (by kernel_rfl)
    (of_decide_eq_true (by kernel_rfl)) (by unfold Func.isWrapper; first | (rw [if_pos (by decide +kernel)]; kernel_rfl) | (rw [if_neg (by decide +kernel)]; exact ⟨rfl, rfl⟩))
    (fun os started H enc _ => holds_lifted os started H enc)
end Go.Proofs.Ytgiphcfpopgchaa
