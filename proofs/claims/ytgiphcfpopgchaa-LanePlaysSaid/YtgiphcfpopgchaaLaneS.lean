/-
  shoallaw9.LaneQueue on the abstract machine: the whole.
-/
import Derived.Test.YtgiphcfpopgchaaLaneR
namespace Go.Proofs.Ytgiphcfpopgchaa
open Go.Av
set_option maxRecDepth 100000
set_option maxHeartbeats 4000000
set_option linter.unusedSimpArgs false
set_option linter.unusedVariables false

theorem new_run (h : AH) (n : Nat) : run E (n + 1) (.call 9 [] h) = some (.ret (.p (some (h.next, 0))) (h.new (.cells 5 (obj .nsl ⟨0, 0, 0, 0⟩)))) := by kernel_rfl

theorem new_lane (h : AH) : Lane (h.new (.cells 5 (obj .nsl ⟨0, 0, 0, 0⟩))) h.next none [] ⟨0, 0, 0, 0⟩ := ⟨⟨.nsl, by rw [AH.get_new]; simp, .nil0⟩, by simp, by simp⟩

theorem awake_says : saysTrue (run E 300 (.call 8 [] emptyH)) = true := by kernel_rfl

theorem says_iff {r : Option Res} (h : saysTrue r = true) : ∃ h0, r = some (.ret (.b true) h0) := by
  unfold saysTrue at h
  split at h
  · exact ⟨_, rfl⟩
  · cases h

theorem awake_run {n : Nat} (hn : 300 ≤ n) : ∃ h0, run E n (.call 8 [] emptyH) = some (.ret (.b true) h0) := by
  obtain ⟨h0, h⟩ := says_iff awake_says
  exact ⟨h0, run_mono E hn _ _ h⟩

noncomputable def e4 : Code := lf (rg (rg (rg (rg body4))))
noncomputable def g4 : Code := lf (rg (rg (rg (rg (rg body4)))))
noncomputable def k4 : Code := rg (rg (rg (rg (rg (rg body4)))))
theorem e4_eq : e4 = .seq (lf e4) (.block 0 (.loop q0c)) := by kernel_rfl
theorem g4_eq : g4 = .seq (lf g4) (.block 2 (.loop q2c)) := by kernel_rfl
theorem body4_eq : body4 = .seq (lf body4) (.seq (lf (rg body4)) (.seq (lf (rg (rg body4))) (.seq (lf (rg (rg (rg body4)))) (.seq e4 (.seq g4 k4))))) := by kernel_rfl

theorem f4_body : Try.f4.body = some body4 := by kernel_rfl
theorem f4_ntmps : Try.f4.ntmps = 67 := by kernel_rfl
theorem f4_results : Try.f4.results = #[.tmp 2] := by kernel_rfl

theorem A1 (R : Rec) (t : List AV) (h : AH) : stepCode E R 4 (lf body4) ⟨t, h⟩ = some (.normal, ⟨t.set 2 (.b false), h⟩) := by
  simp [body4, lf, rg, Try.f4, stepTask, stepCall, bodyA, stepCode, stepOps, List.range_succ, step1, wantedA, stepOp, execA, evA, putA, ofV, builtinA, lenA, binA, unA, resultsA, resA, indexAddrA, fieldAddrA, storeA, cells_i, cells_own, callFnA, E_P, E_fun, E_mode, E_hook, E_phook, E_ext, E_own, E_glob, Try.underlying2, Try.underlying22, Try.underlying3, Try.underlying50, sz2, sz22, sz3, agg2, agg22, agg3, intA, loadA, cellsAt, tk0, tk1, tk2, tk3, tk4, undefA]

theorem A2 (R : Rec) (t : List AV) (h h0 : AH) (ht : t.length = 67) (ha : R (.call 8 [] h) = some (.ret (.b true) h0)) : stepCode E R 4 (lf (rg body4)) ⟨t, h⟩ = some (.normal, ⟨(t.set 10 (.b true)).set 11 (.b false), h0⟩) := by
  simp [body4, lf, rg, Try.f4, Try.func8, Try.f8, stepTask, stepCall, bodyA, stepCode, stepOps, List.range_succ, step1, wantedA, stepOp, execA, evA, putA, ofV, builtinA, lenA, binA, unA, resultsA, resA, indexAddrA, fieldAddrA, storeA, cells_i, cells_own, callFnA, E_P, E_fun, E_mode, E_hook, E_phook, E_ext, E_own, E_glob, Try.underlying2, Try.underlying22, Try.underlying3, Try.underlying50, sz2, sz22, sz3, agg2, agg22, agg3, intA, loadA, cellsAt, tk0, tk1, tk2, tk3, tk4, undefA, ha, List.getElem?_set, List.getElem_set, ht]

theorem A3 (R : Rec) (t : List AV) (h : AH) (cs : List AV) (m : Nat) (ht : t.length = 67) (t0 : t[0]? = some (.imm cs m)) (hm : m ≤ 100) : stepCode E R 4 (lf (rg (rg body4))) ⟨t, h⟩ = some (.normal, ⟨((t.set 12 (.imm cs m)).set 13 (.i .i64 m)).set 14 (.b false), h⟩) := by
  have g0 := slot (by omega) t0
  have c1 : decide ((100 : Int) < m) = false := by simp; omega
  simp [body4, lf, rg, Try.f4, stepTask, stepCall, bodyA, stepCode, stepOps, List.range_succ, step1, wantedA, stepOp, execA, evA, putA, ofV, builtinA, lenA, binA, unA, resultsA, resA, indexAddrA, fieldAddrA, storeA, cells_i, cells_own, callFnA, E_P, E_fun, E_mode, E_hook, E_phook, E_ext, E_own, E_glob, Try.underlying2, Try.underlying22, Try.underlying3, Try.underlying50, sz2, sz22, sz3, agg2, agg22, agg3, intA, loadA, cellsAt, tk0, tk1, tk2, tk3, tk4, undefA, List.getElem?_set, List.getElem_set, ht, g0, c1]

theorem A4 (R : Rec) (t : List AV) (h h1 : AH) (p : Nat) (ht : t.length = 67) (ha : R (.call 9 [] h) = some (.ret (.p (some (p, 0))) h1)) : stepCode E R 4 (lf (rg (rg (rg body4)))) ⟨t, h⟩ = some (.normal, ⟨(t.set 15 (.p (some (p, 0)))).set 3 (.p (some (p, 0))), h1⟩) := by
  simp [body4, lf, rg, Try.f4, Try.func9, Try.f9, stepTask, stepCall, bodyA, stepCode, stepOps, List.range_succ, step1, wantedA, stepOp, execA, evA, putA, ofV, builtinA, lenA, binA, unA, resultsA, resA, indexAddrA, fieldAddrA, storeA, cells_i, cells_own, callFnA, E_P, E_fun, E_mode, E_hook, E_phook, E_ext, E_own, E_glob, Try.underlying2, Try.underlying22, Try.underlying3, Try.underlying50, sz2, sz22, sz3, agg2, agg22, agg3, intA, loadA, cellsAt, tk0, tk1, tk2, tk3, tk4, undefA, ha, List.getElem?_set, List.getElem_set, ht]

theorem A5 (R : Rec) (t : List AV) (h : AH) : stepCode E R 4 (lf e4) ⟨t, h⟩ = some (.normal, ⟨t.set 4 (.i .i64 0), h⟩) := by
  simp [e4, body4, lf, rg, Try.f4, stepTask, stepCall, bodyA, stepCode, stepOps, List.range_succ, step1, wantedA, stepOp, execA, evA, putA, ofV, builtinA, lenA, binA, unA, resultsA, resA, indexAddrA, fieldAddrA, storeA, cells_i, cells_own, callFnA, E_P, E_fun, E_mode, E_hook, E_phook, E_ext, E_own, E_glob, Try.underlying2, Try.underlying22, Try.underlying3, Try.underlying50, sz2, sz22, sz3, agg2, agg22, agg3, intA, loadA, cellsAt, tk0, tk1, tk2, tk3, tk4, undefA]

theorem A6 (R : Rec) (t : List AV) (h : AH) : stepCode E R 4 (lf g4) ⟨t, h⟩ = some (.normal, ⟨t.set 5 (.i .i64 0), h⟩) := by
  simp [g4, body4, lf, rg, Try.f4, stepTask, stepCall, bodyA, stepCode, stepOps, List.range_succ, step1, wantedA, stepOp, execA, evA, putA, ofV, builtinA, lenA, binA, unA, resultsA, resA, indexAddrA, fieldAddrA, storeA, cells_i, cells_own, callFnA, E_P, E_fun, E_mode, E_hook, E_phook, E_ext, E_own, E_glob, Try.underlying2, Try.underlying22, Try.underlying3, Try.underlying50, sz2, sz22, sz3, agg2, agg22, agg3, intA, loadA, cellsAt, tk0, tk1, tk2, tk3, tk4, undefA]

theorem A7 (R : Rec) (t : List AV) (h : AH) (p : Nat) (ht : t.length = 67) (t3 : t[3]? = some (.p (some (p, 0)))) (ha : R (.call 14 [.p (some (p, 0)), .i .i64 0] h) = some (.ret (.tup [.i .i64 0, .b false]) h)) :
    ∃ T, stepCode E R 4 k4 ⟨t, h⟩ = some (.ret, ⟨T, h⟩) ∧ T[2]? = some (.b true) := by
  have g3 := slot (by omega) t3
  refine ⟨(((((((((t.set 61 (.p (some (p, 0)))).set 62 (.tup [.i .i64 0, .b false])).set 60 (.tup [.i .i64 0, .b false])).set 63 (.i .i64 0)).set 64 (.b false)).set 8 (.i .i64 0)).set 9 (.b false)).set 65 (.b false)).set 66 (.b true)).set 2 (.b true), ?_, by simp [List.getElem?_set, ht]⟩
  simp [k4, body4, lf, rg, Try.f4, Try.func14, Try.f14, stepTask, stepCall, bodyA, stepCode, stepOps, List.range_succ, step1, wantedA, stepOp, execA, evA, putA, ofV, builtinA, lenA, binA, unA, resultsA, resA, indexAddrA, fieldAddrA, storeA, cells_i, cells_own, callFnA, E_P, E_fun, E_mode, E_hook, E_phook, E_ext, E_own, E_glob, Try.underlying2, Try.underlying22, Try.underlying3, Try.underlying50, sz2, sz22, sz3, agg2, agg22, agg3, intA, loadA, cellsAt, tk0, tk1, tk2, tk3, tk4, undefA, ha, List.getElem?_set, List.getElem_set, ht, g3]

theorem queue_run {xs : List Int} (hx : xs.length ≤ 100) : saysTrue (run E 501 (.call 4 [.imm (xs.map I) xs.length] emptyH)) = true := by
  obtain ⟨h0, ha⟩ := awake_run (n := 500) (by omega)
  have hnew := new_run h0 499
  rw [show 499 + 1 = 500 from rfl] at hnew
  have hl0 := new_lane h0
  generalize hh1 : h0.new (.cells 5 (obj .nsl ⟨0, 0, 0, 0⟩)) = h1 at hnew hl0
  generalize hp : h0.next = p at hnew hl0
  -- the temporaries, step by step
  obtain ⟨t0, e0, l0, z0⟩ : ∃ t0, t0 = AV.imm (xs.map I) xs.length :: List.replicate 66 undefA ∧ t0.length = 67 ∧ t0[0]? = some (.imm (xs.map I) xs.length) := ⟨_, rfl, by simp, by simp⟩
  have a1 := A1 (run E 500) t0 emptyH
  obtain ⟨t1, e1, l1, z1⟩ : ∃ t1, t1 = t0.set 2 (.b false) ∧ t1.length = 67 ∧ t1[0]? = some (.imm (xs.map I) xs.length) := ⟨_, rfl, by simp [l0], by simp [List.getElem?_set, z0]⟩
  rw [← e1] at a1
  have a2 := A2 (run E 500) t1 emptyH h0 l1 ha
  obtain ⟨t2, e2, l2, z2⟩ : ∃ t2, t2 = (t1.set 10 (.b true)).set 11 (.b false) ∧ t2.length = 67 ∧ t2[0]? = some (.imm (xs.map I) xs.length) := ⟨_, rfl, by simp [l1], by simp [List.getElem?_set, z1]⟩
  rw [← e2] at a2
  have a3 := A3 (run E 500) t2 h0 _ _ l2 z2 hx
  obtain ⟨t3, e3, l3, z3⟩ : ∃ t3, t3 = ((t2.set 12 (.imm (xs.map I) xs.length)).set 13 (.i .i64 xs.length)).set 14 (.b false) ∧ t3.length = 67 ∧ t3[0]? = some (.imm (xs.map I) xs.length) := ⟨_, rfl, by simp [l2], by simp [List.getElem?_set, z2]⟩
  rw [← e3] at a3
  have a4 := A4 (run E 500) t3 h0 h1 p l3 hnew
  obtain ⟨t4, e4', l4, z4, y4⟩ : ∃ t4, t4 = (t3.set 15 (.p (some (p, 0)))).set 3 (.p (some (p, 0))) ∧ t4.length = 67 ∧ t4[0]? = some (.imm (xs.map I) xs.length) ∧ t4[3]? = some (.p (some (p, 0))) := ⟨_, rfl, by simp [l3], by simp [List.getElem?_set, z3], by simp [List.getElem?_set, l3]⟩
  rw [← e4'] at a4
  have a5 := A5 (run E 500) t4 h1
  obtain ⟨t5, h5, Q5, r5, l5, z5, y5, L5⟩ := q0 (p := p) hx xs.length 0 (t4.set 4 (.i .i64 0)) h1 none 500 (by omega) (by omega) (by simp [l4]) (by simp [List.getElem?_set, z4]) (by simp [List.getElem?_set, y4]) (by simp [List.getElem?_set, l4]) (by simpa using hl0)
  have a6 := A6 (run E 500) t5 h5
  obtain ⟨t6, h6, Q6, r6, l6, z6, y6, L6⟩ := q2 (p := p) hx xs.length 0 (t5.set 5 (.i .i64 0)) h5 Q5 500 (by omega) (by omega) (by simp [l5]) (by simp [List.getElem?_set, z5]) (by simp [List.getElem?_set, y5]) (by simp [List.getElem?_set, l5]) (by simpa using L5)
  have tk := take_none L6 (i := 0) (by simp) 497
  obtain ⟨T, a7, zT⟩ := A7 (run E 500) t6 h6 p l6 y6 tk
  have hbody : stepCode E (run E 500) 4 body4 ⟨t0, emptyH⟩ = some (.ret, ⟨T, h6⟩) := by
    rw [body4_eq]
    simp only [stepCode, a1, a2, a3, a4]
    rw [e4_eq, g4_eq]
    simp only [stepCode, a5, r5, a6, r6, a7, if_true]
  rw [run]
  simp only [stepTask, stepCall, E_phook, E_hook, E_fun, Try.func4, E_mode, bodyA, f4_body, f4_ntmps]
  rw [if_neg (by decide), if_neg (by decide), if_neg (by decide)]
  have : ([AV.imm (xs.map I) xs.length] ++ List.replicate (67 - [AV.imm (xs.map I) xs.length].length) undefA) = t0 := by rw [e0]; rfl
  rw [this, hbody]
  have hT : T.getD 2 undefA = .b true := by simp [List.getD_eq_getElem?_getD, zT]
  simp only [resultsA, f4_results, List.mapM_cons, List.mapM_nil, resA, hT]
  rfl
end Go.Proofs.Ytgiphcfpopgchaa
