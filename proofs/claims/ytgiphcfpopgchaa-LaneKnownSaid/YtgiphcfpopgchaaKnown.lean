/-
  shoallaw9.LaneKnown returns true.
-/
import Derived.Test.YtgiphcfpopgchaaRows
import Derived.Test.YtgiphcfpopgchaaLaneY
import Derived.Test.YtgiphcfpopgchaaAv22
namespace Go.Proofs.Ytgiphcfpopgchaa
open Go.ChangeShapes Go.WideShapes Go.ChangeAt Go.RowKit Go.Av
set_option maxRecDepth 100000
set_option maxHeartbeats 4000000
set_option linter.unusedSimpArgs false
set_option linter.unusedVariables false

theorem f5_body : Try.f5.body = some body5 := by kernel_rfl
theorem f5_ntmps : Try.f5.ntmps = 102 := by kernel_rfl
theorem f5_results : Try.f5.results = #[.tmp 0] := by kernel_rfl
theorem e5_eq : e5 = .seq (lf e5) (.block 0 (.loop n0c)) := by kernel_rfl
theorem body5_eq : body5 = (.seq (lf body5) (.seq (lf (rg body5)) (.seq (lf (rg (rg body5))) (.seq (lf (rg (rg (rg body5)))) (.seq (lf (rg (rg (rg (rg body5))))) (.seq e5 (.seq (lf (rg (rg (rg (rg (rg (rg body5))))))) (.seq (lf (rg (rg (rg (rg (rg (rg (rg body5)))))))) (.seq (lf (rg (rg (rg (rg (rg (rg (rg (rg body5))))))))) (.seq (lf (rg (rg (rg (rg (rg (rg (rg (rg (rg body5)))))))))) (.seq (lf (rg (rg (rg (rg (rg (rg (rg (rg (rg (rg body5))))))))))) (rg (rg (rg (rg (rg (rg (rg (rg (rg (rg (rg body5)))))))))))))))))))))) := by kernel_rfl

theorem K1 (R : Rec) (t : List AV) (h h' : AH) (p : Nat) (ht : t.length = 102)   : stepCode E R 5 (lf body5) ⟨t, h⟩ = some (.normal, ⟨(t.set 0 (.b false)), h⟩) := by
  simp [e5, body5, lf, rg, Try.f5, stepTask, stepCall, bodyA, stepCode, stepOps, List.range_succ, step1, wantedA, stepOp, execA, evA, putA, ofV, builtinA, lenA, binA, unA, resultsA, resA, indexAddrA, fieldAddrA, storeA, cells_i, cells_own, callFnA, E_P, E_fun, E_mode, E_hook, E_phook, E_ext, E_own, E_glob, Try.underlying2, Try.underlying22, Try.underlying3, Try.underlying50, sz2, sz22, sz3, agg2, agg22, agg3, intA, loadA, cellsAt, tk0, tk1, tk2, tk3, tk4, undefA, List.getElem?_set, List.getElem_set, ht]

theorem K2 (R : Rec) (t : List AV) (h h' : AH) (p : Nat) (ht : t.length = 102)  (c0 : R (.call 8 [] h) = some (.ret (.b true) h')) : stepCode E R 5 (lf (rg body5)) ⟨t, h⟩ = some (.normal, ⟨((t.set 16 (.b true)).set 17 (.b false)), h'⟩) := by
  simp [e5, body5, lf, rg, Try.f5, Try.func8, Try.f8, stepTask, stepCall, bodyA, stepCode, stepOps, List.range_succ, step1, wantedA, stepOp, execA, evA, putA, ofV, builtinA, lenA, binA, unA, resultsA, resA, indexAddrA, fieldAddrA, storeA, cells_i, cells_own, callFnA, E_P, E_fun, E_mode, E_hook, E_phook, E_ext, E_own, E_glob, Try.underlying2, Try.underlying22, Try.underlying3, Try.underlying50, sz2, sz22, sz3, agg2, agg22, agg3, intA, loadA, cellsAt, tk0, tk1, tk2, tk3, tk4, undefA, c0, List.getElem?_set, List.getElem_set, ht]

theorem K3 (R : Rec) (t : List AV) (h h' : AH) (p : Nat) (ht : t.length = 102)  (c0 : R (.call 9 [] h) = some (.ret (.p (some (p, 0))) h')) : stepCode E R 5 (lf (rg (rg body5))) ⟨t, h⟩ = some (.normal, ⟨((t.set 18 (.p (some (p, 0)))).set 1 (.p (some (p, 0)))), h'⟩) := by
  simp [e5, body5, lf, rg, Try.f5, Try.func9, Try.f9, stepTask, stepCall, bodyA, stepCode, stepOps, List.range_succ, step1, wantedA, stepOp, execA, evA, putA, ofV, builtinA, lenA, binA, unA, resultsA, resA, indexAddrA, fieldAddrA, storeA, cells_i, cells_own, callFnA, E_P, E_fun, E_mode, E_hook, E_phook, E_ext, E_own, E_glob, Try.underlying2, Try.underlying22, Try.underlying3, Try.underlying50, sz2, sz22, sz3, agg2, agg22, agg3, intA, loadA, cellsAt, tk0, tk1, tk2, tk3, tk4, undefA, c0, List.getElem?_set, List.getElem_set, ht]

theorem K4 (R : Rec) (t : List AV) (h h' : AH) (p : Nat) (ht : t.length = 102) (s1 : t[1]? = some (.p (some (p, 0)))) (c0 : R (.call 14 [.p (some (p, 0)), .i .i64 0] h) = some (.ret (.tup [.i .i64 0, .b false]) h)) : stepCode E R 5 (lf (rg (rg (rg body5)))) ⟨t, h⟩ = some (.normal, ⟨(((((((t.set 20 (.p (some (p, 0)))).set 21 (.tup [.i .i64 0, .b false])).set 19 (.tup [.i .i64 0, .b false])).set 22 (.i .i64 0)).set 23 (.b false)).set 2 (.i .i64 0)).set 3 (.b false)), h⟩) := by
  have g1 := slot (by omega) s1
  simp [e5, body5, lf, rg, Try.f5, Try.func14, Try.f14, stepTask, stepCall, bodyA, stepCode, stepOps, List.range_succ, step1, wantedA, stepOp, execA, evA, putA, ofV, builtinA, lenA, binA, unA, resultsA, resA, indexAddrA, fieldAddrA, storeA, cells_i, cells_own, callFnA, E_P, E_fun, E_mode, E_hook, E_phook, E_ext, E_own, E_glob, Try.underlying2, Try.underlying22, Try.underlying3, Try.underlying50, sz2, sz22, sz3, agg2, agg22, agg3, intA, loadA, cellsAt, tk0, tk1, tk2, tk3, tk4, undefA, c0, g1, List.getElem?_set, List.getElem_set, ht]

theorem K5 (R : Rec) (t : List AV) (h h' : AH) (p : Nat) (ht : t.length = 102) (s1 : t[1]? = some (.p (some (p, 0)))) (c0 : R (.call 16 [.p (some (p, 0)), .i .i64 0] h) = some (.ret (.b false) h)) (c1 : R (.call 17 [.p (some (p, 0)), .i .i64 (-1)] h) = some (.ret (.b false) h)) (c2 : R (.call 11 [.p (some (p, 0)), .i .i64 0] h) = some (.ret (.b false) h)) : stepCode E R 5 (lf (rg (rg (rg (rg body5))))) ⟨t, h⟩ = some (.normal, ⟨(((((((((t.set 24 (.p (some (p, 0)))).set 25 (.b false)).set 26 (.p (some (p, 0)))).set 27 (.b false)).set 28 (.p (some (p, 0)))).set 29 (.b false)).set 4 (.b false)).set 5 (.b false)).set 6 (.b false)), h⟩) := by
  have g1 := slot (by omega) s1
  simp [e5, body5, lf, rg, Try.f5, Try.func16, Try.f16, Try.func17, Try.f17, Try.func11, Try.f11, stepTask, stepCall, bodyA, stepCode, stepOps, List.range_succ, step1, wantedA, stepOp, execA, evA, putA, ofV, builtinA, lenA, binA, unA, resultsA, resA, indexAddrA, fieldAddrA, storeA, cells_i, cells_own, callFnA, E_P, E_fun, E_mode, E_hook, E_phook, E_ext, E_own, E_glob, Try.underlying2, Try.underlying22, Try.underlying3, Try.underlying50, sz2, sz22, sz3, agg2, agg22, agg3, intA, loadA, cellsAt, tk0, tk1, tk2, tk3, tk4, undefA, c0, c1, c2, g1, List.getElem?_set, List.getElem_set, ht]

theorem K6 (R : Rec) (t : List AV) (h h' : AH) (p : Nat) (ht : t.length = 102)   : stepCode E R 5 (lf e5) ⟨t, h⟩ = some (.normal, ⟨(t.set 7 (.i .i64 0)), h⟩) := by
  simp [e5, body5, lf, rg, Try.f5, stepTask, stepCall, bodyA, stepCode, stepOps, List.range_succ, step1, wantedA, stepOp, execA, evA, putA, ofV, builtinA, lenA, binA, unA, resultsA, resA, indexAddrA, fieldAddrA, storeA, cells_i, cells_own, callFnA, E_P, E_fun, E_mode, E_hook, E_phook, E_ext, E_own, E_glob, Try.underlying2, Try.underlying22, Try.underlying3, Try.underlying50, sz2, sz22, sz3, agg2, agg22, agg3, intA, loadA, cellsAt, tk0, tk1, tk2, tk3, tk4, undefA, List.getElem?_set, List.getElem_set, ht]

theorem K7 (R : Rec) (t : List AV) (h h' : AH) (p : Nat) (ht : t.length = 102) (s1 : t[1]? = some (.p (some (p, 0)))) (c0 : R (.call 10 [.p (some (p, 0)), .i .i64 1] h) = some (.ret (.b false) h)) (c1 : R (.call 17 [.p (some (p, 0)), .i .i64 0] h) = some (.ret (.b false) h)) : stepCode E R 5 (lf (rg (rg (rg (rg (rg (rg body5))))))) ⟨t, h⟩ = some (.normal, ⟨((((((t.set 38 (.p (some (p, 0)))).set 39 (.b false)).set 40 (.p (some (p, 0)))).set 41 (.b false)).set 8 (.b false)).set 9 (.b false)), h⟩) := by
  have g1 := slot (by omega) s1
  simp [e5, body5, lf, rg, Try.f5, Try.func10, Try.f10, Try.func17, Try.f17, stepTask, stepCall, bodyA, stepCode, stepOps, List.range_succ, step1, wantedA, stepOp, execA, evA, putA, ofV, builtinA, lenA, binA, unA, resultsA, resA, indexAddrA, fieldAddrA, storeA, cells_i, cells_own, callFnA, E_P, E_fun, E_mode, E_hook, E_phook, E_ext, E_own, E_glob, Try.underlying2, Try.underlying22, Try.underlying3, Try.underlying50, sz2, sz22, sz3, agg2, agg22, agg3, intA, loadA, cellsAt, tk0, tk1, tk2, tk3, tk4, undefA, c0, c1, g1, List.getElem?_set, List.getElem_set, ht]

theorem K8 (R : Rec) (t : List AV) (h h' : AH) (p : Nat) (ht : t.length = 102) (s1 : t[1]? = some (.p (some (p, 0)))) (c0 : R (.call 16 [.p (some (p, 0)), .i .i64 4095] h) = some (.ret (.b true) h')) : stepCode E R 5 (lf (rg (rg (rg (rg (rg (rg (rg body5)))))))) ⟨t, h⟩ = some (.normal, ⟨(((t.set 42 (.p (some (p, 0)))).set 43 (.b true)).set 10 (.b true)), h'⟩) := by
  have g1 := slot (by omega) s1
  simp [e5, body5, lf, rg, Try.f5, Try.func16, Try.f16, stepTask, stepCall, bodyA, stepCode, stepOps, List.range_succ, step1, wantedA, stepOp, execA, evA, putA, ofV, builtinA, lenA, binA, unA, resultsA, resA, indexAddrA, fieldAddrA, storeA, cells_i, cells_own, callFnA, E_P, E_fun, E_mode, E_hook, E_phook, E_ext, E_own, E_glob, Try.underlying2, Try.underlying22, Try.underlying3, Try.underlying50, sz2, sz22, sz3, agg2, agg22, agg3, intA, loadA, cellsAt, tk0, tk1, tk2, tk3, tk4, undefA, c0, g1, List.getElem?_set, List.getElem_set, ht]

theorem K9 (R : Rec) (t : List AV) (h h' : AH) (p : Nat) (ht : t.length = 102) (s1 : t[1]? = some (.p (some (p, 0)))) (c0 : R (.call 17 [.p (some (p, 0)), .i .i64 0] h) = some (.ret (.b true) h')) : stepCode E R 5 (lf (rg (rg (rg (rg (rg (rg (rg (rg body5))))))))) ⟨t, h⟩ = some (.normal, ⟨(((t.set 44 (.p (some (p, 0)))).set 45 (.b true)).set 11 (.b true)), h'⟩) := by
  have g1 := slot (by omega) s1
  simp [e5, body5, lf, rg, Try.f5, Try.func17, Try.f17, stepTask, stepCall, bodyA, stepCode, stepOps, List.range_succ, step1, wantedA, stepOp, execA, evA, putA, ofV, builtinA, lenA, binA, unA, resultsA, resA, indexAddrA, fieldAddrA, storeA, cells_i, cells_own, callFnA, E_P, E_fun, E_mode, E_hook, E_phook, E_ext, E_own, E_glob, Try.underlying2, Try.underlying22, Try.underlying3, Try.underlying50, sz2, sz22, sz3, agg2, agg22, agg3, intA, loadA, cellsAt, tk0, tk1, tk2, tk3, tk4, undefA, c0, g1, List.getElem?_set, List.getElem_set, ht]

theorem K10 (R : Rec) (t : List AV) (h h' : AH) (p : Nat) (ht : t.length = 102) (s1 : t[1]? = some (.p (some (p, 0)))) (c0 : R (.call 18 [.p (some (p, 0))] h) = some (.ret (.tup [.i .i64 4096, .i .i64 0, .i .i64 1, .i .i64 1]) h)) : stepCode E R 5 (lf (rg (rg (rg (rg (rg (rg (rg (rg (rg body5)))))))))) ⟨t, h⟩ = some (.normal, ⟨(((((((((((t.set 47 (.p (some (p, 0)))).set 48 (.tup [.i .i64 4096, .i .i64 0, .i .i64 1, .i .i64 1])).set 46 (.tup [.i .i64 4096, .i .i64 0, .i .i64 1, .i .i64 1])).set 49 (.i .i64 4096)).set 50 (.i .i64 0)).set 51 (.i .i64 1)).set 52 (.i .i64 1)).set 12 (.i .i64 4096)).set 13 (.i .i64 0)).set 14 (.i .i64 1)).set 15 (.i .i64 1)), h⟩) := by
  have g1 := slot (by omega) s1
  simp [e5, body5, lf, rg, Try.f5, Try.func18, Try.f18, stepTask, stepCall, bodyA, stepCode, stepOps, List.range_succ, step1, wantedA, stepOp, execA, evA, putA, ofV, builtinA, lenA, binA, unA, resultsA, resA, indexAddrA, fieldAddrA, storeA, cells_i, cells_own, callFnA, E_P, E_fun, E_mode, E_hook, E_phook, E_ext, E_own, E_glob, Try.underlying2, Try.underlying22, Try.underlying3, Try.underlying50, sz2, sz22, sz3, agg2, agg22, agg3, intA, loadA, cellsAt, tk0, tk1, tk2, tk3, tk4, undefA, c0, g1, List.getElem?_set, List.getElem_set, ht]

theorem K11 (R : Rec) (t : List AV) (h h' : AH) (p : Nat) (ht : t.length = 102) (s1 : t[1]? = some (.p (some (p, 0)))) (s3 : t[3]? = some (.b false)) (s4 : t[4]? = some (.b false)) (s5 : t[5]? = some (.b false)) (s6 : t[6]? = some (.b false)) (s8 : t[8]? = some (.b false)) (s9 : t[9]? = some (.b false)) (s10 : t[10]? = some (.b true)) (s11 : t[11]? = some (.b true)) (s12 : t[12]? = some (.i .i64 4096)) (s13 : t[13]? = some (.i .i64 0)) (s14 : t[14]? = some (.i .i64 1)) (s15 : t[15]? = some (.i .i64 1)) (c0 : R (.call 15 [.p (some (p, 0))] h) = some (.ret (.i .i64 4096) h)) : stepCode E R 5 (lf (rg (rg (rg (rg (rg (rg (rg (rg (rg (rg body5))))))))))) ⟨t, h⟩ = some (.normal, ⟨((((((((((((((((((((((((((((((((((((((((((((((((((t.set 53 (.b false)).set 54 (.b true)).set 55 (.b true)).set 56 (.b false)).set 57 (.b true)).set 58 (.b true)).set 59 (.b true)).set 60 (.b false)).set 61 (.b true)).set 62 (.b true)).set 63 (.b true)).set 64 (.b false)).set 65 (.b true)).set 66 (.b true)).set 67 (.b true)).set 68 (.b false)).set 69 (.b true)).set 70 (.b true)).set 71 (.b true)).set 72 (.b false)).set 73 (.b true)).set 74 (.b true)).set 75 (.b true)).set 76 (.b true)).set 77 (.b true)).set 78 (.b true)).set 79 (.b true)).set 80 (.b true)).set 81 (.b true)).set 82 (.p (some (p, 0)))).set 83 (.i .i64 4096)).set 84 (.b true)).set 85 (.b true)).set 86 (.b true)).set 87 (.i .i64 4096)).set 88 (.b true)).set 89 (.b true)).set 90 (.b true)).set 91 (.i .i64 0)).set 92 (.b true)).set 93 (.b true)).set 94 (.b true)).set 95 (.i .i64 1)).set 96 (.b true)).set 97 (.b true)).set 98 (.b true)).set 99 (.i .i64 1)).set 100 (.b true)).set 101 (.b true)).set 0 (.b true)), h⟩) := by
  have g1 := slot (by omega) s1
  have g3 := slot (by omega) s3
  have g4 := slot (by omega) s4
  have g5 := slot (by omega) s5
  have g6 := slot (by omega) s6
  have g8 := slot (by omega) s8
  have g9 := slot (by omega) s9
  have g10 := slot (by omega) s10
  have g11 := slot (by omega) s11
  have g12 := slot (by omega) s12
  have g13 := slot (by omega) s13
  have g14 := slot (by omega) s14
  have g15 := slot (by omega) s15
  simp [e5, body5, lf, rg, Try.f5, Try.func15, Try.f15, stepTask, stepCall, bodyA, stepCode, stepOps, List.range_succ, step1, wantedA, stepOp, execA, evA, putA, ofV, builtinA, lenA, binA, unA, resultsA, resA, indexAddrA, fieldAddrA, storeA, cells_i, cells_own, callFnA, E_P, E_fun, E_mode, E_hook, E_phook, E_ext, E_own, E_glob, Try.underlying2, Try.underlying22, Try.underlying3, Try.underlying50, sz2, sz22, sz3, agg2, agg22, agg3, intA, loadA, cellsAt, tk0, tk1, tk2, tk3, tk4, undefA, c0, g1, g3, g4, g5, g6, g8, g9, g10, g11, g12, g13, g14, g15, List.getElem?_set, List.getElem_set, ht]

theorem known_tail (R : Rec) (T : List AV) (h' : AH) (hbody : stepCode E R 5 body5 ⟨List.replicate 102 undefA, emptyH⟩ = some (.ret, ⟨T, h'⟩)) (hz : T[0]? = some (.b true)) :
    saysTrue (stepTask E R (.call 5 [] emptyH)) = true := by
  simp only [stepTask, stepCall, E_phook, E_hook, E_fun, Try.func5, E_mode, bodyA, f5_body, f5_ntmps]
  rw [if_neg (by decide), if_neg (by decide), if_neg (by decide)]
  rw [show ([] ++ List.replicate (102 - ([] : List AV).length) undefA) = List.replicate 102 undefA from rfl, hbody]
  have hT : T.getD 0 undefA = .b true := by simp [List.getD_eq_getElem?_getD, hz]
  simp only [resultsA, f5_results, List.mapM_cons, List.mapM_nil, resA, hT]
  rfl

theorem known_run : saysTrue (stepTask E (run E 4299) (.call 5 [] emptyH)) = true := by
  obtain ⟨h0, ha⟩ := awake_run (n := 4299) (by omega)
  have hnew := new_run h0 4298
  rw [show 4298 + 1 = 4299 from rfl] at hnew
  have hl0 := new_lane h0
  generalize hh1 : h0.new (.cells 5 (obj .nsl ⟨0, 0, 0, 0⟩)) = h1 at hnew hl0
  generalize hp : h0.next = p at hnew hl0
  have q4 := take_none hl0 (i := 0) (by simp) 4296
  have q5a := drop_none hl0 (i := 0) (by simp) 4296
  have q5b := double_none hl0 (i := -1) (by simp) 4296
  have q5c := hold_none hl0 (i := 0) (by simp) 4296
  rw [show 4296 + 3 = 4299 from rfl] at q4 q5a q5b q5c
  obtain ⟨u0, e0, l0⟩ : ∃ u, u = List.replicate 102 undefA ∧ u.length = 102 := ⟨_, rfl, by simp⟩
  have a1 := K1 (run E 4299) u0 emptyH emptyH p l0
  obtain ⟨u1, e1, l1⟩ : ∃ u, u = (u0.set 0 (.b false)) ∧ u.length = 102 := ⟨_, rfl, by simp [l0]⟩
  rw [← e1] at a1
  have a2 := K2 (run E 4299) u1 emptyH h0 p l1 ha
  obtain ⟨u2, e2, l2⟩ : ∃ u, u = ((u1.set 16 (.b true)).set 17 (.b false)) ∧ u.length = 102 := ⟨_, rfl, by simp [l1]⟩
  rw [← e2] at a2
  have a3 := K3 (run E 4299) u2 h0 h1 p l2 hnew
  obtain ⟨u3, e3, l3, z3_1⟩ : ∃ u, u = ((u2.set 18 (.p (some (p, 0)))).set 1 (.p (some (p, 0)))) ∧ u.length = 102 ∧ u[1]? = some (.p (some (p, 0))) := ⟨_, rfl, by simp [l2], List.getElem?_set_self (by simp [l2])⟩
  rw [← e3] at a3
  have a4 := K4 (run E 4299) u3 h1 h1 p l3 z3_1 q4
  obtain ⟨u4, e4, l4, z4_1, z4_3⟩ : ∃ u, u = (((((((u3.set 20 (.p (some (p, 0)))).set 21 (.tup [.i .i64 0, .b false])).set 19 (.tup [.i .i64 0, .b false])).set 22 (.i .i64 0)).set 23 (.b false)).set 2 (.i .i64 0)).set 3 (.b false)) ∧ u.length = 102 ∧ u[1]? = some (.p (some (p, 0))) ∧ u[3]? = some (.b false) := ⟨_, rfl, by simp [l3], (List.getElem?_set_ne (by decide)).trans ((List.getElem?_set_ne (by decide)).trans ((List.getElem?_set_ne (by decide)).trans ((List.getElem?_set_ne (by decide)).trans ((List.getElem?_set_ne (by decide)).trans ((List.getElem?_set_ne (by decide)).trans ((List.getElem?_set_ne (by decide)).trans (z3_1))))))), List.getElem?_set_self (by simp [l3])⟩
  rw [← e4] at a4
  have a5 := K5 (run E 4299) u4 h1 h1 p l4 z4_1 q5a q5b q5c
  obtain ⟨u5, e5, l5, z5_1, z5_3, z5_4, z5_5, z5_6⟩ : ∃ u, u = (((((((((u4.set 24 (.p (some (p, 0)))).set 25 (.b false)).set 26 (.p (some (p, 0)))).set 27 (.b false)).set 28 (.p (some (p, 0)))).set 29 (.b false)).set 4 (.b false)).set 5 (.b false)).set 6 (.b false)) ∧ u.length = 102 ∧ u[1]? = some (.p (some (p, 0))) ∧ u[3]? = some (.b false) ∧ u[4]? = some (.b false) ∧ u[5]? = some (.b false) ∧ u[6]? = some (.b false) := ⟨_, rfl, by simp [l4], (List.getElem?_set_ne (by decide)).trans ((List.getElem?_set_ne (by decide)).trans ((List.getElem?_set_ne (by decide)).trans ((List.getElem?_set_ne (by decide)).trans ((List.getElem?_set_ne (by decide)).trans ((List.getElem?_set_ne (by decide)).trans ((List.getElem?_set_ne (by decide)).trans ((List.getElem?_set_ne (by decide)).trans ((List.getElem?_set_ne (by decide)).trans (z4_1))))))))), (List.getElem?_set_ne (by decide)).trans ((List.getElem?_set_ne (by decide)).trans ((List.getElem?_set_ne (by decide)).trans ((List.getElem?_set_ne (by decide)).trans ((List.getElem?_set_ne (by decide)).trans ((List.getElem?_set_ne (by decide)).trans ((List.getElem?_set_ne (by decide)).trans ((List.getElem?_set_ne (by decide)).trans ((List.getElem?_set_ne (by decide)).trans (z4_3))))))))), (List.getElem?_set_ne (by decide)).trans ((List.getElem?_set_ne (by decide)).trans (List.getElem?_set_self (by simp [l4]))), (List.getElem?_set_ne (by decide)).trans (List.getElem?_set_self (by simp [l4])), List.getElem?_set_self (by simp [l4])⟩
  rw [← e5] at a5
  have a6 := K6 (run E 4299) u5 h1 h1 p l5
  obtain ⟨u6, e6, l6, z6_1, z6_3, z6_4, z6_5, z6_6, z6_7⟩ : ∃ u, u = (u5.set 7 (.i .i64 0)) ∧ u.length = 102 ∧ u[1]? = some (.p (some (p, 0))) ∧ u[3]? = some (.b false) ∧ u[4]? = some (.b false) ∧ u[5]? = some (.b false) ∧ u[6]? = some (.b false) ∧ u[7]? = some (.i .i64 0) := ⟨_, rfl, by simp [l5], (List.getElem?_set_ne (by decide)).trans (z5_1), (List.getElem?_set_ne (by decide)).trans (z5_3), (List.getElem?_set_ne (by decide)).trans (z5_4), (List.getElem?_set_ne (by decide)).trans (z5_5), (List.getElem?_set_ne (by decide)).trans (z5_6), List.getElem?_set_self (by simp [l5])⟩
  rw [← e6] at a6
  obtain ⟨v, h2, Q2, rl, l7, y1, yk, L2⟩ := n0 (p := p) 4096 0 u6 h1 none 4299 (by omega) (by omega) l6 z6_1 z6_7 (by simpa [upto] using hl0)
  have lu : (upto 4096).length = 4096 := upto_length 4096
  have hone : (upto 4096).all AV.one = true := by simp only [upto, List.all_map]; exact List.all_eq_true.2 (fun x _ => rfl)
  have w7a := send_full L2 (by omega) (.i .i64 1) 4297
  have w7b := double_full L2 (by omega) (i := 0) (by omega) 4296
  rw [show 4297 + 2 = 4299 from rfl] at w7a
  rw [show 4296 + 3 = 4299 from rfl] at w7b
  have z7_3 : v[3]? = some (.b false) := by rw [yk 3 (by omega)]; exact z6_3
  have z7_4 : v[4]? = some (.b false) := by rw [yk 4 (by omega)]; exact z6_4
  have z7_5 : v[5]? = some (.b false) := by rw [yk 5 (by omega)]; exact z6_5
  have z7_6 : v[6]? = some (.b false) := by rw [yk 6 (by omega)]; exact z6_6
  obtain ⟨u7, ev, z7_1⟩ : ∃ u, u = v ∧ u[1]? = some (.p (some (p, 0))) := ⟨v, rfl, y1⟩
  subst ev
  obtain ⟨h3, d1, d2, d3⟩ := drop_run L2 (by omega) (by unfold Cnt.ok; simp) (i := 4095) (by omega) 4296
  rw [show 4296 + 3 = 4299 from rfl] at d1
  have ld : ((upto 4096).eraseIdx 4095).length = 4095 := by rw [List.length_eraseIdx, if_pos (by omega), lu]
  have hone2 : ((upto 4096).eraseIdx 4095).all AV.one = true := List.all_eq_true.2 fun x hx => List.all_eq_true.1 hone x (List.mem_of_mem_eraseIdx hx)
  obtain ⟨Q4, h4, f1, f2, f3⟩ := double_run d2 (by omega) (by unfold Cnt.ok; simp) hone2 (i := 0) (by omega) 4296
  rw [show 4296 + 3 = 4299 from rfl] at f1
  simp only [Int.natCast_zero] at f1
  have cr := counts_run f2 4298
  have lr := len_run f2 4298
  rw [show 4298 + 1 = 4299 from rfl] at cr lr
  rw [show (((upto 4096).eraseIdx 4095) ++ [((upto 4096).eraseIdx 4095)[0]'(by omega)]).length = 4096 by rw [List.length_append, List.length_singleton, ld]] at lr
  have a8 := K7 (run E 4299) u7 h2 h2 p l7 z7_1 w7a w7b
  obtain ⟨u8, e8, l8, z8_1, z8_3, z8_4, z8_5, z8_6, z8_8, z8_9⟩ : ∃ u, u = ((((((u7.set 38 (.p (some (p, 0)))).set 39 (.b false)).set 40 (.p (some (p, 0)))).set 41 (.b false)).set 8 (.b false)).set 9 (.b false)) ∧ u.length = 102 ∧ u[1]? = some (.p (some (p, 0))) ∧ u[3]? = some (.b false) ∧ u[4]? = some (.b false) ∧ u[5]? = some (.b false) ∧ u[6]? = some (.b false) ∧ u[8]? = some (.b false) ∧ u[9]? = some (.b false) := ⟨_, rfl, by simp [l7], (List.getElem?_set_ne (by decide)).trans ((List.getElem?_set_ne (by decide)).trans ((List.getElem?_set_ne (by decide)).trans ((List.getElem?_set_ne (by decide)).trans ((List.getElem?_set_ne (by decide)).trans ((List.getElem?_set_ne (by decide)).trans (z7_1)))))), (List.getElem?_set_ne (by decide)).trans ((List.getElem?_set_ne (by decide)).trans ((List.getElem?_set_ne (by decide)).trans ((List.getElem?_set_ne (by decide)).trans ((List.getElem?_set_ne (by decide)).trans ((List.getElem?_set_ne (by decide)).trans (z7_3)))))), (List.getElem?_set_ne (by decide)).trans ((List.getElem?_set_ne (by decide)).trans ((List.getElem?_set_ne (by decide)).trans ((List.getElem?_set_ne (by decide)).trans ((List.getElem?_set_ne (by decide)).trans ((List.getElem?_set_ne (by decide)).trans (z7_4)))))), (List.getElem?_set_ne (by decide)).trans ((List.getElem?_set_ne (by decide)).trans ((List.getElem?_set_ne (by decide)).trans ((List.getElem?_set_ne (by decide)).trans ((List.getElem?_set_ne (by decide)).trans ((List.getElem?_set_ne (by decide)).trans (z7_5)))))), (List.getElem?_set_ne (by decide)).trans ((List.getElem?_set_ne (by decide)).trans ((List.getElem?_set_ne (by decide)).trans ((List.getElem?_set_ne (by decide)).trans ((List.getElem?_set_ne (by decide)).trans ((List.getElem?_set_ne (by decide)).trans (z7_6)))))), (List.getElem?_set_ne (by decide)).trans (List.getElem?_set_self (by simp [l7])), List.getElem?_set_self (by simp [l7])⟩
  rw [← e8] at a8
  have a9 := K8 (run E 4299) u8 h2 h3 p l8 z8_1 d1
  obtain ⟨u9, e9, l9, z9_1, z9_3, z9_4, z9_5, z9_6, z9_8, z9_9, z9_10⟩ : ∃ u, u = (((u8.set 42 (.p (some (p, 0)))).set 43 (.b true)).set 10 (.b true)) ∧ u.length = 102 ∧ u[1]? = some (.p (some (p, 0))) ∧ u[3]? = some (.b false) ∧ u[4]? = some (.b false) ∧ u[5]? = some (.b false) ∧ u[6]? = some (.b false) ∧ u[8]? = some (.b false) ∧ u[9]? = some (.b false) ∧ u[10]? = some (.b true) := ⟨_, rfl, by simp [l8], (List.getElem?_set_ne (by decide)).trans ((List.getElem?_set_ne (by decide)).trans ((List.getElem?_set_ne (by decide)).trans (z8_1))), (List.getElem?_set_ne (by decide)).trans ((List.getElem?_set_ne (by decide)).trans ((List.getElem?_set_ne (by decide)).trans (z8_3))), (List.getElem?_set_ne (by decide)).trans ((List.getElem?_set_ne (by decide)).trans ((List.getElem?_set_ne (by decide)).trans (z8_4))), (List.getElem?_set_ne (by decide)).trans ((List.getElem?_set_ne (by decide)).trans ((List.getElem?_set_ne (by decide)).trans (z8_5))), (List.getElem?_set_ne (by decide)).trans ((List.getElem?_set_ne (by decide)).trans ((List.getElem?_set_ne (by decide)).trans (z8_6))), (List.getElem?_set_ne (by decide)).trans ((List.getElem?_set_ne (by decide)).trans ((List.getElem?_set_ne (by decide)).trans (z8_8))), (List.getElem?_set_ne (by decide)).trans ((List.getElem?_set_ne (by decide)).trans ((List.getElem?_set_ne (by decide)).trans (z8_9))), List.getElem?_set_self (by simp [l8])⟩
  rw [← e9] at a9
  have a10 := K9 (run E 4299) u9 h3 h4 p l9 z9_1 f1
  obtain ⟨u10, e10, l10, z10_1, z10_3, z10_4, z10_5, z10_6, z10_8, z10_9, z10_10, z10_11⟩ : ∃ u, u = (((u9.set 44 (.p (some (p, 0)))).set 45 (.b true)).set 11 (.b true)) ∧ u.length = 102 ∧ u[1]? = some (.p (some (p, 0))) ∧ u[3]? = some (.b false) ∧ u[4]? = some (.b false) ∧ u[5]? = some (.b false) ∧ u[6]? = some (.b false) ∧ u[8]? = some (.b false) ∧ u[9]? = some (.b false) ∧ u[10]? = some (.b true) ∧ u[11]? = some (.b true) := ⟨_, rfl, by simp [l9], (List.getElem?_set_ne (by decide)).trans ((List.getElem?_set_ne (by decide)).trans ((List.getElem?_set_ne (by decide)).trans (z9_1))), (List.getElem?_set_ne (by decide)).trans ((List.getElem?_set_ne (by decide)).trans ((List.getElem?_set_ne (by decide)).trans (z9_3))), (List.getElem?_set_ne (by decide)).trans ((List.getElem?_set_ne (by decide)).trans ((List.getElem?_set_ne (by decide)).trans (z9_4))), (List.getElem?_set_ne (by decide)).trans ((List.getElem?_set_ne (by decide)).trans ((List.getElem?_set_ne (by decide)).trans (z9_5))), (List.getElem?_set_ne (by decide)).trans ((List.getElem?_set_ne (by decide)).trans ((List.getElem?_set_ne (by decide)).trans (z9_6))), (List.getElem?_set_ne (by decide)).trans ((List.getElem?_set_ne (by decide)).trans ((List.getElem?_set_ne (by decide)).trans (z9_8))), (List.getElem?_set_ne (by decide)).trans ((List.getElem?_set_ne (by decide)).trans ((List.getElem?_set_ne (by decide)).trans (z9_9))), (List.getElem?_set_ne (by decide)).trans ((List.getElem?_set_ne (by decide)).trans ((List.getElem?_set_ne (by decide)).trans (z9_10))), List.getElem?_set_self (by simp [l9])⟩
  rw [← e10] at a10
  have a11 := K10 (run E 4299) u10 h4 h4 p l10 z10_1 cr
  obtain ⟨u11, e11, l11, z11_1, z11_3, z11_4, z11_5, z11_6, z11_8, z11_9, z11_10, z11_11, z11_12, z11_13, z11_14, z11_15⟩ : ∃ u, u = (((((((((((u10.set 47 (.p (some (p, 0)))).set 48 (.tup [.i .i64 4096, .i .i64 0, .i .i64 1, .i .i64 1])).set 46 (.tup [.i .i64 4096, .i .i64 0, .i .i64 1, .i .i64 1])).set 49 (.i .i64 4096)).set 50 (.i .i64 0)).set 51 (.i .i64 1)).set 52 (.i .i64 1)).set 12 (.i .i64 4096)).set 13 (.i .i64 0)).set 14 (.i .i64 1)).set 15 (.i .i64 1)) ∧ u.length = 102 ∧ u[1]? = some (.p (some (p, 0))) ∧ u[3]? = some (.b false) ∧ u[4]? = some (.b false) ∧ u[5]? = some (.b false) ∧ u[6]? = some (.b false) ∧ u[8]? = some (.b false) ∧ u[9]? = some (.b false) ∧ u[10]? = some (.b true) ∧ u[11]? = some (.b true) ∧ u[12]? = some (.i .i64 4096) ∧ u[13]? = some (.i .i64 0) ∧ u[14]? = some (.i .i64 1) ∧ u[15]? = some (.i .i64 1) := ⟨_, rfl, by simp [l10], (List.getElem?_set_ne (by decide)).trans ((List.getElem?_set_ne (by decide)).trans ((List.getElem?_set_ne (by decide)).trans ((List.getElem?_set_ne (by decide)).trans ((List.getElem?_set_ne (by decide)).trans ((List.getElem?_set_ne (by decide)).trans ((List.getElem?_set_ne (by decide)).trans ((List.getElem?_set_ne (by decide)).trans ((List.getElem?_set_ne (by decide)).trans ((List.getElem?_set_ne (by decide)).trans ((List.getElem?_set_ne (by decide)).trans (z10_1))))))))))), (List.getElem?_set_ne (by decide)).trans ((List.getElem?_set_ne (by decide)).trans ((List.getElem?_set_ne (by decide)).trans ((List.getElem?_set_ne (by decide)).trans ((List.getElem?_set_ne (by decide)).trans ((List.getElem?_set_ne (by decide)).trans ((List.getElem?_set_ne (by decide)).trans ((List.getElem?_set_ne (by decide)).trans ((List.getElem?_set_ne (by decide)).trans ((List.getElem?_set_ne (by decide)).trans ((List.getElem?_set_ne (by decide)).trans (z10_3))))))))))), (List.getElem?_set_ne (by decide)).trans ((List.getElem?_set_ne (by decide)).trans ((List.getElem?_set_ne (by decide)).trans ((List.getElem?_set_ne (by decide)).trans ((List.getElem?_set_ne (by decide)).trans ((List.getElem?_set_ne (by decide)).trans ((List.getElem?_set_ne (by decide)).trans ((List.getElem?_set_ne (by decide)).trans ((List.getElem?_set_ne (by decide)).trans ((List.getElem?_set_ne (by decide)).trans ((List.getElem?_set_ne (by decide)).trans (z10_4))))))))))), (List.getElem?_set_ne (by decide)).trans ((List.getElem?_set_ne (by decide)).trans ((List.getElem?_set_ne (by decide)).trans ((List.getElem?_set_ne (by decide)).trans ((List.getElem?_set_ne (by decide)).trans ((List.getElem?_set_ne (by decide)).trans ((List.getElem?_set_ne (by decide)).trans ((List.getElem?_set_ne (by decide)).trans ((List.getElem?_set_ne (by decide)).trans ((List.getElem?_set_ne (by decide)).trans ((List.getElem?_set_ne (by decide)).trans (z10_5))))))))))), (List.getElem?_set_ne (by decide)).trans ((List.getElem?_set_ne (by decide)).trans ((List.getElem?_set_ne (by decide)).trans ((List.getElem?_set_ne (by decide)).trans ((List.getElem?_set_ne (by decide)).trans ((List.getElem?_set_ne (by decide)).trans ((List.getElem?_set_ne (by decide)).trans ((List.getElem?_set_ne (by decide)).trans ((List.getElem?_set_ne (by decide)).trans ((List.getElem?_set_ne (by decide)).trans ((List.getElem?_set_ne (by decide)).trans (z10_6))))))))))), (List.getElem?_set_ne (by decide)).trans ((List.getElem?_set_ne (by decide)).trans ((List.getElem?_set_ne (by decide)).trans ((List.getElem?_set_ne (by decide)).trans ((List.getElem?_set_ne (by decide)).trans ((List.getElem?_set_ne (by decide)).trans ((List.getElem?_set_ne (by decide)).trans ((List.getElem?_set_ne (by decide)).trans ((List.getElem?_set_ne (by decide)).trans ((List.getElem?_set_ne (by decide)).trans ((List.getElem?_set_ne (by decide)).trans (z10_8))))))))))), (List.getElem?_set_ne (by decide)).trans ((List.getElem?_set_ne (by decide)).trans ((List.getElem?_set_ne (by decide)).trans ((List.getElem?_set_ne (by decide)).trans ((List.getElem?_set_ne (by decide)).trans ((List.getElem?_set_ne (by decide)).trans ((List.getElem?_set_ne (by decide)).trans ((List.getElem?_set_ne (by decide)).trans ((List.getElem?_set_ne (by decide)).trans ((List.getElem?_set_ne (by decide)).trans ((List.getElem?_set_ne (by decide)).trans (z10_9))))))))))), (List.getElem?_set_ne (by decide)).trans ((List.getElem?_set_ne (by decide)).trans ((List.getElem?_set_ne (by decide)).trans ((List.getElem?_set_ne (by decide)).trans ((List.getElem?_set_ne (by decide)).trans ((List.getElem?_set_ne (by decide)).trans ((List.getElem?_set_ne (by decide)).trans ((List.getElem?_set_ne (by decide)).trans ((List.getElem?_set_ne (by decide)).trans ((List.getElem?_set_ne (by decide)).trans ((List.getElem?_set_ne (by decide)).trans (z10_10))))))))))), (List.getElem?_set_ne (by decide)).trans ((List.getElem?_set_ne (by decide)).trans ((List.getElem?_set_ne (by decide)).trans ((List.getElem?_set_ne (by decide)).trans ((List.getElem?_set_ne (by decide)).trans ((List.getElem?_set_ne (by decide)).trans ((List.getElem?_set_ne (by decide)).trans ((List.getElem?_set_ne (by decide)).trans ((List.getElem?_set_ne (by decide)).trans ((List.getElem?_set_ne (by decide)).trans ((List.getElem?_set_ne (by decide)).trans (z10_11))))))))))), (List.getElem?_set_ne (by decide)).trans ((List.getElem?_set_ne (by decide)).trans ((List.getElem?_set_ne (by decide)).trans (List.getElem?_set_self (by simp [l10])))), (List.getElem?_set_ne (by decide)).trans ((List.getElem?_set_ne (by decide)).trans (List.getElem?_set_self (by simp [l10]))), (List.getElem?_set_ne (by decide)).trans (List.getElem?_set_self (by simp [l10])), List.getElem?_set_self (by simp [l10])⟩
  rw [← e11] at a11
  have a12 := K11 (run E 4299) u11 h4 h4 p l11 z11_1 z11_3 z11_4 z11_5 z11_6 z11_8 z11_9 z11_10 z11_11 z11_12 z11_13 z11_14 z11_15 lr
  obtain ⟨u12, e12, l12, z12_0⟩ : ∃ u, u = ((((((((((((((((((((((((((((((((((((((((((((((((((u11.set 53 (.b false)).set 54 (.b true)).set 55 (.b true)).set 56 (.b false)).set 57 (.b true)).set 58 (.b true)).set 59 (.b true)).set 60 (.b false)).set 61 (.b true)).set 62 (.b true)).set 63 (.b true)).set 64 (.b false)).set 65 (.b true)).set 66 (.b true)).set 67 (.b true)).set 68 (.b false)).set 69 (.b true)).set 70 (.b true)).set 71 (.b true)).set 72 (.b false)).set 73 (.b true)).set 74 (.b true)).set 75 (.b true)).set 76 (.b true)).set 77 (.b true)).set 78 (.b true)).set 79 (.b true)).set 80 (.b true)).set 81 (.b true)).set 82 (.p (some (p, 0)))).set 83 (.i .i64 4096)).set 84 (.b true)).set 85 (.b true)).set 86 (.b true)).set 87 (.i .i64 4096)).set 88 (.b true)).set 89 (.b true)).set 90 (.b true)).set 91 (.i .i64 0)).set 92 (.b true)).set 93 (.b true)).set 94 (.b true)).set 95 (.i .i64 1)).set 96 (.b true)).set 97 (.b true)).set 98 (.b true)).set 99 (.i .i64 1)).set 100 (.b true)).set 101 (.b true)).set 0 (.b true)) ∧ u.length = 102 ∧ u[0]? = some (.b true) := ⟨_, rfl, by simp [l11], List.getElem?_set_self (by simp [l11])⟩
  rw [← e12] at a12
  have hret : stepCode E (run E 4299) 5 (rg (rg (rg (rg (rg (rg (rg (rg (rg (rg (rg body5))))))))))) ⟨u12, h4⟩ = some (.ret, ⟨u12, h4⟩) := by
    simp [body5, lf, rg, Try.f5, stepCode]
  have hbody : stepCode E (run E 4299) 5 body5 ⟨u0, emptyH⟩ = some (.ret, ⟨u12, h4⟩) := by
    rw [body5_eq]
    simp only [stepCode, a1, a2, a3, a4, a5]
    rw [e5_eq]
    simp only [stepCode, a6, rl, if_true, a8, a9, a10, a11, a12]
    exact hret
  exact known_tail (run E 4299) u12 h4 (e0 ▸ hbody) z12_0

theorem run_one (n : Nat) (t : Task) : run E (n + 1) t = stepTask E (run E n) t := rfl
theorem known_says : saysTrue (run E (4299 + 1) (.call 5 [] emptyH)) = true := by
  rw [run_one]
  exact known_run

theorem own : ownKnob Try.prog.godebug = none := by kernel_rfl
theorem laidOut : laidOutB Try.prog = true := by kernel_rfl

theorem known_calls (W : World) :
    Calls Try.prog 5 #[] W fun e W' => e = .returned (.bool true) ∧ Keeps W W' := by
  have hG : Glob noI (Zed.all W) E := fun g cs e => by cases e
  exact calls_true (E := E) (n := 4299 + 1) (f := 5) (args := []) good known_says W [] hG .nil

theorem known_lifted (os : Os) (started : os.Started) (H : Type) (enc : TypeId × Value → H) :
    ReturnsInHanded {} Try.checked os 5 .any (Rows.laneKnownSpec.pre6 enc Try.prog Try.f5 Rows.laneKnownRow.domain false) (Rows.laneKnownSpec.post enc Try.prog Try.f5 false true false false) := by
  refine returnsInHanded_of_change (C := Try.checked) own started (by kernel_rfl) Try.func5
    (ChangeSpec.witness6 (enc := enc) (C := Try.checked) false ⟨#[], #[], []⟩ 8 (by kernel_rfl) (by kernel_rfl) (by kernel_rfl) (by kernel_rfl)) ?_
  intro W base args ds gs before hval0 hW hcnd _
  have hval : ∀ (j : Nat) t v, Try.f5.params[j]? = some t → args[j]? = some v → Value.okWide Try.prog W .any base t v := hval0
  have hW' := hW
  have hlt : ∀ x ∈ before, x.block < W.heap.size := fun x hx => hW.lt x hx
  obtain ⟨p, q, hA0, hV, rfl, hfz, hnd⟩ := hW
  have hA : DataW.TrodAll enc Try.prog W 0 (fun _ => true) true Try.f5.params.toList args.toList ds p := hA0
  rw [Try.params5] at hA hval
  obtain ⟨hargs, rfl, rfl⟩ := trodAll_nil hA
  obtain rfl : args = #[] := by cases args; simp_all
  obtain ⟨rfl, rfl⟩ := trodVars_none hV
  clear hA0 hval0
  refine (known_calls W).mono fun e W' ⟨he, hk⟩ => ?_
  subst he
  simp only [List.append_nil] at hW' hlt
  refine ⟨_, rfl, post_of_kept (pa := []) (pv := []) hW' (fun _ _ _ => trodAll_cons_mk (shut_bool Try.underlying4 _) trodAll_mk0)
    (fun sp hs => ?_) (fun _ _ => rfl) (by simp) hk (ok_one (t := 4) (by kernel_rfl) rfl (okWide_bool_mk Try.underlying4 _))⟩
  rw [Try.params5]
  exact trodAll_mk0

theorem laneKnown_holds : Rows.LaneKnownSaid :=
  OpenClaim.holds_of_wide 5 Try.f5 rfl rfl rfl rfl rfl rfl rfl ⟨rfl, rfl, rfl, rfl, rfl⟩ rfl rfl rfl rfl rfl (by kernel_rfl) Try.func5 (by kernel_rfl)
    (of_decide_eq_true (by kernel_rfl)) (by unfold Func.isWrapper; first | (rw [if_pos (by decide +kernel)]; kernel_rfl) | (rw [if_neg (by decide +kernel)]; exact ⟨rfl, rfl⟩))
    (fun os started H enc _ => known_lifted os started H enc)
end Go.Proofs.Ytgiphcfpopgchaa
