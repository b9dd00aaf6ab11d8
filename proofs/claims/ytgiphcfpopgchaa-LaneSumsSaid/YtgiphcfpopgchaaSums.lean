/-
  shoallaw9.LaneSums returns true for every list of acts, which reads behind the call as it read before.
-/
import Derived.Test.YtgiphcfpopgchaaRows
import Derived.Test.YtgiphcfpopgchaaStrB
namespace Go.Proofs.Ytgiphcfpopgchaa
open Go.ChangeShapes Go.WideShapes Go.ChangeAt Go.RowKit Go.Av
set_option maxRecDepth 100000
set_option maxHeartbeats 4000000
set_option linter.unusedSimpArgs false
set_option linter.unusedVariables false

theorem f7_body : Try.f7.body = some body7 := by kernel_rfl
theorem f7_ntmps : Try.f7.ntmps = 89 := by kernel_rfl
theorem f7_results : Try.f7.results = #[.tmp 2] := by kernel_rfl
theorem e7_eq : e7 = .seq (lf e7) (.block 0 (.loop n7c)) := by kernel_rfl
theorem body7_eq : body7 = (.seq (lf body7) (.seq (lf (rg body7)) (.seq (lf (rg (rg body7))) (.seq (lf (rg (rg (rg body7)))) (.seq e7 (.seq (lf (rg (rg (rg (rg (rg body7)))))) (.seq (lf (rg (rg (rg (rg (rg (rg body7))))))) (rg (rg (rg (rg (rg (rg (rg body7)))))))))))))) := by kernel_rfl
theorem body7_ret : (rg (rg (rg (rg (rg (rg (rg body7))))))) = .ret := by kernel_rfl
theorem win30 : E.win 30 1 = some [] := by kernel_rfl

theorem S1 (R : Rec) (t : List AV) (h h' : AH) (p m : Nat) (zs : List Int)  (ht : t.length = 89) (s0 : t[0]? = some (.imm (zs.map I) m))  :
    ∃ u, stepCode E R 7 (lf body7) ⟨t, h⟩ = some (.normal, ⟨u, h⟩) ∧ u.length = 89 ∧ u[0]? = some (.imm (zs.map I) m) := by
  have g0 := slot (by omega) s0
  have hb : stepCode E R 7 (lf body7) ⟨t, h⟩ = some (.normal, ⟨(t.set 2 (.b false)), h⟩) := by
    simp [e7, body7, lf, rg, Try.f7, stepTask, stepCall, bodyA, stepCode, stepOps, List.range_succ, step1, wantedA, stepOp, execA, evA, putA, ofV, builtinA, lenA, binA, unA, resultsA, resA, indexAddrA, fieldAddrA, storeA, cells_i, cells_own, callFnA, E_P, E_fun, E_mode, E_hook, E_phook, E_ext, E_own, E_glob, Try.underlying2, Try.underlying22, Try.underlying3, Try.underlying50, Try.underlying35, Try.underlying40, Try.underlying9, Try.underlying47, sz2, sz22, sz3, sz40, agg2, agg22, agg3, agg40, intA, loadA, cellsAt, tk0, tk1, tk2, tk3, tk4, undefA, List.getElem?_set, List.getElem_set, ht, g0]
  exact ⟨_, hb, by simp [ht], (List.getElem?_set_ne (by decide)).trans (s0)⟩

theorem S2 (R : Rec) (t : List AV) (h h' : AH) (p m : Nat) (zs : List Int)  (ht : t.length = 89) (s0 : t[0]? = some (.imm (zs.map I) m)) (c0 : R (.call 8 [] h) = some (.ret (.b true) h')) :
    ∃ u, stepCode E R 7 (lf (rg body7)) ⟨t, h⟩ = some (.normal, ⟨u, h'⟩) ∧ u.length = 89 ∧ u[0]? = some (.imm (zs.map I) m) := by
  have g0 := slot (by omega) s0
  have hb : stepCode E R 7 (lf (rg body7)) ⟨t, h⟩ = some (.normal, ⟨((t.set 9 (.b true)).set 10 (.b false)), h'⟩) := by
    simp [e7, body7, lf, rg, Try.f7, Try.func8, Try.f8, stepTask, stepCall, bodyA, stepCode, stepOps, List.range_succ, step1, wantedA, stepOp, execA, evA, putA, ofV, builtinA, lenA, binA, unA, resultsA, resA, indexAddrA, fieldAddrA, storeA, cells_i, cells_own, callFnA, E_P, E_fun, E_mode, E_hook, E_phook, E_ext, E_own, E_glob, Try.underlying2, Try.underlying22, Try.underlying3, Try.underlying50, Try.underlying35, Try.underlying40, Try.underlying9, Try.underlying47, sz2, sz22, sz3, sz40, agg2, agg22, agg3, agg40, intA, loadA, cellsAt, tk0, tk1, tk2, tk3, tk4, undefA, List.getElem?_set, List.getElem_set, ht, g0, c0]
  exact ⟨_, hb, by simp [ht], (List.getElem?_set_ne (by decide)).trans ((List.getElem?_set_ne (by decide)).trans (s0))⟩

theorem S3 (R : Rec) (t : List AV) (h h' : AH) (p m : Nat) (zs : List Int) (x1 : ¬ (100 : Int) < m) (ht : t.length = 89) (s0 : t[0]? = some (.imm (zs.map I) m))  :
    ∃ u, stepCode E R 7 (lf (rg (rg body7))) ⟨t, h⟩ = some (.normal, ⟨u, h⟩) ∧ u.length = 89 ∧ u[0]? = some (.imm (zs.map I) m) := by
  have g0 := slot (by omega) s0
  have hb : stepCode E R 7 (lf (rg (rg body7))) ⟨t, h⟩ = some (.normal, ⟨(((t.set 11 (.imm (zs.map I) m)).set 12 (.i .i64 m)).set 13 (.b false)), h⟩) := by
    simp [e7, body7, lf, rg, Try.f7, stepTask, stepCall, bodyA, stepCode, stepOps, List.range_succ, step1, wantedA, stepOp, execA, evA, putA, ofV, builtinA, lenA, binA, unA, resultsA, resA, indexAddrA, fieldAddrA, storeA, cells_i, cells_own, callFnA, E_P, E_fun, E_mode, E_hook, E_phook, E_ext, E_own, E_glob, Try.underlying2, Try.underlying22, Try.underlying3, Try.underlying50, Try.underlying35, Try.underlying40, Try.underlying9, Try.underlying47, sz2, sz22, sz3, sz40, agg2, agg22, agg3, agg40, intA, loadA, cellsAt, tk0, tk1, tk2, tk3, tk4, undefA, List.getElem?_set, List.getElem_set, ht, g0, x1]
  exact ⟨_, hb, by simp [ht], (List.getElem?_set_ne (by decide)).trans ((List.getElem?_set_ne (by decide)).trans ((List.getElem?_set_ne (by decide)).trans (s0)))⟩

theorem S4 (R : Rec) (t : List AV) (h h' : AH) (p m : Nat) (zs : List Int)  (ht : t.length = 89) (s0 : t[0]? = some (.imm (zs.map I) m)) (c0 : R (.call 24 [] h) = some (.ret (.p (some (p, 0))) h')) :
    ∃ u, stepCode E R 7 (lf (rg (rg (rg body7)))) ⟨t, h⟩ = some (.normal, ⟨u, h'⟩) ∧ u.length = 89 ∧ u[0]? = some (.imm (zs.map I) m) ∧ u[3]? = some (.p (some (p, 0))) := by
  have g0 := slot (by omega) s0
  have hb : stepCode E R 7 (lf (rg (rg (rg body7)))) ⟨t, h⟩ = some (.normal, ⟨((t.set 14 (.p (some (p, 0)))).set 3 (.p (some (p, 0)))), h'⟩) := by
    simp [e7, body7, lf, rg, Try.f7, Try.func24, Try.f24, stepTask, stepCall, bodyA, stepCode, stepOps, List.range_succ, step1, wantedA, stepOp, execA, evA, putA, ofV, builtinA, lenA, binA, unA, resultsA, resA, indexAddrA, fieldAddrA, storeA, cells_i, cells_own, callFnA, E_P, E_fun, E_mode, E_hook, E_phook, E_ext, E_own, E_glob, Try.underlying2, Try.underlying22, Try.underlying3, Try.underlying50, Try.underlying35, Try.underlying40, Try.underlying9, Try.underlying47, sz2, sz22, sz3, sz40, agg2, agg22, agg3, agg40, intA, loadA, cellsAt, tk0, tk1, tk2, tk3, tk4, undefA, List.getElem?_set, List.getElem_set, ht, g0, c0]
  exact ⟨_, hb, by simp [ht], (List.getElem?_set_ne (by decide)).trans ((List.getElem?_set_ne (by decide)).trans (s0)), List.getElem?_set_self (by simp [ht])⟩

theorem S5 (R : Rec) (t : List AV) (h h' : AH) (p m : Nat) (zs : List Int)  (ht : t.length = 89) (s0 : t[0]? = some (.imm (zs.map I) m)) (s3 : t[3]? = some (.p (some (p, 0))))  :
    ∃ u, stepCode E R 7 (lf e7) ⟨t, h⟩ = some (.normal, ⟨u, h⟩) ∧ u.length = 89 ∧ u[0]? = some (.imm (zs.map I) m) ∧ u[3]? = some (.p (some (p, 0))) ∧ u[4]? = some (.i .i64 0) := by
  have g0 := slot (by omega) s0
  have g3 := slot (by omega) s3
  have hb : stepCode E R 7 (lf e7) ⟨t, h⟩ = some (.normal, ⟨(t.set 4 (.i .i64 0)), h⟩) := by
    simp [e7, body7, lf, rg, Try.f7, stepTask, stepCall, bodyA, stepCode, stepOps, List.range_succ, step1, wantedA, stepOp, execA, evA, putA, ofV, builtinA, lenA, binA, unA, resultsA, resA, indexAddrA, fieldAddrA, storeA, cells_i, cells_own, callFnA, E_P, E_fun, E_mode, E_hook, E_phook, E_ext, E_own, E_glob, Try.underlying2, Try.underlying22, Try.underlying3, Try.underlying50, Try.underlying35, Try.underlying40, Try.underlying9, Try.underlying47, sz2, sz22, sz3, sz40, agg2, agg22, agg3, agg40, intA, loadA, cellsAt, tk0, tk1, tk2, tk3, tk4, undefA, List.getElem?_set, List.getElem_set, ht, g0, g3]
  exact ⟨_, hb, by simp [ht], (List.getElem?_set_ne (by decide)).trans (s0), (List.getElem?_set_ne (by decide)).trans (s3), List.getElem?_set_self (by simp [ht])⟩

theorem S6 (R : Rec) (t : List AV) (h h' : AH) (p m : Nat) (zs : List Int) (c : Cnt) (ht : t.length = 89) (s3 : t[3]? = some (.p (some (p, 0)))) (c0 : R (.call 30 [.p (some (p, 0))] h) = some (.ret (.tup [.i .i64 c.s, .i .i64 c.t, .i .i64 c.d, .i .i64 c.m]) h)) :
    ∃ u, stepCode E R 7 (lf (rg (rg (rg (rg (rg body7)))))) ⟨t, h⟩ = some (.normal, ⟨u, h⟩) ∧ u.length = 89 ∧ u[3]? = some (.p (some (p, 0))) ∧ u[5]? = some (.i .i64 c.s) ∧ u[6]? = some (.i .i64 c.t) ∧ u[7]? = some (.i .i64 c.d) ∧ u[8]? = some (.i .i64 c.m) := by
  have g3 := slot (by omega) s3
  have hb : stepCode E R 7 (lf (rg (rg (rg (rg (rg body7)))))) ⟨t, h⟩ = some (.normal, ⟨(((((((((((t.set 65 (.p (some (p, 0)))).set 66 (.tup [.i .i64 c.s, .i .i64 c.t, .i .i64 c.d, .i .i64 c.m])).set 64 (.tup [.i .i64 c.s, .i .i64 c.t, .i .i64 c.d, .i .i64 c.m])).set 67 (.i .i64 c.s)).set 68 (.i .i64 c.t)).set 69 (.i .i64 c.d)).set 70 (.i .i64 c.m)).set 5 (.i .i64 c.s)).set 6 (.i .i64 c.t)).set 7 (.i .i64 c.d)).set 8 (.i .i64 c.m)), h⟩) := by
    simp [e7, body7, lf, rg, Try.f7, Try.func30, Try.f30, stepTask, stepCall, bodyA, stepCode, stepOps, List.range_succ, step1, wantedA, stepOp, execA, evA, putA, ofV, builtinA, lenA, binA, unA, resultsA, resA, indexAddrA, fieldAddrA, storeA, cells_i, cells_own, callFnA, E_P, E_fun, E_mode, E_hook, E_phook, E_ext, E_own, E_glob, Try.underlying2, Try.underlying22, Try.underlying3, Try.underlying50, Try.underlying35, Try.underlying40, Try.underlying9, Try.underlying47, sz2, sz22, sz3, sz40, agg2, agg22, agg3, agg40, intA, loadA, cellsAt, tk0, tk1, tk2, tk3, tk4, undefA, List.getElem?_set, List.getElem_set, ht, g3, c0]
  exact ⟨_, hb, by simp [ht], (List.getElem?_set_ne (by decide)).trans ((List.getElem?_set_ne (by decide)).trans ((List.getElem?_set_ne (by decide)).trans ((List.getElem?_set_ne (by decide)).trans ((List.getElem?_set_ne (by decide)).trans ((List.getElem?_set_ne (by decide)).trans ((List.getElem?_set_ne (by decide)).trans ((List.getElem?_set_ne (by decide)).trans ((List.getElem?_set_ne (by decide)).trans ((List.getElem?_set_ne (by decide)).trans ((List.getElem?_set_ne (by decide)).trans (s3))))))))))), (List.getElem?_set_ne (by decide)).trans ((List.getElem?_set_ne (by decide)).trans ((List.getElem?_set_ne (by decide)).trans (List.getElem?_set_self (by simp [ht])))), (List.getElem?_set_ne (by decide)).trans ((List.getElem?_set_ne (by decide)).trans (List.getElem?_set_self (by simp [ht]))), (List.getElem?_set_ne (by decide)).trans (List.getElem?_set_self (by simp [ht])), List.getElem?_set_self (by simp [ht])⟩

theorem S7 (R : Rec) (t : List AV) (h h' : AH) (p m : Nat) (zs : List Int) (c : Cnt) (L : List AV) (S' : AV) (y1 : IntKind.wrap .i64 (c.s + c.m) = c.s + c.m) (y2 : IntKind.wrap .i64 (c.t + c.d) = c.t + c.d) (y3 : IntKind.wrap .i64 (c.t + c.d + L.length) = c.t + c.d + L.length) (y4 : c.s + c.m = c.t + c.d + L.length) (y5 : lenA Try.prog h' 47 S' = some (.i .i64 L.length)) (ht : t.length = 89) (s3 : t[3]? = some (.p (some (p, 0)))) (s5 : t[5]? = some (.i .i64 c.s)) (s6 : t[6]? = some (.i .i64 c.t)) (s7 : t[7]? = some (.i .i64 c.d)) (s8 : t[8]? = some (.i .i64 c.m)) (c0 : R (.call 31 [.p (some (p, 0))] h) = some (.ret (.i .i64 (L.length : Int)) h)) (c1 : R (.call 32 [.p (some (p, 0))] h) = some (.ret S' h')) (c2 : R (.call 31 [.p (some (p, 0))] h') = some (.ret (.i .i64 (L.length : Int)) h')) :
    ∃ u, stepCode E R 7 (lf (rg (rg (rg (rg (rg (rg body7))))))) ⟨t, h⟩ = some (.normal, ⟨u, h'⟩) ∧ u.length = 89 ∧ u[2]? = some (.b true) := by
  have g3 := slot (by omega) s3
  have g5 := slot (by omega) s5
  have g6 := slot (by omega) s6
  have g7 := slot (by omega) s7
  have g8 := slot (by omega) s8
  have hb : stepCode E R 7 (lf (rg (rg (rg (rg (rg (rg body7))))))) ⟨t, h⟩ = some (.normal, ⟨(((((((((((((((((((t.set 71 (.i .i64 c.s)).set 72 (.i .i64 c.m)).set 73 (.i .i64 (c.s + c.m))).set 74 (.i .i64 c.t)).set 75 (.i .i64 c.d)).set 76 (.i .i64 (c.t + c.d))).set 77 (.p (some (p, 0)))).set 78 (.i .i64 (L.length : Int))).set 79 (.i .i64 (c.t + c.d + L.length))).set 80 (.b true)).set 81 (.b true)).set 82 (.p (some (p, 0)))).set 83 S').set 84 (.i .i64 (L.length : Int))).set 85 (.p (some (p, 0)))).set 86 (.i .i64 (L.length : Int))).set 87 (.b true)).set 88 (.b true)).set 2 (.b true)), h'⟩) := by
    simp [e7, body7, lf, rg, Try.f7, Try.func31, Try.f31, Try.func32, Try.f32, stepTask, stepCall, bodyA, stepCode, stepOps, List.range_succ, step1, wantedA, stepOp, execA, evA, putA, ofV, builtinA, binA, unA, resultsA, resA, indexAddrA, fieldAddrA, storeA, cells_i, cells_own, callFnA, E_P, E_fun, E_mode, E_hook, E_phook, E_ext, E_own, E_glob, Try.underlying2, Try.underlying22, Try.underlying3, Try.underlying50, Try.underlying35, Try.underlying40, Try.underlying9, Try.underlying47, sz2, sz22, sz3, sz40, agg2, agg22, agg3, agg40, intA, loadA, cellsAt, tk0, tk1, tk2, tk3, tk4, undefA, List.getElem?_set, List.getElem_set, ht, g3, g5, g6, g7, g8, c0, c1, c2, y1, y2, y3, y4, y5]
  exact ⟨_, hb, by simp [ht], List.getElem?_set_self (by simp [ht])⟩

theorem S3long (R : Rec) (t : List AV) (h : AH) (m : Nat) (cs : List AV) (ht : t.length = 89) (s0 : t[0]? = some (.imm cs m)) (x1 : (100 : Int) < m) :
    ∃ u, stepCode E R 7 (lf (rg (rg body7))) ⟨t, h⟩ = some (.ret, ⟨u, h⟩) ∧ u[2]? = some (.b true) := by
  have g0 := slot (by omega) s0
  have hb : stepCode E R 7 (lf (rg (rg body7))) ⟨t, h⟩ = some (.ret, ⟨(((t.set 11 (.imm cs m)).set 12 (.i .i64 m)).set 13 (.b true)).set 2 (.b true), h⟩) := by
    simp [e7, body7, lf, rg, Try.f7, stepTask, stepCall, bodyA, stepCode, stepOps, List.range_succ, step1, wantedA, stepOp, execA, evA, putA, ofV, builtinA, lenA, binA, unA, resultsA, resA, indexAddrA, fieldAddrA, storeA, cells_i, cells_own, callFnA, E_P, E_fun, E_mode, E_hook, E_phook, E_ext, E_own, E_glob, Try.underlying2, Try.underlying22, Try.underlying3, Try.underlying50, Try.underlying35, Try.underlying40, Try.underlying9, Try.underlying47, sz2, sz22, sz3, sz40, agg2, agg22, agg3, agg40, intA, loadA, cellsAt, tk0, tk1, tk2, tk3, tk4, undefA, List.getElem?_set, List.getElem_set, ht, g0, x1]
  exact ⟨_, hb, List.getElem?_set_self (by simp [ht])⟩

theorem sums_tail (R : Rec) (A : AV) (T : List AV) (h h' : AH) (hbody : stepCode E R 7 body7 ⟨A :: List.replicate 88 undefA, h⟩ = some (.ret, ⟨T, h'⟩)) (hz : T[2]? = some (.b true)) :
    saysTrue (stepTask E R (.call 7 [A] h)) = true := by
  simp only [stepTask, stepCall, E_phook, E_hook, E_fun, Try.func7, E_mode, bodyA, f7_body, f7_ntmps]
  rw [if_neg (by decide), if_neg (by decide), if_neg (by decide)]
  rw [show ([A] ++ List.replicate (89 - [A].length) undefA) = A :: List.replicate 88 undefA from rfl, hbody]
  have hT : T.getD 2 undefA = .b true := by simp [List.getD_eq_getElem?_getD, hz]
  simp only [resultsA, f7_results, List.mapM_cons, List.mapM_nil, resA, hT]
  rfl

theorem run_one (n : Nat) (t : Task) : run E (n + 1) t = stepTask E (run E n) t := rfl

theorem sums_run {m : Nat} {zs : List Int} (hz : zs.length = m * 3) : saysTrue (run E (500 + 1) (.call 7 [.imm (zs.map I) m] emptyH)) = true := by
  obtain ⟨h0, ha⟩ := awake_run (n := 500) (by omega)
  have hnew := Str.new_run h0 499
  rw [show 499 + 1 = 500 from rfl] at hnew
  have hl0 := new_lane h0
  generalize hh1 : h0.new (.cells 5 (obj .nsl ⟨0, 0, 0, 0⟩)) = h1 at hnew hl0
  generalize hp : h0.next = p at hnew hl0
  rw [run_one]
  obtain ⟨u0, e0, l0, z0⟩ : ∃ u, u = AV.imm (zs.map I) m :: List.replicate 88 undefA ∧ u.length = 89 ∧ u[0]? = some (.imm (zs.map I) m) := ⟨_, rfl, by simp, by simp⟩
  obtain ⟨u1, a1, l1, z1⟩ := S1 (run E 500) u0 emptyH emptyH p m zs l0 z0
  obtain ⟨u2, a2, l2, z2⟩ := S2 (run E 500) u1 emptyH h0 p m zs l1 z1 ha
  by_cases hm : m ≤ 100
  · obtain ⟨u3, a3, l3, z3⟩ := S3 (run E 500) u2 h0 h0 p m zs (by omega) l2 z2
    obtain ⟨u4, a4, l4, z4, y4⟩ := S4 (run E 500) u3 h0 h1 p m zs l3 z3 hnew
    obtain ⟨u5, a5, l5, z5, y5, x5⟩ := S5 (run E 500) u4 h1 h1 p m zs l4 z4 y4
    have o0 : Ok7 h1 p none [] ⟨0, 0, 0, 0⟩ 0 := ⟨hl0, rfl, by simp, rfl, by simp, by simp, by simp, by simp⟩
    obtain ⟨v, h2, Q2, L, c, a6, l6, y6, o6⟩ := s0 (p := p) hz hm m 0 u5 h1 none [] ⟨0, 0, 0, 0⟩ 500 (by omega) (by omega) l5 z5 y5 x5 o0
    have i1 := o6.s; have i2 := o6.t; have i3 := o6.d; have i4 := o6.m; have i5 := o6.len; have i6 := o6.sum
    have cr := Str.counts_run o6.lane 499
    have lr := Str.len_run o6.lane 499
    obtain ⟨S', h3, ar, rd, nx, kp⟩ := Str.all_run o6.lane (by omega) 498
    have hl3 : Lane h3 p Q2 L c := by
      obtain ⟨⟨S, hp1, hs⟩, hlt, hne⟩ := o6.lane
      refine ⟨⟨S, by rw [kp _ hlt]; exact hp1, ?_⟩, by omega, hne⟩
      cases hs with
      | nil0 => exact .nil0
      | own0 hq ht hl hc hn => exact .own0 (by rw [kp _ hn]; exact hq) ht hl hc (by omega)
    have lr3 := Str.len_run hl3 499
    rw [show 499 + 1 = 500 from rfl] at cr lr lr3
    rw [show 498 + 2 = 500 from rfl] at ar
    obtain ⟨u7, a7, l7, z7_3, z7_5, z7_6, z7_7, z7_8⟩ := S6 (run E 500) v h2 h2 p m zs c l6 y6 cr
    obtain ⟨u8, a8, l8, z8⟩ := S7 (run E 500) u7 h2 h3 p m zs c L S' (wrap_int (by omega)) (wrap_int (by omega)) (wrap_int (by omega)) i6 rd.len l7 z7_3 z7_5 z7_6 z7_7 z7_8 lr ar lr3
    have hbody : stepCode E (run E 500) 7 body7 ⟨u0, emptyH⟩ = some (.ret, ⟨u8, h3⟩) := by
      rw [body7_eq]
      simp only [stepCode, a1, a2, a3, a4]
      rw [e7_eq]
      simp only [stepCode, a5, a6, if_true, a7, a8]
      rw [body7_ret]; rfl
    exact sums_tail _ _ _ _ _ (e0 ▸ hbody) z8
  · obtain ⟨u3, a3, z3⟩ := S3long (run E 500) u2 h0 m _ l2 z2 (by omega)
    have hbody : stepCode E (run E 500) 7 body7 ⟨u0, emptyH⟩ = some (.ret, ⟨u3, h0⟩) := by
      rw [body7_eq]
      simp only [stepCode, a1, a2, a3]
    exact sums_tail _ _ _ _ _ (e0 ▸ hbody) z3

theorem sums_nil : saysTrue (run E (500 + 1) (.call 7 [.nsl] emptyH)) = true := by kernel_rfl

theorem own : ownKnob Try.prog.godebug = none := by kernel_rfl
theorem laidOut : laidOutB Try.prog = true := by kernel_rfl
theorem cells40 : Try.prog.cellsOf 40 = 3 := by kernel_rfl
theorem cells3 : Try.prog.cellsOf 3 = 1 := by kernel_rfl

theorem sums_calls (W : World) (v : Value) (hv : v = .slice none 0 0 ∨ ∃ (zs : List Int) (m : Nat), zs.length = m * 3 ∧ (∀ n ∈ zs, (Lit.int .i64 n).wf = true) ∧ VRel noI (Zed.all W) (.imm (zs.map fun n => .i .i64 n) m) v) :
    Calls Try.prog 7 #[v] W fun e W' => e = .returned (.bool true) ∧ Keeps W W' := by
  have hG : Glob noI (Zed.all W) E := fun g cs e => by cases e
  rcases hv with rfl | ⟨zs, m, hz, _, hv⟩
  · exact calls_true (E := E) (n := 500 + 1) (f := 7) (args := [.nsl]) good sums_nil W [.slice none 0 0] hG (.cons .nsl .nil)
  · exact calls_true (E := E) (n := 500 + 1) (f := 7) (args := [.imm (zs.map I) m]) good (sums_run hz) W [v] hG (.cons hv .nil)

theorem sums_lifted (os : Os) (started : os.Started) (H : Type) (enc : TypeId × Value → H) :
    ReturnsInHanded {} Try.checked os 7 .any (Rows.laneSumsSpec.pre6 enc Try.prog Try.f7 Rows.laneSumsRow.domain false) (Rows.laneSumsSpec.post enc Try.prog Try.f7 false true false false) := by
  refine returnsInHanded_of_change (C := Try.checked) own started (by kernel_rfl) Try.func7
    (ChangeSpec.witness6 (enc := enc) (C := Try.checked) false ⟨#[], #[.slice none 0 0], []⟩ 8 (by kernel_rfl) (by kernel_rfl) (by kernel_rfl) (by kernel_rfl)) ?_
  intro W base args ds gs before hval0 hW hcnd _
  have hval : ∀ (j : Nat) t v, Try.f7.params[j]? = some t → args[j]? = some v → Value.okWide Try.prog W .any base t v := hval0
  have hW' := hW
  have hlt : ∀ x ∈ before, x.block < W.heap.size := fun x hx => hW.lt x hx
  obtain ⟨p, q, hA0, hV, rfl, hfz, hnd⟩ := hW
  have hA : DataW.TrodAll enc Try.prog W 0 (fun _ => true) true Try.f7.params.toList args.toList ds p := hA0
  rw [Try.params7] at hA hval
  obtain ⟨v0, vs0, d0, ds0, p0, q0, hargs, rfl, rfl, h0, r0⟩ := trodAll_cons hA
  obtain ⟨rfl, rfl, rfl⟩ := trodAll_nil r0
  obtain rfl : args = #[v0] := by cases args; simp_all
  obtain ⟨rfl, rfl⟩ := trodVars_none hV
  have hv := rows_rel (w := 3) Try.underlying35 Try.underlying40 cells40 (by decide) (fun r hr => by
    match r, hr with
    | 0, _ => exact ⟨_, rfl, rfl, Try.underlying3, cells3⟩
    | 1, _ => exact ⟨_, rfl, rfl, Try.underlying3, cells3⟩
    | 2, _ => exact ⟨_, rfl, rfl, Try.underlying3, cells3⟩) (hval 0 35 v0 rfl rfl) h0
  clear hA0 hval0
  refine (sums_calls W v0 hv).mono fun e W' ⟨he, hk⟩ => ?_
  subst he
  simp only [List.append_nil] at hW' hlt
  refine ⟨_, rfl, post_of_kept (pa := p0) (pv := []) hW' (fun _ _ _ => trodAll_cons_mk (shut_bool Try.underlying4 _) trodAll_mk0)
    (fun sp hs => ?_) (fun _ _ => rfl) (by simp) hk (ok_one (t := 4) (by kernel_rfl) rfl (okWide_bool_mk Try.underlying4 _))⟩
  rw [Try.params7]
  exact trodAll_mk1 (hk.trod laidOut (by kernel_rfl) (of_decide_eq_true (by kernel_rfl)) h0 hlt hs)

theorem laneSums_holds : Rows.LaneSumsSaid :=
  OpenClaim.holds_of_wide 7 Try.f7 rfl rfl rfl rfl rfl rfl rfl ⟨rfl, rfl, rfl, rfl, rfl⟩ rfl rfl rfl rfl rfl (by kernel_rfl) Try.func7 (by kernel_rfl)
    (of_decide_eq_true (by kernel_rfl)) (by unfold Func.isWrapper; first | (rw [if_pos (by decide +kernel)]; kernel_rfl) | (rw [if_neg (by decide +kernel)]; exact ⟨rfl, rfl⟩))
    (fun os started H enc _ => sums_lifted os started H enc)
end Go.Proofs.Ytgiphcfpopgchaa
