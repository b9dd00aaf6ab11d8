/-
  shoallaw9.LanePlays returns true for every list of acts, which reads behind the call as it read before.
-/
import Derived.Test.YtgiphcfpopgchaaRows
import Derived.Test.YtgiphcfpopgchaaPlayC
namespace Go.Proofs.Ytgiphcfpopgchaa
open Go.ChangeShapes Go.WideShapes Go.ChangeAt Go.RowKit Go.Av
set_option maxRecDepth 100000
set_option maxHeartbeats 4000000
set_option linter.unusedSimpArgs false
set_option linter.unusedVariables false

theorem f6_body : Try.f6.body = some body6 := by kernel_rfl
theorem f6_ntmps : Try.f6.ntmps = 163 := by kernel_rfl
theorem f6_results : Try.f6.results = #[.tmp 2] := by kernel_rfl
theorem e6_eq : e6 = .seq (lf e6) (.block 0 (.loop n6c)) := by kernel_rfl
theorem b38 : buildA Try.prog 38 [] = some (.agg [.nsl, .i .i64 0, .i .i64 0, .i .i64 0, .i .i64 0]) := by kernel_rfl
theorem body6_eq : body6 = .seq (lf body6) (.seq (lf (rg body6)) (.seq (lf (rg (rg body6))) (.seq (lf (rg (rg (rg body6)))) (.seq e6 (rg (rg (rg (rg (rg body6)))))))))  := by kernel_rfl

theorem S1 (R : Rec) (t : List AV) (h h1 : AH) (p r m : Nat) (zs : List Int)  (ht : t.length = 163) (s0 : t[0]? = some (.imm (zs.map I) m))  :
    ∃ u, stepCode E R 6 (lf body6) ⟨t, h⟩ = some (.normal, ⟨u, h⟩) ∧ u.length = 163 ∧ u[0]? = some (.imm (zs.map I) m) := by
  have g0 := slot (by omega) s0
  have hb : stepCode E R 6 (lf body6) ⟨t, h⟩ = some (.normal, ⟨(t.set 2 (.b false)), h⟩) := by
    simp [d6, c6, x6, n6c, e6, body6, lf, rg, Try.f6, lenA, stepTask, stepCall, bodyA, stepCode, stepOps, List.range_succ, step1, wantedA, stepOp, execA, evA, putA, ofV, builtinA, binA, unA, resultsA, resA, indexAddrA, fieldAddrA, storeA, cells_i, cells_own, callFnA, E_P, E_fun, E_mode, E_hook, E_phook, E_ext, E_own, E_glob, Try.underlying2, Try.underlying22, Try.underlying3, Try.underlying50, Try.underlying35, Try.underlying40, Try.underlying38, Try.underlying4, sz2, sz22, sz3, sz40, sz38, agg2, agg22, agg3, agg40, agg38, intA, loadA, cellsAt, tk0, tk1, tk2, tk3, tk4, undefA, List.getElem?_set, List.getElem_set, eqA, AV.beq, ht, g0]
  exact ⟨_, hb, by simp [ht], (List.getElem?_set_ne (by decide)).trans (s0)⟩

theorem S2 (R : Rec) (t : List AV) (h h1 : AH) (p r m : Nat) (zs : List Int)  (ht : t.length = 163) (s0 : t[0]? = some (.imm (zs.map I) m)) (c1 : R (.call 8 [] h) = some (.ret (.b true) h1)) :
    ∃ u, stepCode E R 6 (lf (rg body6)) ⟨t, h⟩ = some (.normal, ⟨u, h1⟩) ∧ u.length = 163 ∧ u[0]? = some (.imm (zs.map I) m) := by
  have g0 := slot (by omega) s0
  have hb : stepCode E R 6 (lf (rg body6)) ⟨t, h⟩ = some (.normal, ⟨((t.set 16 (.b true)).set 17 (.b false)), h1⟩) := by
    simp [d6, c6, x6, n6c, e6, body6, lf, rg, Try.f6, lenA, Try.func8, Try.f8, stepTask, stepCall, bodyA, stepCode, stepOps, List.range_succ, step1, wantedA, stepOp, execA, evA, putA, ofV, builtinA, binA, unA, resultsA, resA, indexAddrA, fieldAddrA, storeA, cells_i, cells_own, callFnA, E_P, E_fun, E_mode, E_hook, E_phook, E_ext, E_own, E_glob, Try.underlying2, Try.underlying22, Try.underlying3, Try.underlying50, Try.underlying35, Try.underlying40, Try.underlying38, Try.underlying4, sz2, sz22, sz3, sz40, sz38, agg2, agg22, agg3, agg40, agg38, intA, loadA, cellsAt, tk0, tk1, tk2, tk3, tk4, undefA, List.getElem?_set, List.getElem_set, eqA, AV.beq, ht, g0, c1]
  exact ⟨_, hb, by simp [ht], (List.getElem?_set_ne (by decide)).trans ((List.getElem?_set_ne (by decide)).trans (s0))⟩

theorem S3 (R : Rec) (t : List AV) (h h1 : AH) (p r m : Nat) (zs : List Int) (x1 : ¬ (100 : Int) < m) (ht : t.length = 163) (s0 : t[0]? = some (.imm (zs.map I) m))  :
    ∃ u, stepCode E R 6 (lf (rg (rg body6))) ⟨t, h⟩ = some (.normal, ⟨u, h⟩) ∧ u.length = 163 ∧ u[0]? = some (.imm (zs.map I) m) := by
  have g0 := slot (by omega) s0
  have hb : stepCode E R 6 (lf (rg (rg body6))) ⟨t, h⟩ = some (.normal, ⟨(((t.set 18 (.imm (zs.map I) m)).set 19 (.i .i64 m)).set 20 (.b false)), h⟩) := by
    simp [d6, c6, x6, n6c, e6, body6, lf, rg, Try.f6, lenA, stepTask, stepCall, bodyA, stepCode, stepOps, List.range_succ, step1, wantedA, stepOp, execA, evA, putA, ofV, builtinA, binA, unA, resultsA, resA, indexAddrA, fieldAddrA, storeA, cells_i, cells_own, callFnA, E_P, E_fun, E_mode, E_hook, E_phook, E_ext, E_own, E_glob, Try.underlying2, Try.underlying22, Try.underlying3, Try.underlying50, Try.underlying35, Try.underlying40, Try.underlying38, Try.underlying4, sz2, sz22, sz3, sz40, sz38, agg2, agg22, agg3, agg40, agg38, intA, loadA, cellsAt, tk0, tk1, tk2, tk3, tk4, undefA, List.getElem?_set, List.getElem_set, eqA, AV.beq, ht, g0, x1]
  exact ⟨_, hb, by simp [ht], (List.getElem?_set_ne (by decide)).trans ((List.getElem?_set_ne (by decide)).trans ((List.getElem?_set_ne (by decide)).trans (s0)))⟩

theorem S3l (R : Rec) (t : List AV) (h h1 : AH) (p r m : Nat) (zs : List Int) (x1 : (100 : Int) < m) (ht : t.length = 163) (s0 : t[0]? = some (.imm (zs.map I) m))  :
    ∃ u, stepCode E R 6 (lf (rg (rg body6))) ⟨t, h⟩ = some (.ret, ⟨u, h⟩) ∧ u.length = 163 ∧ u[2]? = some (.b true) := by
  have g0 := slot (by omega) s0
  have hb : stepCode E R 6 (lf (rg (rg body6))) ⟨t, h⟩ = some (.ret, ⟨((((t.set 18 (.imm (zs.map I) m)).set 19 (.i .i64 m)).set 20 (.b true)).set 2 (.b true)), h⟩) := by
    simp [d6, c6, x6, n6c, e6, body6, lf, rg, Try.f6, lenA, stepTask, stepCall, bodyA, stepCode, stepOps, List.range_succ, step1, wantedA, stepOp, execA, evA, putA, ofV, builtinA, binA, unA, resultsA, resA, indexAddrA, fieldAddrA, storeA, cells_i, cells_own, callFnA, E_P, E_fun, E_mode, E_hook, E_phook, E_ext, E_own, E_glob, Try.underlying2, Try.underlying22, Try.underlying3, Try.underlying50, Try.underlying35, Try.underlying40, Try.underlying38, Try.underlying4, sz2, sz22, sz3, sz40, sz38, agg2, agg22, agg3, agg40, agg38, intA, loadA, cellsAt, tk0, tk1, tk2, tk3, tk4, undefA, List.getElem?_set, List.getElem_set, eqA, AV.beq, ht, g0, x1]
  exact ⟨_, hb, by simp [ht], List.getElem?_set_self (by simp [ht])⟩

theorem S4 (R : Rec) (t : List AV) (h h1 : AH) (p r m : Nat) (zs : List Int)  (ht : t.length = 163) (s0 : t[0]? = some (.imm (zs.map I) m)) (c1 : R (.call 9 [] h) = some (.ret (.p (some (p, 0))) h1)) :
    ∃ u, stepCode E R 6 (lf (rg (rg (rg body6)))) ⟨t, h⟩ = some (.normal, ⟨u, h1.new (.cells 5 [.nsl, .i .i64 0, .i .i64 0, .i .i64 0, .i .i64 0])⟩) ∧ u.length = 163 ∧ u[0]? = some (.imm (zs.map I) m) ∧ u[3]? = some (.p (some (p, 0))) ∧ u[4]? = some (.p (some (h1.next, 0))) := by
  have g0 := slot (by omega) s0
  have hb : stepCode E R 6 (lf (rg (rg (rg body6)))) ⟨t, h⟩ = some (.normal, ⟨(((((t.set 21 (.p (some (p, 0)))).set 22 (.agg [.nsl, .i .i64 0, .i .i64 0, .i .i64 0, .i .i64 0])).set 23 (.p (some (h1.next, 0)))).set 3 (.p (some (p, 0)))).set 4 (.p (some (h1.next, 0)))), h1.new (.cells 5 [.nsl, .i .i64 0, .i .i64 0, .i .i64 0, .i .i64 0])⟩) := by
    simp [d6, c6, x6, n6c, e6, body6, lf, rg, Try.f6, lenA, Try.func9, Try.f9, stepTask, stepCall, bodyA, stepCode, stepOps, List.range_succ, step1, wantedA, stepOp, execA, evA, putA, ofV, builtinA, binA, unA, resultsA, resA, indexAddrA, fieldAddrA, storeA, cells_i, cells_own, callFnA, E_P, E_fun, E_mode, E_hook, E_phook, E_ext, E_own, E_glob, Try.underlying2, Try.underlying22, Try.underlying3, Try.underlying50, Try.underlying35, Try.underlying40, Try.underlying38, Try.underlying4, sz2, sz22, sz3, sz40, sz38, agg2, agg22, agg3, agg40, agg38, intA, loadA, cellsAt, tk0, tk1, tk2, tk3, tk4, undefA, List.getElem?_set, List.getElem_set, eqA, AV.beq, ht, g0, c1, b38, AV.cells, AV.one]
  exact ⟨_, hb, by simp [ht], (List.getElem?_set_ne (by decide)).trans ((List.getElem?_set_ne (by decide)).trans ((List.getElem?_set_ne (by decide)).trans ((List.getElem?_set_ne (by decide)).trans ((List.getElem?_set_ne (by decide)).trans (s0))))), (List.getElem?_set_ne (by decide)).trans (List.getElem?_set_self (by simp [ht])), List.getElem?_set_self (by simp [ht])⟩

theorem S5 (R : Rec) (t : List AV) (h h1 : AH) (p r m : Nat) (zs : List Int)  (ht : t.length = 163) (s0 : t[0]? = some (.imm (zs.map I) m)) (s3 : t[3]? = some (.p (some (p, 0)))) (s4 : t[4]? = some (.p (some (r, 0))))  :
    ∃ u, stepCode E R 6 (lf e6) ⟨t, h⟩ = some (.normal, ⟨u, h⟩) ∧ u.length = 163 ∧ u[0]? = some (.imm (zs.map I) m) ∧ u[3]? = some (.p (some (p, 0))) ∧ u[4]? = some (.p (some (r, 0))) ∧ u[5]? = some (.i .i64 0) := by
  have g0 := slot (by omega) s0
  have g3 := slot (by omega) s3
  have g4 := slot (by omega) s4
  have hb : stepCode E R 6 (lf e6) ⟨t, h⟩ = some (.normal, ⟨(t.set 5 (.i .i64 0)), h⟩) := by
    simp [d6, c6, x6, n6c, e6, body6, lf, rg, Try.f6, lenA, stepTask, stepCall, bodyA, stepCode, stepOps, List.range_succ, step1, wantedA, stepOp, execA, evA, putA, ofV, builtinA, binA, unA, resultsA, resA, indexAddrA, fieldAddrA, storeA, cells_i, cells_own, callFnA, E_P, E_fun, E_mode, E_hook, E_phook, E_ext, E_own, E_glob, Try.underlying2, Try.underlying22, Try.underlying3, Try.underlying50, Try.underlying35, Try.underlying40, Try.underlying38, Try.underlying4, sz2, sz22, sz3, sz40, sz38, agg2, agg22, agg3, agg40, agg38, intA, loadA, cellsAt, tk0, tk1, tk2, tk3, tk4, undefA, List.getElem?_set, List.getElem_set, eqA, AV.beq, ht, g0, g3, g4]
  exact ⟨_, hb, by simp [ht], (List.getElem?_set_ne (by decide)).trans (s0), (List.getElem?_set_ne (by decide)).trans (s3), (List.getElem?_set_ne (by decide)).trans (s4), List.getElem?_set_self (by simp [ht])⟩

theorem S6 (R : Rec) (t : List AV) (h h1 : AH) (p r m : Nat) (zs : List Int)  (ht : t.length = 163)   :
    ∃ u, stepCode E R 6 (rg (rg (rg (rg (rg body6))))) ⟨t, h⟩ = some (.ret, ⟨u, h⟩) ∧ u.length = 163 ∧ u[2]? = some (.b true) := by
  have hb : stepCode E R 6 (rg (rg (rg (rg (rg body6))))) ⟨t, h⟩ = some (.ret, ⟨(t.set 2 (.b true)), h⟩) := by
    simp [d6, c6, x6, n6c, e6, body6, lf, rg, Try.f6, lenA, stepTask, stepCall, bodyA, stepCode, stepOps, List.range_succ, step1, wantedA, stepOp, execA, evA, putA, ofV, builtinA, binA, unA, resultsA, resA, indexAddrA, fieldAddrA, storeA, cells_i, cells_own, callFnA, E_P, E_fun, E_mode, E_hook, E_phook, E_ext, E_own, E_glob, Try.underlying2, Try.underlying22, Try.underlying3, Try.underlying50, Try.underlying35, Try.underlying40, Try.underlying38, Try.underlying4, sz2, sz22, sz3, sz40, sz38, agg2, agg22, agg3, agg40, agg38, intA, loadA, cellsAt, tk0, tk1, tk2, tk3, tk4, undefA, List.getElem?_set, List.getElem_set, eqA, AV.beq, ht]
  exact ⟨_, hb, by simp [ht], List.getElem?_set_self (by simp [ht])⟩

theorem plays_tail (R : Rec) (A : AV) (T : List AV) (h h' : AH) (hbody : stepCode E R 6 body6 ⟨A :: List.replicate 162 undefA, h⟩ = some (.ret, ⟨T, h'⟩)) (hz : T[2]? = some (.b true)) :
    saysTrue (stepTask E R (.call 6 [A] h)) = true := by
  simp only [stepTask, stepCall, E_phook, E_hook, E_fun, Try.func6, E_mode, bodyA, f6_body, f6_ntmps]
  rw [if_neg (by decide), if_neg (by decide), if_neg (by decide)]
  rw [show ([A] ++ List.replicate (163 - [A].length) undefA) = A :: List.replicate 162 undefA from rfl, hbody]
  have hT : T.getD 2 undefA = .b true := by simp [List.getD_eq_getElem?_getD, hz]
  simp only [resultsA, f6_results, List.mapM_cons, List.mapM_nil, resA, hT]
  rfl

theorem run_one (n : Nat) (t : Task) : run E (n + 1) t = stepTask E (run E n) t := rfl

theorem plays_run {m : Nat} {zs : List Int} (hz : zs.length = m * 3) : saysTrue (run E (500 + 1) (.call 6 [.imm (zs.map I) m] emptyH)) = true := by
  obtain ⟨h0, ha⟩ := awake_run (n := 500) (by omega)
  have hnew := new_run h0 499
  rw [show 499 + 1 = 500 from rfl] at hnew
  have hl0 := new_lane h0
  generalize hh1 : h0.new (.cells 5 (obj .nsl ⟨0, 0, 0, 0⟩)) = h1 at hnew hl0
  generalize hp : h0.next = p at hnew hl0
  have hn1 : h1.next = p + 1 := by rw [← hh1, ← hp]; rfl
  rw [run_one]
  obtain ⟨u0, e0, l0, z0⟩ : ∃ u, u = AV.imm (zs.map I) m :: List.replicate 162 undefA ∧ u.length = 163 ∧ u[0]? = some (.imm (zs.map I) m) := ⟨_, rfl, by simp, by simp⟩
  obtain ⟨u1, a1, l1, z1⟩ := S1 (run E 500) u0 emptyH emptyH p 0 m zs l0 z0
  obtain ⟨u2, a2, l2, z2⟩ := S2 (run E 500) u1 emptyH h0 p 0 m zs l1 z1 ha
  by_cases hm : m ≤ 100
  · obtain ⟨u3, a3, l3, z3⟩ := S3 (run E 500) u2 h0 h0 p 0 m zs (by omega) l2 z2
    obtain ⟨u4, a4, l4, z4, y4, x4⟩ := S4 (run E 500) u3 h0 h1 p 0 m zs l3 z3 hnew
    have hr := new_lane h1
    have hk : ∀ j, j < h1.next → (h1.new (.cells 5 (obj .nsl ⟨0, 0, 0, 0⟩))).get j = h1.get j := fun j hj => by rw [AH.get_new, if_neg (by omega)]
    have hl2 : Lane (h1.new (.cells 5 (obj .nsl ⟨0, 0, 0, 0⟩))) p none [] ⟨0, 0, 0, 0⟩ := hl0.keep (fun j hj _ => hk j hj) (by simp)
    have tw : Two (h1.new (.cells 5 (obj .nsl ⟨0, 0, 0, 0⟩))) p h1.next none none [] ⟨0, 0, 0, 0⟩ 0 := ⟨hl2, hr, by omega, by simp, by simp, fun q e => by simp at e, by simp, by simp, by simp, by simp, by simp⟩
    unfold obj at tw
    generalize h1.new (.cells 5 [.nsl, .i .i64 0, .i .i64 0, .i .i64 0, .i .i64 0]) = h2 at a4 tw
    obtain ⟨u5, a5, l5, z5, y5, x5, w5⟩ := S5 (run E 500) u4 h2 h2 p h1.next m zs l4 z4 y4 x4
    obtain ⟨v, h3, a6, l6⟩ := s6 (p := p) hz hm m 0 u5 h2 none none [] ⟨0, 0, 0, 0⟩ 500 (by omega) (by omega) l5 z5 y5 x5 w5 tw
    obtain ⟨u7, a7, l7, z7⟩ := S6 (run E 500) v h3 h3 p 0 m zs l6
    have hbody : stepCode E (run E 500) 6 body6 ⟨u0, emptyH⟩ = some (.ret, ⟨u7, h3⟩) := by
      rw [body6_eq]
      simp only [stepCode, a1, a2, a3, a4]
      rw [e6_eq]
      simp only [stepCode, a5, a6, if_true, a7]
    exact plays_tail _ _ _ _ _ (e0 ▸ hbody) z7
  · obtain ⟨u3, a3, l3, z3⟩ := S3l (run E 500) u2 h0 h0 p 0 m zs (by omega) l2 z2
    have hbody : stepCode E (run E 500) 6 body6 ⟨u0, emptyH⟩ = some (.ret, ⟨u3, h0⟩) := by
      rw [body6_eq]
      simp only [stepCode, a1, a2, a3]
    exact plays_tail _ _ _ _ _ (e0 ▸ hbody) z3

theorem plays_nil : saysTrue (run E (500 + 1) (.call 6 [.nsl] emptyH)) = true := by kernel_rfl

theorem own : ownKnob Try.prog.godebug = none := by kernel_rfl
theorem laidOut : laidOutB Try.prog = true := by kernel_rfl
theorem cells40 : Try.prog.cellsOf 40 = 3 := by kernel_rfl
theorem cells3 : Try.prog.cellsOf 3 = 1 := by kernel_rfl

theorem plays_calls (W : World) (v : Value) (hv : v = .slice none 0 0 ∨ ∃ (zs : List Int) (m : Nat), zs.length = m * 3 ∧ (∀ n ∈ zs, (Lit.int .i64 n).wf = true) ∧ VRel noI (Zed.all W) (.imm (zs.map fun n => .i .i64 n) m) v) :
    Calls Try.prog 6 #[v] W fun e W' => e = .returned (.bool true) ∧ Keeps W W' := by
  have hG : Glob noI (Zed.all W) E := fun g cs e => by cases e
  rcases hv with rfl | ⟨zs, m, hz, _, hv⟩
  · exact calls_true (E := E) (n := 500 + 1) (f := 6) (args := [.nsl]) good plays_nil W [.slice none 0 0] hG (.cons .nsl .nil)
  · exact calls_true (E := E) (n := 500 + 1) (f := 6) (args := [.imm (zs.map I) m]) good (plays_run hz) W [v] hG (.cons hv .nil)

theorem plays_lifted (os : Os) (started : os.Started) (H : Type) (enc : TypeId × Value → H) :
    ReturnsInHanded {} Try.checked os 6 .any (Rows.lanePlaysSpec.pre6 enc Try.prog Try.f6 Rows.lanePlaysRow.domain false) (Rows.lanePlaysSpec.post enc Try.prog Try.f6 false true false false) := by
  refine returnsInHanded_of_change (C := Try.checked) own started (by kernel_rfl) Try.func6
    (ChangeSpec.witness6 (enc := enc) (C := Try.checked) false ⟨#[], #[.slice none 0 0], []⟩ 8 (by kernel_rfl) (by kernel_rfl) (by kernel_rfl) (by kernel_rfl)) ?_
  intro W base args ds gs before hval0 hW hcnd _
  have hval : ∀ (j : Nat) t v, Try.f6.params[j]? = some t → args[j]? = some v → Value.okWide Try.prog W .any base t v := hval0
  have hW' := hW
  have hlt : ∀ x ∈ before, x.block < W.heap.size := fun x hx => hW.lt x hx
  obtain ⟨p, q, hA0, hV, rfl, hfz, hnd⟩ := hW
  have hA : DataW.TrodAll enc Try.prog W 0 (fun _ => true) true Try.f6.params.toList args.toList ds p := hA0
  rw [Try.params6] at hA hval
  obtain ⟨v0, vs0, d0, ds0, p0, q0, hargs, rfl, rfl, h0, r0⟩ := trodAll_cons hA
  obtain ⟨rfl, rfl, rfl⟩ := trodAll_nil r0
  obtain rfl : args = #[v0] := by cases args; simp_all
  obtain ⟨rfl, rfl⟩ := trodVars_none hV
  have hv := rows_rel (w := 3) Try.underlying35 Try.underlying40 cells40 (by decide) (fun r hr => by
    match r, hr with
    | 0, _ => exact ⟨_, rfl, rfl, Try.underlying3, cells3⟩
    | 1, _ => exact ⟨_, rfl, rfl, Try.underlying3, cells3⟩
    | 2, _ => exact ⟨_, rfl, rfl, Try.underlying3, cells3⟩) (hval 0 35 v0 rfl rfl) h0
  clear hA0 hval0
  refine (plays_calls W v0 hv).mono fun e W' ⟨he, hk⟩ => ?_
  subst he
  simp only [List.append_nil] at hW' hlt
  refine ⟨_, rfl, post_of_kept (pa := p0) (pv := []) hW' (fun _ _ _ => trodAll_cons_mk (shut_bool Try.underlying4 _) trodAll_mk0)
    (fun sp hs => ?_) (fun _ _ => rfl) (by simp) hk (ok_one (t := 4) (by kernel_rfl) rfl (okWide_bool_mk Try.underlying4 _))⟩
  rw [Try.params6]
  exact trodAll_mk1 (hk.trod laidOut (by kernel_rfl) (of_decide_eq_true (by kernel_rfl)) h0 hlt hs)

theorem lanePlays_holds : Rows.LanePlaysSaid :=
  OpenClaim.holds_of_wide 6 Try.f6 rfl rfl rfl rfl rfl rfl rfl ⟨rfl, rfl, rfl, rfl, rfl⟩ rfl rfl rfl rfl rfl (by kernel_rfl) Try.func6 (by kernel_rfl)
    (of_decide_eq_true (by kernel_rfl)) (by unfold Func.isWrapper; first | (rw [if_pos (by decide +kernel)]; kernel_rfl) | (rw [if_neg (by decide +kernel)]; exact ⟨rfl, rfl⟩))
    (fun os started H enc _ => plays_lifted os started H enc)
end Go.Proofs.Ytgiphcfpopgchaa
