/-
  shoallaw9.LaneHolds on the abstract machine: its loops.
-/
import Derived.Test.YtgiphcfpopgchaaLaneV
namespace Go.Proofs.Ytgiphcfpopgchaa
open Go.Av
set_option maxRecDepth 100000
set_option maxHeartbeats 4000000
set_option linter.unusedSimpArgs false
set_option linter.unusedVariables false

theorem I_all (l : List Int) : (l.map I).all AV.one = true := by rw [List.all_map]; exact List.all_eq_true.2 (fun x _ => rfl)

noncomputable def body3 : Code := Try.f3.body.getD .skip
noncomputable def w0c : Code := lf (lf (rg (lf (rg (rg (rg (rg body3)))))))
noncomputable def w2c : Code := lf (lf (rg (lf (rg (rg (rg (rg (rg body3))))))))

theorem w0 {xs : List Int} {p : Nat} (hx : xs.length ≤ 100) : ∀ (k i : Nat) (t : List AV) (h : AH) (Q : Option Nat) (n : Nat), i + k = xs.length → k + 3 ≤ n → t.length = 37 → t[0]? = some (.imm (xs.map I) xs.length) → t[3]? = some (.p (some (p, 0))) →
    t[4]? = some (.i .i64 i) → Lane h p Q ((xs.take i).map I) ⟨i, 0, 0, 0⟩ →
    ∃ t' h' Q', run E n (.loop 3 w0c ⟨t, h⟩) = some (.code (.exit 0) ⟨t', h'⟩) ∧ t'.length = 37 ∧ t'[0]? = some (.imm (xs.map I) xs.length) ∧ t'[3]? = some (.p (some (p, 0))) ∧ Lane h' p Q' (xs.map I) ⟨xs.length, 0, 0, 0⟩
  | 0, i, t, h, Q, n, hik, hn, ht, t0, t3, t4, hl => by
    obtain ⟨n, rfl⟩ : ∃ m, n = m + 1 := ⟨n - 1, by omega⟩
    have hi : i = xs.length := by omega
    subst hi
    have g0 := slot (by omega) t0
    have g3 := slot (by omega) t3
    have g4 := slot (by omega) t4
    have hb : stepCode E (run E n) 3 w0c ⟨t, h⟩ = some (.exit 0, ⟨((((t.set 12 (.i .i64 xs.length)).set 13 (.imm (xs.map I) xs.length)).set 14 (.i .i64 xs.length)).set 15 (.b false)), h⟩) := by
      simp [w0c, body3, lf, rg, Try.f3, stepTask, stepCall, bodyA, stepCode, stepOps, List.range_succ, step1, wantedA, stepOp, execA, evA, putA, ofV, builtinA, lenA, binA, unA, resultsA, resA, indexAddrA, fieldAddrA, storeA, cells_i, cells_own, callFnA, E_P, E_fun, E_mode, E_hook, E_phook, E_ext, E_own, E_glob, Try.underlying2, Try.underlying22, Try.underlying3, Try.underlying50, sz2, sz22, sz3, agg2, agg22, agg3, intA, loadA, cellsAt, tk0, tk1, tk2, tk3, tk4, undefA, List.getElem?_set, List.getElem_set, ht, g0, g3, g4]
    refine ⟨((((t.set 12 (.i .i64 xs.length)).set 13 (.imm (xs.map I) xs.length)).set 14 (.i .i64 xs.length)).set 15 (.b false)), h, Q, ?_, by simp [ht], by simp [List.getElem?_set, t0], by simp [List.getElem?_set, t3], ?_⟩
    · rw [run]; simp only [stepTask, hb]
    · simpa using hl
  | k + 1, i, t, h, Q, n, hik, hn, ht, t0, t3, t4, hl => by
    obtain ⟨n, rfl⟩ : ∃ m, n = m + 3 := ⟨n - 3, by omega⟩
    have hi : i < xs.length := by omega
    obtain ⟨Q', h', s1, s2, s3⟩ := send_run hl (by simp; omega) (by unfold Cnt.ok; simp; omega) (v := I xs[i]) rfl n
    have hg : (xs.map I)[i]? = some (I xs[i]) := by simp [hi]
    have tk := takeN_get hg
    have c1 : (i : Int) < xs.length := by omega
    have w1 : IntKind.wrap .i64 ((i : Int) + 1) = (i : Int) + 1 := wrap_int (by omega)
    have g0 := slot (by omega) t0
    have g3 := slot (by omega) t3
    have g4 := slot (by omega) t4
    have hb : stepCode E (run E (n + 2)) 3 w0c ⟨t, h⟩ = some (.normal, ⟨(((((((((((((t.set 12 (.i .i64 i)).set 13 (.imm (xs.map I) xs.length)).set 14 (.i .i64 xs.length)).set 15 (.b true)).set 18 (.p (some (p, 0)))).set 19 (.imm (xs.map I) xs.length)).set 20 (.i .i64 i)).set 21 (.ip (xs.map I) i)).set 22 (I xs[i])).set 23 (.b true)).set 16 (.i .i64 i)).set 17 (.i .i64 ((i : Int) + 1))).set 4 (.i .i64 ((i : Int) + 1))), h'⟩) := by
      generalize run E (n + 2) = R at s1
      simp [w0c, body3, lf, rg, Try.f3, Try.func10, Try.f10, stepTask, stepCall, bodyA, stepCode, stepOps, List.range_succ, step1, wantedA, stepOp, execA, evA, putA, ofV, builtinA, lenA, binA, unA, resultsA, resA, indexAddrA, fieldAddrA, storeA, cells_i, cells_own, callFnA, E_P, E_fun, E_mode, E_hook, E_phook, E_ext, E_own, E_glob, Try.underlying2, Try.underlying22, Try.underlying3, Try.underlying50, sz2, sz22, sz3, agg2, agg22, agg3, intA, loadA, cellsAt, tk0, tk1, tk2, tk3, tk4, undefA, List.getElem?_set, List.getElem_set, ht, g0, g3, g4, c1, tk, s1, w1]
    have hl2 : Lane h' p Q' ((xs.take (i + 1)).map I) ⟨(i + 1 : Nat), 0, 0, 0⟩ := by
      have : (xs.take (i + 1)).map I = (xs.take i).map I ++ [I xs[i]] := by have := congrArg (List.map I) (List.take_succ_eq_append_getElem hi); simpa only [List.map_append, List.map_cons, List.map_nil] using this
      rw [this]; simpa using s2
    obtain ⟨T, hb, b1, b2, b3, b4⟩ : ∃ T, stepCode E (run E (n + 2)) 3 w0c ⟨t, h⟩ = some (.normal, ⟨T, h'⟩) ∧ T.length = 37 ∧ T[0]? = some (.imm (xs.map I) xs.length) ∧ T[3]? = some (.p (some (p, 0))) ∧ T[4]? = some (.i .i64 ((i + 1 : Nat) : Int)) :=
      ⟨_, hb, by simp [ht], by simp [List.getElem?_set, t0], by simp [List.getElem?_set, t3], by simp [List.getElem?_set, ht]⟩
    obtain ⟨t', h'', Q'', r1, r2, r3, r4, r5⟩ := w0 hx k (i + 1) T h' Q' (n + 2) (by omega) (by omega) b1 b2 b3 b4 hl2
    refine ⟨t', h'', Q'', ?_, r2, r3, r4, r5⟩
    rw [show n + 3 = (n + 2) + 1 from rfl, run]
    simp only [stepTask, hb]
    exact r1


theorem w2 {xs : List Int} {p : Nat} (hx : xs.length ≤ 100) : ∀ (k i : Nat) (t : List AV) (h : AH) (Q : Option Nat) (n : Nat), i + k = xs.length → k + 4 ≤ n → t.length = 37 → t[0]? = some (.imm (xs.map I) xs.length) → t[3]? = some (.p (some (p, 0))) →
    t[5]? = some (.i .i64 i) → Lane h p Q ((xs.drop i ++ xs.take i).map I) ⟨xs.length, 0, 0, 0⟩ →
    ∃ t' h' Q', run E n (.loop 3 w2c ⟨t, h⟩) = some (.code (.exit 2) ⟨t', h'⟩) ∧ t'.length = 37 ∧ t'[0]? = some (.imm (xs.map I) xs.length) ∧ t'[3]? = some (.p (some (p, 0))) ∧ Lane h' p Q' (xs.map I) ⟨xs.length, 0, 0, 0⟩
  | 0, i, t, h, Q, n, hik, hn, ht, t0, t3, t5, hl => by
    obtain ⟨n, rfl⟩ : ∃ m, n = m + 1 := ⟨n - 1, by omega⟩
    have hi : i = xs.length := by omega
    subst hi
    have g0 := slot (by omega) t0
    have g3 := slot (by omega) t3
    have g5 := slot (by omega) t5
    have hb : stepCode E (run E n) 3 w2c ⟨t, h⟩ = some (.exit 2, ⟨((((t.set 24 (.i .i64 xs.length)).set 25 (.imm (xs.map I) xs.length)).set 26 (.i .i64 xs.length)).set 27 (.b false)), h⟩) := by
      simp [w2c, body3, lf, rg, Try.f3, stepTask, stepCall, bodyA, stepCode, stepOps, List.range_succ, step1, wantedA, stepOp, execA, evA, putA, ofV, builtinA, lenA, binA, unA, resultsA, resA, indexAddrA, fieldAddrA, storeA, cells_i, cells_own, callFnA, E_P, E_fun, E_mode, E_hook, E_phook, E_ext, E_own, E_glob, Try.underlying2, Try.underlying22, Try.underlying3, Try.underlying50, sz2, sz22, sz3, agg2, agg22, agg3, intA, loadA, cellsAt, tk0, tk1, tk2, tk3, tk4, undefA, List.getElem?_set, List.getElem_set, ht, g0, g3, g5]
    refine ⟨((((t.set 24 (.i .i64 xs.length)).set 25 (.imm (xs.map I) xs.length)).set 26 (.i .i64 xs.length)).set 27 (.b false)), h, Q, ?_, by simp [ht], by simp [List.getElem?_set, t0], by simp [List.getElem?_set, t3], ?_⟩
    · rw [run]; simp only [stepTask, hb]
    · simpa using hl
  | k + 1, i, t, h, Q, n, hik, hn, ht, t0, t3, t5, hl => by
    obtain ⟨n, rfl⟩ : ∃ m, n = m + 4 := ⟨n - 4, by omega⟩
    have hi : i < xs.length := by omega
    have hd : xs.drop i = xs[i] :: xs.drop (i + 1) := List.drop_eq_getElem_cons hi
    rw [hd] at hl
    have hpos : 0 < (((xs[i] :: xs.drop (i + 1)) ++ xs.take i).map I).length := by simp; omega
    obtain ⟨Q', h', s1, s2, s3⟩ := hold_run hl (by simp; omega) (I_all _) hpos n
    have e1 : ∀ (a : Int) (d u : List Int), ((((a :: d) ++ u).map I).eraseIdx 0 ++ [(((a :: d) ++ u).map I)[0]'(by simp)]) = (d ++ (u ++ [a])).map I := by intro a d u; simp [List.eraseIdx_zero]
    rw [e1, ← List.take_succ_eq_append_getElem hi] at s2
    have c1 : (i : Int) < xs.length := by omega
    have w1 : IntKind.wrap .i64 ((i : Int) + 1) = (i : Int) + 1 := wrap_int (by omega)
    have g0 := slot (by omega) t0
    have g3 := slot (by omega) t3
    have g5 := slot (by omega) t5
    have hb : stepCode E (run E (n + 3)) 3 w2c ⟨t, h⟩ = some (.normal, ⟨((((((((((t.set 24 (.i .i64 i)).set 25 (.imm (xs.map I) xs.length)).set 26 (.i .i64 xs.length)).set 27 (.b true)).set 30 (.p (some (p, 0)))).set 31 (.b true)).set 32 (.b false)).set 28 (.i .i64 i)).set 29 (.i .i64 ((i : Int) + 1))).set 5 (.i .i64 ((i : Int) + 1))), h'⟩) := by
      generalize run E (n + 3) = R at s1
      simp only [Int.natCast_zero] at s1
      simp [w2c, body3, lf, rg, Try.f3, Try.func11, Try.f11, stepTask, stepCall, bodyA, stepCode, stepOps, List.range_succ, step1, wantedA, stepOp, execA, evA, putA, ofV, builtinA, lenA, binA, unA, resultsA, resA, indexAddrA, fieldAddrA, storeA, cells_i, cells_own, callFnA, E_P, E_fun, E_mode, E_hook, E_phook, E_ext, E_own, E_glob, Try.underlying2, Try.underlying22, Try.underlying3, Try.underlying50, sz2, sz22, sz3, agg2, agg22, agg3, intA, loadA, cellsAt, tk0, tk1, tk2, tk3, tk4, undefA, List.getElem?_set, List.getElem_set, ht, g0, g3, g5, c1, s1, w1]
    obtain ⟨T, hb, b1, b2, b3, b4⟩ : ∃ T, stepCode E (run E (n + 3)) 3 w2c ⟨t, h⟩ = some (.normal, ⟨T, h'⟩) ∧ T.length = 37 ∧ T[0]? = some (.imm (xs.map I) xs.length) ∧ T[3]? = some (.p (some (p, 0))) ∧ T[5]? = some (.i .i64 ((i + 1 : Nat) : Int)) :=
      ⟨_, hb, by simp [ht], by simp [List.getElem?_set, t0], by simp [List.getElem?_set, t3], by simp [List.getElem?_set, ht]⟩
    obtain ⟨t', h'', Q'', r1, r2, r3, r4, r5⟩ := w2 hx k (i + 1) T h' Q' (n + 3) (by omega) (by omega) b1 b2 b3 b4 s2
    refine ⟨t', h'', Q'', ?_, r2, r3, r4, r5⟩
    rw [show n + 4 = (n + 3) + 1 from rfl, run]
    simp only [stepTask, hb]
    exact r1
end Go.Proofs.Ytgiphcfpopgchaa
