/-
  shoallaw9.LaneKnown on the abstract machine: its loop.
-/
import Derived.Test.YtgiphcfpopgchaaLaneX
namespace Go.Proofs.Ytgiphcfpopgchaa
open Go.Av
set_option maxRecDepth 100000
set_option maxHeartbeats 4000000
set_option linter.unusedSimpArgs false
set_option linter.unusedVariables false

noncomputable def body5 : Code := Try.f5.body.getD .skip
noncomputable def e5 : Code := lf (rg (rg (rg (rg (rg body5)))))
noncomputable def n0c : Code := lf (lf (rg e5))

/-- The numbers below i. -/
noncomputable def upto (i : Nat) : List AV := (List.range i).map fun (j : Nat) => .i .i64 (j : Int)
theorem upto_succ (i : Nat) : upto (i + 1) = upto i ++ [.i .i64 (i : Int)] := by simp [upto, List.range_succ]
theorem upto_length (i : Nat) : (upto i).length = i := by simp [upto]

theorem n0 {p : Nat} : ∀ (k i : Nat) (t : List AV) (h : AH) (Q : Option Nat) (n : Nat), i + k = 4096 → k + 3 ≤ n → t.length = 102 → t[1]? = some (.p (some (p, 0))) →
    t[7]? = some (.i .i64 i) → Lane h p Q (upto i) ⟨i, 0, 0, 0⟩ →
    ∃ t' h' Q', run E n (.loop 5 n0c ⟨t, h⟩) = some (.code (.exit 0) ⟨t', h'⟩) ∧ t'.length = 102 ∧ t'[1]? = some (.p (some (p, 0))) ∧ (∀ d, d < 7 → t'[d]? = t[d]?) ∧ Lane h' p Q' (upto 4096) ⟨4096, 0, 0, 0⟩
  | 0, i, t, h, Q, n, hik, hn, ht, t1, t7, hl => by
    obtain ⟨n, rfl⟩ : ∃ m, n = m + 1 := ⟨n - 1, by omega⟩
    have hi : i = 4096 := by omega
    subst hi
    have g1 := slot (by omega) t1
    have g7 := slot (by omega) t7
    have hb : stepCode E (run E n) 5 n0c ⟨t, h⟩ = some (.exit 0, ⟨((t.set 30 (.i .i64 4096)).set 31 (.b false)), h⟩) := by
      simp [n0c, e5, body5, lf, rg, Try.f5, stepTask, stepCall, bodyA, stepCode, stepOps, List.range_succ, step1, wantedA, stepOp, execA, evA, putA, ofV, builtinA, lenA, binA, unA, resultsA, resA, indexAddrA, fieldAddrA, storeA, cells_i, cells_own, callFnA, E_P, E_fun, E_mode, E_hook, E_phook, E_ext, E_own, E_glob, Try.underlying2, Try.underlying22, Try.underlying3, Try.underlying50, sz2, sz22, sz3, agg2, agg22, agg3, intA, loadA, cellsAt, tk0, tk1, tk2, tk3, tk4, undefA, List.getElem?_set, List.getElem_set, ht, g1, g7]
    refine ⟨((t.set 30 (.i .i64 4096)).set 31 (.b false)), h, Q, ?_, by simp [ht], by simp [List.getElem?_set, t1], fun d hd => ?_, hl⟩
    · rw [run]; simp only [stepTask, hb]
    · rw [List.getElem?_set_ne (by omega), List.getElem?_set_ne (by omega)]
  | k + 1, i, t, h, Q, n, hik, hn, ht, t1, t7, hl => by
    obtain ⟨n, rfl⟩ : ∃ m, n = m + 3 := ⟨n - 3, by omega⟩
    obtain ⟨Q', h', s1, s2, s3⟩ := send_run hl (by rw [upto_length]; omega) (by unfold Cnt.ok; simp; omega) (v := .i .i64 (i : Int)) rfl n
    have c1 : (i : Int) < 4096 := by omega
    have w1 : IntKind.wrap .i64 ((i : Int) + 1) = (i : Int) + 1 := wrap_int (by omega)
    have g1 := slot (by omega) t1
    have g7 := slot (by omega) t7
    have hb : stepCode E (run E (n + 2)) 5 n0c ⟨t, h⟩ = some (.normal, ⟨(((((((((t.set 30 (.i .i64 i)).set 31 (.b true)).set 34 (.p (some (p, 0)))).set 35 (.i .i64 i)).set 36 (.b true)).set 37 (.b false)).set 32 (.i .i64 i)).set 33 (.i .i64 ((i : Int) + 1))).set 7 (.i .i64 ((i : Int) + 1))), h'⟩) := by
      generalize run E (n + 2) = R at s1
      simp [n0c, e5, body5, lf, rg, Try.f5, Try.func10, Try.f10, stepTask, stepCall, bodyA, stepCode, stepOps, List.range_succ, step1, wantedA, stepOp, execA, evA, putA, ofV, builtinA, lenA, binA, unA, resultsA, resA, indexAddrA, fieldAddrA, storeA, cells_i, cells_own, callFnA, E_P, E_fun, E_mode, E_hook, E_phook, E_ext, E_own, E_glob, Try.underlying2, Try.underlying22, Try.underlying3, Try.underlying50, sz2, sz22, sz3, agg2, agg22, agg3, intA, loadA, cellsAt, tk0, tk1, tk2, tk3, tk4, undefA, List.getElem?_set, List.getElem_set, ht, g1, g7, c1, s1, w1]
    obtain ⟨T, hb, b1, b2, b3, b4⟩ : ∃ T, stepCode E (run E (n + 2)) 5 n0c ⟨t, h⟩ = some (.normal, ⟨T, h'⟩) ∧ T.length = 102 ∧ T[1]? = some (.p (some (p, 0))) ∧ (∀ d, d < 7 → T[d]? = t[d]?) ∧ T[7]? = some (.i .i64 ((i + 1 : Nat) : Int)) :=
      ⟨_, hb, by simp [ht], by simp [List.getElem?_set, t1], fun d hd => by repeat rw [List.getElem?_set_ne (by omega)], by simp [List.getElem?_set, ht]⟩
    rw [← upto_succ] at s2
    obtain ⟨t', h'', Q'', r1, r2, r3, r4, r5⟩ := n0 k (i + 1) T h' Q' (n + 2) (by omega) (by omega) b1 b2 b4 (by simpa using s2)
    refine ⟨t', h'', Q'', ?_, r2, r3, fun d hd => by rw [r4 d hd, b3 d hd], r5⟩
    rw [show n + 3 = (n + 2) + 1 from rfl, run]
    simp only [stepTask, hb]
    exact r1
end Go.Proofs.Ytgiphcfpopgchaa
