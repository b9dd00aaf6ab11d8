/-
  shoallaw9.LaneQueue on the abstract machine: the second loop.
-/
import Derived.Test.YtgiphcfpopgchaaLaneQ
namespace Go.Proofs.Ytgiphcfpopgchaa
open Go.Av
set_option maxRecDepth 100000
set_option maxHeartbeats 4000000
set_option linter.unusedSimpArgs false
set_option linter.unusedVariables false

/-- The round of the second loop. -/
noncomputable def q2c : Code := lf (lf (rg (lf (rg (rg (rg (rg (rg body4))))))))

theorem q2 {xs : List Int} {p : Nat} (hx : xs.length ≤ 100) : ∀ (k i : Nat) (t : List AV) (h : AH) (Q : Option Nat) (n : Nat), i + k = xs.length → k + 4 ≤ n → t.length = 67 → t[0]? = some (.imm (xs.map I) xs.length) → t[3]? = some (.p (some (p, 0))) →
    t[5]? = some (.i .i64 i) → Lane h p Q ((xs.drop i).map I) ⟨xs.length, i, 0, 0⟩ →
    ∃ t' h' Q', run E n (.loop 4 q2c ⟨t, h⟩) = some (.code (.exit 2) ⟨t', h'⟩) ∧ t'.length = 67 ∧ t'[0]? = some (.imm (xs.map I) xs.length) ∧ t'[3]? = some (.p (some (p, 0))) ∧ Lane h' p Q' [] ⟨xs.length, xs.length, 0, 0⟩
  | 0, i, t, h, Q, n, hik, hn, ht, t0, t3, t5, hl => by
    obtain ⟨n, rfl⟩ : ∃ m, n = m + 1 := ⟨n - 1, by omega⟩
    have hi : i = xs.length := by omega
    subst hi
    have g0 := slot (by omega) t0
    have g3 := slot (by omega) t3
    have g5 := slot (by omega) t5
    have hb : stepCode E (run E n) 4 q2c ⟨t, h⟩ = some (.exit 2, ⟨((((t.set 29 (.i .i64 xs.length)).set 30 (.imm (xs.map I) xs.length)).set 31 (.i .i64 xs.length)).set 32 (.b false)), h⟩) := by
      simp [q2c, body4, lf, rg, Try.f4, stepTask, stepCall, bodyA, stepCode, stepOps, List.range_succ, step1, wantedA, stepOp, execA, evA, putA, ofV, builtinA, lenA, binA, unA, resultsA, resA, indexAddrA, fieldAddrA, storeA, cells_i, cells_own, callFnA, E_P, E_fun, E_mode, E_hook, E_phook, E_ext, E_own, E_glob, Try.underlying2, Try.underlying22, Try.underlying3, Try.underlying50, sz2, sz22, sz3, agg2, agg22, agg3, intA, loadA, cellsAt, tk0, tk1, tk2, tk3, tk4, undefA, List.getElem?_set, List.getElem_set, ht, g0, g3, g5]
    refine ⟨((((t.set 29 (.i .i64 xs.length)).set 30 (.imm (xs.map I) xs.length)).set 31 (.i .i64 xs.length)).set 32 (.b false)), h, Q, ?_, by simp [ht], by simp [List.getElem?_set, t0], by simp [List.getElem?_set, t3], ?_⟩
    · rw [run]; simp only [stepTask, hb]
    · simpa using hl
  | k + 1, i, t, h, Q, n, hik, hn, ht, t0, t3, t5, hl => by
    obtain ⟨n, rfl⟩ : ∃ m, n = m + 4 := ⟨n - 4, by omega⟩
    have hi : i < xs.length := by omega
    have hpos : 0 < ((xs.drop i).map I).length := by simp; omega
    obtain ⟨h', s1, s2, s3⟩ := take_run hl (by simp; omega) (by unfold Cnt.ok; simp; omega) hpos n
    have e0 : ((xs.drop i).map I)[0] = I xs[i] := by simp
    have e1 : ((xs.drop i).map I).eraseIdx 0 = (xs.drop (i + 1)).map I := by rw [List.eraseIdx_zero]; simp [List.tail_drop]
    rw [e0] at s1
    rw [e1] at s2
    have s4 := len_run s2 (n + 2)
    rw [show ((xs.drop (i + 1)).map I).length = xs.length - (i + 1) by simp] at s4
    have hg : (xs.map I)[i]? = some (I xs[i]) := by simp [hi]
    have tk := takeN_get hg
    have c1 : (i : Int) < xs.length := by omega
    have w1 : IntKind.wrap .i64 ((i : Int) + 1) = (i : Int) + 1 := wrap_int (by omega)
    have w2 : IntKind.wrap .i64 ((xs.length : Int) - 1) = (xs.length : Int) - 1 := wrap_int (by omega)
    have w3 : IntKind.wrap .i64 ((xs.length : Int) - 1 - i) = (xs.length : Int) - 1 - i := wrap_int (by omega)
    have w4 : (((xs.length - (i + 1) : Nat) : Int) != (xs.length : Int) - 1 - i) = false := by simp; omega
    have g0 := slot (by omega) t0
    have g3 := slot (by omega) t3
    have g5 := slot (by omega) t5
    have hb : stepCode E (run E (n + 3)) 4 q2c ⟨t, h⟩ = some (.normal, ⟨((((((((((((((((((((((((((((((((((t.set 29 (.i .i64 i)).set 30 (.imm (xs.map I) xs.length)).set 31 (.i .i64 xs.length)).set 32 (.b true)).set 36 (.p (some (p, 0)))).set 37 (.tup [I xs[i], .b true])).set 35 (.tup [I xs[i], .b true])).set 38 (I xs[i])).set 39 (.b true)).set 6 (I xs[i])).set 7 (.b true)).set 40 (.b true)).set 41 (.b false)).set 42 (.b false)).set 43 (I xs[i])).set 44 (.imm (xs.map I) xs.length)).set 45 (.i .i64 i)).set 46 (.ip (xs.map I) i)).set 47 (I xs[i])).set 48 (.b false)).set 49 (.b false)).set 50 (.b false)).set 51 (.p (some (p, 0)))).set 52 (.i .i64 ((xs.length - (i + 1) : Nat) : Int))).set 53 (.imm (xs.map I) xs.length)).set 54 (.i .i64 xs.length)).set 55 (.i .i64 ((xs.length : Int) - 1))).set 56 (.i .i64 i)).set 57 (.i .i64 ((xs.length : Int) - 1 - i))).set 58 (.b false)).set 59 (.b false)).set 33 (.i .i64 i)).set 34 (.i .i64 ((i : Int) + 1))).set 5 (.i .i64 ((i : Int) + 1))), h'⟩) := by
      generalize run E (n + 3) = R at s1 s4
      simp only [I, Int.natCast_zero] at s1 tk ⊢
      simp [q2c, body4, lf, rg, Try.f4, Try.func14, Try.f14, Try.func15, Try.f15, stepTask, stepCall, bodyA, stepCode, stepOps, List.range_succ, step1, wantedA, stepOp, execA, evA, putA, ofV, builtinA, lenA, binA, unA, resultsA, resA, indexAddrA, fieldAddrA, storeA, cells_i, cells_own, callFnA, E_P, E_fun, E_mode, E_hook, E_phook, E_ext, E_own, E_glob, Try.underlying2, Try.underlying22, Try.underlying3, Try.underlying50, sz2, sz22, sz3, agg2, agg22, agg3, intA, loadA, cellsAt, tk0, tk1, tk2, tk3, tk4, undefA, List.getElem?_set, List.getElem_set, ht, g0, g3, g5, c1, tk, s1, s4, w1, w2, w3, w4, I]
    obtain ⟨T, hb, b1, b2, b3, b4⟩ : ∃ T, stepCode E (run E (n + 3)) 4 q2c ⟨t, h⟩ = some (.normal, ⟨T, h'⟩) ∧ T.length = 67 ∧ T[0]? = some (.imm (xs.map I) xs.length) ∧ T[3]? = some (.p (some (p, 0))) ∧ T[5]? = some (.i .i64 ((i + 1 : Nat) : Int)) :=
      ⟨_, hb, by simp [ht], by simp [List.getElem?_set, t0], by simp [List.getElem?_set, t3], by simp [List.getElem?_set, ht]⟩
    obtain ⟨t', h'', Q'', r1, r2, r3, r4, r5⟩ := q2 hx k (i + 1) T h' Q (n + 3) (by omega) (by omega) b1 b2 b3 b4 (by simpa using s2)
    refine ⟨t', h'', Q'', ?_, r2, r3, r4, r5⟩
    rw [show n + 4 = (n + 3) + 1 from rfl, run]
    simp only [stepTask, hb]
    exact r1
end Go.Proofs.Ytgiphcfpopgchaa
