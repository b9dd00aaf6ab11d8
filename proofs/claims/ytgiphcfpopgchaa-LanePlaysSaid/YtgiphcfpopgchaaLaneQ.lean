/-
  shoallaw9.LaneQueue on the abstract machine.
-/
import Derived.Test.YtgiphcfpopgchaaLaneD
namespace Go.Proofs.Ytgiphcfpopgchaa
open Go.Av
set_option maxRecDepth 100000
set_option maxHeartbeats 4000000
set_option linter.unusedSimpArgs false
set_option linter.unusedVariables false

def lf : Code → Code
  | .seq a _ => a
  | .block _ a => a
  | .loop a => a
  | .cond _ a _ => a
  | c => c
def rg : Code → Code
  | .seq _ b => b
  | .cond _ _ b => b
  | c => c
noncomputable def body4 : Code := Try.f4.body.getD .skip
/-- The round of the first loop. -/
noncomputable def q0c : Code := lf (lf (rg (lf (rg (rg (rg (rg body4)))))))

noncomputable def I (x : Int) : AV := .i .i64 x

theorem takeN_get {cs : List AV} {i : Nat} {v : AV} (hv : cs[i]? = some v) : takeN cs i 1 = some [v] := by
  have hlt := (List.getElem?_eq_some_iff.1 hv).1
  have : (cs.drop i).take 1 = [v] := by
    rw [List.drop_eq_getElem_cons hlt, List.take_succ_cons, List.take_zero, (List.getElem?_eq_some_iff.1 hv).2]
  unfold takeN
  simp [this]

theorem slot {t : List AV} {d : Nat} {v : AV} (h : d < t.length) (e : t[d]? = some v) : t[d] = v := (List.getElem?_eq_some_iff.1 e).2

theorem q0 {xs : List Int} {p : Nat} (hx : xs.length ≤ 100) : ∀ (k i : Nat) (t : List AV) (h : AH) (Q : Option Nat) (n : Nat), i + k = xs.length → k + 3 ≤ n → t.length = 67 → t[0]? = some (.imm (xs.map I) xs.length) → t[3]? = some (.p (some (p, 0))) →
    t[4]? = some (.i .i64 i) → Lane h p Q ((xs.take i).map I) ⟨i, 0, 0, 0⟩ →
    ∃ t' h' Q', run E n (.loop 4 q0c ⟨t, h⟩) = some (.code (.exit 0) ⟨t', h'⟩) ∧ t'.length = 67 ∧ t'[0]? = some (.imm (xs.map I) xs.length) ∧ t'[3]? = some (.p (some (p, 0))) ∧ Lane h' p Q' (xs.map I) ⟨xs.length, 0, 0, 0⟩
  | 0, i, t, h, Q, n, hik, hn, ht, t0, t3, t4, hl => by
    obtain ⟨n, rfl⟩ : ∃ m, n = m + 1 := ⟨n - 1, by omega⟩
    have hi : i = xs.length := by omega
    subst hi
    have g0 := slot (by omega) t0
    have g3 := slot (by omega) t3
    have g4 := slot (by omega) t4
    have hb : stepCode E (run E n) 4 q0c ⟨t, h⟩ = some (.exit 0, ⟨(((t.set 16 (.i .i64 xs.length)).set 17 (.imm (xs.map I) xs.length)).set 18 (.i .i64 xs.length)).set 19 (.b false), h⟩) := by
      simp [q0c, body4, lf, rg, Try.f4, stepTask, stepCall, bodyA, stepCode, stepOps, List.range_succ, step1, wantedA, stepOp, execA, evA, putA, ofV, builtinA, lenA, binA, unA, resultsA, resA, indexAddrA, fieldAddrA, storeA, cells_i, cells_own, callFnA, E_P, E_fun, E_mode, E_hook, E_phook, E_ext, E_own, E_glob, Try.underlying2, Try.underlying22, Try.underlying3, Try.underlying50, sz2, sz22, sz3, agg2, agg22, agg3, intA, loadA, cellsAt, tk0, tk1, tk2, tk3, tk4, undefA, List.getElem?_set, List.getElem_set, ht, g0, g3, g4]
    refine ⟨(((t.set 16 (.i .i64 xs.length)).set 17 (.imm (xs.map I) xs.length)).set 18 (.i .i64 xs.length)).set 19 (.b false), h, Q, ?_, by simp [ht], by simp [List.getElem?_set, t0], by simp [List.getElem?_set, t3], ?_⟩
    · rw [run]; simp only [stepTask, hb]
    · simpa using hl
  | k + 1, i, t, h, Q, n, hik, hn, ht, t0, t3, t4, hl => by
    obtain ⟨n, rfl⟩ : ∃ m, n = m + 3 := ⟨n - 3, by omega⟩
    have hi : i < xs.length := by omega
    obtain ⟨Q', h', s1, s2, s3⟩ := send_run hl (by simp; omega) (by unfold Cnt.ok; simp; omega) (v := I xs[i]) rfl n
    have hg : (xs.map I)[i]? = some (I xs[i]) := by simp [hi]
    have tk := takeN_get hg
    have c1 : (i : Int) < xs.length := by omega
    have w1 : IntKind.wrap .i64 ((i : Int) + 1) = (i : Int) + 1 := wrap_int (by omega)
    have g0 := slot (by omega) t0
    have g3 := slot (by omega) t3
    have g4 := slot (by omega) t4
    have hb : stepCode E (run E (n + 2)) 4 q0c ⟨t, h⟩ = some (.normal, ⟨(((((((((((((t.set 16 (.i .i64 i)).set 17 (.imm (xs.map I) xs.length)).set 18 (.i .i64 xs.length)).set 19 (.b true)).set 22 (.p (some (p, 0)))).set 23 (.imm (xs.map I) xs.length)).set 24 (.i .i64 i)).set 25 (.ip (xs.map I) i)).set 26 (I xs[i])).set 27 (.b true)).set 28 (.b false)).set 20 (.i .i64 i)).set 21 (.i .i64 ((i : Int) + 1))).set 4 (.i .i64 ((i : Int) + 1)), h'⟩) := by
      generalize run E (n + 2) = R at s1
      simp [q0c, body4, lf, rg, Try.f4, Try.func10, Try.f10, stepTask, stepCall, bodyA, stepCode, stepOps, List.range_succ, step1, wantedA, stepOp, execA, evA, putA, ofV, builtinA, lenA, binA, unA, resultsA, resA, indexAddrA, fieldAddrA, storeA, cells_i, cells_own, callFnA, E_P, E_fun, E_mode, E_hook, E_phook, E_ext, E_own, E_glob, Try.underlying2, Try.underlying22, Try.underlying3, Try.underlying50, sz2, sz22, sz3, agg2, agg22, agg3, intA, loadA, cellsAt, tk0, tk1, tk2, tk3, tk4, undefA, List.getElem?_set, List.getElem_set, ht, g0, g3, g4, c1, tk, s1, w1]
    have hl2 : Lane h' p Q' ((xs.take (i + 1)).map I) ⟨(i + 1 : Nat), 0, 0, 0⟩ := by
      have : (xs.take (i + 1)).map I = (xs.take i).map I ++ [I xs[i]] := by have := congrArg (List.map I) (List.take_succ_eq_append_getElem hi); simpa only [List.map_append, List.map_cons, List.map_nil] using this
      rw [this]; simpa using s2
    obtain ⟨T, hb, b1, b2, b3, b4⟩ : ∃ T, stepCode E (run E (n + 2)) 4 q0c ⟨t, h⟩ = some (.normal, ⟨T, h'⟩) ∧ T.length = 67 ∧ T[0]? = some (.imm (xs.map I) xs.length) ∧ T[3]? = some (.p (some (p, 0))) ∧ T[4]? = some (.i .i64 ((i + 1 : Nat) : Int)) :=
      ⟨_, hb, by simp [ht], by simp [List.getElem?_set, t0], by simp [List.getElem?_set, t3], by simp [List.getElem?_set, ht]⟩
    obtain ⟨t', h'', Q'', r1, r2, r3, r4, r5⟩ := q0 hx k (i + 1) T h' Q' (n + 2) (by omega) (by omega) b1 b2 b3 b4 hl2
    refine ⟨t', h'', Q'', ?_, r2, r3, r4, r5⟩
    rw [show n + 3 = (n + 2) + 1 from rfl, run]
    simp only [stepTask, hb]
    exact r1
end Go.Proofs.Ytgiphcfpopgchaa
