/-
  Two lists compared, on the abstract machine.
-/
import Derived.Test.YtgiphcfpopgchaaLaneT
namespace Go.Proofs.Ytgiphcfpopgchaa
open Go.Av
set_option maxRecDepth 100000
set_option maxHeartbeats 4000000
set_option linter.unusedSimpArgs false
set_option linter.unusedVariables false

theorem win12 : E.win 12 6 = some [] := by kernel_rfl

/-- A slice that reads so. -/
structure Rd (h : AH) (A : AV) (L : List AV) : Prop where
  len : lenA Try.prog h 22 A = some (.i .i64 L.length)
  get : ∀ (i : Nat) v, L[i]? = some v → ∃ a, indexAddrA Try.prog 22 A (.i .i64 i) = some a ∧ loadA Try.prog h 3 a = some v

theorem Rd.nil (h : AH) : Rd h .nsl [] := ⟨by simp [lenA, Try.underlying22], fun i v e => by simp at e⟩
theorem Rd.imm (h : AH) (L : List AV) : Rd h (.imm L L.length) L := ⟨by simp [lenA, Try.underlying22], fun i v e => by
  have hi := (List.getElem?_eq_some_iff.1 e).1
  have tk := takeN_get e
  have c1 : (i : Int) < L.length := by omega
  exact ⟨.ip L i, by simp [indexAddrA, Try.underlying22, intA, sz3, c1], by simp [loadA, agg3, sz3, cellsAt, tk]⟩⟩
theorem Rd.own {h : AH} {Q : Option Nat} {S : AV} {L : List AV} (hs : Sl h Q S L) : Rd h S L := by
  cases hs with
  | nil0 => exact Rd.nil h
  | @own0 q cs _ hq ht hl hc hn =>
    refine ⟨by simp [lenA, Try.underlying22], fun i v e => ?_⟩
    have hi := (List.getElem?_eq_some_iff.1 e).1
    have hv : cs[i]? = some v := by
      rw [← e]
      conv => rhs; rw [← ht]
      rw [List.getElem?_take, if_pos hi]
    have tk := takeN_get hv
    have c1 : (i : Int) < L.length := by omega
    exact ⟨.p (some (q, i)), by simp [indexAddrA, Try.underlying22, intA, sz3, c1], by simp [loadA, agg3, sz3, cellsAt, hq, tk]⟩

noncomputable def body12 : Code := Try.f12.body.getD .skip
noncomputable def e12 : Code := lf (rg (rg body12))
noncomputable def i0c : Code := lf (lf (rg e12))

theorem i0 {h : AH} {A B : AV} {xs : List Int} (hA : Rd h A (xs.map I)) (hB : Rd h B (xs.map I)) (hx : xs.length ≤ 5000) : ∀ (k i : Nat) (t : List AV) (n : Nat), i + k = xs.length → k < n → t.length = 26 → t[0]? = some A → t[1]? = some B → t[5]? = some (.i .i64 i) →
    ∃ t', run E n (.loop 12 i0c ⟨t, h⟩) = some (.code (.exit 0) ⟨t', h⟩) ∧ t'.length = 26
  | 0, i, t, n, hik, hn, ht, t0, t1, t5 => by
    obtain ⟨n, rfl⟩ : ∃ m, n = m + 1 := ⟨n - 1, by omega⟩
    have g0 := slot (by omega) t0
    have g1 := slot (by omega) t1
    have g5 := slot (by omega) t5
    have hi : i = xs.length := by omega
    subst hi
    have l1 : lenA Try.prog h 22 A = some (.i .i64 xs.length) := by simpa using hA.len
    refine ⟨(((t.set 11 (.i .i64 xs.length)).set 12 A).set 13 (.i .i64 xs.length)).set 14 (.b false), ?_, by simp [ht]⟩
    have hb : stepCode E (run E n) 12 i0c ⟨t, h⟩ = some (.exit 0, ⟨(((t.set 11 (.i .i64 xs.length)).set 12 A).set 13 (.i .i64 xs.length)).set 14 (.b false), h⟩) := by
      simp [i0c, e12, body12, lf, rg, Try.f12, stepTask, stepCall, bodyA, stepCode, stepOps, List.range_succ, step1, wantedA, stepOp, execA, evA, putA, ofV, builtinA, binA, unA, resultsA, resA, fieldAddrA, storeA, cells_i, cells_own, callFnA, E_P, E_fun, E_mode, E_hook, E_phook, E_ext, E_own, E_glob, Try.underlying2, Try.underlying22, Try.underlying3, Try.underlying50, sz2, sz22, sz3, agg2, agg22, agg3, intA, tk0, tk1, tk2, tk3, tk4, undefA, kindA, stepDraw, runD, nthW, win12, List.getElem?_set, List.getElem_set, ht, g0, g1, g5, l1]
    rw [run]; simp only [stepTask, hb]
  | k + 1, i, t, n, hik, hn, ht, t0, t1, t5 => by
    obtain ⟨n, rfl⟩ : ∃ m, n = m + 1 := ⟨n - 1, by omega⟩
    have hi : i < xs.length := by omega
    have g0 := slot (by omega) t0
    have g1 := slot (by omega) t1
    have g5 := slot (by omega) t5
    have l1 : lenA Try.prog h 22 A = some (.i .i64 xs.length) := by simpa using hA.len
    obtain ⟨aA, m1, m2⟩ := hA.get i (I xs[i]) (by simp [hi])
    obtain ⟨aB, m3, m4⟩ := hB.get i (I xs[i]) (by simp [hi])
    have c1 : (i : Int) < xs.length := by omega
    have w1 : IntKind.wrap .i64 ((i : Int) + 1) = (i : Int) + 1 := wrap_int (by omega)
    have hb : stepCode E (run E n) 12 i0c ⟨t, h⟩ = some (.normal, ⟨((((((((((((((((t.set 11 (.i .i64 i)).set 12 A).set 13 (.i .i64 xs.length)).set 14 (.b true)).set 17 A).set 18 (.i .i64 i)).set 19 aA).set 20 (I xs[i])).set 21 B).set 22 (.i .i64 i)).set 23 aB).set 24 (I xs[i])).set 25 (.b false)).set 15 (.i .i64 i)).set 16 (.i .i64 ((i : Int) + 1))).set 5 (.i .i64 ((i : Int) + 1))), h⟩) := by
      simp only [I] at m2 m4 ⊢
      simp [i0c, e12, body12, lf, rg, Try.f12, stepTask, stepCall, bodyA, stepCode, stepOps, List.range_succ, step1, wantedA, stepOp, execA, evA, putA, ofV, builtinA, binA, unA, resultsA, resA, fieldAddrA, storeA, cells_i, cells_own, callFnA, E_P, E_fun, E_mode, E_hook, E_phook, E_ext, E_own, E_glob, Try.underlying2, Try.underlying22, Try.underlying3, Try.underlying50, sz2, sz22, sz3, agg2, agg22, agg3, intA, tk0, tk1, tk2, tk3, tk4, undefA, kindA, stepDraw, runD, nthW, win12, List.getElem?_set, List.getElem_set, ht, g0, g1, g5, l1, m1, m2, m3, m4, c1, w1]
    obtain ⟨T, hb, b1, b2, b3, b4⟩ : ∃ T, stepCode E (run E n) 12 i0c ⟨t, h⟩ = some (.normal, ⟨T, h⟩) ∧ T.length = 26 ∧ T[0]? = some A ∧ T[1]? = some B ∧ T[5]? = some (.i .i64 ((i + 1 : Nat) : Int)) :=
      ⟨_, hb, by simp [ht], by simp [List.getElem?_set, t0], by simp [List.getElem?_set, t1], by simp [List.getElem?_set, ht]⟩
    obtain ⟨t', r1, r2⟩ := i0 hA hB hx k (i + 1) T n (by omega) (by omega) b1 b2 b3 b4
    refine ⟨t', ?_, r2⟩
    rw [run]
    simp only [stepTask, hb]
    exact r1
end Go.Proofs.Ytgiphcfpopgchaa
