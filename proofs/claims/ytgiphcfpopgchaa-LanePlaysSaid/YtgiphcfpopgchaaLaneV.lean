/-
  shoallaw9.LaneHolds on the abstract machine.
-/
import Derived.Test.YtgiphcfpopgchaaLaneU
namespace Go.Proofs.Ytgiphcfpopgchaa
open Go.Av
set_option maxRecDepth 100000
set_option maxHeartbeats 4000000
set_option linter.unusedSimpArgs false
set_option linter.unusedVariables false

theorem f12_body : Try.f12.body = some body12 := by kernel_rfl
theorem f12_ntmps : Try.f12.ntmps = 26 := by kernel_rfl
theorem f12_results : Try.f12.results = #[.tmp 4] := by kernel_rfl
theorem body12_eq : body12 = .seq (lf body12) (.seq (lf (rg body12)) (.seq e12 (rg (rg (rg body12))))) := by kernel_rfl
theorem e12_eq : e12 = .seq (lf e12) (.block 0 (.loop i0c)) := by kernel_rfl

theorem ints_run {h : AH} {A B : AV} {xs : List Int} (hA : Rd h A (xs.map I)) (hB : Rd h B (xs.map I)) (hx : xs.length ≤ 5000) {n : Nat} (hn : xs.length < n) : run E (n + 1) (.call 12 [A, B] h) = some (.ret (.b true) h) := by
  have l1 : lenA Try.prog h 22 A = some (.i .i64 xs.length) := by simpa using hA.len
  have l2 : lenA Try.prog h 22 B = some (.i .i64 xs.length) := by simpa using hB.len
  obtain ⟨t0, e0, k0, z0, y0⟩ : ∃ t0, t0 = A :: B :: List.replicate 24 undefA ∧ t0.length = 26 ∧ t0[0]? = some A ∧ t0[1]? = some B := ⟨_, rfl, by simp, by simp, by simp⟩
  have a1 : stepCode E (run E n) 12 (lf body12) ⟨t0, h⟩ = some (.normal, ⟨t0.set 4 (.b false), h⟩) := by
    simp [body12, lf, rg, Try.f12, stepTask, stepCall, bodyA, stepCode, stepOps, List.range_succ, step1, wantedA, stepOp, execA, evA, putA, ofV, builtinA, binA, unA, resultsA, resA, fieldAddrA, storeA, cells_i, cells_own, callFnA, E_P, E_fun, E_mode, E_hook, E_phook, E_ext, E_own, E_glob, Try.underlying2, Try.underlying22, Try.underlying3, Try.underlying50, sz2, sz22, sz3, agg2, agg22, agg3, intA, tk0, tk1, tk2, tk3, tk4, undefA]
  obtain ⟨t1, e1, k1, z1, y1⟩ : ∃ t1, t1 = t0.set 4 (.b false) ∧ t1.length = 26 ∧ t1[0]? = some A ∧ t1[1]? = some B := ⟨_, rfl, by simp [k0], by simp [List.getElem?_set, z0], by simp [List.getElem?_set, y0]⟩
  rw [← e1] at a1
  have g0 := slot (by omega) z1
  have g1 := slot (by omega) y1
  have a2 : stepCode E (run E n) 12 (lf (rg body12)) ⟨t1, h⟩ = some (.normal, ⟨((((t1.set 6 A).set 7 (.i .i64 xs.length)).set 8 B).set 9 (.i .i64 xs.length)).set 10 (.b false), h⟩) := by
    simp [body12, lf, rg, Try.f12, stepTask, stepCall, bodyA, stepCode, stepOps, List.range_succ, step1, wantedA, stepOp, execA, evA, putA, ofV, builtinA, binA, unA, resultsA, resA, fieldAddrA, storeA, cells_i, cells_own, callFnA, E_P, E_fun, E_mode, E_hook, E_phook, E_ext, E_own, E_glob, Try.underlying2, Try.underlying22, Try.underlying3, Try.underlying50, sz2, sz22, sz3, agg2, agg22, agg3, intA, tk0, tk1, tk2, tk3, tk4, undefA, List.getElem?_set, List.getElem_set, k1, g0, g1, l1, l2]
  obtain ⟨t2, e2, k2, z2, y2⟩ : ∃ t2, t2 = ((((t1.set 6 A).set 7 (.i .i64 xs.length)).set 8 B).set 9 (.i .i64 xs.length)).set 10 (.b false) ∧ t2.length = 26 ∧ t2[0]? = some A ∧ t2[1]? = some B := ⟨_, rfl, by simp [k1], by simp [List.getElem?_set, z1], by simp [List.getElem?_set, y1]⟩
  rw [← e2] at a2
  have a3 : stepCode E (run E n) 12 (lf e12) ⟨t2, h⟩ = some (.normal, ⟨t2.set 5 (.i .i64 0), h⟩) := by
    simp [e12, body12, lf, rg, Try.f12, stepTask, stepCall, bodyA, stepCode, stepOps, List.range_succ, step1, wantedA, stepOp, execA, evA, putA, ofV, builtinA, binA, unA, resultsA, resA, fieldAddrA, storeA, cells_i, cells_own, callFnA, E_P, E_fun, E_mode, E_hook, E_phook, E_ext, E_own, E_glob, Try.underlying2, Try.underlying22, Try.underlying3, Try.underlying50, sz2, sz22, sz3, agg2, agg22, agg3, intA, tk0, tk1, tk2, tk3, tk4, undefA]
  obtain ⟨t3, r3, k3⟩ := i0 hA hB hx xs.length 0 (t2.set 5 (.i .i64 0)) n (by omega) hn (by simp [k2]) (by simp [List.getElem?_set, z2]) (by simp [List.getElem?_set, y2]) (by simp [List.getElem?_set, k2])
  have a4 : stepCode E (run E n) 12 (rg (rg (rg body12))) ⟨t3, h⟩ = some (.ret, ⟨t3.set 4 (.b true), h⟩) := by
    simp [body12, lf, rg, Try.f12, stepTask, stepCall, bodyA, stepCode, stepOps, List.range_succ, step1, wantedA, stepOp, execA, evA, putA, ofV, builtinA, binA, unA, resultsA, resA, fieldAddrA, storeA, cells_i, cells_own, callFnA, E_P, E_fun, E_mode, E_hook, E_phook, E_ext, E_own, E_glob, Try.underlying2, Try.underlying22, Try.underlying3, Try.underlying50, sz2, sz22, sz3, agg2, agg22, agg3, intA, tk0, tk1, tk2, tk3, tk4, undefA]
  have hbody : stepCode E (run E n) 12 body12 ⟨t0, h⟩ = some (.ret, ⟨t3.set 4 (.b true), h⟩) := by
    rw [body12_eq]
    simp only [stepCode, a1, a2]
    rw [e12_eq]
    simp only [stepCode, a3, r3, a4, if_true]
  rw [run]
  simp only [stepTask, stepCall, E_phook, E_hook, E_fun, Try.func12, E_mode, bodyA, f12_body, f12_ntmps]
  rw [if_neg (by decide), if_neg (by decide), if_neg (by decide)]
  have : ([A, B] ++ List.replicate (26 - [A, B].length) undefA) = t0 := by rw [e0]; rfl
  rw [this, hbody]
  have hT : (t3.set 4 (.b true)).getD 4 undefA = .b true := by simp [List.getD_eq_getElem?_getD, List.getElem?_set, k3]
  simp only [resultsA, f12_results, List.mapM_cons, List.mapM_nil, resA, hT]
  rfl

theorem all_run {h : AH} {p : Nat} {Q : Option Nat} {L : List AV} {c : Cnt} (hl : Lane h p Q L c) (hb : L.length ≤ 5000) (n : Nat) :
    ∃ S' h', run E (n + 2) (.call 13 [.p (some (p, 0))] h) = some (.ret S' h') ∧ Rd h' S' L ∧ h.next ≤ h'.next ∧ ∀ j, j < h.next → h'.get j = h.get j := by
  obtain ⟨⟨S, hp, hs⟩, hlt, hne⟩ := hl
  unfold Go.Proofs.Ytgiphcfpopgchaa.obj at hp
  cases hs with
  | nil0 =>
    refine ⟨.nsl, h, ?_, Rd.nil h, Nat.le_refl _, fun _ _ => rfl⟩
    have c1 := clone_nil h n
    rw [show n + 2 = (n + 1) + 1 from rfl]
    generalize hr : run E (n + 1) = R at c1
    rw [run, hr]
    simp [Try.func13, Try.f13, Try.func36, Try.f36, stepTask, stepCall, bodyA, stepCode, stepOps, List.range_succ, step1, wantedA, stepOp, execA, evA, putA, ofV, builtinA, lenA, binA, unA, resultsA, resA, indexAddrA, fieldAddrA, storeA, cells_i, cells_own, callFnA, E_P, E_fun, E_mode, E_hook, E_phook, E_ext, E_own, E_glob, Try.underlying2, Try.underlying22, Try.underlying3, Try.underlying50, sz2, sz22, sz3, agg2, agg22, agg3, intA, loadA, cellsAt, tk0, tk1, tk2, tk3, tk4, undefA, hp, c1]
  | own0 hq ht hll hc hn =>
    obtain ⟨q', h', c1, c2⟩ := clone_run hq ht hll hc hn hb n
    refine ⟨_, h', ?_, Rd.own c2.sl, c2.next, c2.keep⟩
    rw [show n + 2 = (n + 1) + 1 from rfl]
    generalize hr : run E (n + 1) = R at c1
    rw [run, hr]
    simp [Try.func13, Try.f13, Try.func36, Try.f36, stepTask, stepCall, bodyA, stepCode, stepOps, List.range_succ, step1, wantedA, stepOp, execA, evA, putA, ofV, builtinA, lenA, binA, unA, resultsA, resA, indexAddrA, fieldAddrA, storeA, cells_i, cells_own, callFnA, E_P, E_fun, E_mode, E_hook, E_phook, E_ext, E_own, E_glob, Try.underlying2, Try.underlying22, Try.underlying3, Try.underlying50, sz2, sz22, sz3, agg2, agg22, agg3, intA, loadA, cellsAt, tk0, tk1, tk2, tk3, tk4, undefA, hp, c1]
end Go.Proofs.Ytgiphcfpopgchaa
