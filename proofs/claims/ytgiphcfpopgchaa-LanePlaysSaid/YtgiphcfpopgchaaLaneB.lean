/-
  The lane's calls, on the abstract machine.
-/
import Derived.Test.YtgiphcfpopgchaaLaneA
namespace Go.Proofs.Ytgiphcfpopgchaa
open Go.Av
set_option maxRecDepth 100000
set_option maxHeartbeats 4000000
set_option linter.unusedSimpArgs false

theorem tk0 (x : AV) (r : List AV) : takeN (x :: r) 0 1 = some [x] := rfl
theorem tk1 (y x : AV) (r : List AV) : takeN (y :: x :: r) 1 1 = some [x] := rfl
theorem tk2 (z y x : AV) (r : List AV) : takeN (z :: y :: x :: r) 2 1 = some [x] := rfl
theorem tk3 (u z y x : AV) (r : List AV) : takeN (u :: z :: y :: x :: r) 3 1 = some [x] := rfl
theorem tk4 (w u z y x : AV) (r : List AV) : takeN (w :: u :: z :: y :: x :: r) 4 1 = some [x] := rfl

theorem full_run {h : AH} {k q L : Nat} {a b c d : AV} (hk : h.get k = some (.cells 5 [.own q 0 L none, a, b, c, d])) (n : Nat) :
    run E (n + 1) (.call 33 [.p (some (k, 0))] h) = some (.ret (.b (decide (4096 ≤ (L : Int)))) h) := by
  simp [run, stepTask, stepCall, E_P, E_fun, E_mode, E_hook, E_phook, E_ext, E_own, E_glob, Try.func33, bodyA, Try.f33, stepCode, stepOps, List.range_succ, step1, wantedA, stepOp, execA, evA, putA, ofV, fieldAddrA, Try.underlying50, Try.underlying22, Try.underlying3, sz22, loadA, agg22, cellsAt, hk, takeN, builtinA, lenA, binA, resultsA, resA]

theorem full_run0 {h : AH} {k : Nat} {a b c d : AV} (hk : h.get k = some (.cells 5 [.nsl, a, b, c, d])) (n : Nat) :
    run E (n + 1) (.call 33 [.p (some (k, 0))] h) = some (.ret (.b false) h) := by
  simp [run, stepTask, stepCall, E_P, E_fun, E_mode, E_hook, E_phook, E_ext, E_own, E_glob, Try.func33, bodyA, Try.f33, stepCode, stepOps, List.range_succ, step1, wantedA, stepOp, execA, evA, putA, ofV, fieldAddrA, Try.underlying50, Try.underlying22, Try.underlying3, sz22, loadA, agg22, cellsAt, hk, takeN, builtinA, lenA, binA, resultsA, resA]

theorem has_run {h : AH} {k q L : Nat} {i : Int} {a b c d : AV} (hk : h.get k = some (.cells 5 [.own q 0 L none, a, b, c, d])) (n : Nat) :
    run E (n + 1) (.call 34 [.p (some (k, 0)), .i .i64 i] h) = some (.ret (.b (decide (0 ≤ i ∧ i < L))) h) := by
  by_cases h0 : 0 ≤ i
  · simp [run, stepTask, stepCall, E_P, E_fun, E_mode, E_hook, E_phook, E_ext, E_own, E_glob, Try.func34, bodyA, Try.f34, stepCode, stepOps, List.range_succ, step1, wantedA, stepOp, execA, evA, putA, ofV, fieldAddrA, Try.underlying50, Try.underlying22, Try.underlying3, sz22, loadA, agg22, cellsAt, hk, takeN, builtinA, lenA, binA, resultsA, resA, h0, undefA]
  · simp [run, stepTask, stepCall, E_P, E_fun, E_mode, E_hook, E_phook, E_ext, E_own, E_glob, Try.func34, bodyA, Try.f34, stepCode, stepOps, List.range_succ, step1, wantedA, stepOp, execA, evA, putA, ofV, fieldAddrA, Try.underlying50, Try.underlying22, Try.underlying3, sz22, loadA, agg22, cellsAt, hk, takeN, builtinA, lenA, binA, resultsA, resA, h0, undefA]

theorem has_run0 {h : AH} {k : Nat} {i : Int} {a b c d : AV} (hk : h.get k = some (.cells 5 [.nsl, a, b, c, d])) (n : Nat) :
    run E (n + 1) (.call 34 [.p (some (k, 0)), .i .i64 i] h) = some (.ret (.b false) h) := by
  by_cases h0 : 0 ≤ i
  · have h1 : ¬ i < 0 := by omega
    simp [run, stepTask, stepCall, E_P, E_fun, E_mode, E_hook, E_phook, E_ext, E_own, E_glob, Try.func34, bodyA, Try.f34, stepCode, stepOps, List.range_succ, step1, wantedA, stepOp, execA, evA, putA, ofV, fieldAddrA, Try.underlying50, Try.underlying22, Try.underlying3, sz22, loadA, agg22, cellsAt, hk, takeN, builtinA, lenA, binA, resultsA, resA, h0, undefA, h1]
  · simp [run, stepTask, stepCall, E_P, E_fun, E_mode, E_hook, E_phook, E_ext, E_own, E_glob, Try.func34, bodyA, Try.f34, stepCode, stepOps, List.range_succ, step1, wantedA, stepOp, execA, evA, putA, ofV, fieldAddrA, Try.underlying50, Try.underlying22, Try.underlying3, sz22, loadA, agg22, cellsAt, hk, takeN, builtinA, lenA, binA, resultsA, resA, h0, undefA]

/-- The heap behind a place was taken out. -/
def outH (h : AH) (p q : Nat) (cs : List AV) (i len : Nat) (a b c d : AV) : AH :=
  ((h.set q (.cells 1 (splice cs i ((cs.drop (i + 1)).take (len - (i + 1)))))).set q (.cells 1 (delCells cs i len))).set p (.cells 5 [.own q 0 (len - 1) none, a, b, c, d])

theorem wrap_int {x : Int} (h : -4611686018427387904 ≤ x ∧ x < 4611686018427387904) : IntKind.wrap .i64 x = x := by
  simp [IntKind.wrap, IntKind.bits, IntKind.signed]
  omega

theorem out_run {h : AH} {p q len i : Nat} {a b c d v : AV} {cs : List AV} (hk : h.get p = some (.cells 5 [.own q 0 len none, a, b, c, d])) (hq : h.get q = some (.cells 1 cs)) (hpq : p ≠ q) (hi : i < len) (hl : len ≤ cs.length) (hc : cs.all AV.one = true) (hb : len ≤ 5000)
    (hone : [a, b, c, d].all AV.one = true) (hv : cs[i]? = some v) (n : Nat) :
    run E (n + 2) (.call 35 [.p (some (p, 0)), .i .i64 i] h) = some (.ret v (outH h p q cs i len a b c d)) := by
  have a1 := del_run hq hi hl hc hb n
  have e1 : (i : Int) < len := by omega
  have e2 : takeN cs i 1 = some [v] := by
    have hlt := (List.getElem?_eq_some_iff.1 hv).1
    have : (cs.drop i).take 1 = [v] := by
      rw [List.drop_eq_getElem_cons hlt, List.take_succ_cons, List.take_zero, (List.getElem?_eq_some_iff.1 hv).2]
    unfold takeN
    simp [this]
  have e3 : IntKind.wrap .i64 ((i : Int) + 1) = (i : Int) + 1 := wrap_int (by omega)
  have g1 : ∀ x y, ((h.set q x).set q y).get p = some (.cells 5 [.own q 0 len none, a, b, c, d]) := fun x y => by rw [AH.get_set, if_neg hpq, AH.get_set, if_neg hpq]; exact hk
  simp only [List.all_cons, List.all_nil, Bool.and_true, Bool.and_eq_true] at hone
  obtain ⟨o1, o2, o3, o4⟩ := hone
  have s1 : ∀ x y, putCells ((h.set q x).set q y) p 0 [.own q 0 (len - 1) none] = some (((h.set q x).set q y).set p (.cells 5 [.own q 0 (len - 1) none, a, b, c, d])) := fun x y => by
    unfold putCells
    simp [g1, AV.one, splice]
  rw [show n + 2 = (n + 1) + 1 from rfl]
  generalize hr : run E (n + 1) = R at a1
  rw [run, hr]
  simp [stepTask, stepCall, bodyA, stepCode, stepOps, List.range_succ, step1, wantedA, stepOp, execA, evA, putA, ofV, builtinA, lenA, binA, resultsA, resA, indexAddrA, fieldAddrA, storeA, AV.cells, callFnA,
    E_P, E_fun, E_mode, E_hook, E_phook, E_ext, E_own, E_glob, Try.func35, Try.f35, Try.func42, Try.f42, Try.underlying22, Try.underlying3, Try.underlying50, sz22, sz3, agg22, agg3, hk, hq, intA, loadA, cellsAt, tk0, e1, e2, e3, a1, g1, s1, outH]
end Go.Proofs.Ytgiphcfpopgchaa
