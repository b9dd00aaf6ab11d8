/-
  The lane's All, on the abstract machine.
-/
import Derived.Test.YtgiphcfpopgchaaLaneS
namespace Go.Proofs.Ytgiphcfpopgchaa
open Go.Av
set_option maxRecDepth 100000
set_option maxHeartbeats 4000000
set_option linter.unusedSimpArgs false
set_option linter.unusedVariables false

/-- A new slice, alike. -/
structure New (h h' : AH) (q : Nat) (L : List AV) : Prop where
  sl : Sl h' (some q) (.own q 0 L.length none) L
  ge : h.next ≤ q
  next : h.next ≤ h'.next
  keep : ∀ j, j < h.next → h'.get j = h.get j

theorem app_clone {h : AH} {q : Nat} {cs L : List AV} (hq : h.get q = some (.cells 1 cs)) (ht : cs.take L.length = L) (hl : L.length ≤ cs.length) (hc : cs.all AV.one = true) (hn : q < h.next) (hb : L.length ≤ 5000) :
    ∃ q' h', appendA Try.prog (h.new (.cells 1 [])) 22 22 (.own h.next 0 0 none) (.own q 0 L.length none) = some (.own q' 0 L.length none, h') ∧ New h h' q' L := by
  have hq1 : (h.new (.cells 1 [])).get q = some (.cells 1 cs) := by rw [AH.get_new, if_neg (by omega)]; exact hq
  have hn1 : (h.new (.cells 1 [])).get h.next = some (.cells 1 []) := by rw [AH.get_new, if_pos rfl]
  have hm := moreA_own (o := 0) (n := L.length) (cap := none) (z := [.i .i64 0]) hq1 (by omega)
  have hL : L.all AV.one = true := by rw [← ht]; simpa using all_take hc 0 L.length
  rw [List.drop_zero, ht] at hm
  by_cases h0 : L.length = 0
  · have hLn : L = [] := List.length_eq_zero_iff.1 h0
    subst hLn
    refine ⟨h.next, (h.new (.cells 1 [])).set h.next (.cells 1 []), ?_, ⟨.own0 (cs := []) (by rw [AH.get_set, if_pos rfl]) rfl (Nat.le_refl _) rfl (by simp), Nat.le_refl _, by simp, fun j hj => by rw [AH.get_set, if_neg (by omega), AH.get_new, if_neg (by omega)]⟩⟩
    unfold appendA
    simp only [el22, es3, z3, by3, AV.cells, List.length_singleton]
    rw [if_pos (by decide), hm]
    simp [room, hn1, putCells, splice]
  · refine ⟨h.next + 1, ((h.new (.cells 1 [])).del h.next).new (.cells 1 L), ?_, ⟨.own0 (cs := L) (by rw [AH.get_new]; simp) (List.take_of_length_le (Nat.le_refl _)) (Nat.le_refl _) hL (by simp), by omega, by simp; omega, fun j hj => by rw [AH.get_new, AH.next_del, AH.next_new, if_neg (by omega), AH.get_del, if_neg (by omega), AH.get_new, if_neg (by omega)]⟩⟩
    unfold appendA
    simp only [el22, es3, z3, by3, AV.cells, List.length_singleton]
    rw [if_pos (by decide), hm]
    simp only
    rw [if_pos ⟨hL, by simp only [room]; omega⟩, hn1]
    simp only
    rw [if_pos ⟨trivial, by simp only [room]; omega, by simp⟩, if_neg (by simp only [List.length_nil]; omega)]
    simp

theorem clone_run {h : AH} {q : Nat} {cs L : List AV} (hq : h.get q = some (.cells 1 cs)) (ht : cs.take L.length = L) (hl : L.length ≤ cs.length) (hc : cs.all AV.one = true) (hn : q < h.next) (hb : L.length ≤ 5000) (n : Nat) :
    ∃ q' h', run E (n + 1) (.call 36 [.own q 0 L.length none] h) = some (.ret (.own q' 0 L.length none) h') ∧ New h h' q' L := by
  obtain ⟨q', h', a1, a2⟩ := app_clone hq ht hl hc hn hb
  have b1 : buildSliceA Try.prog h 22 0 [] = some (.own h.next 0 0 none, h.new (.cells 1 [])) := by
    unfold buildSliceA
    simp only [el22, es3, z3]
    rw [if_pos (by decide)]
    rfl
  refine ⟨q', h', ?_, a2⟩
  rw [run]
  simp [Try.func36, Try.f36, stepTask, stepCall, bodyA, stepCode, stepOps, List.range_succ, step1, wantedA, stepOp, execA, evA, putA, ofV, builtinA, lenA, binA, unA, resultsA, resA, indexAddrA, fieldAddrA, storeA, cells_i, cells_own, callFnA, E_P, E_fun, E_mode, E_hook, E_phook, E_ext, E_own, E_glob, Try.underlying2, Try.underlying22, Try.underlying3, Try.underlying50, sz2, sz22, sz3, agg2, agg22, agg3, intA, loadA, cellsAt, tk0, tk1, tk2, tk3, tk4, undefA, eqA, b1, a1]

theorem clone_nil (h : AH) (n : Nat) : run E (n + 1) (.call 36 [.nsl] h) = some (.ret .nsl h) := by kernel_rfl
end Go.Proofs.Ytgiphcfpopgchaa
