/-
  The lane's Drop, Double, Counts, and what is refused, on the abstract machine.
-/
import Derived.Test.YtgiphcfpopgchaaLaneW
namespace Go.Proofs.Ytgiphcfpopgchaa
open Go.Av
set_option maxRecDepth 100000
set_option maxHeartbeats 4000000
set_option linter.unusedSimpArgs false
set_option linter.unusedVariables false

theorem win17 : E.win 17 4 = some [] := by kernel_rfl
theorem win18 : E.win 18 1 = some [] := by kernel_rfl

theorem drop_run {h : AH} {p : Nat} {Q : Option Nat} {L : List AV} {c : Cnt} (hl : Lane h p Q L c) (hb : L.length ≤ 5000) (hc : c.ok 1000000) {i : Nat} (hi : i < L.length) (n : Nat) :
    ∃ h', run E (n + 3) (.call 16 [.p (some (p, 0)), .i .i64 i] h) = some (.ret (.b true) h') ∧ Lane h' p Q (L.eraseIdx i) { c with d := c.d + 1 } ∧ Fm h h' p Q Q := by
  have hhas := has_lane hl i (n + 1)
  rw [show decide (0 ≤ (i : Int) ∧ (i : Int) < (L.length : Int)) = true by simp; omega] at hhas
  obtain ⟨⟨S, hp, hs⟩, hlt, hne⟩ := hl
  have hl1 := Lane.bump (c := c) hs hlt hne { c with d := c.d + 1 }
  obtain ⟨h', o1, o2, o3⟩ := out_lane hl1 hb hi n
  have p2 := (put_obj hp (x := .i .i64 (c.d + 1)) rfl).2.2.2.1
  have w1 : IntKind.wrap .i64 (c.d + 1) = c.d + 1 := wrap_int (by have := hc.2.2.1; omega)
  refine ⟨h', ?_, o2, (Fm.set _).trans o3⟩
  unfold Go.Proofs.Ytgiphcfpopgchaa.obj at hp p2 o1
  rw [show n + 3 = (n + 2) + 1 from rfl]
  generalize hr : run E (n + 2) = R at hhas o1
  rw [run, hr]
  simp [Try.func16, Try.f16, Try.func34, Try.f34, Try.func35, Try.f35, stepTask, stepCall, bodyA, stepCode, stepOps, List.range_succ, step1, wantedA, stepOp, execA, evA, putA, ofV, builtinA, lenA, binA, unA, resultsA, resA, indexAddrA, fieldAddrA, storeA, cells_i, cells_own, callFnA, E_P, E_fun, E_mode, E_hook, E_phook, E_ext, E_own, E_glob, Try.underlying2, Try.underlying22, Try.underlying3, Try.underlying50, sz2, sz22, sz3, agg2, agg22, agg3, intA, loadA, cellsAt, tk0, tk1, tk2, tk3, tk4, undefA, kindA, stepDraw, runD, nthW, hp, hhas, p2, w1, o1]

theorem drop_none {h : AH} {p : Nat} {Q : Option Nat} {L : List AV} {c : Cnt} (hl : Lane h p Q L c) {i : Int} (hi : ¬ (0 ≤ i ∧ i < (L.length : Int))) (n : Nat) :
    run E (n + 3) (.call 16 [.p (some (p, 0)), .i .i64 i] h) = some (.ret (.b false) h) := by
  have hhas := has_lane hl i (n + 1)
  rw [show decide (0 ≤ i ∧ i < (L.length : Int)) = false by simpa using hi] at hhas
  rw [show n + 3 = (n + 2) + 1 from rfl]
  generalize hr : run E (n + 2) = R at hhas
  rw [run, hr]
  simp [Try.func16, Try.f16, Try.func34, Try.f34, stepTask, stepCall, bodyA, stepCode, stepOps, List.range_succ, step1, wantedA, stepOp, execA, evA, putA, ofV, builtinA, lenA, binA, unA, resultsA, resA, indexAddrA, fieldAddrA, storeA, cells_i, cells_own, callFnA, E_P, E_fun, E_mode, E_hook, E_phook, E_ext, E_own, E_glob, Try.underlying2, Try.underlying22, Try.underlying3, Try.underlying50, sz2, sz22, sz3, agg2, agg22, agg3, intA, loadA, cellsAt, tk0, tk1, tk2, tk3, tk4, undefA, kindA, stepDraw, runD, nthW, hhas]

theorem hold_none {h : AH} {p : Nat} {Q : Option Nat} {L : List AV} {c : Cnt} (hl : Lane h p Q L c) {i : Int} (hi : ¬ (0 ≤ i ∧ i < (L.length : Int))) (n : Nat) :
    run E (n + 3) (.call 11 [.p (some (p, 0)), .i .i64 i] h) = some (.ret (.b false) h) := by
  have hhas := has_lane hl i (n + 1)
  rw [show decide (0 ≤ i ∧ i < (L.length : Int)) = false by simpa using hi] at hhas
  rw [show n + 3 = (n + 2) + 1 from rfl]
  generalize hr : run E (n + 2) = R at hhas
  rw [run, hr]
  simp [Try.func11, Try.f11, Try.func34, Try.f34, stepTask, stepCall, bodyA, stepCode, stepOps, List.range_succ, step1, wantedA, stepOp, execA, evA, putA, ofV, builtinA, lenA, binA, unA, resultsA, resA, indexAddrA, fieldAddrA, storeA, cells_i, cells_own, callFnA, E_P, E_fun, E_mode, E_hook, E_phook, E_ext, E_own, E_glob, Try.underlying2, Try.underlying22, Try.underlying3, Try.underlying50, sz2, sz22, sz3, agg2, agg22, agg3, intA, loadA, cellsAt, tk0, tk1, tk2, tk3, tk4, undefA, kindA, stepDraw, runD, nthW, hhas]

theorem double_none {h : AH} {p : Nat} {Q : Option Nat} {L : List AV} {c : Cnt} (hl : Lane h p Q L c) {i : Int} (hi : ¬ (0 ≤ i ∧ i < (L.length : Int))) (n : Nat) :
    run E (n + 3) (.call 17 [.p (some (p, 0)), .i .i64 i] h) = some (.ret (.b false) h) := by
  have hhas := has_lane hl i (n + 1)
  rw [show decide (0 ≤ i ∧ i < (L.length : Int)) = false by simpa using hi] at hhas
  rw [show n + 3 = (n + 2) + 1 from rfl]
  generalize hr : run E (n + 2) = R at hhas
  rw [run, hr]
  simp [Try.func17, Try.f17, Try.func34, Try.f34, stepTask, stepCall, bodyA, stepCode, stepOps, List.range_succ, step1, wantedA, stepOp, execA, evA, putA, ofV, builtinA, lenA, binA, unA, resultsA, resA, indexAddrA, fieldAddrA, storeA, cells_i, cells_own, callFnA, E_P, E_fun, E_mode, E_hook, E_phook, E_ext, E_own, E_glob, Try.underlying2, Try.underlying22, Try.underlying3, Try.underlying50, sz2, sz22, sz3, agg2, agg22, agg3, intA, loadA, cellsAt, tk0, tk1, tk2, tk3, tk4, undefA, kindA, stepDraw, runD, nthW, hhas]

theorem double_full {h : AH} {p : Nat} {Q : Option Nat} {L : List AV} {c : Cnt} (hl : Lane h p Q L c) (hf : 4096 ≤ L.length) {i : Int} (hi : 0 ≤ i ∧ i < (L.length : Int)) (n : Nat) :
    run E (n + 3) (.call 17 [.p (some (p, 0)), .i .i64 i] h) = some (.ret (.b false) h) := by
  have hhas := has_lane hl i (n + 1)
  rw [show decide (0 ≤ i ∧ i < (L.length : Int)) = true by simpa using hi] at hhas
  have hful := full_lane hl (n + 1)
  rw [show decide ((4096 : Int) ≤ (L.length : Int)) = true by simp; omega] at hful
  rw [show n + 3 = (n + 2) + 1 from rfl]
  generalize hr : run E (n + 2) = R at hhas hful
  rw [run, hr]
  simp [Try.func17, Try.f17, Try.func34, Try.f34, Try.func33, Try.f33, stepTask, stepCall, bodyA, stepCode, stepOps, List.range_succ, step1, wantedA, stepOp, execA, evA, putA, ofV, builtinA, lenA, binA, unA, resultsA, resA, indexAddrA, fieldAddrA, storeA, cells_i, cells_own, callFnA, E_P, E_fun, E_mode, E_hook, E_phook, E_ext, E_own, E_glob, Try.underlying2, Try.underlying22, Try.underlying3, Try.underlying50, sz2, sz22, sz3, agg2, agg22, agg3, intA, loadA, cellsAt, tk0, tk1, tk2, tk3, tk4, undefA, kindA, stepDraw, runD, nthW, hhas, hful]

theorem send_full {h : AH} {p : Nat} {Q : Option Nat} {L : List AV} {c : Cnt} (hl : Lane h p Q L c) (hf : 4096 ≤ L.length) (v : AV) (n : Nat) :
    run E (n + 2) (.call 10 [.p (some (p, 0)), v] h) = some (.ret (.b false) h) := by
  have hful := full_lane hl n
  rw [show decide ((4096 : Int) ≤ (L.length : Int)) = true by simp; omega] at hful
  rw [show n + 2 = (n + 1) + 1 from rfl]
  generalize hr : run E (n + 1) = R at hful
  rw [run, hr]
  simp [Try.func10, Try.f10, Try.func33, Try.f33, stepTask, stepCall, bodyA, stepCode, stepOps, List.range_succ, step1, wantedA, stepOp, execA, evA, putA, ofV, builtinA, lenA, binA, unA, resultsA, resA, indexAddrA, fieldAddrA, storeA, cells_i, cells_own, callFnA, E_P, E_fun, E_mode, E_hook, E_phook, E_ext, E_own, E_glob, Try.underlying2, Try.underlying22, Try.underlying3, Try.underlying50, sz2, sz22, sz3, agg2, agg22, agg3, intA, loadA, cellsAt, tk0, tk1, tk2, tk3, tk4, undefA, kindA, stepDraw, runD, nthW, hful]

theorem counts_run {h : AH} {p : Nat} {Q : Option Nat} {L : List AV} {c : Cnt} (hl : Lane h p Q L c) (n : Nat) :
    run E (n + 1) (.call 18 [.p (some (p, 0))] h) = some (.ret (.tup [.i .i64 c.s, .i .i64 c.t, .i .i64 c.d, .i .i64 c.m]) h) := by
  obtain ⟨⟨S, hp, hs⟩, hlt, hne⟩ := hl
  unfold Go.Proofs.Ytgiphcfpopgchaa.obj at hp
  rw [run]
  simp [Try.func18, Try.f18, stepTask, stepCall, bodyA, stepCode, stepOps, List.range_succ, step1, wantedA, stepOp, execA, evA, putA, ofV, builtinA, lenA, binA, unA, resultsA, resA, indexAddrA, fieldAddrA, storeA, cells_i, cells_own, callFnA, E_P, E_fun, E_mode, E_hook, E_phook, E_ext, E_own, E_glob, Try.underlying2, Try.underlying22, Try.underlying3, Try.underlying50, sz2, sz22, sz3, agg2, agg22, agg3, intA, loadA, cellsAt, tk0, tk1, tk2, tk3, tk4, undefA, kindA, stepDraw, runD, nthW, hp, win18]

theorem double_run {h : AH} {p : Nat} {Q : Option Nat} {L : List AV} {c : Cnt} (hl : Lane h p Q L c) (hb : L.length < 4096) (hc : c.ok 1000000) (hone : L.all AV.one = true) {i : Nat} (hi : i < L.length) (n : Nat) :
    ∃ Q' h', run E (n + 3) (.call 17 [.p (some (p, 0)), .i .i64 i] h) = some (.ret (.b true) h') ∧ Lane h' p Q' (L ++ [L[i]]) { c with m := c.m + 1 } ∧ Fm h h' p Q Q' := by
  have hhas := has_lane hl i (n + 1)
  rw [show decide (0 ≤ (i : Int) ∧ (i : Int) < (L.length : Int)) = true by simp; omega] at hhas
  have hful := full_lane hl (n + 1)
  rw [show decide ((4096 : Int) ≤ (L.length : Int)) = false by simp; omega] at hful
  obtain ⟨⟨S, hp, hs⟩, hlt, hne⟩ := hl
  have ho : (L[i]).one = true := List.all_eq_true.1 hone _ (List.getElem_mem hi)
  have p4 := (put_obj hp (x := .i .i64 (c.m + 1)) rfl).2.2.2.2
  have hl1 := Lane.bump (c := c) hs hlt hne { c with m := c.m + 1 }
  generalize hh1 : h.set p (.cells 5 (obj S { c with m := c.m + 1 })) = h1 at hl1
  have hp1 : h1.get p = some (.cells 5 (obj S { c with m := c.m + 1 })) := by rw [← hh1, AH.get_set, if_pos rfl]
  have hs1 : Sl h1 Q S L := by rw [← hh1]; exact hs.put hne _
  have hnx1 : h1.next = h.next := by rw [← hh1]; rfl
  obtain ⟨Q', S', h2, a1, hs2, hown, hnx, hkeep⟩ := app_lane hs1 ho (by omega)
  have hne' : Q' ≠ some p := by
    rcases hown with rfl | rfl
    · exact hne
    · intro e; cases e; omega
  obtain ⟨q, hSq, hix, hld⟩ : ∃ q, (∃ m cp, S = .own q 0 m cp) ∧ indexAddrA Try.prog 22 S (.i .i64 i) = some (.p (some (q, i))) ∧ loadA Try.prog h1 3 (.p (some (q, i))) = some L[i] := by
    cases hs1 with
    | nil0 => simp at hi
    | @own0 q cs _ hq ht hll hcc hn =>
      have hv : cs[i]? = some L[i] := by
        have : L[i]? = some L[i] := List.getElem?_eq_getElem hi
        rw [← this]
        conv => rhs; rw [← ht]
        rw [List.getElem?_take, if_pos hi]
      have tk := takeN_get hv
      have c1 : (i : Int) < L.length := by omega
      exact ⟨q, ⟨_, _, rfl⟩, by simp [indexAddrA, Try.underlying22, intA, sz3, c1], by simp [loadA, agg3, sz3, cellsAt, hq, tk]⟩
  have hp2 : h2.get p = some (.cells 5 (obj S { c with m := c.m + 1 })) := by rw [hkeep p hne (by omega)]; exact hp1
  have p0 := (put_obj hp2 hs2.one).1
  have cS := cells_one hs2.one
  have l1 := lit_one _ ho
  have w1 : IntKind.wrap .i64 (c.m + 1) = c.m + 1 := wrap_int (by have := hc.2.2.2; omega)
  have hldv : loadA Try.prog h1 3 (.p (some (q, i))) = some L[i] := hld
  have tkq : ∃ cs, h1.get q = some (.cells 1 cs) ∧ takeN cs i 1 = some [L[i]] := by
    obtain ⟨m, cp, rfl⟩ := hSq
    cases hs1 with
    | @own0 _ cs _ hq ht hll hcc hn =>
      refine ⟨cs, hq, takeN_get ?_⟩
      have : L[i]? = some L[i] := List.getElem?_eq_getElem hi
      rw [← this]
      conv => rhs; rw [← ht]
      rw [List.getElem?_take, if_pos hi]
  obtain ⟨cs, k1, k2⟩ := tkq
  refine ⟨Q', h2.set p (.cells 5 (obj S' { c with m := c.m + 1 })), ?_, ⟨⟨S', by rw [AH.get_set, if_pos rfl], hs2.put hne' _⟩, by simp; omega, hne'⟩, ⟨by simp; omega, ?_, fun j j1 j2 j3 => by rw [AH.get_set, if_neg j2, hkeep j j3 (by omega), ← hh1, AH.get_set, if_neg j2]⟩⟩
  · unfold obj at hp p4 hp1 hp2 p0 hh1 ⊢
    rw [hh1] at p4
    rw [show n + 3 = (n + 2) + 1 from rfl]
    generalize hr : run E (n + 2) = R at hhas hful
    rw [run, hr]
    simp [Try.func17, Try.f17, Try.func34, Try.f34, Try.func33, Try.f33, stepTask, stepCall, bodyA, stepCode, stepOps, List.range_succ, step1, wantedA, stepOp, execA, evA, putA, ofV, builtinA, lenA, binA, unA, resultsA, resA, fieldAddrA, storeA, cells_i, cells_own, callFnA, E_P, E_fun, E_mode, E_hook, E_phook, E_ext, E_own, E_glob, Try.underlying2, Try.underlying22, Try.underlying3, Try.underlying50, sz2, sz22, sz3, agg2, agg22, agg3, intA, loadA, cellsAt, tk0, tk1, tk2, tk3, tk4, undefA, kindA, stepDraw, runD, nthW, hhas, hful, hp, p4, w1, hp1, hix, k1, k2, l1, a1, hp2, p0, cS, win17]
  · rcases hown with rfl | rfl
    · exact .inl rfl
    · exact .inr ⟨_, rfl, by omega⟩
end Go.Proofs.Ytgiphcfpopgchaa
