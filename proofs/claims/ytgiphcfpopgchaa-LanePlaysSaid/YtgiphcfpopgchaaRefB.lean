/-
  The reference's lane on the abstract machine: Take, Drop, Double, Hold.
-/
import Derived.Test.YtgiphcfpopgchaaRefA
namespace Go.Proofs.Ytgiphcfpopgchaa
open Go.Av
set_option maxRecDepth 100000
set_option maxHeartbeats 4000000
set_option linter.unusedSimpArgs false
set_option linter.unusedVariables false

theorem obj_of {h : AH} {p : Nat} {Q : Option Nat} {L : List AV} {c : Cnt} (hl : Lane h p Q L c) : ∃ S, h.get p = some (.cells 5 (obj S c)) ∧ Sl h Q S L ∧ p < h.next ∧ Q ≠ some p := by
  obtain ⟨⟨S, hp, hs⟩, hlt, hne⟩ := hl
  exact ⟨S, hp, hs, hlt, hne⟩

theorem ref_take {h : AH} {p : Nat} {Q : Option Nat} {L : List AV} {c : Cnt} (hl : Lane h p Q L c) (hb : L.length ≤ 4096) (hone : L.all AV.one = true) (hc : c.ok 1000000) {i : Nat} (hi : i < L.length) (n : Nat) :
    ∃ Q' h', run E (n + 2) (.call 20 [.p (some (p, 0)), .i .i64 i] h) = some (.ret (.tup [L[i], .b true]) h') ∧ Lane h' p Q' (L.eraseIdx i) { c with t := c.t + 1 } ∧ Fm h h' p Q Q' := by
  obtain ⟨Q1, h1, r1, r2, r3⟩ := ref_out hl hb hone hi n
  obtain ⟨S, hp, hs, hlt, hne⟩ := obj_of r2
  have p0 := (put_obj hp (x := .i .i64 (c.t + 1)) rfl).2.2.1
  have w1 : IntKind.wrap .i64 (c.t + 1) = c.t + 1 := wrap_int (by have := hc.2.1; omega)
  refine ⟨Q1, h1.set p (.cells 5 (obj S { c with t := c.t + 1 })), ?_, Lane.bump (c := c) hs hlt hne _, r3.trans (Fm.set _)⟩
  unfold obj at hp p0
  unfold obj
  rw [show n + 2 = (n + 1) + 1 from rfl]
  generalize hr : run E (n + 1) = R at r1
  rw [run, hr]
  simp [Try.func20, Try.f20, Try.func37, Try.f37, stepTask, stepCall, bodyA, stepCode, stepOps, List.range_succ, step1, wantedA, stepOp, execA, evA, putA, ofV, builtinA, binA, unA, resultsA, resA, indexAddrA, fieldAddrA, storeA, cells_i, cells_own, callFnA, E_P, E_fun, E_mode, E_hook, E_phook, E_ext, E_own, E_glob, Try.underlying2, Try.underlying22, Try.underlying3, Try.underlying38, sz2, sz22, sz3, agg2, agg22, agg3, intA, loadA, cellsAt, tk0, tk1, tk2, tk3, tk4, undefA, hp, r1, p0, w1]

theorem ref_take_none {h : AH} {p : Nat} {Q : Option Nat} {L : List AV} {c : Cnt} (hl : Lane h p Q L c) {i : Int} (hi : ¬ (0 ≤ i ∧ i < (L.length : Int))) (n : Nat) :
    run E (n + 2) (.call 20 [.p (some (p, 0)), .i .i64 i] h) = some (.ret (.tup [.i .i64 0, .b false]) h) := by
  have r1 := ref_out_none hl hi n
  rw [show n + 2 = (n + 1) + 1 from rfl]
  generalize hr : run E (n + 1) = R at r1
  rw [run, hr]
  simp [Try.func20, Try.f20, Try.func37, Try.f37, stepTask, stepCall, bodyA, stepCode, stepOps, List.range_succ, step1, wantedA, stepOp, execA, evA, putA, ofV, builtinA, binA, unA, resultsA, resA, indexAddrA, fieldAddrA, storeA, cells_i, cells_own, callFnA, E_P, E_fun, E_mode, E_hook, E_phook, E_ext, E_own, E_glob, Try.underlying2, Try.underlying22, Try.underlying3, Try.underlying38, sz2, sz22, sz3, agg2, agg22, agg3, intA, loadA, cellsAt, tk0, tk1, tk2, tk3, tk4, undefA, r1]

theorem ref_drop {h : AH} {p : Nat} {Q : Option Nat} {L : List AV} {c : Cnt} (hl : Lane h p Q L c) (hb : L.length ≤ 4096) (hone : L.all AV.one = true) (hc : c.ok 1000000) {i : Nat} (hi : i < L.length) (n : Nat) :
    ∃ Q' h', run E (n + 2) (.call 21 [.p (some (p, 0)), .i .i64 i] h) = some (.ret (.b true) h') ∧ Lane h' p Q' (L.eraseIdx i) { c with d := c.d + 1 } ∧ Fm h h' p Q Q' := by
  obtain ⟨Q1, h1, r1, r2, r3⟩ := ref_out hl hb hone hi n
  obtain ⟨S, hp, hs, hlt, hne⟩ := obj_of r2
  have p0 := (put_obj hp (x := .i .i64 (c.d + 1)) rfl).2.2.2.1
  have w1 : IntKind.wrap .i64 (c.d + 1) = c.d + 1 := wrap_int (by have := hc.2.2.1; omega)
  refine ⟨Q1, h1.set p (.cells 5 (obj S { c with d := c.d + 1 })), ?_, Lane.bump (c := c) hs hlt hne _, r3.trans (Fm.set _)⟩
  unfold obj at hp p0
  unfold obj
  rw [show n + 2 = (n + 1) + 1 from rfl]
  generalize hr : run E (n + 1) = R at r1
  rw [run, hr]
  simp [Try.func21, Try.f21, Try.func37, Try.f37, stepTask, stepCall, bodyA, stepCode, stepOps, List.range_succ, step1, wantedA, stepOp, execA, evA, putA, ofV, builtinA, binA, unA, resultsA, resA, indexAddrA, fieldAddrA, storeA, cells_i, cells_own, callFnA, E_P, E_fun, E_mode, E_hook, E_phook, E_ext, E_own, E_glob, Try.underlying2, Try.underlying22, Try.underlying3, Try.underlying38, sz2, sz22, sz3, agg2, agg22, agg3, intA, loadA, cellsAt, tk0, tk1, tk2, tk3, tk4, undefA, hp, r1, p0, w1]

theorem ref_drop_none {h : AH} {p : Nat} {Q : Option Nat} {L : List AV} {c : Cnt} (hl : Lane h p Q L c) {i : Int} (hi : ¬ (0 ≤ i ∧ i < (L.length : Int))) (n : Nat) :
    run E (n + 2) (.call 21 [.p (some (p, 0)), .i .i64 i] h) = some (.ret (.b false) h) := by
  have r1 := ref_out_none hl hi n
  rw [show n + 2 = (n + 1) + 1 from rfl]
  generalize hr : run E (n + 1) = R at r1
  rw [run, hr]
  simp [Try.func21, Try.f21, Try.func37, Try.f37, stepTask, stepCall, bodyA, stepCode, stepOps, List.range_succ, step1, wantedA, stepOp, execA, evA, putA, ofV, builtinA, binA, unA, resultsA, resA, indexAddrA, fieldAddrA, storeA, cells_i, cells_own, callFnA, E_P, E_fun, E_mode, E_hook, E_phook, E_ext, E_own, E_glob, Try.underlying2, Try.underlying22, Try.underlying3, Try.underlying38, sz2, sz22, sz3, agg2, agg22, agg3, intA, loadA, cellsAt, tk0, tk1, tk2, tk3, tk4, undefA, r1]

theorem ref_hold {h : AH} {p : Nat} {Q : Option Nat} {L : List AV} {c : Cnt} (hl : Lane h p Q L c) (hb : L.length ≤ 4096) (hone : L.all AV.one = true) {i : Nat} (hi : i < L.length) (n : Nat) :
    ∃ Q' h', run E (n + 2) (.call 23 [.p (some (p, 0)), .i .i64 i] h) = some (.ret (.b true) h') ∧ Lane h' p Q' (L.eraseIdx i ++ [L[i]]) c ∧ Fm h h' p Q Q' := by
  obtain ⟨Q1, h1, r1, r2, r3⟩ := ref_out hl hb hone hi n
  obtain ⟨S, hp, hs, hlt, hne⟩ := obj_of r2
  have ho : (L[i]).one = true := List.all_eq_true.1 hone _ (List.getElem_mem hi)
  have hlen : (L.eraseIdx i).length = L.length - 1 := by rw [List.length_eraseIdx, if_pos hi]
  obtain ⟨Q', S', h2, a1, hs1, hown, hnx, hkeep⟩ := app_lane hs ho (by omega)
  have hne' : Q' ≠ some p := by
    rcases hown with rfl | rfl
    · exact hne
    · intro e; cases e; omega
  have hS1 : S'.one = true := hs1.one
  have hp1 : h2.get p = some (.cells 5 (obj S c)) := by rw [hkeep p hne (by omega)]; exact hp
  have p0 := (put_obj hp1 hS1).1
  have cS := cells_one hS1
  have l1 := lit_one _ ho
  refine ⟨Q', h2.set p (.cells 5 (obj S' c)), ?_, ⟨⟨S', by rw [AH.get_set, if_pos rfl], hs1.put hne' _⟩, by simp; omega, hne'⟩, r3.trans ⟨by simpa using hnx, ?_, fun j k1 k2 k3 => by rw [AH.get_set, if_neg k2, hkeep j k3 (by omega)]⟩⟩
  · unfold obj at hp p0 hp1
    unfold obj
    rw [show n + 2 = (n + 1) + 1 from rfl]
    generalize hr : run E (n + 1) = R at r1
    rw [run, hr]
    simp [Try.func23, Try.f23, Try.func37, Try.f37, stepTask, stepCall, bodyA, stepCode, stepOps, List.range_succ, step1, wantedA, stepOp, execA, evA, putA, ofV, builtinA, binA, unA, resultsA, resA, indexAddrA, fieldAddrA, storeA, cells_i, cells_own, callFnA, E_P, E_fun, E_mode, E_hook, E_phook, E_ext, E_own, E_glob, Try.underlying2, Try.underlying22, Try.underlying3, Try.underlying38, sz2, sz22, sz3, agg2, agg22, agg3, intA, loadA, cellsAt, tk0, tk1, tk2, tk3, tk4, undefA, hp, r1, l1, a1, hp1, p0, cS]
  · rcases hown with rfl | rfl
    · exact .inl rfl
    · exact .inr ⟨_, rfl, Nat.le_refl _⟩

theorem ref_hold_none {h : AH} {p : Nat} {Q : Option Nat} {L : List AV} {c : Cnt} (hl : Lane h p Q L c) {i : Int} (hi : ¬ (0 ≤ i ∧ i < (L.length : Int))) (n : Nat) :
    run E (n + 2) (.call 23 [.p (some (p, 0)), .i .i64 i] h) = some (.ret (.b false) h) := by
  have r1 := ref_out_none hl hi n
  rw [show n + 2 = (n + 1) + 1 from rfl]
  generalize hr : run E (n + 1) = R at r1
  rw [run, hr]
  simp [Try.func23, Try.f23, Try.func37, Try.f37, stepTask, stepCall, bodyA, stepCode, stepOps, List.range_succ, step1, wantedA, stepOp, execA, evA, putA, ofV, builtinA, binA, unA, resultsA, resA, indexAddrA, fieldAddrA, storeA, cells_i, cells_own, callFnA, E_P, E_fun, E_mode, E_hook, E_phook, E_ext, E_own, E_glob, Try.underlying2, Try.underlying22, Try.underlying3, Try.underlying38, sz2, sz22, sz3, agg2, agg22, agg3, intA, loadA, cellsAt, tk0, tk1, tk2, tk3, tk4, undefA, r1]

theorem ref_double_none {h : AH} {p : Nat} {Q : Option Nat} {L : List AV} {c : Cnt} (hl : Lane h p Q L c) {i : Int} (hi : ¬ (0 ≤ i ∧ i < (L.length : Int))) (n : Nat) :
    run E (n + 1) (.call 22 [.p (some (p, 0)), .i .i64 i] h) = some (.ret (.b false) h) := by
  obtain ⟨⟨S, hp, hs⟩, hlt, hne⟩ := hl
  have lS : lenA Try.prog h 22 S = some (.i .i64 L.length) := by cases hs <;> simp [lenA, Try.underlying22]
  unfold obj at hp
  rw [run]
  by_cases h0 : i < 0
  · simp [Try.func22, Try.f22, stepTask, stepCall, bodyA, stepCode, stepOps, List.range_succ, step1, wantedA, stepOp, execA, evA, putA, ofV, builtinA, binA, unA, resultsA, resA, indexAddrA, fieldAddrA, storeA, cells_i, cells_own, callFnA, E_P, E_fun, E_mode, E_hook, E_phook, E_ext, E_own, E_glob, Try.underlying2, Try.underlying22, Try.underlying3, Try.underlying38, sz2, sz22, sz3, agg2, agg22, agg3, intA, loadA, cellsAt, tk0, tk1, tk2, tk3, tk4, undefA, hp, lS, h0]
  · have h1 : (L.length : Int) ≤ i := by omega
    simp [Try.func22, Try.f22, stepTask, stepCall, bodyA, stepCode, stepOps, List.range_succ, step1, wantedA, stepOp, execA, evA, putA, ofV, builtinA, binA, unA, resultsA, resA, indexAddrA, fieldAddrA, storeA, cells_i, cells_own, callFnA, E_P, E_fun, E_mode, E_hook, E_phook, E_ext, E_own, E_glob, Try.underlying2, Try.underlying22, Try.underlying3, Try.underlying38, sz2, sz22, sz3, agg2, agg22, agg3, intA, loadA, cellsAt, tk0, tk1, tk2, tk3, tk4, undefA, hp, lS, h0, h1]

theorem ref_double {h : AH} {p : Nat} {Q : Option Nat} {L : List AV} {c : Cnt} (hl : Lane h p Q L c) (hb : L.length < 4096) (hone : L.all AV.one = true) (hc : c.ok 1000000) {i : Nat} (hi : i < L.length) (hbe : (L[i]).beq L[i] = true) (n : Nat) :
    ∃ Q' h', run E (n + 1) (.call 22 [.p (some (p, 0)), .i .i64 i] h) = some (.ret (.b true) h') ∧ Lane h' p Q' (L ++ [L[i]]) { c with m := c.m + 1 } ∧ Fm h h' p Q Q' := by
  obtain ⟨⟨S, hp, hs⟩, hlt, hne⟩ := hl
  cases hs with
  | nil0 => simp at hi
  | @own0 q cs _ hq ht hll hcc hn =>
  have ho : (L[i]).one = true := List.all_eq_true.1 hone _ (List.getElem_mem hi)
  have hqp : q ≠ p := fun e => hne (by rw [e])
  have hv : cs[i]? = some L[i] := by
    have : L[i]? = some L[i] := List.getElem?_eq_getElem hi
    rw [← this]
    conv => rhs; rw [← ht]
    rw [List.getElem?_take, if_pos hi]
  have tk := takeN_get hv
  have b1 := lit_none h
  have e1 := Sl.empty h
  have hpA : (h.new (.cells 1 [])).get p = some (.cells 5 (obj (.own q 0 L.length none) c)) := by rw [AH.get_new, if_neg (by omega)]; exact hp
  have hqA : (h.new (.cells 1 [])).get q = some (.cells 1 cs) := by rw [AH.get_new, if_neg (by omega)]; exact hq
  have hnA : (h.new (.cells 1 [])).next = h.next + 1 := rfl
  have hkA : ∀ j, j < h.next → (h.new (.cells 1 [])).get j = h.get j := fun j hj => by rw [AH.get_new, if_neg (by omega)]
  generalize h.new (.cells 1 []) = hA at b1 e1 hpA hqA hnA hkA
  have m1 : moreA Try.prog hA 1 22 [.i .i64 0] (.own q 0 L.length none) = some (L, L.length) := by
    rw [moreA_own hqA (by omega), List.drop_zero, ht]
  obtain ⟨q1, h1, a1, s1, o1, n1, k1⟩ := app_gen e1 m1 hone (by simp; omega)
  rw [List.nil_append] at a1 s1
  have hp1 : h1.get p = some (.cells 5 (obj (.own q 0 L.length none) c)) := by rw [k1 p (by omega) (by omega)]; exact hpA
  have hq1 : h1.get q = some (.cells 1 cs) := by rw [k1 q (by omega) (by omega)]; exact hqA
  have hv1 : moreA Try.prog h1 1 22 [.i .i64 0] (.imm [L[i]] 1) = some ([L[i]], [L[i]].length) := by simp [moreA, Try.underlying22]
  obtain ⟨q2, h2, a2, s2, o2, n2, k2⟩ := app_gen s1 hv1 (by simp [ho]) (by simp; omega)
  have hp2 : h2.get p = some (.cells 5 (obj (.own q 0 L.length none) c)) := by
    rw [k2 p (by rcases o1 with e | e <;> omega) (by omega)]; exact hp1
  have p0 := (put_at hp2 s2.one)
  have hp3 : (h2.set p (.cells 5 (obj (.own q2 0 (L ++ [L[i]]).length none) c))).get p = some (.cells 5 (obj (.own q2 0 (L ++ [L[i]]).length none) c)) := by rw [AH.get_set, if_pos rfl]
  have p1 := (put_obj hp3 (x := .i .i64 (c.m + 1)) rfl).2.2.2.2
  have w1 : IntKind.wrap .i64 (c.m + 1) = c.m + 1 := wrap_int (by have := hc.2.2.2; omega)
  have hq2 : h.next ≤ q2 := by rcases o2 with e | e <;> rcases o1 with e' | e' <;> omega
  have hne' : (some q2 : Option Nat) ≠ some p := by intro e; cases e; omega
  have l1 := lit_one _ ho
  refine ⟨some q2, (h2.set p (.cells 5 (obj (.own q2 0 (L ++ [L[i]]).length none) c))).set p (.cells 5 [.own q2 0 (L ++ [L[i]]).length none, .i .i64 c.s, .i .i64 c.t, .i .i64 c.d, .i .i64 (c.m + 1)]), ?_, ⟨⟨.own q2 0 (L ++ [L[i]]).length none, by rw [AH.get_set, if_pos rfl]; rfl, (s2.put hne' _).put hne' _⟩, by simp; omega, hne'⟩, ⟨by simp; omega, .inr ⟨q2, rfl, hq2⟩, fun j j1 j2 j3 => by
    rw [AH.get_set, if_neg j2, AH.get_set, if_neg j2, k2 j (by rcases o1 with e | e <;> omega) (by omega), k1 j (by omega) (by omega), hkA j j1]⟩⟩
  have x0 : ¬ (i : Int) < 0 := by omega
  have x1 : ¬ (L.length : Int) ≤ i := by omega
  have x2 : (i : Int) < L.length := by omega
  have x3 : ¬ (4096 : Int) ≤ L.length := by omega
  unfold obj at hp hpA hp1 p0 hp2 hp3 p1
  unfold obj
  rw [List.length_append, List.length_singleton] at a2 p0 p1 hp3
  rw [run]
  simp [Try.func22, Try.f22, stepTask, stepCall, bodyA, stepCode, stepOps, List.range_succ, step1, wantedA, stepOp, execA, evA, putA, ofV, builtinA, binA, unA, resultsA, resA, indexAddrA, fieldAddrA, storeA, cells_i, cells_own, callFnA, E_P, E_fun, E_mode, E_hook, E_phook, E_ext, E_own, E_glob, Try.underlying2, Try.underlying22, Try.underlying3, Try.underlying38, sz2, sz22, sz3, agg2, agg22, agg3, intA, loadA, cellsAt, tk0, tk1, tk2, tk3, tk4, undefA, kindA, stepDraw, runD, nthW, stable, valA, AV.beq, sliceA, optIntA, capLe, es3, lenA, hp, hq, hpA, hqA, b1, a1, hp1, hq1, l1, a2, p0, hp3, p1, w1, tk, x0, x1, x2, x3, hll, hbe, win22]
end Go.Proofs.Ytgiphcfpopgchaa
