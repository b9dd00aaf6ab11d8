/-
  The reference's lane on the abstract machine: appending, Send.
-/
import Derived.Test.YtgiphcfpopgchaaLaneX
namespace Go.Proofs.Ytgiphcfpopgchaa
open Go.Av
set_option maxRecDepth 100000
set_option maxHeartbeats 4000000
set_option linter.unusedSimpArgs false
set_option linter.unusedVariables false

theorem sz38 : szA Try.prog 38 = some 5 := by kernel_rfl
theorem agg38 : isAggA Try.prog 38 = some true := by kernel_rfl
theorem win37 : E.win 37 4 = some [(5, (0, 1)), (7, (0, 1)), (12, (0, 2)), (15, (0, 2))] := by kernel_rfl
theorem win22 : E.win 22 3 = some [(5, (0, 1)), (10, (0, 2)), (13, (0, 2))] := by kernel_rfl

theorem splice_all' {cs vs : List AV} {p : AV → Bool} (o : Nat) (h : cs.all p = true) (hv : vs.all p = true) : (splice cs o vs).all p = true := splice_all o h hv

/-- What a slice holds, as it is appended. -/
theorem more_sl {h : AH} {Q : Option Nat} {S : AV} {L z : List AV} (hs : Sl h Q S L) : moreA Try.prog h 1 22 z S = some (L, L.length) := by
  cases hs with
  | nil0 => simp [moreA, Try.underlying22]
  | own0 hq ht hl hc hn =>
    have := moreA_own (o := 0) (n := L.length) (cap := none) (z := z) hq (by omega)
    rw [List.drop_zero, ht] at this
    exact this

/-- append to a slice of one's own. -/
theorem app_gen {h : AH} {q : Nat} {R M : List AV} {S X : AV} (hs : Sl h (some q) S R) (hm : moreA Try.prog h 1 22 [.i .i64 0] X = some (M, M.length)) (ho : M.all AV.one = true) (hb : R.length + M.length ≤ 10000) :
    ∃ q' h', appendA Try.prog h 22 22 S X = some (.own q' 0 (R ++ M).length none, h') ∧ Sl h' (some q') (.own q' 0 (R ++ M).length none) (R ++ M) ∧ (q' = q ∨ q' = h.next) ∧ h.next ≤ h'.next ∧
      ∀ j, j ≠ q → j ≠ h.next → h'.get j = h.get j := by
  cases hs with
  | @own0 _ cs _ hq ht hl hc hn =>
  by_cases hr : R.length + M.length ≤ cs.length
  · refine ⟨q, h.set q (.cells 1 (splice cs R.length M)), ?_, ?_, .inl rfl, Nat.le_refl _, fun j h1 h2 => by rw [AH.get_set, if_neg h1]⟩
    · unfold appendA
      simp only [el22, es3, z3, by3, AV.cells, List.length_singleton]
      rw [if_pos (by decide), hm]
      simp only
      rw [if_pos ⟨ho, by simp only [room]; omega⟩, hq]
      simp only
      rw [if_pos ⟨trivial, by simp only [room]; omega, by omega⟩, if_pos (by omega)]
      unfold putCells
      simp only [hq]
      rw [if_pos (by simp [ho]; omega)]
      simp
    · refine .own0 (cs := splice cs R.length M) (by rw [AH.get_set, if_pos rfl]) ?_ (by rw [splice_length _ _ _ (by omega)]; simp; omega) (splice_all _ hc ho) hn
      rw [show splice cs R.length M = (R ++ M) ++ cs.drop (R.length + M.length) by simp [splice, ht]]
      exact List.take_left' rfl
  · refine ⟨h.next, (h.del q).new (.cells 1 (R ++ M)), ?_, ?_, .inr rfl, by simp, fun j h1 h2 => by rw [AH.get_new, AH.next_del, if_neg h2, AH.get_del, if_neg h1]⟩
    · unfold appendA
      simp only [el22, es3, z3, by3, AV.cells, List.length_singleton]
      rw [if_pos (by decide), hm]
      simp only
      rw [if_pos ⟨ho, by simp only [room]; omega⟩, hq]
      simp only
      rw [if_pos ⟨trivial, by simp only [room]; omega, by omega⟩, if_neg (by omega)]
      simp [ht]
    · refine .own0 (cs := R ++ M) (by rw [AH.get_new]; simp) (List.take_of_length_le (Nat.le_refl _)) (by simp) ?_ (by simp)
      rw [List.all_append, Bool.and_eq_true]
      refine ⟨?_, ho⟩
      rw [← ht]
      simpa using all_take hc 0 R.length

/-- The empty slice of the text, on a block of its own. -/
theorem lit_none (h : AH) : buildSliceA Try.prog h 22 0 [] = some (.own h.next 0 0 none, h.new (.cells 1 [])) := by
  unfold buildSliceA
  simp only [el22, es3, z3]
  rw [if_pos (by decide)]
  rfl

theorem Sl.empty (h : AH) : Sl (h.new (.cells 1 [])) (some h.next) (.own h.next 0 0 none) [] :=
  .own0 (cs := []) (by rw [AH.get_new]; simp) rfl (Nat.le_refl _) rfl (by simp)

theorem Sl.keep {h h' : AH} {Q : Option Nat} {S : AV} {L : List AV} (hs : Sl h Q S L) (hk : ∀ j, Q = some j → h'.get j = h.get j) (hn : h.next ≤ h'.next) : Sl h' Q S L := by
  cases hs with
  | nil0 => exact .nil0
  | own0 hq ht hl hc hn' => exact .own0 (by rw [hk _ rfl]; exact hq) ht hl hc (by omega)

theorem Sl.lt {h : AH} {q : Nat} {S : AV} {L : List AV} (hs : Sl h (some q) S L) : q < h.next := by
  cases hs with | own0 hq ht hl hc hn => exact hn

/-- An object of five. -/
theorem put_at {h : AH} {p : Nat} {S : AV} {c : Cnt} (hp : h.get p = some (.cells 5 (obj S c))) {S' : AV} (hx : S'.one = true) : putCells h p 0 [S'] = some (h.set p (.cells 5 (obj S' c))) := (put_obj hp hx).1

theorem ref_send {h : AH} {p : Nat} {Q : Option Nat} {L : List AV} {c : Cnt} (hl : Lane h p Q L c) (hb : L.length < 4096) (hc : c.ok 1000000) (hone : L.all AV.one = true) {v : AV} (ho : v.one = true) (n : Nat) :
    ∃ Q' h', run E (n + 1) (.call 19 [.p (some (p, 0)), v] h) = some (.ret (.b true) h') ∧ Lane h' p Q' (L ++ [v]) { c with s := c.s + 1 } ∧ Fm h h' p Q Q' := by
  obtain ⟨⟨S, hp, hs⟩, hlt, hne⟩ := hl
  have b1 := lit_none h
  have e1 := Sl.empty h
  have hsA : Sl (h.new (.cells 1 [])) Q S L := hs.keep (fun j e => by rw [AH.get_new, if_neg (by subst e; have := hs.lt; omega)]) (by simp)
  have hpA : (h.new (.cells 1 [])).get p = some (.cells 5 (obj S c)) := by rw [AH.get_new, if_neg (by omega)]; exact hp
  have hnA : (h.new (.cells 1 [])).next = h.next + 1 := rfl
  have hkA : ∀ j, j < h.next → (h.new (.cells 1 [])).get j = h.get j := fun j hj => by rw [AH.get_new, if_neg (by omega)]
  generalize h.new (.cells 1 []) = hA at b1 e1 hsA hpA hnA hkA
  obtain ⟨q1, h1, a1, s1, o1, n1, k1⟩ := app_gen e1 (more_sl hsA) hone (by simp; omega)
  rw [List.nil_append] at a1 s1
  have hv1 : moreA Try.prog h1 1 22 [.i .i64 0] (.imm [v] 1) = some ([v], [v].length) := by simp [moreA, Try.underlying22]
  obtain ⟨q2, h2, a2, s2, o2, n2, k2⟩ := app_gen s1 hv1 (by simp [ho]) (by simp; omega)
  have hp2 : h2.get p = some (.cells 5 (obj S c)) := by
    rw [k2 p (by rcases o1 with e | e <;> omega) (by omega), k1 p (by omega) (by omega)]; exact hpA
  have p0 := (put_at hp2 s2.one)
  have hp3 : (h2.set p (.cells 5 (obj (.own q2 0 (L ++ [v]).length none) c))).get p = some (.cells 5 (obj (.own q2 0 (L ++ [v]).length none) c)) := by rw [AH.get_set, if_pos rfl]
  have p1 := (put_obj hp3 (x := .i .i64 (c.s + 1)) rfl).2.1
  have w1 : IntKind.wrap .i64 (c.s + 1) = c.s + 1 := wrap_int (by have := hc.1; omega)
  have hq2 : h.next ≤ q2 := by rcases o2 with e | e <;> rcases o1 with e' | e' <;> omega
  have hne' : (some q2 : Option Nat) ≠ some p := by intro e; cases e; omega
  have l1 := lit_one v ho
  refine ⟨some q2, (h2.set p (.cells 5 (obj (.own q2 0 (L ++ [v]).length none) c))).set p (.cells 5 [.own q2 0 (L ++ [v]).length none, .i .i64 (c.s + 1), .i .i64 c.t, .i .i64 c.d, .i .i64 c.m]), ?_, ⟨⟨.own q2 0 (L ++ [v]).length none, by rw [AH.get_set, if_pos rfl]; rfl, (s2.put hne' _).put hne' _⟩, by simp; omega, hne'⟩, ⟨by simp; omega, .inr ⟨q2, rfl, hq2⟩, fun j j1 j2 j3 => by
    rw [AH.get_set, if_neg j2, AH.get_set, if_neg j2, k2 j (by rcases o1 with e | e <;> omega) (by omega), k1 j (by omega) (by omega), hkA j j1]⟩⟩
  have lS : lenA Try.prog h 22 S = some (.i .i64 L.length) := by cases hs <;> simp [lenA, Try.underlying22]
  have x1 : ¬ (4096 : Int) ≤ L.length := by omega
  unfold obj at hp hpA p0 hp2 hp3 p1
  unfold obj
  generalize run E n = R
  rw [List.length_append, List.length_singleton] at a2 p0 p1 hp3
  simp [run, Try.func19, Try.f19, stepTask, stepCall, bodyA, stepCode, stepOps, List.range_succ, step1, wantedA, stepOp, execA, evA, putA, ofV, builtinA, binA, unA, resultsA, resA, indexAddrA, fieldAddrA, storeA, cells_i, cells_own, callFnA, E_P, E_fun, E_mode, E_hook, E_phook, E_ext, E_own, E_glob, Try.underlying2, Try.underlying22, Try.underlying3, Try.underlying38, sz2, sz22, sz3, agg2, agg22, agg3, intA, loadA, cellsAt, tk0, tk1, tk2, tk3, tk4, undefA, hp, hpA, lS, x1, b1, a1, l1, a2, p0, hp3, p1, w1]
theorem ref_out_none {h : AH} {p : Nat} {Q : Option Nat} {L : List AV} {c : Cnt} (hl : Lane h p Q L c) {i : Int} (hi : ¬ (0 ≤ i ∧ i < (L.length : Int))) (n : Nat) :
    run E (n + 1) (.call 37 [.p (some (p, 0)), .i .i64 i] h) = some (.ret (.tup [.i .i64 0, .b false]) h) := by
  obtain ⟨⟨S, hp, hs⟩, hlt, hne⟩ := hl
  have lS : lenA Try.prog h 22 S = some (.i .i64 L.length) := by cases hs <;> simp [lenA, Try.underlying22]
  unfold obj at hp
  rw [run]
  by_cases h0 : i < 0
  · simp [Try.func37, Try.f37, stepTask, stepCall, bodyA, stepCode, stepOps, List.range_succ, step1, wantedA, stepOp, execA, evA, putA, ofV, builtinA, binA, unA, resultsA, resA, indexAddrA, fieldAddrA, storeA, cells_i, cells_own, callFnA, E_P, E_fun, E_mode, E_hook, E_phook, E_ext, E_own, E_glob, Try.underlying2, Try.underlying22, Try.underlying3, Try.underlying38, sz2, sz22, sz3, agg2, agg22, agg3, intA, loadA, cellsAt, tk0, tk1, tk2, tk3, tk4, undefA, hp, lS, h0]
  · have h1 : (L.length : Int) ≤ i := by omega
    simp [Try.func37, Try.f37, stepTask, stepCall, bodyA, stepCode, stepOps, List.range_succ, step1, wantedA, stepOp, execA, evA, putA, ofV, builtinA, binA, unA, resultsA, resA, indexAddrA, fieldAddrA, storeA, cells_i, cells_own, callFnA, E_P, E_fun, E_mode, E_hook, E_phook, E_ext, E_own, E_glob, Try.underlying2, Try.underlying22, Try.underlying3, Try.underlying38, sz2, sz22, sz3, agg2, agg22, agg3, intA, loadA, cellsAt, tk0, tk1, tk2, tk3, tk4, undefA, hp, lS, h0, h1]

theorem ref_out {h : AH} {p : Nat} {Q : Option Nat} {L : List AV} {c : Cnt} (hl : Lane h p Q L c) (hb : L.length ≤ 4096) (hone : L.all AV.one = true) {i : Nat} (hi : i < L.length) (n : Nat) :
    ∃ Q' h', run E (n + 1) (.call 37 [.p (some (p, 0)), .i .i64 i] h) = some (.ret (.tup [L[i], .b true]) h') ∧ Lane h' p Q' (L.eraseIdx i) c ∧ Fm h h' p Q Q' := by
  obtain ⟨⟨S, hp, hs⟩, hlt, hne⟩ := hl
  cases hs with
  | nil0 => simp at hi
  | @own0 q cs _ hq ht hll hcc hn =>
  have hqp : q ≠ p := fun e => hne (by rw [e])
  have hv : cs[i]? = some L[i] := by
    have : L[i]? = some L[i] := List.getElem?_eq_getElem hi
    rw [← this]
    conv => rhs; rw [← ht]
    rw [List.getElem?_take, if_pos hi]
  have tk := takeN_get hv
  have b1 := lit_none h
  have e1 := Sl.empty h
  have hpA : (h.new (.cells 1 [])).get p = some (.cells 5 (obj (.own q 0 L.length none) c)) := by rw [AH.get_new, if_neg (by omega)]; exact hp
  have hqA : (h.new (.cells 1 [])).get q = some (.cells 1 cs) := by rw [AH.get_new, if_neg (by omega)]; exact hq
  have hnA : (h.new (.cells 1 [])).next = h.next + 1 := rfl
  have hkA : ∀ j, j < h.next → (h.new (.cells 1 [])).get j = h.get j := fun j hj => by rw [AH.get_new, if_neg (by omega)]
  generalize h.new (.cells 1 []) = hA at b1 e1 hpA hqA hnA hkA
  have hLt : (L.take i).length = i := by rw [List.length_take]; omega
  have hLd : (L.drop (i + 1)).length = L.length - (i + 1) := by rw [List.length_drop]
  have ctake : (cs.drop 0).take i = L.take i := by
    conv => rhs; rw [← ht]
    rw [List.take_take, Nat.min_eq_left (by omega), List.drop_zero]
  have cdrop : (cs.drop (i + 1)).take (L.length - (i + 1)) = L.drop (i + 1) := by
    conv => rhs; rw [← ht]
    rw [List.drop_take]
  have m1 : moreA Try.prog hA 1 22 [.i .i64 0] (.own q 0 i none) = some (L.take i, (L.take i).length) := by
    rw [moreA_own hqA (by omega), ctake, hLt]
  obtain ⟨q1, h1, a1, s1, o1, n1, k1⟩ := app_gen e1 m1 (by simpa using all_take hone 0 i) (by simp; omega)
  rw [List.nil_append] at a1 s1
  have hp1 : h1.get p = some (.cells 5 (obj (.own q 0 L.length none) c)) := by rw [k1 p (by omega) (by omega)]; exact hpA
  have hq1 : h1.get q = some (.cells 1 cs) := by rw [k1 q (by omega) (by omega)]; exact hqA
  have m2 : moreA Try.prog h1 1 22 [.i .i64 0] (.own q (i + 1) (L.length - (i + 1)) none) = some (L.drop (i + 1), (L.drop (i + 1)).length) := by
    rw [moreA_own hq1 (by omega), cdrop, hLd]
  obtain ⟨q2, h2, a2, s2, o2, n2, k2⟩ := app_gen s1 m2 (List.all_eq_true.2 fun x hx => List.all_eq_true.1 hone x (List.mem_of_mem_drop hx)) (by rw [hLt, hLd]; omega)
  rw [← List.eraseIdx_eq_take_drop_succ] at a2 s2
  have hlen : (L.eraseIdx i).length = L.length - 1 := by rw [List.length_eraseIdx, if_pos hi]
  have hp2 : h2.get p = some (.cells 5 (obj (.own q 0 L.length none) c)) := by
    rw [k2 p (by rcases o1 with e | e <;> omega) (by omega)]; exact hp1
  have p0 := (put_at hp2 s2.one)
  have hq2 : h.next ≤ q2 := by rcases o2 with e | e <;> rcases o1 with e' | e' <;> omega
  have hne' : (some q2 : Option Nat) ≠ some p := by intro e; cases e; omega
  refine ⟨some q2, h2.set p (.cells 5 (obj (.own q2 0 (L.eraseIdx i).length none) c)), ?_, ⟨⟨_, by rw [AH.get_set, if_pos rfl], s2.put hne' _⟩, by simp; omega, hne'⟩, ⟨by simp; omega, .inr ⟨q2, rfl, hq2⟩, fun j j1 j2 j3 => by
    rw [AH.get_set, if_neg j2, k2 j (by rcases o1 with e | e <;> omega) (by omega), k1 j (by omega) (by omega), hkA j j1]⟩⟩
  have x0 : ¬ (i : Int) < 0 := by omega
  have x1 : ¬ (L.length : Int) ≤ i := by omega
  have x2 : (i : Int) < L.length := by omega
  have x3 : (i : Int) ≤ L.length := by omega
  have x4 : IntKind.wrap .i64 ((i : Int) + 1) = (i : Int) + 1 := wrap_int (by omega)
  have x5 : (i : Int) + 1 ≤ L.length := by omega
  have x6 : ((i : Int) + 1).toNat = i + 1 := by omega
  have x7 : (0 : Int) ≤ (i : Int) + 1 := by omega
  have x8 : i ≤ cs.length := by omega
  rw [hLt] at a1 a2
  unfold obj at hp hpA hp1 p0 hp2
  unfold obj
  rw [run]
  simp [Try.func37, Try.f37, stepTask, stepCall, bodyA, stepCode, stepOps, List.range_succ, step1, wantedA, stepOp, execA, evA, putA, ofV, builtinA, binA, unA, resultsA, resA, indexAddrA, fieldAddrA, storeA, cells_i, cells_own, callFnA, E_P, E_fun, E_mode, E_hook, E_phook, E_ext, E_own, E_glob, Try.underlying2, Try.underlying22, Try.underlying3, Try.underlying38, sz2, sz22, sz3, agg2, agg22, agg3, intA, loadA, cellsAt, tk0, tk1, tk2, tk3, tk4, undefA, kindA, stepDraw, runD, nthW, stable, valA, AV.beq, sliceA, optIntA, capLe, es3, lenA, hp, hq, hpA, hqA, b1, a1, hp1, hq1, a2, p0, tk, x0, x1, x2, x3, x4, x5, x6, x7, x8, hll, win37]
end Go.Proofs.Ytgiphcfpopgchaa
