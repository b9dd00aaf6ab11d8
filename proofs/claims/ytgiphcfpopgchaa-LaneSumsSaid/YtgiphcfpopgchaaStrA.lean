/-
  The contracts of the lane of strings, on the abstract machine.
-/
import Derived.Test.YtgiphcfpopgchaaLaneX
namespace Go.Proofs.Ytgiphcfpopgchaa.Str
open Go.Av
set_option maxRecDepth 100000
set_option maxHeartbeats 4000000
set_option linter.unusedSimpArgs false
set_option linter.unusedVariables false

theorem sz47 : szA Try.prog 47 = some 1 := by kernel_rfl
theorem sz9 : szA Try.prog 9 = some 1 := by kernel_rfl
theorem agg47 : isAggA Try.prog 47 = some false := by kernel_rfl
theorem agg9 : isAggA Try.prog 9 = some false := by kernel_rfl
theorem cells_s (x : ByteArray) : (AV.s x).cells = [.s x] := rfl

theorem el47 : elemA Try.prog 47 = some 9 := by kernel_rfl

theorem es9 : esA Try.prog 9 = some 1 := by kernel_rfl

theorem z9 : zeroA Try.prog 9 = some (.s ⟨#[]⟩) := by kernel_rfl

theorem by9 : bytesA Try.prog 9 = some 16 := by kernel_rfl

theorem win43 : E.win 43 5 = some [] := by kernel_rfl

def delCells (cs : List AV) (i len : Nat) : List AV := splice (splice cs i ((cs.drop (i + 1)).take (len - (i + 1)))) (len - 1) [.s ⟨#[]⟩]

theorem moreA_own {h : AH} {q o n : Nat} {cap : Option Nat} {z cs : List AV} (hq : h.get q = some (.cells 1 cs)) (hl : o + n ≤ cs.length) : moreA Try.prog h 1 47 z (.own q o n cap) = some ((cs.drop o).take n, n) := by
  unfold moreA
  simp only [Try.underlying47]
  split
  · rename_i hn; subst hn; simp
  · simp only [sliceCells, hq, if_true, takeN, Nat.mul_one]
    rw [if_pos (by simp; omega)]; rfl

theorem app_del {h : AH} {q i m : Nat} {cs : List AV} (hq : h.get q = some (.cells 1 cs)) (hl : i + 1 + m ≤ cs.length) (hc : cs.all AV.one = true) (hb : i + m ≤ 5000) :
    appendA Try.prog h 47 47 (.own q 0 i none) (.own q (i + 1) m none) = some (.own q 0 (i + m) none, h.set q (.cells 1 (splice cs i ((cs.drop (i + 1)).take m)))) := by
  unfold appendA
  simp only [el47, es9, z9, by9, AV.cells, List.length_singleton]
  rw [if_pos (by decide), moreA_own hq hl]
  simp only
  rw [if_pos ⟨all_take hc _ _, by simp only [room]; omega⟩, hq]
  simp only
  rw [if_pos ⟨trivial, by simp only [room]; omega, by omega⟩, if_pos (by omega)]
  unfold putCells
  simp only [hq, Nat.mul_one, Nat.zero_add]
  rw [if_pos (by rw [Bool.and_eq_true]; exact ⟨all_take hc _ _, by simp; omega⟩)]
  rfl

theorem clear_one {h : AH} {q i : Nat} {cap : Option Nat} {cs : List AV} (hq : h.get q = some (.cells 1 cs)) (hl : i < cs.length) :
    clearA Try.prog h 47 (.own q i 1 cap) = some (.tup [], h.set q (.cells 1 (splice cs i [.s ⟨#[]⟩]))) := by
  unfold clearA
  simp only [Try.underlying47, es9, z9, AV.cells, List.length_singleton]
  rw [if_neg (by omega), if_pos (by decide)]
  unfold putCells
  simp only [hq, repZ, List.append_nil]
  rw [if_pos (by simp [AV.one]; omega)]
  rfl

theorem del_run {h : AH} {q len i : Nat} {cs : List AV} (hq : h.get q = some (.cells 1 cs)) (hi : i < len) (hl : len ≤ cs.length) (hc : cs.all AV.one = true) (hb : len ≤ 5000) (n : Nat) :
    run E (n + 1) (.call 43 [.own q 0 len none, .i .i64 i, .i .i64 ((i : Int) + 1)] h) = some (.ret (.own q 0 (len - 1) none) ((h.set q (.cells 1 (splice cs i ((cs.drop (i + 1)).take (len - (i + 1)))))).set q (.cells 1 (delCells cs i len)))) := by
  have e1 : ((i : Int) == (i : Int) + 1) = false := by simp; omega
  have e2 : ((i : Int) ≤ (i : Int) + 1) := by omega
  have e3 : ((i : Int) + 1 ≤ len) := by omega
  have e4 : ((i : Int) ≤ len) := by omega
  have e5 : i ≤ cs.length := by omega
  have e6 : ((i : Int) + 1).toNat = i + 1 := by omega
  have e7 : i + (len - (i + 1)) = len - 1 := by omega
  have e11 : (0 : Int) ≤ (i : Int) + 1 := by omega
  have a1 := app_del (i := i) (m := len - (i + 1)) hq (by omega) hc (by omega)
  rw [e7] at a1
  have hq1 : (h.set q (.cells 1 (splice cs i ((cs.drop (i + 1)).take (len - (i + 1)))))).get q = some (.cells 1 (splice cs i ((cs.drop (i + 1)).take (len - (i + 1))))) := by rw [AH.get_set]; simp
  have hl1 : (splice cs i ((cs.drop (i + 1)).take (len - (i + 1)))).length = cs.length := splice_length _ _ _ (by simp; omega)
  have c1 := clear_one (i := len - 1) (cap := none) hq1 (by rw [hl1]; omega)
  have e8 : ((len - 1 : Nat) : Int) ≤ len := by omega
  have e9 : len - (len - 1) = 1 := by omega
  have e10 : len ≤ (splice cs i ((cs.drop (i + 1)).take (len - (i + 1)))).length := by omega
  simp [run, stepTask, stepCall, bodyA, stepCode, stepOps, List.range_succ, step1, wantedA, stepOp, execA, evA, putA, ofV, builtinA, lenA, binA, resultsA, resA, sliceA,
    E_P, E_fun, E_mode, E_hook, E_phook, E_ext, E_own, E_glob, Try.func43, Try.f43,  Try.underlying47, Try.underlying3, Try.underlying9, es9, hq, intA, optIntA, capLe, kindA, stepDraw, runD, nthW, win43, e1, e2, e3, hl, e4, e5, e6, a1, hq1, c1, e8, e9, e10, e11, delCells]

theorem full_run {h : AH} {k q L : Nat} {a b c d : AV} (hk : h.get k = some (.cells 5 [.own q 0 L none, a, b, c, d])) (n : Nat) :
    run E (n + 1) (.call 38 [.p (some (k, 0))] h) = some (.ret (.b (decide (4096 ≤ (L : Int)))) h) := by
  simp [run, stepTask, stepCall, E_P, E_fun, E_mode, E_hook, E_phook, E_ext, E_own, E_glob, Try.func38, bodyA, Try.f38, stepCode, stepOps, List.range_succ, step1, wantedA, stepOp, execA, evA, putA, ofV, fieldAddrA, Try.underlying54, Try.underlying47, Try.underlying3, sz47, sz9, agg9, Try.underlying9, cells_s, loadA, agg47, cellsAt, hk, takeN, builtinA, lenA, binA, resultsA, resA]

theorem full_run0 {h : AH} {k : Nat} {a b c d : AV} (hk : h.get k = some (.cells 5 [.nsl, a, b, c, d])) (n : Nat) :
    run E (n + 1) (.call 38 [.p (some (k, 0))] h) = some (.ret (.b false) h) := by
  simp [run, stepTask, stepCall, E_P, E_fun, E_mode, E_hook, E_phook, E_ext, E_own, E_glob, Try.func38, bodyA, Try.f38, stepCode, stepOps, List.range_succ, step1, wantedA, stepOp, execA, evA, putA, ofV, fieldAddrA, Try.underlying54, Try.underlying47, Try.underlying3, sz47, sz9, agg9, Try.underlying9, cells_s, loadA, agg47, cellsAt, hk, takeN, builtinA, lenA, binA, resultsA, resA]

theorem has_run {h : AH} {k q L : Nat} {i : Int} {a b c d : AV} (hk : h.get k = some (.cells 5 [.own q 0 L none, a, b, c, d])) (n : Nat) :
    run E (n + 1) (.call 39 [.p (some (k, 0)), .i .i64 i] h) = some (.ret (.b (decide (0 ≤ i ∧ i < L))) h) := by
  by_cases h0 : 0 ≤ i
  · simp [run, stepTask, stepCall, E_P, E_fun, E_mode, E_hook, E_phook, E_ext, E_own, E_glob, Try.func39, bodyA, Try.f39, stepCode, stepOps, List.range_succ, step1, wantedA, stepOp, execA, evA, putA, ofV, fieldAddrA, Try.underlying54, Try.underlying47, Try.underlying3, sz47, sz9, agg9, Try.underlying9, cells_s, loadA, agg47, cellsAt, hk, takeN, builtinA, lenA, binA, resultsA, resA, h0, undefA]
  · simp [run, stepTask, stepCall, E_P, E_fun, E_mode, E_hook, E_phook, E_ext, E_own, E_glob, Try.func39, bodyA, Try.f39, stepCode, stepOps, List.range_succ, step1, wantedA, stepOp, execA, evA, putA, ofV, fieldAddrA, Try.underlying54, Try.underlying47, Try.underlying3, sz47, sz9, agg9, Try.underlying9, cells_s, loadA, agg47, cellsAt, hk, takeN, builtinA, lenA, binA, resultsA, resA, h0, undefA]

theorem has_run0 {h : AH} {k : Nat} {i : Int} {a b c d : AV} (hk : h.get k = some (.cells 5 [.nsl, a, b, c, d])) (n : Nat) :
    run E (n + 1) (.call 39 [.p (some (k, 0)), .i .i64 i] h) = some (.ret (.b false) h) := by
  by_cases h0 : 0 ≤ i
  · have h1 : ¬ i < 0 := by omega
    simp [run, stepTask, stepCall, E_P, E_fun, E_mode, E_hook, E_phook, E_ext, E_own, E_glob, Try.func39, bodyA, Try.f39, stepCode, stepOps, List.range_succ, step1, wantedA, stepOp, execA, evA, putA, ofV, fieldAddrA, Try.underlying54, Try.underlying47, Try.underlying3, sz47, sz9, agg9, Try.underlying9, cells_s, loadA, agg47, cellsAt, hk, takeN, builtinA, lenA, binA, resultsA, resA, h0, undefA, h1]
  · simp [run, stepTask, stepCall, E_P, E_fun, E_mode, E_hook, E_phook, E_ext, E_own, E_glob, Try.func39, bodyA, Try.f39, stepCode, stepOps, List.range_succ, step1, wantedA, stepOp, execA, evA, putA, ofV, fieldAddrA, Try.underlying54, Try.underlying47, Try.underlying3, sz47, sz9, agg9, Try.underlying9, cells_s, loadA, agg47, cellsAt, hk, takeN, builtinA, lenA, binA, resultsA, resA, h0, undefA]

def outH (h : AH) (p q : Nat) (cs : List AV) (i len : Nat) (a b c d : AV) : AH :=
  ((h.set q (.cells 1 (splice cs i ((cs.drop (i + 1)).take (len - (i + 1)))))).set q (.cells 1 (delCells cs i len))).set p (.cells 5 [.own q 0 (len - 1) none, a, b, c, d])

theorem out_run {h : AH} {p q len i : Nat} {a b c d v : AV} {cs : List AV} (hk : h.get p = some (.cells 5 [.own q 0 len none, a, b, c, d])) (hq : h.get q = some (.cells 1 cs)) (hpq : p ≠ q) (hi : i < len) (hl : len ≤ cs.length) (hc : cs.all AV.one = true) (hb : len ≤ 5000)
    (hone : [a, b, c, d].all AV.one = true) (hv : cs[i]? = some v) (n : Nat) :
    run E (n + 2) (.call 40 [.p (some (p, 0)), .i .i64 i] h) = some (.ret v (outH h p q cs i len a b c d)) := by
  have a1 := del_run hq hi hl hc hb n
  have e1 : (i : Int) < len := by omega
  have e2 : takeN cs i 1 = some [v] := by
    have hlt := (List.getElem?_eq_some_iff.1 hv).1
    have : (cs.drop i).take 1 = [v] := by
      rw [List.drop_eq_getElem_cons hlt, List.take_succ_cons, List.take_zero, (List.getElem?_eq_some_iff.1 hv).2]
    unfold takeN
    simp [this]
  have e3 : IntKind.wrap .i64 ((i : Int) + 1) = (i : Int) + 1 := wrap_int (by omega)
  have g1 : ∀ x y, ((h.set q x).set q y).get p = some (.cells 5 [.own q 0 len none, a, b, c, d]) := fun x y => by rw [AH.get_set, if_neg hpq, AH.get_set, if_neg hpq]; exact hk
  simp only [List.all_cons, List.all_nil, Bool.and_true, Bool.and_eq_true] at hone
  obtain ⟨o1, o2, o3, o4⟩ := hone
  have s1 : ∀ x y, putCells ((h.set q x).set q y) p 0 [.own q 0 (len - 1) none] = some (((h.set q x).set q y).set p (.cells 5 [.own q 0 (len - 1) none, a, b, c, d])) := fun x y => by
    unfold putCells
    simp [g1, AV.one, splice]
  rw [show n + 2 = (n + 1) + 1 from rfl]
  generalize hr : run E (n + 1) = R at a1
  rw [run, hr]
  simp [stepTask, stepCall, bodyA, stepCode, stepOps, List.range_succ, step1, wantedA, stepOp, execA, evA, putA, ofV, builtinA, lenA, binA, resultsA, resA, indexAddrA, fieldAddrA, storeA, AV.cells, callFnA,
    E_P, E_fun, E_mode, E_hook, E_phook, E_ext, E_own, E_glob, Try.func40, Try.f40, Try.func43, Try.f43, Try.underlying47, Try.underlying3, Try.underlying54, sz47, sz9, agg9, Try.underlying9, cells_s, sz3, agg47, agg3, hk, hq, intA, loadA, cellsAt, tk0, e1, e2, e3, a1, g1, s1, outH]

theorem app_one0 {h : AH} {v : AV} (ho : v.one = true) : appendA Try.prog h 47 47 .nsl (.imm [v] 1) = some (.own h.next 0 1 none, h.new (.cells 1 [v])) := by
  unfold appendA
  simp only [el47, es9, z9, by9, AV.cells, List.length_singleton]
  rw [if_pos (by decide)]
  have : moreA Try.prog h 1 47 [.s ⟨#[]⟩] (.imm [v] 1) = some ([v], 1) := by simp [moreA, Try.underlying47]
  rw [this]
  simp [ho, room, newSlice]

theorem app_one {h : AH} {q : Nat} {cs L : List AV} {v : AV} (hq : h.get q = some (.cells 1 cs)) (ht : cs.take L.length = L) (hl : L.length ≤ cs.length) (hc : cs.all AV.one = true) (hn : q < h.next) (ho : v.one = true) (hb : L.length ≤ 5000) :
    ∃ q' h', appendA Try.prog h 47 47 (.own q 0 L.length none) (.imm [v] 1) = some (.own q' 0 (L.length + 1) none, h') ∧ Sl h' (some q') (.own q' 0 (L ++ [v]).length none) (L ++ [v]) ∧ (q' = q ∨ q' = h.next) ∧ h.next ≤ h'.next ∧
      ∀ j, j ≠ q → j ≠ h.next → h'.get j = h.get j := by
  have hm : moreA Try.prog h 1 47 [.s ⟨#[]⟩] (.imm [v] 1) = some ([v], 1) := by simp [moreA, Try.underlying47]
  by_cases hr : L.length + 1 ≤ cs.length
  · refine ⟨q, h.set q (.cells 1 (splice cs L.length [v])), ?_, ?_, .inl rfl, Nat.le_refl _, fun j h1 h2 => by rw [AH.get_set, if_neg h1]⟩
    · unfold appendA
      simp only [el47, es9, z9, by9, AV.cells, List.length_singleton]
      rw [if_pos (by decide), hm]
      simp only
      rw [if_pos (by simp [ho, room]), hq]
      simp only
      rw [if_pos ⟨trivial, by simp only [room]; omega, by omega⟩, if_pos (by omega)]
      unfold putCells
      simp only [hq]
      rw [if_pos (by simp [ho]; omega)]
      simp
    · refine .own0 (cs := splice cs L.length [v]) (by rw [AH.get_set, if_pos rfl]) ?_ (by rw [splice_length _ _ _ (by simp; omega)]; simp; omega) ?_ hn
      · rw [show splice cs L.length [v] = (L ++ [v]) ++ cs.drop (L.length + 1) by simp [splice, ht]]
        exact List.take_left' rfl
      · simp only [splice, List.all_append, Bool.and_eq_true]
        simp only [List.all_eq_true] at hc ⊢
        exact ⟨⟨fun x hx => hc x (List.mem_of_mem_take hx), by simpa using ho⟩, fun x hx => hc x (List.mem_of_mem_drop hx)⟩
  · refine ⟨h.next, (h.del q).new (.cells 1 (L ++ [v])), ?_, ?_, .inr rfl, by simp, fun j h1 h2 => by rw [AH.get_new, AH.next_del, if_neg h2, AH.get_del, if_neg h1]⟩
    · unfold appendA
      simp only [el47, es9, z9, by9, AV.cells, List.length_singleton]
      rw [if_pos (by decide), hm]
      simp only
      rw [if_pos (by simp [ho, room]), hq]
      simp only
      rw [if_pos ⟨trivial, by simp only [room]; omega, by omega⟩, if_neg (by omega)]
      simp [ht]
    · have hLL : L = cs := by rw [← ht]; exact List.take_of_length_le (by omega)
      refine .own0 (cs := L ++ [v]) (by rw [AH.get_new]; simp) (List.take_of_length_le (Nat.le_refl _)) (by simp) ?_ (by simp)
      simp only [List.all_append, Bool.and_eq_true]
      exact ⟨by rw [hLL]; exact hc, by simpa using ho⟩

theorem lit_one (v : AV) (ho : v.one = true) : litSliceA Try.prog 47 1 [(0, v)] = some (.imm [v] 1) := by
  have hcell : v.cells = [v] := by cases v <;> simp_all [AV.one, AV.cells]
  unfold litSliceA
  simp only [el47, es9, z9]
  have hz : (AV.s ⟨#[]⟩).cells = [AV.s ⟨#[]⟩] := rfl
  have hz1 : (AV.s ⟨#[]⟩).one = true := rfl
  rw [if_pos (by simp [hz, hz1, hcell, ho])]
  simp [fillA, hcell, repZ, hz, splice]

theorem app_lane {h : AH} {Q : Option Nat} {S : AV} {L : List AV} (hs : Sl h Q S L) {v : AV} (ho : v.one = true) (hb : L.length < 5000) :
    ∃ Q' S' h1, appendA Try.prog h 47 47 S (.imm [v] 1) = some (S', h1) ∧ Sl h1 Q' S' (L ++ [v]) ∧ (Q' = Q ∨ Q' = some h.next) ∧ h.next ≤ h1.next ∧ ∀ j, Q ≠ some j → j ≠ h.next → h1.get j = h.get j := by
  cases hs with
  | nil0 => exact ⟨some h.next, _, _, app_one0 ho, .own0 (L := [v]) (cs := [v]) (by rw [AH.get_new]; simp) (by simp) (by simp) (by simp [ho]) (by simp), .inr rfl, by simp, fun j h1 h2 => by rw [AH.get_new, if_neg h2]⟩
  | @own0 q cs _ hq ht hl hc hn =>
    obtain ⟨q', h', b1, b2, b3, b4, b5⟩ := app_one hq ht hl hc hn ho (by omega)
    refine ⟨some q', _, h', b1, by simpa using b2, ?_, b4, fun j h1 h2 => b5 j (fun e => h1 (by rw [e])) h2⟩
    rcases b3 with rfl | rfl
    · exact .inl rfl
    · exact .inr rfl

theorem send_run {h : AH} {p : Nat} {Q : Option Nat} {L : List AV} {c : Cnt} (hl : Lane h p Q L c) (hb : L.length < 4096) (hc : c.ok 1000000) {v : AV} (ho : v.one = true) (n : Nat) :
    ∃ Q' h', run E (n + 2) (.call 25 [.p (some (p, 0)), v] h) = some (.ret (.b true) h') ∧ Lane h' p Q' (L ++ [v]) { c with s := c.s + 1 } ∧ Fm h h' p Q Q' := by
  obtain ⟨⟨S, hp, hs⟩, hlt, hne⟩ := hl
  have hfull : run E (n + 1) (.call 38 [.p (some (p, 0))] h) = some (.ret (.b false) h) := by
    cases hs with
    | nil0 => exact full_run0 hp n
    | own0 hq ht hl hc hn => rw [full_run hp n]; congr 3; simp; omega
  obtain ⟨Q', S', h1, a1, hs1, hown, hnx, hkeep⟩ := app_lane hs ho (by omega)
  have hne' : Q' ≠ some p := by
    rcases hown with rfl | rfl
    · exact hne
    · intro e; cases e; omega
  have hS1 : S'.one = true := hs1.one
  have hp1 : h1.get p = some (.cells 5 (obj S c)) := by rw [hkeep p hne (by omega)]; exact hp
  have p0 := (put_obj hp1 hS1).1
  have hp2 : (h1.set p (.cells 5 (obj S' c))).get p = some (.cells 5 (obj S' c)) := by rw [AH.get_set, if_pos rfl]
  have p1 := (put_obj hp2 (x := .i .i64 (c.s + 1)) rfl).2.1
  have w1 : IntKind.wrap .i64 (c.s + 1) = c.s + 1 := wrap_int (by have := hc.1; omega)
  unfold obj at hp hp1 hp2 p0 p1
  refine ⟨Q', (h1.set p (.cells 5 (obj S' c))).set p (.cells 5 [S', .i .i64 (c.s + 1), .i .i64 c.t, .i .i64 c.d, .i .i64 c.m]), ?_, ⟨⟨S', by rw [AH.get_set, if_pos rfl]; rfl, ((hs1.put hne' _).put hne' _)⟩, by simp; omega, hne'⟩, ⟨by simpa using hnx, ?_, fun j h2 h3 h4 => by rw [AH.get_set, if_neg h3, AH.get_set, if_neg h3, hkeep j h4 (by omega)]⟩⟩
  · rw [show n + 2 = (n + 1) + 1 from rfl]
    generalize hr : run E (n + 1) = R at hfull
    rw [run, hr]
    have l1 := lit_one v ho
    have cS := cells_one hS1
    simp [Try.func25, Try.f25, Try.func38, Try.f38, stepTask, stepCall, bodyA, stepCode, stepOps, List.range_succ, step1, wantedA, stepOp, execA, evA, putA, ofV, builtinA, lenA, binA, unA, resultsA, resA, indexAddrA, fieldAddrA, storeA, cells_i, cells_own, callFnA, E_P, E_fun, E_mode, E_hook, E_phook, E_ext, E_own, E_glob, Try.underlying2, Try.underlying47, Try.underlying3, Try.underlying54, sz2, sz47, sz9, agg9, Try.underlying9, cells_s, sz3, agg2, agg47, agg3, intA, loadA, cellsAt, tk0, tk1, tk2, tk3, tk4, undefA, hp, hfull, cS, l1, a1, hp1, p0, hp2, p1, w1, obj]
  · rcases hown with rfl | rfl
    · exact .inl rfl
    · exact .inr ⟨_, rfl, Nat.le_refl _⟩

theorem del_take {cs L : List AV} {i : Nat} (ht : cs.take L.length = L) (hl : L.length ≤ cs.length) (hi : i < L.length) : (delCells cs i L.length).take (L.eraseIdx i).length = L.eraseIdx i ∧ (delCells cs i L.length).length = cs.length := by
  have h1 : (splice cs i ((cs.drop (i + 1)).take (L.length - (i + 1)))).length = cs.length := splice_length _ _ _ (by simp; omega)
  have h2 : (delCells cs i L.length).length = cs.length := by unfold delCells; rw [splice_length _ _ _ (by simp; omega), h1]
  refine ⟨?_, h2⟩
  have hlen : (L.eraseIdx i).length = L.length - 1 := by rw [List.length_eraseIdx, if_pos hi]
  rw [hlen]
  have e1 : L.eraseIdx i = cs.take i ++ (cs.drop (i + 1)).take (L.length - (i + 1)) := by
    rw [List.eraseIdx_eq_take_drop_succ]
    conv => lhs; rw [← ht]
    rw [List.take_take, List.drop_take, Nat.min_eq_left (by omega)]
  have e2 : (cs.take i ++ (cs.drop (i + 1)).take (L.length - (i + 1))).length = L.length - 1 := by rw [← e1, hlen]
  unfold delCells
  rw [splice, List.append_assoc, List.take_append_of_le_length (by rw [List.length_take, h1]; omega), List.take_take, Nat.min_self, splice, List.take_append_of_le_length (by omega), List.take_of_length_le (by omega), e1]

theorem has_lane {h : AH} {p : Nat} {Q : Option Nat} {L : List AV} {c : Cnt} (hl : Lane h p Q L c) (i : Int) (n : Nat) : run E (n + 1) (.call 39 [.p (some (p, 0)), .i .i64 i] h) = some (.ret (.b (decide (0 ≤ i ∧ i < (L.length : Int)))) h) := by
  obtain ⟨⟨S, hp, hs⟩, hlt, hne⟩ := hl
  cases hs with
  | nil0 => rw [has_run0 hp n]; congr 3; simp
  | own0 hq ht hl hc hn => exact has_run hp n

theorem full_lane {h : AH} {p : Nat} {Q : Option Nat} {L : List AV} {c : Cnt} (hl : Lane h p Q L c) (n : Nat) : run E (n + 1) (.call 38 [.p (some (p, 0))] h) = some (.ret (.b (decide (4096 ≤ (L.length : Int)))) h) := by
  obtain ⟨⟨S, hp, hs⟩, hlt, hne⟩ := hl
  cases hs with
  | nil0 => rw [full_run0 hp n]; rfl
  | own0 hq ht hl hc hn => exact full_run hp n

theorem out_lane {h : AH} {p : Nat} {Q : Option Nat} {L : List AV} {c : Cnt} (hl : Lane h p Q L c) (hb : L.length ≤ 5000) {i : Nat} (hi : i < L.length) (n : Nat) :
    ∃ h', run E (n + 2) (.call 40 [.p (some (p, 0)), .i .i64 i] h) = some (.ret L[i] h') ∧ Lane h' p Q (L.eraseIdx i) c ∧ Fm h h' p Q Q := by
  obtain ⟨⟨S, hp, hs⟩, hlt, hne⟩ := hl
  cases hs with
  | nil0 => simp at hi
  | @own0 q cs _ hq ht hll hc hn =>
    have hpq : p ≠ q := fun e => hne (by rw [e])
    have hv : cs[i]? = some L[i] := by
      have : L[i]? = some L[i] := List.getElem?_eq_getElem hi
      rw [← this]
      conv => rhs; rw [← ht]
      rw [List.getElem?_take, if_pos hi]
    obtain ⟨d1, d2⟩ := del_take ht hll hi
    have hlen : (L.eraseIdx i).length = L.length - 1 := by rw [List.length_eraseIdx, if_pos hi]
    refine ⟨_, out_run hp hq hpq hi hll hc hb (by rfl) hv n, ⟨⟨.own q 0 (L.length - 1) none, by unfold outH; rw [AH.get_set, if_pos rfl]; rfl, ?_⟩, by simpa [outH] using hlt, hne⟩, ⟨by simp [outH], .inl rfl, fun j h1 h2 h3 => ?_⟩⟩
    · rw [← hlen]
      refine .own0 (cs := delCells cs i L.length) ?_ d1 (by rw [d2]; omega) ?_ (by simpa [outH] using hn)
      · unfold outH; rw [AH.get_set, if_neg (fun e => hpq e.symm), AH.get_set, if_pos rfl]
      · unfold delCells
        exact splice_all _ (splice_all _ hc (all_take hc _ _)) rfl
    · have hjq : j ≠ q := fun e => h3 (by rw [e])
      unfold outH
      rw [AH.get_set, if_neg h2, AH.get_set, if_neg hjq, AH.get_set, if_neg hjq]

theorem take_run {h : AH} {p : Nat} {Q : Option Nat} {L : List AV} {c : Cnt} (hl : Lane h p Q L c) (hb : L.length ≤ 5000) (hc : c.ok 1000000) {i : Nat} (hi : i < L.length) (n : Nat) :
    ∃ h', run E (n + 3) (.call 26 [.p (some (p, 0)), .i .i64 i] h) = some (.ret (.tup [L[i], .b true]) h') ∧ Lane h' p Q (L.eraseIdx i) { c with t := c.t + 1 } ∧ Fm h h' p Q Q := by
  have hhas := has_lane hl i (n + 1)
  rw [show decide (0 ≤ (i : Int) ∧ (i : Int) < (L.length : Int)) = true by simp; omega] at hhas
  obtain ⟨⟨S, hp, hs⟩, hlt, hne⟩ := hl
  have hl1 := Lane.bump (c := c) hs hlt hne { c with t := c.t + 1 }
  obtain ⟨h', o1, o2, o3⟩ := out_lane hl1 hb hi n
  have p2 := (put_obj hp (x := .i .i64 (c.t + 1)) rfl).2.2.1
  have w1 : IntKind.wrap .i64 (c.t + 1) = c.t + 1 := wrap_int (by have := hc.2.1; omega)
  refine ⟨h', ?_, o2, (Fm.set _).trans o3⟩
  unfold Go.Proofs.Ytgiphcfpopgchaa.obj at hp p2 o1
  rw [show n + 3 = (n + 2) + 1 from rfl]
  generalize hr : run E (n + 2) = R at hhas o1
  rw [run, hr]
  simp [Try.func26, Try.f26, Try.func39, Try.f39, Try.func40, Try.f40, stepTask, stepCall, bodyA, stepCode, stepOps, List.range_succ, step1, wantedA, stepOp, execA, evA, putA, ofV, builtinA, lenA, binA, unA, resultsA, resA, indexAddrA, fieldAddrA, storeA, cells_i, cells_own, callFnA, E_P, E_fun, E_mode, E_hook, E_phook, E_ext, E_own, E_glob, Try.underlying2, Try.underlying47, Try.underlying3, Try.underlying54, sz2, sz47, sz9, agg9, Try.underlying9, cells_s, sz3, agg2, agg47, agg3, intA, loadA, cellsAt, tk0, tk1, tk2, tk3, tk4, undefA, hp, hhas, p2, w1, o1]

theorem take_none {h : AH} {p : Nat} {Q : Option Nat} {L : List AV} {c : Cnt} (hl : Lane h p Q L c) {i : Int} (hi : ¬ (0 ≤ i ∧ i < (L.length : Int))) (n : Nat) :
    run E (n + 3) (.call 26 [.p (some (p, 0)), .i .i64 i] h) = some (.ret (.tup [.s ⟨#[]⟩, .b false]) h) := by
  have hhas := has_lane hl i (n + 1)
  rw [show decide (0 ≤ i ∧ i < (L.length : Int)) = false by simpa using hi] at hhas
  rw [show n + 3 = (n + 2) + 1 from rfl]
  generalize hr : run E (n + 2) = R at hhas
  rw [run, hr]
  simp [Try.func26, Try.f26, Try.func39, Try.f39, stepTask, stepCall, bodyA, stepCode, stepOps, List.range_succ, step1, wantedA, stepOp, execA, evA, putA, ofV, builtinA, lenA, binA, unA, resultsA, resA, indexAddrA, fieldAddrA, storeA, cells_i, cells_own, callFnA, E_P, E_fun, E_mode, E_hook, E_phook, E_ext, E_own, E_glob, Try.underlying2, Try.underlying47, Try.underlying3, Try.underlying54, sz2, sz47, sz9, agg9, Try.underlying9, cells_s, sz3, agg2, agg47, agg3, intA, loadA, cellsAt, tk0, tk1, tk2, tk3, tk4, undefA, hhas]

theorem len_run {h : AH} {p : Nat} {Q : Option Nat} {L : List AV} {c : Cnt} (hl : Lane h p Q L c) (n : Nat) :
    run E (n + 1) (.call 31 [.p (some (p, 0))] h) = some (.ret (.i .i64 L.length) h) := by
  obtain ⟨⟨S, hp, hs⟩, hlt, hne⟩ := hl
  unfold Go.Proofs.Ytgiphcfpopgchaa.obj at hp
  rw [run]
  cases hs with
  | nil0 => simp [Try.func31, Try.f31, stepTask, stepCall, bodyA, stepCode, stepOps, List.range_succ, step1, wantedA, stepOp, execA, evA, putA, ofV, builtinA, lenA, binA, unA, resultsA, resA, indexAddrA, fieldAddrA, storeA, cells_i, cells_own, callFnA, E_P, E_fun, E_mode, E_hook, E_phook, E_ext, E_own, E_glob, Try.underlying2, Try.underlying47, Try.underlying3, Try.underlying54, sz2, sz47, sz9, agg9, Try.underlying9, cells_s, sz3, agg2, agg47, agg3, intA, loadA, cellsAt, tk0, tk1, tk2, tk3, tk4, undefA, hp]
  | own0 hq ht hl hc hn => simp [Try.func31, Try.f31, stepTask, stepCall, bodyA, stepCode, stepOps, List.range_succ, step1, wantedA, stepOp, execA, evA, putA, ofV, builtinA, lenA, binA, unA, resultsA, resA, indexAddrA, fieldAddrA, storeA, cells_i, cells_own, callFnA, E_P, E_fun, E_mode, E_hook, E_phook, E_ext, E_own, E_glob, Try.underlying2, Try.underlying47, Try.underlying3, Try.underlying54, sz2, sz47, sz9, agg9, Try.underlying9, cells_s, sz3, agg2, agg47, agg3, intA, loadA, cellsAt, tk0, tk1, tk2, tk3, tk4, undefA, hp]

theorem hold_run {h : AH} {p : Nat} {Q : Option Nat} {L : List AV} {c : Cnt} (hl : Lane h p Q L c) (hb : L.length ≤ 4096) (hone : L.all AV.one = true) {i : Nat} (hi : i < L.length) (n : Nat) :
    ∃ Q' h', run E (n + 3) (.call 29 [.p (some (p, 0)), .i .i64 i] h) = some (.ret (.b true) h') ∧ Lane h' p Q' (L.eraseIdx i ++ [L[i]]) c ∧ Fm h h' p Q Q' := by
  have hhas := has_lane hl i (n + 1)
  rw [show decide (0 ≤ (i : Int) ∧ (i : Int) < (L.length : Int)) = true by simp; omega] at hhas
  obtain ⟨h1, o1, o2, o3⟩ := out_lane hl (by omega) hi n
  obtain ⟨⟨S, hp, hs⟩, hlt, hne⟩ := o2
  have ho : (L[i]).one = true := List.all_eq_true.1 hone _ (List.getElem_mem hi)
  have hlen : (L.eraseIdx i).length = L.length - 1 := by rw [List.length_eraseIdx, if_pos hi]
  obtain ⟨Q', S', h2, a1, hs1, hown, hnx, hkeep⟩ := app_lane hs ho (by omega)
  have hne' : Q' ≠ some p := by
    rcases hown with rfl | rfl
    · exact hne
    · intro e; cases e; omega
  have hS1 : S'.one = true := hs1.one
  have hp1 : h2.get p = some (.cells 5 (obj S c)) := by rw [hkeep p hne (by omega)]; exact hp
  have p0 := (put_obj hp1 hS1).1
  have cS := cells_one hS1
  have l1 := lit_one _ ho
  refine ⟨Q', h2.set p (.cells 5 (obj S' c)), ?_, ⟨⟨S', by rw [AH.get_set, if_pos rfl], hs1.put hne' _⟩, by simp; omega, hne'⟩, o3.trans ⟨by simpa using hnx, ?_, fun j k1 k2 k3 => by rw [AH.get_set, if_neg k2, hkeep j k3 (by omega)]⟩⟩
  · unfold obj at hp p0 hp1 ⊢
    rw [show n + 3 = (n + 2) + 1 from rfl]
    generalize hr : run E (n + 2) = R at hhas o1
    rw [run, hr]
    simp [Try.func29, Try.f29, Try.func39, Try.f39, Try.func40, Try.f40, stepTask, stepCall, bodyA, stepCode, stepOps, List.range_succ, step1, wantedA, stepOp, execA, evA, putA, ofV, builtinA, lenA, binA, unA, resultsA, resA, indexAddrA, fieldAddrA, storeA, cells_i, cells_own, callFnA, E_P, E_fun, E_mode, E_hook, E_phook, E_ext, E_own, E_glob, Try.underlying2, Try.underlying47, Try.underlying3, Try.underlying54, sz2, sz47, sz9, agg9, Try.underlying9, cells_s, sz3, agg2, agg47, agg3, intA, loadA, cellsAt, tk0, tk1, tk2, tk3, tk4, undefA, hp, hhas, o1, l1, a1, p0, cS, hp1]
  · rcases hown with rfl | rfl
    · exact .inl rfl
    · exact .inr ⟨_, rfl, Nat.le_refl _⟩

theorem win28 : E.win 28 4 = some [] := by kernel_rfl

theorem win30 : E.win 30 1 = some [] := by kernel_rfl

theorem drop_run {h : AH} {p : Nat} {Q : Option Nat} {L : List AV} {c : Cnt} (hl : Lane h p Q L c) (hb : L.length ≤ 5000) (hc : c.ok 1000000) {i : Nat} (hi : i < L.length) (n : Nat) :
    ∃ h', run E (n + 3) (.call 27 [.p (some (p, 0)), .i .i64 i] h) = some (.ret (.b true) h') ∧ Lane h' p Q (L.eraseIdx i) { c with d := c.d + 1 } ∧ Fm h h' p Q Q := by
  have hhas := has_lane hl i (n + 1)
  rw [show decide (0 ≤ (i : Int) ∧ (i : Int) < (L.length : Int)) = true by simp; omega] at hhas
  obtain ⟨⟨S, hp, hs⟩, hlt, hne⟩ := hl
  have hl1 := Lane.bump (c := c) hs hlt hne { c with d := c.d + 1 }
  obtain ⟨h', o1, o2, o3⟩ := out_lane hl1 hb hi n
  have p2 := (put_obj hp (x := .i .i64 (c.d + 1)) rfl).2.2.2.1
  have w1 : IntKind.wrap .i64 (c.d + 1) = c.d + 1 := wrap_int (by have := hc.2.2.1; omega)
  refine ⟨h', ?_, o2, (Fm.set _).trans o3⟩
  unfold Go.Proofs.Ytgiphcfpopgchaa.obj at hp p2 o1
  rw [show n + 3 = (n + 2) + 1 from rfl]
  generalize hr : run E (n + 2) = R at hhas o1
  rw [run, hr]
  simp [Try.func27, Try.f27, Try.func39, Try.f39, Try.func40, Try.f40, stepTask, stepCall, bodyA, stepCode, stepOps, List.range_succ, step1, wantedA, stepOp, execA, evA, putA, ofV, builtinA, lenA, binA, unA, resultsA, resA, indexAddrA, fieldAddrA, storeA, cells_i, cells_own, callFnA, E_P, E_fun, E_mode, E_hook, E_phook, E_ext, E_own, E_glob, Try.underlying2, Try.underlying47, Try.underlying3, Try.underlying54, sz2, sz47, sz9, agg9, Try.underlying9, cells_s, sz3, agg2, agg47, agg3, intA, loadA, cellsAt, tk0, tk1, tk2, tk3, tk4, undefA, kindA, stepDraw, runD, nthW, hp, hhas, p2, w1, o1]

theorem drop_none {h : AH} {p : Nat} {Q : Option Nat} {L : List AV} {c : Cnt} (hl : Lane h p Q L c) {i : Int} (hi : ¬ (0 ≤ i ∧ i < (L.length : Int))) (n : Nat) :
    run E (n + 3) (.call 27 [.p (some (p, 0)), .i .i64 i] h) = some (.ret (.b false) h) := by
  have hhas := has_lane hl i (n + 1)
  rw [show decide (0 ≤ i ∧ i < (L.length : Int)) = false by simpa using hi] at hhas
  rw [show n + 3 = (n + 2) + 1 from rfl]
  generalize hr : run E (n + 2) = R at hhas
  rw [run, hr]
  simp [Try.func27, Try.f27, Try.func39, Try.f39, stepTask, stepCall, bodyA, stepCode, stepOps, List.range_succ, step1, wantedA, stepOp, execA, evA, putA, ofV, builtinA, lenA, binA, unA, resultsA, resA, indexAddrA, fieldAddrA, storeA, cells_i, cells_own, callFnA, E_P, E_fun, E_mode, E_hook, E_phook, E_ext, E_own, E_glob, Try.underlying2, Try.underlying47, Try.underlying3, Try.underlying54, sz2, sz47, sz9, agg9, Try.underlying9, cells_s, sz3, agg2, agg47, agg3, intA, loadA, cellsAt, tk0, tk1, tk2, tk3, tk4, undefA, kindA, stepDraw, runD, nthW, hhas]

theorem hold_none {h : AH} {p : Nat} {Q : Option Nat} {L : List AV} {c : Cnt} (hl : Lane h p Q L c) {i : Int} (hi : ¬ (0 ≤ i ∧ i < (L.length : Int))) (n : Nat) :
    run E (n + 3) (.call 29 [.p (some (p, 0)), .i .i64 i] h) = some (.ret (.b false) h) := by
  have hhas := has_lane hl i (n + 1)
  rw [show decide (0 ≤ i ∧ i < (L.length : Int)) = false by simpa using hi] at hhas
  rw [show n + 3 = (n + 2) + 1 from rfl]
  generalize hr : run E (n + 2) = R at hhas
  rw [run, hr]
  simp [Try.func29, Try.f29, Try.func39, Try.f39, stepTask, stepCall, bodyA, stepCode, stepOps, List.range_succ, step1, wantedA, stepOp, execA, evA, putA, ofV, builtinA, lenA, binA, unA, resultsA, resA, indexAddrA, fieldAddrA, storeA, cells_i, cells_own, callFnA, E_P, E_fun, E_mode, E_hook, E_phook, E_ext, E_own, E_glob, Try.underlying2, Try.underlying47, Try.underlying3, Try.underlying54, sz2, sz47, sz9, agg9, Try.underlying9, cells_s, sz3, agg2, agg47, agg3, intA, loadA, cellsAt, tk0, tk1, tk2, tk3, tk4, undefA, kindA, stepDraw, runD, nthW, hhas]

theorem double_none {h : AH} {p : Nat} {Q : Option Nat} {L : List AV} {c : Cnt} (hl : Lane h p Q L c) {i : Int} (hi : ¬ (0 ≤ i ∧ i < (L.length : Int))) (n : Nat) :
    run E (n + 3) (.call 28 [.p (some (p, 0)), .i .i64 i] h) = some (.ret (.b false) h) := by
  have hhas := has_lane hl i (n + 1)
  rw [show decide (0 ≤ i ∧ i < (L.length : Int)) = false by simpa using hi] at hhas
  rw [show n + 3 = (n + 2) + 1 from rfl]
  generalize hr : run E (n + 2) = R at hhas
  rw [run, hr]
  simp [Try.func28, Try.f28, Try.func39, Try.f39, stepTask, stepCall, bodyA, stepCode, stepOps, List.range_succ, step1, wantedA, stepOp, execA, evA, putA, ofV, builtinA, lenA, binA, unA, resultsA, resA, indexAddrA, fieldAddrA, storeA, cells_i, cells_own, callFnA, E_P, E_fun, E_mode, E_hook, E_phook, E_ext, E_own, E_glob, Try.underlying2, Try.underlying47, Try.underlying3, Try.underlying54, sz2, sz47, sz9, agg9, Try.underlying9, cells_s, sz3, agg2, agg47, agg3, intA, loadA, cellsAt, tk0, tk1, tk2, tk3, tk4, undefA, kindA, stepDraw, runD, nthW, hhas]

theorem counts_run {h : AH} {p : Nat} {Q : Option Nat} {L : List AV} {c : Cnt} (hl : Lane h p Q L c) (n : Nat) :
    run E (n + 1) (.call 30 [.p (some (p, 0))] h) = some (.ret (.tup [.i .i64 c.s, .i .i64 c.t, .i .i64 c.d, .i .i64 c.m]) h) := by
  obtain ⟨⟨S, hp, hs⟩, hlt, hne⟩ := hl
  unfold Go.Proofs.Ytgiphcfpopgchaa.obj at hp
  rw [run]
  simp [Try.func30, Try.f30, stepTask, stepCall, bodyA, stepCode, stepOps, List.range_succ, step1, wantedA, stepOp, execA, evA, putA, ofV, builtinA, lenA, binA, unA, resultsA, resA, indexAddrA, fieldAddrA, storeA, cells_i, cells_own, callFnA, E_P, E_fun, E_mode, E_hook, E_phook, E_ext, E_own, E_glob, Try.underlying2, Try.underlying47, Try.underlying3, Try.underlying54, sz2, sz47, sz9, agg9, Try.underlying9, cells_s, sz3, agg2, agg47, agg3, intA, loadA, cellsAt, tk0, tk1, tk2, tk3, tk4, undefA, kindA, stepDraw, runD, nthW, hp, win30]

theorem double_run {h : AH} {p : Nat} {Q : Option Nat} {L : List AV} {c : Cnt} (hl : Lane h p Q L c) (hb : L.length < 4096) (hc : c.ok 1000000) (hone : L.all AV.one = true) {i : Nat} (hi : i < L.length) (n : Nat) :
    ∃ Q' h', run E (n + 3) (.call 28 [.p (some (p, 0)), .i .i64 i] h) = some (.ret (.b true) h') ∧ Lane h' p Q' (L ++ [L[i]]) { c with m := c.m + 1 } ∧ Fm h h' p Q Q' := by
  have hhas := has_lane hl i (n + 1)
  rw [show decide (0 ≤ (i : Int) ∧ (i : Int) < (L.length : Int)) = true by simp; omega] at hhas
  have hful := full_lane hl (n + 1)
  rw [show decide ((4096 : Int) ≤ (L.length : Int)) = false by simp; omega] at hful
  obtain ⟨⟨S, hp, hs⟩, hlt, hne⟩ := hl
  have ho : (L[i]).one = true := List.all_eq_true.1 hone _ (List.getElem_mem hi)
  have p4 := (put_obj hp (x := .i .i64 (c.m + 1)) rfl).2.2.2.2
  have hl1 := Lane.bump (c := c) hs hlt hne { c with m := c.m + 1 }
  generalize hh1 : h.set p (.cells 5 (obj S { c with m := c.m + 1 })) = h1 at hl1
  have hp1 : h1.get p = some (.cells 5 (obj S { c with m := c.m + 1 })) := by rw [← hh1, AH.get_set, if_pos rfl]
  have hs1 : Sl h1 Q S L := by rw [← hh1]; exact hs.put hne _
  have hnx1 : h1.next = h.next := by rw [← hh1]; rfl
  obtain ⟨Q', S', h2, a1, hs2, hown, hnx, hkeep⟩ := app_lane hs1 ho (by omega)
  have hne' : Q' ≠ some p := by
    rcases hown with rfl | rfl
    · exact hne
    · intro e; cases e; omega
  obtain ⟨q, hSq, hix, hld⟩ : ∃ q, (∃ m cp, S = .own q 0 m cp) ∧ indexAddrA Try.prog 47 S (.i .i64 i) = some (.p (some (q, i))) ∧ loadA Try.prog h1 9 (.p (some (q, i))) = some L[i] := by
    cases hs1 with
    | nil0 => simp at hi
    | @own0 q cs _ hq ht hll hcc hn =>
      have hv : cs[i]? = some L[i] := by
        have : L[i]? = some L[i] := List.getElem?_eq_getElem hi
        rw [← this]
        conv => rhs; rw [← ht]
        rw [List.getElem?_take, if_pos hi]
      have tk := takeN_get hv
      have c1 : (i : Int) < L.length := by omega
      exact ⟨q, ⟨_, _, rfl⟩, by simp [indexAddrA, Try.underlying47, intA, sz9, c1], by simp [loadA, agg9, sz9, cellsAt, hq, tk]⟩
  have hp2 : h2.get p = some (.cells 5 (obj S { c with m := c.m + 1 })) := by rw [hkeep p hne (by omega)]; exact hp1
  have p0 := (put_obj hp2 hs2.one).1
  have cS := cells_one hs2.one
  have l1 := lit_one _ ho
  have w1 : IntKind.wrap .i64 (c.m + 1) = c.m + 1 := wrap_int (by have := hc.2.2.2; omega)
  have hldv : loadA Try.prog h1 9 (.p (some (q, i))) = some L[i] := hld
  have tkq : ∃ cs, h1.get q = some (.cells 1 cs) ∧ takeN cs i 1 = some [L[i]] := by
    obtain ⟨m, cp, rfl⟩ := hSq
    cases hs1 with
    | @own0 _ cs _ hq ht hll hcc hn =>
      refine ⟨cs, hq, takeN_get ?_⟩
      have : L[i]? = some L[i] := List.getElem?_eq_getElem hi
      rw [← this]
      conv => rhs; rw [← ht]
      rw [List.getElem?_take, if_pos hi]
  obtain ⟨cs, k1, k2⟩ := tkq
  refine ⟨Q', h2.set p (.cells 5 (obj S' { c with m := c.m + 1 })), ?_, ⟨⟨S', by rw [AH.get_set, if_pos rfl], hs2.put hne' _⟩, by simp; omega, hne'⟩, ⟨by simp; omega, ?_, fun j j1 j2 j3 => by rw [AH.get_set, if_neg j2, hkeep j j3 (by omega), ← hh1, AH.get_set, if_neg j2]⟩⟩
  · unfold obj at hp p4 hp1 hp2 p0 hh1 ⊢
    rw [hh1] at p4
    rw [show n + 3 = (n + 2) + 1 from rfl]
    generalize hr : run E (n + 2) = R at hhas hful
    rw [run, hr]
    simp [Try.func28, Try.f28, Try.func39, Try.f39, Try.func38, Try.f38, stepTask, stepCall, bodyA, stepCode, stepOps, List.range_succ, step1, wantedA, stepOp, execA, evA, putA, ofV, builtinA, lenA, binA, unA, resultsA, resA, fieldAddrA, storeA, cells_i, cells_own, callFnA, E_P, E_fun, E_mode, E_hook, E_phook, E_ext, E_own, E_glob, Try.underlying2, Try.underlying47, Try.underlying3, Try.underlying54, sz2, sz47, sz9, agg9, Try.underlying9, cells_s, sz3, agg2, agg47, agg3, intA, loadA, cellsAt, tk0, tk1, tk2, tk3, tk4, undefA, kindA, stepDraw, runD, nthW, hhas, hful, hp, p4, w1, hp1, hix, k1, k2, l1, a1, hp2, p0, cS, win28]
  · rcases hown with rfl | rfl
    · exact .inl rfl
    · exact .inr ⟨_, rfl, by omega⟩

theorem new_run (h : AH) (n : Nat) : run E (n + 1) (.call 24 [] h) = some (.ret (.p (some (h.next, 0))) (h.new (.cells 5 (obj .nsl ⟨0, 0, 0, 0⟩)))) := by kernel_rfl

structure Rd (h : AH) (A : AV) (L : List AV) : Prop where
  len : lenA Try.prog h 47 A = some (.i .i64 L.length)
  get : ∀ (i : Nat) v, L[i]? = some v → ∃ a, indexAddrA Try.prog 47 A (.i .i64 i) = some a ∧ loadA Try.prog h 9 a = some v

theorem Rd.nil (h : AH) : Rd h .nsl [] := ⟨by simp [lenA, Try.underlying47], fun i v e => by simp at e⟩

theorem Rd.own {h : AH} {Q : Option Nat} {S : AV} {L : List AV} (hs : Sl h Q S L) : Rd h S L := by
  cases hs with
  | nil0 => exact Rd.nil h
  | @own0 q cs _ hq ht hl hc hn =>
    refine ⟨by simp [lenA, Try.underlying47], fun i v e => ?_⟩
    have hi := (List.getElem?_eq_some_iff.1 e).1
    have hv : cs[i]? = some v := by
      rw [← e]
      conv => rhs; rw [← ht]
      rw [List.getElem?_take, if_pos hi]
    have tk := takeN_get hv
    have c1 : (i : Int) < L.length := by omega
    exact ⟨.p (some (q, i)), by simp [indexAddrA, Try.underlying47, intA, sz9, c1], by simp [loadA, agg9, sz9, cellsAt, hq, tk]⟩

theorem app_clone {h : AH} {q : Nat} {cs L : List AV} (hq : h.get q = some (.cells 1 cs)) (ht : cs.take L.length = L) (hl : L.length ≤ cs.length) (hc : cs.all AV.one = true) (hn : q < h.next) (hb : L.length ≤ 5000) :
    ∃ q' h', appendA Try.prog (h.new (.cells 1 [])) 47 47 (.own h.next 0 0 none) (.own q 0 L.length none) = some (.own q' 0 L.length none, h') ∧ New h h' q' L := by
  have hq1 : (h.new (.cells 1 [])).get q = some (.cells 1 cs) := by rw [AH.get_new, if_neg (by omega)]; exact hq
  have hn1 : (h.new (.cells 1 [])).get h.next = some (.cells 1 []) := by rw [AH.get_new, if_pos rfl]
  have hm := moreA_own (o := 0) (n := L.length) (cap := none) (z := [.s ⟨#[]⟩]) hq1 (by omega)
  have hL : L.all AV.one = true := by rw [← ht]; simpa using all_take hc 0 L.length
  rw [List.drop_zero, ht] at hm
  by_cases h0 : L.length = 0
  · have hLn : L = [] := List.length_eq_zero_iff.1 h0
    subst hLn
    refine ⟨h.next, (h.new (.cells 1 [])).set h.next (.cells 1 []), ?_, ⟨.own0 (cs := []) (by rw [AH.get_set, if_pos rfl]) rfl (Nat.le_refl _) rfl (by simp), Nat.le_refl _, by simp, fun j hj => by rw [AH.get_set, if_neg (by omega), AH.get_new, if_neg (by omega)]⟩⟩
    unfold appendA
    simp only [el47, es9, z9, by9, AV.cells, List.length_singleton]
    rw [if_pos (by decide), hm]
    simp [room, hn1, putCells, splice]
  · refine ⟨h.next + 1, ((h.new (.cells 1 [])).del h.next).new (.cells 1 L), ?_, ⟨.own0 (cs := L) (by rw [AH.get_new]; simp) (List.take_of_length_le (Nat.le_refl _)) (Nat.le_refl _) hL (by simp), by omega, by simp; omega, fun j hj => by rw [AH.get_new, AH.next_del, AH.next_new, if_neg (by omega), AH.get_del, if_neg (by omega), AH.get_new, if_neg (by omega)]⟩⟩
    unfold appendA
    simp only [el47, es9, z9, by9, AV.cells, List.length_singleton]
    rw [if_pos (by decide), hm]
    simp only
    rw [if_pos ⟨hL, by simp only [room]; omega⟩, hn1]
    simp only
    rw [if_pos ⟨trivial, by simp only [room]; omega, by simp⟩, if_neg (by simp only [List.length_nil]; omega)]
    simp

theorem clone_run {h : AH} {q : Nat} {cs L : List AV} (hq : h.get q = some (.cells 1 cs)) (ht : cs.take L.length = L) (hl : L.length ≤ cs.length) (hc : cs.all AV.one = true) (hn : q < h.next) (hb : L.length ≤ 5000) (n : Nat) :
    ∃ q' h', run E (n + 1) (.call 41 [.own q 0 L.length none] h) = some (.ret (.own q' 0 L.length none) h') ∧ New h h' q' L := by
  obtain ⟨q', h', a1, a2⟩ := app_clone hq ht hl hc hn hb
  have b1 : buildSliceA Try.prog h 47 0 [] = some (.own h.next 0 0 none, h.new (.cells 1 [])) := by
    unfold buildSliceA
    simp only [el47, es9, z9]
    rw [if_pos (by decide)]
    rfl
  refine ⟨q', h', ?_, a2⟩
  rw [run]
  simp [Try.func41, Try.f41, stepTask, stepCall, bodyA, stepCode, stepOps, List.range_succ, step1, wantedA, stepOp, execA, evA, putA, ofV, builtinA, lenA, binA, unA, resultsA, resA, indexAddrA, fieldAddrA, storeA, cells_i, cells_own, callFnA, E_P, E_fun, E_mode, E_hook, E_phook, E_ext, E_own, E_glob, Try.underlying2, Try.underlying47, Try.underlying3, Try.underlying54, sz2, sz47, sz9, agg9, Try.underlying9, cells_s, sz3, agg2, agg47, agg3, intA, loadA, cellsAt, tk0, tk1, tk2, tk3, tk4, undefA, eqA, b1, a1]

theorem clone_nil (h : AH) (n : Nat) : run E (n + 1) (.call 41 [.nsl] h) = some (.ret .nsl h) := by kernel_rfl

theorem all_run {h : AH} {p : Nat} {Q : Option Nat} {L : List AV} {c : Cnt} (hl : Lane h p Q L c) (hb : L.length ≤ 5000) (n : Nat) :
    ∃ S' h', run E (n + 2) (.call 32 [.p (some (p, 0))] h) = some (.ret S' h') ∧ Rd h' S' L ∧ h.next ≤ h'.next ∧ ∀ j, j < h.next → h'.get j = h.get j := by
  obtain ⟨⟨S, hp, hs⟩, hlt, hne⟩ := hl
  unfold Go.Proofs.Ytgiphcfpopgchaa.obj at hp
  cases hs with
  | nil0 =>
    refine ⟨.nsl, h, ?_, Rd.nil h, Nat.le_refl _, fun _ _ => rfl⟩
    have c1 := clone_nil h n
    rw [show n + 2 = (n + 1) + 1 from rfl]
    generalize hr : run E (n + 1) = R at c1
    rw [run, hr]
    simp [Try.func32, Try.f32, Try.func41, Try.f41, stepTask, stepCall, bodyA, stepCode, stepOps, List.range_succ, step1, wantedA, stepOp, execA, evA, putA, ofV, builtinA, lenA, binA, unA, resultsA, resA, indexAddrA, fieldAddrA, storeA, cells_i, cells_own, callFnA, E_P, E_fun, E_mode, E_hook, E_phook, E_ext, E_own, E_glob, Try.underlying2, Try.underlying47, Try.underlying3, Try.underlying54, sz2, sz47, sz9, agg9, Try.underlying9, cells_s, sz3, agg2, agg47, agg3, intA, loadA, cellsAt, tk0, tk1, tk2, tk3, tk4, undefA, hp, c1]
  | own0 hq ht hll hc hn =>
    obtain ⟨q', h', c1, c2⟩ := clone_run hq ht hll hc hn hb n
    refine ⟨_, h', ?_, Rd.own c2.sl, c2.next, c2.keep⟩
    rw [show n + 2 = (n + 1) + 1 from rfl]
    generalize hr : run E (n + 1) = R at c1
    rw [run, hr]
    simp [Try.func32, Try.f32, Try.func41, Try.f41, stepTask, stepCall, bodyA, stepCode, stepOps, List.range_succ, step1, wantedA, stepOp, execA, evA, putA, ofV, builtinA, lenA, binA, unA, resultsA, resA, indexAddrA, fieldAddrA, storeA, cells_i, cells_own, callFnA, E_P, E_fun, E_mode, E_hook, E_phook, E_ext, E_own, E_glob, Try.underlying2, Try.underlying47, Try.underlying3, Try.underlying54, sz2, sz47, sz9, agg9, Try.underlying9, cells_s, sz3, agg2, agg47, agg3, intA, loadA, cellsAt, tk0, tk1, tk2, tk3, tk4, undefA, hp, c1]
end Go.Proofs.Ytgiphcfpopgchaa.Str
