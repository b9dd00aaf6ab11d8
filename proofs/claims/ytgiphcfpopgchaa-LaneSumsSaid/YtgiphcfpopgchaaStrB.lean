/-
  shoallaw9.LaneSums on the abstract machine: its loop.
-/
import Derived.Test.YtgiphcfpopgchaaStrA
import Derived.Test.YtgiphcfpopgchaaAv23
namespace Go.Proofs.Ytgiphcfpopgchaa
open Go.ChangeShapes Go.WideShapes Go.ChangeAt Go.RowKit Go.Av
set_option maxRecDepth 100000
set_option maxHeartbeats 4000000
set_option linter.unusedSimpArgs false
set_option linter.unusedVariables false

theorem sz40 : szA Try.prog 40 = some 3 := by kernel_rfl
theorem agg40 : isAggA Try.prog 40 = some true := by kernel_rfl
noncomputable def body7 : Code := Try.f7.body.getD .skip
noncomputable def e7 : Code := lf (rg (rg (rg (rg body7))))
noncomputable def n7c : Code := lf (lf (rg e7))

/-- What stands behind i acts. -/
structure Ok7 (h : AH) (p : Nat) (Q : Option Nat) (L : List AV) (c : Cnt) (i : Nat) : Prop where
  lane : Lane h p Q L c
  sum : c.s + c.m = c.t + c.d + L.length
  len : L.length ≤ i
  one : L.all AV.one = true
  s : 0 ≤ c.s ∧ c.s ≤ i
  t : 0 ≤ c.t ∧ c.t ≤ i
  d : 0 ≤ c.d ∧ c.d ≤ i
  m : 0 ≤ c.m ∧ c.m ≤ i

theorem Ok7.cnt {h : AH} {p : Nat} {Q : Option Nat} {L : List AV} {c : Cnt} {i : Nat} (o : Ok7 h p Q L c i) (hi : i ≤ 100) : c.ok 1000000 := by
  have h1 := o.s; have h2 := o.t; have h3 := o.d; have h4 := o.m
  exact ⟨by omega, by omega, by omega, by omega⟩

theorem Ok7.stay {h : AH} {p : Nat} {Q : Option Nat} {L : List AV} {c : Cnt} {i : Nat} (o : Ok7 h p Q L c i) : Ok7 h p Q L c (i + 1) := by
  have h1 := o.s; have h2 := o.t; have h3 := o.d; have h4 := o.m; have h5 := o.len
  exact ⟨o.lane, o.sum, by omega, o.one, by omega, by omega, by omega, by omega⟩

theorem erase_one {L : List AV} {k : Nat} (h : L.all AV.one = true) : (L.eraseIdx k).all AV.one = true := List.all_eq_true.2 fun x hx => List.all_eq_true.1 h x (List.mem_of_mem_eraseIdx hx)

section
variable {h : AH} {p : Nat} {Q : Option Nat} {L : List AV} {c : Cnt} {i : Nat}

theorem op0 (o : Ok7 h p Q L c i) (hi : i ≤ 100) (x : ByteArray) (n : Nat) : ∃ X h' Q' L' c', run E (n + 3) (.call 25 [.p (some (p, 0)), .s x] h) = some (.ret X h') ∧ Ok7 h' p Q' L' c' (i + 1) := by
  have h1 := o.s; have h2 := o.t; have h3 := o.d; have h4 := o.m; have h5 := o.len; have h6 := o.sum
  obtain ⟨Q', h', r1, r2, r3⟩ := Str.send_run o.lane (by omega) (o.cnt hi) (v := .s x) rfl (n + 1)
  exact ⟨_, h', Q', _, _, r1, ⟨r2, by simp; omega, by simp; omega, by rw [List.all_append, o.one]; rfl, by simp; omega, by simp; omega, by simp; omega, by simp; omega⟩⟩

theorem op1 (o : Ok7 h p Q L c i) (hi : i ≤ 100) (k : Int) (n : Nat) : ∃ X h' Q' L' c', run E (n + 3) (.call 26 [.p (some (p, 0)), .i .i64 k] h) = some (.ret X h') ∧ Ok7 h' p Q' L' c' (i + 1) := by
  have h1 := o.s; have h2 := o.t; have h3 := o.d; have h4 := o.m; have h5 := o.len; have h6 := o.sum
  by_cases hk : 0 ≤ k ∧ k < (L.length : Int)
  · obtain ⟨j, rfl⟩ : ∃ j : Nat, k = j := ⟨k.toNat, by omega⟩
    have hj : j < L.length := by omega
    have hlen : (L.eraseIdx j).length = L.length - 1 := by rw [List.length_eraseIdx, if_pos hj]
    obtain ⟨h', r1, r2, r3⟩ := Str.take_run o.lane (by omega) (o.cnt hi) hj n
    exact ⟨_, h', Q, _, _, r1, ⟨r2, by rw [hlen]; simp; omega, by rw [hlen]; omega, erase_one o.one, by simp; omega, by simp; omega, by simp; omega, by simp; omega⟩⟩
  · exact ⟨_, h, Q, L, c, Str.take_none o.lane hk n, o.stay⟩

theorem op2 (o : Ok7 h p Q L c i) (hi : i ≤ 100) (k : Int) (n : Nat) : ∃ X h' Q' L' c', run E (n + 3) (.call 27 [.p (some (p, 0)), .i .i64 k] h) = some (.ret X h') ∧ Ok7 h' p Q' L' c' (i + 1) := by
  have h1 := o.s; have h2 := o.t; have h3 := o.d; have h4 := o.m; have h5 := o.len; have h6 := o.sum
  by_cases hk : 0 ≤ k ∧ k < (L.length : Int)
  · obtain ⟨j, rfl⟩ : ∃ j : Nat, k = j := ⟨k.toNat, by omega⟩
    have hj : j < L.length := by omega
    have hlen : (L.eraseIdx j).length = L.length - 1 := by rw [List.length_eraseIdx, if_pos hj]
    obtain ⟨h', r1, r2, r3⟩ := Str.drop_run o.lane (by omega) (o.cnt hi) hj n
    exact ⟨_, h', Q, _, _, r1, ⟨r2, by rw [hlen]; simp; omega, by rw [hlen]; omega, erase_one o.one, by simp; omega, by simp; omega, by simp; omega, by simp; omega⟩⟩
  · exact ⟨_, h, Q, L, c, Str.drop_none o.lane hk n, o.stay⟩

theorem op3 (o : Ok7 h p Q L c i) (hi : i ≤ 100) (k : Int) (n : Nat) : ∃ X h' Q' L' c', run E (n + 3) (.call 28 [.p (some (p, 0)), .i .i64 k] h) = some (.ret X h') ∧ Ok7 h' p Q' L' c' (i + 1) := by
  have h1 := o.s; have h2 := o.t; have h3 := o.d; have h4 := o.m; have h5 := o.len; have h6 := o.sum
  by_cases hk : 0 ≤ k ∧ k < (L.length : Int)
  · obtain ⟨j, rfl⟩ : ∃ j : Nat, k = j := ⟨k.toNat, by omega⟩
    have hj : j < L.length := by omega
    obtain ⟨Q', h', r1, r2, r3⟩ := Str.double_run o.lane (by omega) (o.cnt hi) o.one hj n
    exact ⟨_, h', Q', _, _, r1, ⟨r2, by simp; omega, by simp; omega, by
      simp only [List.all_append, List.all_cons, List.all_nil, Bool.and_true, o.one, Bool.true_and]; exact List.all_eq_true.1 o.one _ (List.getElem_mem hj), by simp; omega, by simp; omega, by simp; omega, by simp; omega⟩⟩
  · exact ⟨_, h, Q, L, c, Str.double_none o.lane hk n, o.stay⟩

theorem op4 (o : Ok7 h p Q L c i) (hi : i ≤ 100) (k : Int) (n : Nat) : ∃ X h' Q' L' c', run E (n + 3) (.call 29 [.p (some (p, 0)), .i .i64 k] h) = some (.ret X h') ∧ Ok7 h' p Q' L' c' (i + 1) := by
  have h1 := o.s; have h2 := o.t; have h3 := o.d; have h4 := o.m; have h5 := o.len; have h6 := o.sum
  by_cases hk : 0 ≤ k ∧ k < (L.length : Int)
  · obtain ⟨j, rfl⟩ : ∃ j : Nat, k = j := ⟨k.toNat, by omega⟩
    have hj : j < L.length := by omega
    have hlen : (L.eraseIdx j).length = L.length - 1 := by rw [List.length_eraseIdx, if_pos hj]
    obtain ⟨Q', h', r1, r2, r3⟩ := Str.hold_run o.lane (by omega) o.one hj n
    exact ⟨_, h', Q', _, _, r1, ⟨r2, by simp [hlen]; omega, by simp [hlen]; omega, by
      simp only [List.all_append, List.all_cons, List.all_nil, Bool.and_true, erase_one o.one, Bool.true_and]; exact List.all_eq_true.1 o.one _ (List.getElem_mem hj), by omega, by omega, by omega, by omega⟩⟩
  · exact ⟨_, h, Q, L, c, Str.hold_none o.lane hk n, o.stay⟩
end

theorem r0 (R : Rec) (t : List AV) (h h' : AH) (p m i : Nat) (zs : List Int) (X : AV) (k : Int) (ht : t.length = 89) (t0 : t[0]? = some (.imm (zs.map I) m)) (t3 : t[3]? = some (.p (some (p, 0)))) (t4 : t[4]? = some (.i .i64 i)) (c1 : (i : Int) < m) (w1 : IntKind.wrap .i64 ((i : Int) + 1) = (i : Int) + 1)
    (k0 : takeN (zs.map I) (i * 3) 1 = some [.i .i64 0]) (k1 : takeN (zs.map I) (i * 3 + 1) 1 = some [.i .i64 k]) (c : R (.call 25 [.p (some (p, 0)), .s ⟨#[120]⟩] h) = some (.ret X h')) :
    ∃ T, stepCode E R 7 n7c ⟨t, h⟩ = some (.normal, ⟨T, h'⟩) ∧ T.length = 89 ∧ T[0]? = some (.imm (zs.map I) m) ∧ T[3]? = some (.p (some (p, 0))) ∧ T[4]? = some (.i .i64 ((i + 1 : Nat) : Int)) := by
  have g0 := slot (by omega) t0
  have g3 := slot (by omega) t3
  have g4 := slot (by omega) t4
  have hb : stepCode E R 7 n7c ⟨t, h⟩ = some (.normal, ⟨((((((((((((((((t.set 15 (.i .i64 i)).set 16 (.imm (zs.map I) m)).set 17 (.i .i64 m)).set 18 (.b true)).set 21 (.imm (zs.map I) m)).set 22 (.i .i64 i)).set 23 (.ip (zs.map I) (i * 3))).set 24 (.ip (zs.map I) (i * 3))).set 25 (.i .i64 0)).set 34 (.b true)).set 33 (.b true)).set 35 (.p (some (p, 0)))).set 36 X).set 19 (.i .i64 i)).set 20 (.i .i64 ((i : Int) + 1))).set 4 (.i .i64 ((i : Int) + 1))), h'⟩) := by
    simp [n7c, e7, body7, lf, rg, Try.f7, Try.func25, Try.f25, stepTask, stepCall, bodyA, stepCode, stepOps, List.range_succ, step1, wantedA, stepOp, execA, evA, putA, ofV, builtinA, lenA, binA, unA, resultsA, resA, indexAddrA, fieldAddrA, storeA, cells_i, cells_own, callFnA, E_P, E_fun, E_mode, E_hook, E_phook, E_ext, E_own, E_glob, Try.underlying2, Try.underlying22, Try.underlying3, Try.underlying50, Try.underlying35, Try.underlying40, Try.underlying9, Try.underlying47, sz2, sz22, sz3, sz40, agg2, agg22, agg3, agg40, intA, loadA, cellsAt, tk0, tk1, tk2, tk3, tk4, undefA, List.getElem?_set, List.getElem_set, ht, g0, g3, g4, c1, w1, k0, k1, c]
  refine ⟨_, hb, by simp [ht], ?_, ?_, by simp [List.getElem?_set, ht]⟩
  · repeat rw [List.getElem?_set_ne (by decide)]
    exact t0
  · repeat rw [List.getElem?_set_ne (by decide)]
    exact t3

theorem r1 (R : Rec) (t : List AV) (h h' : AH) (p m i : Nat) (zs : List Int) (X : AV) (k : Int) (ht : t.length = 89) (t0 : t[0]? = some (.imm (zs.map I) m)) (t3 : t[3]? = some (.p (some (p, 0)))) (t4 : t[4]? = some (.i .i64 i)) (c1 : (i : Int) < m) (w1 : IntKind.wrap .i64 ((i : Int) + 1) = (i : Int) + 1)
    (k0 : takeN (zs.map I) (i * 3) 1 = some [.i .i64 1]) (k1 : takeN (zs.map I) (i * 3 + 1) 1 = some [.i .i64 k]) (c : R (.call 26 [.p (some (p, 0)), .i .i64 k] h) = some (.ret X h')) :
    ∃ T, stepCode E R 7 n7c ⟨t, h⟩ = some (.normal, ⟨T, h'⟩) ∧ T.length = 89 ∧ T[0]? = some (.imm (zs.map I) m) ∧ T[3]? = some (.p (some (p, 0))) ∧ T[4]? = some (.i .i64 ((i + 1 : Nat) : Int)) := by
  have g0 := slot (by omega) t0
  have g3 := slot (by omega) t3
  have g4 := slot (by omega) t4
  have hb : stepCode E R 7 n7c ⟨t, h⟩ = some (.normal, ⟨(((((((((((((((((((((((t.set 15 (.i .i64 i)).set 16 (.imm (zs.map I) m)).set 17 (.i .i64 m)).set 18 (.b true)).set 21 (.imm (zs.map I) m)).set 22 (.i .i64 i)).set 23 (.ip (zs.map I) (i * 3))).set 24 (.ip (zs.map I) (i * 3))).set 25 (.i .i64 1)).set 34 (.b false)).set 33 (.b false)).set 38 (.b true)).set 37 (.b true)).set 39 (.p (some (p, 0)))).set 40 (.imm (zs.map I) m)).set 41 (.i .i64 i)).set 42 (.ip (zs.map I) (i * 3))).set 43 (.ip (zs.map I) (i * 3 + 1))).set 44 (.i .i64 k)).set 45 X).set 19 (.i .i64 i)).set 20 (.i .i64 ((i : Int) + 1))).set 4 (.i .i64 ((i : Int) + 1))), h'⟩) := by
    simp [n7c, e7, body7, lf, rg, Try.f7, Try.func26, Try.f26, stepTask, stepCall, bodyA, stepCode, stepOps, List.range_succ, step1, wantedA, stepOp, execA, evA, putA, ofV, builtinA, lenA, binA, unA, resultsA, resA, indexAddrA, fieldAddrA, storeA, cells_i, cells_own, callFnA, E_P, E_fun, E_mode, E_hook, E_phook, E_ext, E_own, E_glob, Try.underlying2, Try.underlying22, Try.underlying3, Try.underlying50, Try.underlying35, Try.underlying40, Try.underlying9, Try.underlying47, sz2, sz22, sz3, sz40, agg2, agg22, agg3, agg40, intA, loadA, cellsAt, tk0, tk1, tk2, tk3, tk4, undefA, List.getElem?_set, List.getElem_set, ht, g0, g3, g4, c1, w1, k0, k1, c]
  refine ⟨_, hb, by simp [ht], ?_, ?_, by simp [List.getElem?_set, ht]⟩
  · repeat rw [List.getElem?_set_ne (by decide)]
    exact t0
  · repeat rw [List.getElem?_set_ne (by decide)]
    exact t3

theorem r2 (R : Rec) (t : List AV) (h h' : AH) (p m i : Nat) (zs : List Int) (X : AV) (k : Int) (ht : t.length = 89) (t0 : t[0]? = some (.imm (zs.map I) m)) (t3 : t[3]? = some (.p (some (p, 0)))) (t4 : t[4]? = some (.i .i64 i)) (c1 : (i : Int) < m) (w1 : IntKind.wrap .i64 ((i : Int) + 1) = (i : Int) + 1)
    (k0 : takeN (zs.map I) (i * 3) 1 = some [.i .i64 2]) (k1 : takeN (zs.map I) (i * 3 + 1) 1 = some [.i .i64 k]) (c : R (.call 27 [.p (some (p, 0)), .i .i64 k] h) = some (.ret X h')) :
    ∃ T, stepCode E R 7 n7c ⟨t, h⟩ = some (.normal, ⟨T, h'⟩) ∧ T.length = 89 ∧ T[0]? = some (.imm (zs.map I) m) ∧ T[3]? = some (.p (some (p, 0))) ∧ T[4]? = some (.i .i64 ((i + 1 : Nat) : Int)) := by
  have g0 := slot (by omega) t0
  have g3 := slot (by omega) t3
  have g4 := slot (by omega) t4
  have hb : stepCode E R 7 n7c ⟨t, h⟩ = some (.normal, ⟨(((((((((((((((((((((((((t.set 15 (.i .i64 i)).set 16 (.imm (zs.map I) m)).set 17 (.i .i64 m)).set 18 (.b true)).set 21 (.imm (zs.map I) m)).set 22 (.i .i64 i)).set 23 (.ip (zs.map I) (i * 3))).set 24 (.ip (zs.map I) (i * 3))).set 25 (.i .i64 2)).set 34 (.b false)).set 33 (.b false)).set 38 (.b false)).set 37 (.b false)).set 47 (.b true)).set 46 (.b true)).set 48 (.p (some (p, 0)))).set 49 (.imm (zs.map I) m)).set 50 (.i .i64 i)).set 51 (.ip (zs.map I) (i * 3))).set 52 (.ip (zs.map I) (i * 3 + 1))).set 53 (.i .i64 k)).set 54 X).set 19 (.i .i64 i)).set 20 (.i .i64 ((i : Int) + 1))).set 4 (.i .i64 ((i : Int) + 1))), h'⟩) := by
    simp [n7c, e7, body7, lf, rg, Try.f7, Try.func27, Try.f27, stepTask, stepCall, bodyA, stepCode, stepOps, List.range_succ, step1, wantedA, stepOp, execA, evA, putA, ofV, builtinA, lenA, binA, unA, resultsA, resA, indexAddrA, fieldAddrA, storeA, cells_i, cells_own, callFnA, E_P, E_fun, E_mode, E_hook, E_phook, E_ext, E_own, E_glob, Try.underlying2, Try.underlying22, Try.underlying3, Try.underlying50, Try.underlying35, Try.underlying40, Try.underlying9, Try.underlying47, sz2, sz22, sz3, sz40, agg2, agg22, agg3, agg40, intA, loadA, cellsAt, tk0, tk1, tk2, tk3, tk4, undefA, List.getElem?_set, List.getElem_set, ht, g0, g3, g4, c1, w1, k0, k1, c]
  refine ⟨_, hb, by simp [ht], ?_, ?_, by simp [List.getElem?_set, ht]⟩
  · repeat rw [List.getElem?_set_ne (by decide)]
    exact t0
  · repeat rw [List.getElem?_set_ne (by decide)]
    exact t3

theorem r3 (R : Rec) (t : List AV) (h h' : AH) (p m i : Nat) (zs : List Int) (X : AV) (k : Int) (ht : t.length = 89) (t0 : t[0]? = some (.imm (zs.map I) m)) (t3 : t[3]? = some (.p (some (p, 0)))) (t4 : t[4]? = some (.i .i64 i)) (c1 : (i : Int) < m) (w1 : IntKind.wrap .i64 ((i : Int) + 1) = (i : Int) + 1)
    (k0 : takeN (zs.map I) (i * 3) 1 = some [.i .i64 3]) (k1 : takeN (zs.map I) (i * 3 + 1) 1 = some [.i .i64 k]) (c : R (.call 28 [.p (some (p, 0)), .i .i64 k] h) = some (.ret X h')) :
    ∃ T, stepCode E R 7 n7c ⟨t, h⟩ = some (.normal, ⟨T, h'⟩) ∧ T.length = 89 ∧ T[0]? = some (.imm (zs.map I) m) ∧ T[3]? = some (.p (some (p, 0))) ∧ T[4]? = some (.i .i64 ((i + 1 : Nat) : Int)) := by
  have g0 := slot (by omega) t0
  have g3 := slot (by omega) t3
  have g4 := slot (by omega) t4
  have hb : stepCode E R 7 n7c ⟨t, h⟩ = some (.normal, ⟨(((((((((((((((((((((((((((t.set 15 (.i .i64 i)).set 16 (.imm (zs.map I) m)).set 17 (.i .i64 m)).set 18 (.b true)).set 21 (.imm (zs.map I) m)).set 22 (.i .i64 i)).set 23 (.ip (zs.map I) (i * 3))).set 24 (.ip (zs.map I) (i * 3))).set 25 (.i .i64 3)).set 34 (.b false)).set 33 (.b false)).set 38 (.b false)).set 37 (.b false)).set 47 (.b false)).set 46 (.b false)).set 56 (.b true)).set 55 (.b true)).set 57 (.p (some (p, 0)))).set 58 (.imm (zs.map I) m)).set 59 (.i .i64 i)).set 60 (.ip (zs.map I) (i * 3))).set 61 (.ip (zs.map I) (i * 3 + 1))).set 62 (.i .i64 k)).set 63 X).set 19 (.i .i64 i)).set 20 (.i .i64 ((i : Int) + 1))).set 4 (.i .i64 ((i : Int) + 1))), h'⟩) := by
    simp [n7c, e7, body7, lf, rg, Try.f7, Try.func28, Try.f28, stepTask, stepCall, bodyA, stepCode, stepOps, List.range_succ, step1, wantedA, stepOp, execA, evA, putA, ofV, builtinA, lenA, binA, unA, resultsA, resA, indexAddrA, fieldAddrA, storeA, cells_i, cells_own, callFnA, E_P, E_fun, E_mode, E_hook, E_phook, E_ext, E_own, E_glob, Try.underlying2, Try.underlying22, Try.underlying3, Try.underlying50, Try.underlying35, Try.underlying40, Try.underlying9, Try.underlying47, sz2, sz22, sz3, sz40, agg2, agg22, agg3, agg40, intA, loadA, cellsAt, tk0, tk1, tk2, tk3, tk4, undefA, List.getElem?_set, List.getElem_set, ht, g0, g3, g4, c1, w1, k0, k1, c]
  refine ⟨_, hb, by simp [ht], ?_, ?_, by simp [List.getElem?_set, ht]⟩
  · repeat rw [List.getElem?_set_ne (by decide)]
    exact t0
  · repeat rw [List.getElem?_set_ne (by decide)]
    exact t3

theorem r4 (R : Rec) (t : List AV) (h h' : AH) (p m i : Nat) (zs : List Int) (X : AV) (k : Int) (o : Int) (n0 : ¬ o = 0) (n1 : ¬ o = 1) (n2 : ¬ o = 2) (n3 : ¬ o = 3) (ht : t.length = 89) (t0 : t[0]? = some (.imm (zs.map I) m)) (t3 : t[3]? = some (.p (some (p, 0)))) (t4 : t[4]? = some (.i .i64 i)) (c1 : (i : Int) < m) (w1 : IntKind.wrap .i64 ((i : Int) + 1) = (i : Int) + 1)
    (k0 : takeN (zs.map I) (i * 3) 1 = some [.i .i64 o]) (k1 : takeN (zs.map I) (i * 3 + 1) 1 = some [.i .i64 k]) (c : R (.call 29 [.p (some (p, 0)), .i .i64 k] h) = some (.ret X h')) :
    ∃ T, stepCode E R 7 n7c ⟨t, h⟩ = some (.normal, ⟨T, h'⟩) ∧ T.length = 89 ∧ T[0]? = some (.imm (zs.map I) m) ∧ T[3]? = some (.p (some (p, 0))) ∧ T[4]? = some (.i .i64 ((i + 1 : Nat) : Int)) := by
  have g0 := slot (by omega) t0
  have g3 := slot (by omega) t3
  have g4 := slot (by omega) t4
  have b0 : (o == 0) = false := by simpa using n0
  have b1 : (o == 1) = false := by simpa using n1
  have b2 : (o == 2) = false := by simpa using n2
  have b3 : (o == 3) = false := by simpa using n3
  have hb : stepCode E R 7 n7c ⟨t, h⟩ = some (.normal, ⟨(((((((((((((((((((((((((((t.set 15 (.i .i64 i)).set 16 (.imm (zs.map I) m)).set 17 (.i .i64 m)).set 18 (.b true)).set 21 (.imm (zs.map I) m)).set 22 (.i .i64 i)).set 23 (.ip (zs.map I) (i * 3))).set 24 (.ip (zs.map I) (i * 3))).set 25 (.i .i64 o)).set 34 (.b false)).set 33 (.b false)).set 38 (.b false)).set 37 (.b false)).set 47 (.b false)).set 46 (.b false)).set 56 (.b false)).set 55 (.b false)).set 26 (.p (some (p, 0)))).set 27 (.imm (zs.map I) m)).set 28 (.i .i64 i)).set 29 (.ip (zs.map I) (i * 3))).set 30 (.ip (zs.map I) (i * 3 + 1))).set 31 (.i .i64 k)).set 32 X).set 19 (.i .i64 i)).set 20 (.i .i64 ((i : Int) + 1))).set 4 (.i .i64 ((i : Int) + 1))), h'⟩) := by
    simp [n7c, e7, body7, lf, rg, Try.f7, Try.func29, Try.f29, stepTask, stepCall, bodyA, stepCode, stepOps, List.range_succ, step1, wantedA, stepOp, execA, evA, putA, ofV, builtinA, lenA, binA, unA, resultsA, resA, indexAddrA, fieldAddrA, storeA, cells_i, cells_own, callFnA, E_P, E_fun, E_mode, E_hook, E_phook, E_ext, E_own, E_glob, Try.underlying2, Try.underlying22, Try.underlying3, Try.underlying50, Try.underlying35, Try.underlying40, Try.underlying9, Try.underlying47, sz2, sz22, sz3, sz40, agg2, agg22, agg3, agg40, intA, loadA, cellsAt, tk0, tk1, tk2, tk3, tk4, undefA, List.getElem?_set, List.getElem_set, ht, g0, g3, g4, c1, w1, k0, k1, c, b0, b1, b2, b3]
  refine ⟨_, hb, by simp [ht], ?_, ?_, by simp [List.getElem?_set, ht]⟩
  · repeat rw [List.getElem?_set_ne (by decide)]
    exact t0
  · repeat rw [List.getElem?_set_ne (by decide)]
    exact t3

theorem s0 {p m : Nat} {zs : List Int} (hz : zs.length = m * 3) (hm : m ≤ 100) : ∀ (k i : Nat) (t : List AV) (h : AH) (Q : Option Nat) (L : List AV) (c : Cnt) (n : Nat), i + k = m → k + 4 ≤ n → t.length = 89 → t[0]? = some (.imm (zs.map I) m) → t[3]? = some (.p (some (p, 0))) →
    t[4]? = some (.i .i64 i) → Ok7 h p Q L c i →
    ∃ t' h' Q' L' c', run E n (.loop 7 n7c ⟨t, h⟩) = some (.code (.exit 0) ⟨t', h'⟩) ∧ t'.length = 89 ∧ t'[3]? = some (.p (some (p, 0))) ∧ Ok7 h' p Q' L' c' m
  | 0, i, t, h, Q, L, c, n, hik, hn, ht, t0, t3, t4, hl => by
    obtain ⟨n, rfl⟩ : ∃ m, n = m + 1 := ⟨n - 1, by omega⟩
    have hi : i = m := by omega
    subst hi
    have g0 := slot (by omega) t0
    have g3 := slot (by omega) t3
    have g4 := slot (by omega) t4
    have hb : stepCode E (run E n) 7 n7c ⟨t, h⟩ = some (.exit 0, ⟨(((t.set 15 (.i .i64 i)).set 16 (.imm (zs.map I) i)).set 17 (.i .i64 i)).set 18 (.b false), h⟩) := by
      generalize run E n = R
      simp [n7c, e7, body7, lf, rg, Try.f7, stepTask, stepCall, bodyA, stepCode, stepOps, List.range_succ, step1, wantedA, stepOp, execA, evA, putA, ofV, builtinA, lenA, binA, unA, resultsA, resA, indexAddrA, fieldAddrA, storeA, cells_i, cells_own, callFnA, E_P, E_fun, E_mode, E_hook, E_phook, E_ext, E_own, E_glob, Try.underlying2, Try.underlying22, Try.underlying3, Try.underlying50, Try.underlying35, Try.underlying40, Try.underlying9, Try.underlying47, sz2, sz22, sz3, sz40, agg2, agg22, agg3, agg40, intA, loadA, cellsAt, tk0, tk1, tk2, tk3, tk4, undefA, List.getElem?_set, List.getElem_set, ht, g0, g3, g4]
    have hr : run E (n + 1) (.loop 7 n7c ⟨t, h⟩) = some (.code (.exit 0) ⟨(((t.set 15 (.i .i64 i)).set 16 (.imm (zs.map I) i)).set 17 (.i .i64 i)).set 18 (.b false), h⟩) := by
      rw [run]; simp only [stepTask, hb]
    refine ⟨_, h, Q, L, c, hr, by simp [ht], ?_, hl⟩
    repeat rw [List.getElem?_set_ne (by decide)]
    exact t3
  | k + 1, i, t, h, Q, L, c, n, hik, hn, ht, t0, t3, t4, hl => by
    obtain ⟨n, rfl⟩ : ∃ m, n = m + 4 := ⟨n - 4, by omega⟩
    have hi : i < m := by omega
    have c1 : (i : Int) < m := by omega
    have w1 : IntKind.wrap .i64 ((i : Int) + 1) = (i : Int) + 1 := wrap_int (by omega)
    have q0 : i * 3 < zs.length := by omega
    have q1 : i * 3 + 1 < zs.length := by omega
    have k0 : takeN (zs.map I) (i * 3) 1 = some [.i .i64 zs[i * 3]] := takeN_get (by simp [q0, I])
    have k1 : takeN (zs.map I) (i * 3 + 1) 1 = some [.i .i64 zs[i * 3 + 1]] := takeN_get (by simp [q1, I])
    generalize zs[i * 3] = o at k0
    generalize zs[i * 3 + 1] = a at k1
    have main : ∃ T h' Q' L' c', stepCode E (run E (n + 3)) 7 n7c ⟨t, h⟩ = some (.normal, ⟨T, h'⟩) ∧ T.length = 89 ∧ T[0]? = some (.imm (zs.map I) m) ∧ T[3]? = some (.p (some (p, 0))) ∧ T[4]? = some (.i .i64 ((i + 1 : Nat) : Int)) ∧ Ok7 h' p Q' L' c' (i + 1) := by
      by_cases o0 : o = 0
      · subst o0
        obtain ⟨X, h', Q', L', c', x1, x2⟩ := op0 hl (by omega) ⟨#[120]⟩ n
        obtain ⟨T, y1, y2, y3, y4, y5⟩ := r0 _ t h h' p m i zs X a ht t0 t3 t4 c1 w1 k0 k1 x1
        exact ⟨T, h', Q', L', c', y1, y2, y3, y4, y5, x2⟩
      by_cases o1 : o = 1
      · subst o1
        obtain ⟨X, h', Q', L', c', x1, x2⟩ := op1 hl (by omega) a n
        obtain ⟨T, y1, y2, y3, y4, y5⟩ := r1 _ t h h' p m i zs X a ht t0 t3 t4 c1 w1 k0 k1 x1
        exact ⟨T, h', Q', L', c', y1, y2, y3, y4, y5, x2⟩
      by_cases o2 : o = 2
      · subst o2
        obtain ⟨X, h', Q', L', c', x1, x2⟩ := op2 hl (by omega) a n
        obtain ⟨T, y1, y2, y3, y4, y5⟩ := r2 _ t h h' p m i zs X a ht t0 t3 t4 c1 w1 k0 k1 x1
        exact ⟨T, h', Q', L', c', y1, y2, y3, y4, y5, x2⟩
      by_cases o3 : o = 3
      · subst o3
        obtain ⟨X, h', Q', L', c', x1, x2⟩ := op3 hl (by omega) a n
        obtain ⟨T, y1, y2, y3, y4, y5⟩ := r3 _ t h h' p m i zs X a ht t0 t3 t4 c1 w1 k0 k1 x1
        exact ⟨T, h', Q', L', c', y1, y2, y3, y4, y5, x2⟩
      · obtain ⟨X, h', Q', L', c', x1, x2⟩ := op4 hl (by omega) a n
        obtain ⟨T, y1, y2, y3, y4, y5⟩ := r4 _ t h h' p m i zs X a o o0 o1 o2 o3 ht t0 t3 t4 c1 w1 k0 k1 x1
        exact ⟨T, h', Q', L', c', y1, y2, y3, y4, y5, x2⟩
    obtain ⟨T, h', Q', L', c', hb, b1, b2, b3, b4, b5⟩ := main
    obtain ⟨t', h'', Q'', L'', c'', z1, z2, z3, z4⟩ := s0 hz hm k (i + 1) T h' Q' L' c' (n + 3) (by omega) (by omega) b1 b2 b3 b4 b5
    refine ⟨t', h'', Q'', L'', c'', ?_, z2, z3, z4⟩
    rw [show n + 4 = (n + 3) + 1 from rfl, run]
    simp only [stepTask, hb]
    exact z1
end Go.Proofs.Ytgiphcfpopgchaa
