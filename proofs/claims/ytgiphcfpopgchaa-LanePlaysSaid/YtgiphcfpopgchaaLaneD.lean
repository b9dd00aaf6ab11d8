/-
  The lane's Take, Drop, Hold, Double, Len, Counts, on the abstract machine.
-/
import Derived.Test.YtgiphcfpopgchaaLaneC
namespace Go.Proofs.Ytgiphcfpopgchaa
open Go.Av
set_option maxRecDepth 100000
set_option maxHeartbeats 4000000
set_option linter.unusedSimpArgs false
set_option linter.unusedVariables false

theorem del_take {cs L : List AV} {i : Nat} (ht : cs.take L.length = L) (hl : L.length ≤ cs.length) (hi : i < L.length) : (delCells cs i L.length).take (L.eraseIdx i).length = L.eraseIdx i ∧ (delCells cs i L.length).length = cs.length := by
  have h1 : (splice cs i ((cs.drop (i + 1)).take (L.length - (i + 1)))).length = cs.length := splice_length _ _ _ (by simp; omega)
  have h2 : (delCells cs i L.length).length = cs.length := by unfold delCells; rw [splice_length _ _ _ (by simp; omega), h1]
  refine ⟨?_, h2⟩
  have hlen : (L.eraseIdx i).length = L.length - 1 := by rw [List.length_eraseIdx, if_pos hi]
  rw [hlen]
  have e1 : L.eraseIdx i = cs.take i ++ (cs.drop (i + 1)).take (L.length - (i + 1)) := by
    rw [List.eraseIdx_eq_take_drop_succ]
    conv => lhs; rw [← ht]
    rw [List.take_take, List.drop_take, Nat.min_eq_left (by omega)]
  have e2 : (cs.take i ++ (cs.drop (i + 1)).take (L.length - (i + 1))).length = L.length - 1 := by rw [← e1, hlen]
  unfold delCells
  rw [splice, List.append_assoc, List.take_append_of_le_length (by rw [List.length_take, h1]; omega), List.take_take, Nat.min_self, splice, List.take_append_of_le_length (by omega), List.take_of_length_le (by omega), e1]

theorem splice_all {cs vs : List AV} {p : AV → Bool} (o : Nat) (h : cs.all p = true) (hv : vs.all p = true) : (splice cs o vs).all p = true := by
  simp only [splice, List.all_append, Bool.and_eq_true]
  simp only [List.all_eq_true] at h hv ⊢
  exact ⟨⟨fun x hx => h x (List.mem_of_mem_take hx), hv⟩, fun x hx => h x (List.mem_of_mem_drop hx)⟩

theorem has_lane {h : AH} {p : Nat} {Q : Option Nat} {L : List AV} {c : Cnt} (hl : Lane h p Q L c) (i : Int) (n : Nat) : run E (n + 1) (.call 34 [.p (some (p, 0)), .i .i64 i] h) = some (.ret (.b (decide (0 ≤ i ∧ i < (L.length : Int)))) h) := by
  obtain ⟨⟨S, hp, hs⟩, hlt, hne⟩ := hl
  cases hs with
  | nil0 => rw [has_run0 hp n]; congr 3; simp
  | own0 hq ht hl hc hn => exact has_run hp n

theorem full_lane {h : AH} {p : Nat} {Q : Option Nat} {L : List AV} {c : Cnt} (hl : Lane h p Q L c) (n : Nat) : run E (n + 1) (.call 33 [.p (some (p, 0))] h) = some (.ret (.b (decide (4096 ≤ (L.length : Int)))) h) := by
  obtain ⟨⟨S, hp, hs⟩, hlt, hne⟩ := hl
  cases hs with
  | nil0 => rw [full_run0 hp n]; rfl
  | own0 hq ht hl hc hn => exact full_run hp n

theorem out_lane {h : AH} {p : Nat} {Q : Option Nat} {L : List AV} {c : Cnt} (hl : Lane h p Q L c) (hb : L.length ≤ 5000) {i : Nat} (hi : i < L.length) (n : Nat) :
    ∃ h', run E (n + 2) (.call 35 [.p (some (p, 0)), .i .i64 i] h) = some (.ret L[i] h') ∧ Lane h' p Q (L.eraseIdx i) c ∧ Fm h h' p Q Q := by
  obtain ⟨⟨S, hp, hs⟩, hlt, hne⟩ := hl
  cases hs with
  | nil0 => simp at hi
  | @own0 q cs _ hq ht hll hc hn =>
    have hpq : p ≠ q := fun e => hne (by rw [e])
    have hv : cs[i]? = some L[i] := by
      have : L[i]? = some L[i] := List.getElem?_eq_getElem hi
      rw [← this]
      conv => rhs; rw [← ht]
      rw [List.getElem?_take, if_pos hi]
    obtain ⟨d1, d2⟩ := del_take ht hll hi
    have hlen : (L.eraseIdx i).length = L.length - 1 := by rw [List.length_eraseIdx, if_pos hi]
    refine ⟨_, out_run hp hq hpq hi hll hc hb (by rfl) hv n, ⟨⟨.own q 0 (L.length - 1) none, by unfold outH; rw [AH.get_set, if_pos rfl]; rfl, ?_⟩, by simpa [outH] using hlt, hne⟩, ⟨by simp [outH], .inl rfl, fun j h1 h2 h3 => ?_⟩⟩
    · rw [← hlen]
      refine .own0 (cs := delCells cs i L.length) ?_ d1 (by rw [d2]; omega) ?_ (by simpa [outH] using hn)
      · unfold outH; rw [AH.get_set, if_neg (fun e => hpq e.symm), AH.get_set, if_pos rfl]
      · unfold delCells
        exact splice_all _ (splice_all _ hc (all_take hc _ _)) rfl
    · have hjq : j ≠ q := fun e => h3 (by rw [e])
      unfold outH
      rw [AH.get_set, if_neg h2, AH.get_set, if_neg hjq, AH.get_set, if_neg hjq]

/-- Another count. -/
theorem Lane.bump {h : AH} {p : Nat} {Q : Option Nat} {L : List AV} {c : Cnt} {S : AV} (hs : Sl h Q S L) (hlt : p < h.next) (hne : Q ≠ some p) (c' : Cnt) : Lane (h.set p (.cells 5 (Go.Proofs.Ytgiphcfpopgchaa.obj S c'))) p Q L c' :=
  ⟨⟨S, by rw [AH.get_set, if_pos rfl], hs.put hne _⟩, hlt, hne⟩

theorem Fm.set {h : AH} {p : Nat} {Q : Option Nat} (o : AO) : Fm h (h.set p o) p Q Q := ⟨Nat.le_refl _, .inl rfl, fun j _ h2 _ => by rw [AH.get_set, if_neg h2]⟩
theorem Fm.refl (h : AH) (p : Nat) (Q : Option Nat) : Fm h h p Q Q := ⟨Nat.le_refl _, .inl rfl, fun j _ _ _ => rfl⟩
theorem Fm.trans {h h1 h2 : AH} {p : Nat} {Q Q1 Q2 : Option Nat} (a : Fm h h1 p Q Q1) (b : Fm h1 h2 p Q1 Q2) : Fm h h2 p Q Q2 where
  next := Nat.le_trans a.next b.next
  own := by
    rcases b.own with rfl | ⟨q, rfl, hq⟩
    · exact a.own
    · exact .inr ⟨q, rfl, Nat.le_trans a.next hq⟩
  keep := fun j h1 h2 h3 => by
    rw [b.keep j (Nat.lt_of_lt_of_le h1 a.next) h2 ?_, a.keep j h1 h2 h3]
    rcases a.own with rfl | ⟨q, rfl, hq⟩
    · exact h3
    · intro e; cases e; omega

theorem take_run {h : AH} {p : Nat} {Q : Option Nat} {L : List AV} {c : Cnt} (hl : Lane h p Q L c) (hb : L.length ≤ 5000) (hc : c.ok 1000000) {i : Nat} (hi : i < L.length) (n : Nat) :
    ∃ h', run E (n + 3) (.call 14 [.p (some (p, 0)), .i .i64 i] h) = some (.ret (.tup [L[i], .b true]) h') ∧ Lane h' p Q (L.eraseIdx i) { c with t := c.t + 1 } ∧ Fm h h' p Q Q := by
  have hhas := has_lane hl i (n + 1)
  rw [show decide (0 ≤ (i : Int) ∧ (i : Int) < (L.length : Int)) = true by simp; omega] at hhas
  obtain ⟨⟨S, hp, hs⟩, hlt, hne⟩ := hl
  have hl1 := Lane.bump (c := c) hs hlt hne { c with t := c.t + 1 }
  obtain ⟨h', o1, o2, o3⟩ := out_lane hl1 hb hi n
  have p2 := (put_obj hp (x := .i .i64 (c.t + 1)) rfl).2.2.1
  have w1 : IntKind.wrap .i64 (c.t + 1) = c.t + 1 := wrap_int (by have := hc.2.1; omega)
  refine ⟨h', ?_, o2, (Fm.set _).trans o3⟩
  unfold Go.Proofs.Ytgiphcfpopgchaa.obj at hp p2 o1
  rw [show n + 3 = (n + 2) + 1 from rfl]
  generalize hr : run E (n + 2) = R at hhas o1
  rw [run, hr]
  simp [Try.func14, Try.f14, Try.func34, Try.f34, Try.func35, Try.f35, stepTask, stepCall, bodyA, stepCode, stepOps, List.range_succ, step1, wantedA, stepOp, execA, evA, putA, ofV, builtinA, lenA, binA, unA, resultsA, resA, indexAddrA, fieldAddrA, storeA, cells_i, cells_own, callFnA, E_P, E_fun, E_mode, E_hook, E_phook, E_ext, E_own, E_glob, Try.underlying2, Try.underlying22, Try.underlying3, Try.underlying50, sz2, sz22, sz3, agg2, agg22, agg3, intA, loadA, cellsAt, tk0, tk1, tk2, tk3, tk4, undefA, hp, hhas, p2, w1, o1]

theorem take_none {h : AH} {p : Nat} {Q : Option Nat} {L : List AV} {c : Cnt} (hl : Lane h p Q L c) {i : Int} (hi : ¬ (0 ≤ i ∧ i < (L.length : Int))) (n : Nat) :
    run E (n + 3) (.call 14 [.p (some (p, 0)), .i .i64 i] h) = some (.ret (.tup [.i .i64 0, .b false]) h) := by
  have hhas := has_lane hl i (n + 1)
  rw [show decide (0 ≤ i ∧ i < (L.length : Int)) = false by simpa using hi] at hhas
  rw [show n + 3 = (n + 2) + 1 from rfl]
  generalize hr : run E (n + 2) = R at hhas
  rw [run, hr]
  simp [Try.func14, Try.f14, Try.func34, Try.f34, stepTask, stepCall, bodyA, stepCode, stepOps, List.range_succ, step1, wantedA, stepOp, execA, evA, putA, ofV, builtinA, lenA, binA, unA, resultsA, resA, indexAddrA, fieldAddrA, storeA, cells_i, cells_own, callFnA, E_P, E_fun, E_mode, E_hook, E_phook, E_ext, E_own, E_glob, Try.underlying2, Try.underlying22, Try.underlying3, Try.underlying50, sz2, sz22, sz3, agg2, agg22, agg3, intA, loadA, cellsAt, tk0, tk1, tk2, tk3, tk4, undefA, hhas]

theorem len_run {h : AH} {p : Nat} {Q : Option Nat} {L : List AV} {c : Cnt} (hl : Lane h p Q L c) (n : Nat) :
    run E (n + 1) (.call 15 [.p (some (p, 0))] h) = some (.ret (.i .i64 L.length) h) := by
  obtain ⟨⟨S, hp, hs⟩, hlt, hne⟩ := hl
  unfold Go.Proofs.Ytgiphcfpopgchaa.obj at hp
  rw [run]
  cases hs with
  | nil0 => simp [Try.func15, Try.f15, stepTask, stepCall, bodyA, stepCode, stepOps, List.range_succ, step1, wantedA, stepOp, execA, evA, putA, ofV, builtinA, lenA, binA, unA, resultsA, resA, indexAddrA, fieldAddrA, storeA, cells_i, cells_own, callFnA, E_P, E_fun, E_mode, E_hook, E_phook, E_ext, E_own, E_glob, Try.underlying2, Try.underlying22, Try.underlying3, Try.underlying50, sz2, sz22, sz3, agg2, agg22, agg3, intA, loadA, cellsAt, tk0, tk1, tk2, tk3, tk4, undefA, hp]
  | own0 hq ht hl hc hn => simp [Try.func15, Try.f15, stepTask, stepCall, bodyA, stepCode, stepOps, List.range_succ, step1, wantedA, stepOp, execA, evA, putA, ofV, builtinA, lenA, binA, unA, resultsA, resA, indexAddrA, fieldAddrA, storeA, cells_i, cells_own, callFnA, E_P, E_fun, E_mode, E_hook, E_phook, E_ext, E_own, E_glob, Try.underlying2, Try.underlying22, Try.underlying3, Try.underlying50, sz2, sz22, sz3, agg2, agg22, agg3, intA, loadA, cellsAt, tk0, tk1, tk2, tk3, tk4, undefA, hp]

theorem hold_run {h : AH} {p : Nat} {Q : Option Nat} {L : List AV} {c : Cnt} (hl : Lane h p Q L c) (hb : L.length ≤ 4096) (hone : L.all AV.one = true) {i : Nat} (hi : i < L.length) (n : Nat) :
    ∃ Q' h', run E (n + 3) (.call 11 [.p (some (p, 0)), .i .i64 i] h) = some (.ret (.b true) h') ∧ Lane h' p Q' (L.eraseIdx i ++ [L[i]]) c ∧ Fm h h' p Q Q' := by
  have hhas := has_lane hl i (n + 1)
  rw [show decide (0 ≤ (i : Int) ∧ (i : Int) < (L.length : Int)) = true by simp; omega] at hhas
  obtain ⟨h1, o1, o2, o3⟩ := out_lane hl (by omega) hi n
  obtain ⟨⟨S, hp, hs⟩, hlt, hne⟩ := o2
  have ho : (L[i]).one = true := List.all_eq_true.1 hone _ (List.getElem_mem hi)
  have hlen : (L.eraseIdx i).length = L.length - 1 := by rw [List.length_eraseIdx, if_pos hi]
  obtain ⟨Q', S', h2, a1, hs1, hown, hnx, hkeep⟩ := app_lane hs ho (by omega)
  have hne' : Q' ≠ some p := by
    rcases hown with rfl | rfl
    · exact hne
    · intro e; cases e; omega
  have hS1 : S'.one = true := hs1.one
  have hp1 : h2.get p = some (.cells 5 (obj S c)) := by rw [hkeep p hne (by omega)]; exact hp
  have p0 := (put_obj hp1 hS1).1
  have cS := cells_one hS1
  have l1 := lit_one _ ho
  refine ⟨Q', h2.set p (.cells 5 (obj S' c)), ?_, ⟨⟨S', by rw [AH.get_set, if_pos rfl], hs1.put hne' _⟩, by simp; omega, hne'⟩, o3.trans ⟨by simpa using hnx, ?_, fun j k1 k2 k3 => by rw [AH.get_set, if_neg k2, hkeep j k3 (by omega)]⟩⟩
  · unfold obj at hp p0 hp1 ⊢
    rw [show n + 3 = (n + 2) + 1 from rfl]
    generalize hr : run E (n + 2) = R at hhas o1
    rw [run, hr]
    simp [Try.func11, Try.f11, Try.func34, Try.f34, Try.func35, Try.f35, stepTask, stepCall, bodyA, stepCode, stepOps, List.range_succ, step1, wantedA, stepOp, execA, evA, putA, ofV, builtinA, lenA, binA, unA, resultsA, resA, indexAddrA, fieldAddrA, storeA, cells_i, cells_own, callFnA, E_P, E_fun, E_mode, E_hook, E_phook, E_ext, E_own, E_glob, Try.underlying2, Try.underlying22, Try.underlying3, Try.underlying50, sz2, sz22, sz3, agg2, agg22, agg3, intA, loadA, cellsAt, tk0, tk1, tk2, tk3, tk4, undefA, hp, hhas, o1, l1, a1, p0, cS, hp1]
  · rcases hown with rfl | rfl
    · exact .inl rfl
    · exact .inr ⟨_, rfl, Nat.le_refl _⟩

end Go.Proofs.Ytgiphcfpopgchaa
