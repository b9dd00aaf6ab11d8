/-
  shoallaw9.LaneQueue returns true for every list of integers, which reads behind the call as it read before.
-/
import Derived.Test.YtgiphcfpopgchaaRows
import Derived.Test.YtgiphcfpopgchaaLaneS
import Derived.Test.YtgiphcfpopgchaaAv22
namespace Go.Proofs.Ytgiphcfpopgchaa
open Go.ChangeShapes Go.WideShapes Go.ChangeAt Go.RowKit Go.Av
set_option maxRecDepth 100000
set_option maxHeartbeats 4000000
set_option linter.unusedSimpArgs false
set_option linter.unusedVariables false

theorem B3 (R : Rec) (t : List AV) (h : AH) (cs : List AV) (m : Nat) (ht : t.length = 67) (t0 : t[0]? = some (.imm cs m)) (hm : 100 < m) :
    ∃ T, stepCode E R 4 (lf (rg (rg body4))) ⟨t, h⟩ = some (.ret, ⟨T, h⟩) ∧ T[2]? = some (.b true) := by
  have g0 := slot (by omega) t0
  have c1 : decide ((100 : Int) < m) = true := by simp; omega
  refine ⟨(((t.set 12 (.imm cs m)).set 13 (.i .i64 m)).set 14 (.b true)).set 2 (.b true), ?_, by simp [List.getElem?_set, ht]⟩
  simp [body4, lf, rg, Try.f4, stepTask, stepCall, bodyA, stepCode, stepOps, List.range_succ, step1, wantedA, stepOp, execA, evA, putA, ofV, builtinA, lenA, binA, unA, resultsA, resA, indexAddrA, fieldAddrA, storeA, cells_i, cells_own, callFnA, E_P, E_fun, E_mode, E_hook, E_phook, E_ext, E_own, E_glob, Try.underlying2, Try.underlying22, Try.underlying3, Try.underlying50, sz2, sz22, sz3, agg2, agg22, agg3, intA, loadA, cellsAt, tk0, tk1, tk2, tk3, tk4, undefA, List.getElem?_set, List.getElem_set, ht, g0, c1]

theorem queue_long {xs : List Int} (hx : 100 < xs.length) : saysTrue (run E 501 (.call 4 [.imm (xs.map I) xs.length] emptyH)) = true := by
  obtain ⟨h0, ha⟩ := awake_run (n := 500) (by omega)
  obtain ⟨t0, e0, l0, z0⟩ : ∃ t0, t0 = AV.imm (xs.map I) xs.length :: List.replicate 66 undefA ∧ t0.length = 67 ∧ t0[0]? = some (.imm (xs.map I) xs.length) := ⟨_, rfl, by simp, by simp⟩
  have a1 := A1 (run E 500) t0 emptyH
  obtain ⟨t1, e1, l1, z1⟩ : ∃ t1, t1 = t0.set 2 (.b false) ∧ t1.length = 67 ∧ t1[0]? = some (.imm (xs.map I) xs.length) := ⟨_, rfl, by simp [l0], by simp [List.getElem?_set, z0]⟩
  rw [← e1] at a1
  have a2 := A2 (run E 500) t1 emptyH h0 l1 ha
  obtain ⟨t2, e2, l2, z2⟩ : ∃ t2, t2 = (t1.set 10 (.b true)).set 11 (.b false) ∧ t2.length = 67 ∧ t2[0]? = some (.imm (xs.map I) xs.length) := ⟨_, rfl, by simp [l1], by simp [List.getElem?_set, z1]⟩
  rw [← e2] at a2
  obtain ⟨T, a3, zT⟩ := B3 (run E 500) t2 h0 _ _ l2 z2 hx
  have hbody : stepCode E (run E 500) 4 body4 ⟨t0, emptyH⟩ = some (.ret, ⟨T, h0⟩) := by
    rw [body4_eq]
    simp only [stepCode, a1, a2, a3]
  rw [run]
  simp only [stepTask, stepCall, E_phook, E_hook, E_fun, Try.func4, E_mode, bodyA, f4_body, f4_ntmps]
  rw [if_neg (by decide), if_neg (by decide), if_neg (by decide)]
  have : ([AV.imm (xs.map I) xs.length] ++ List.replicate (67 - [AV.imm (xs.map I) xs.length].length) undefA) = t0 := by rw [e0]; rfl
  rw [this, hbody]
  have hT : T.getD 2 undefA = .b true := by simp [List.getD_eq_getElem?_getD, zT]
  simp only [resultsA, f4_results, List.mapM_cons, List.mapM_nil, resA, hT]
  rfl

theorem queue_nil : saysTrue (run E 501 (.call 4 [.nsl] emptyH)) = true := by kernel_rfl

theorem own : ownKnob Try.prog.godebug = none := by kernel_rfl
theorem laidOut : laidOutB Try.prog = true := by kernel_rfl
theorem cells3 : Try.prog.cellsOf 3 = 1 := by kernel_rfl
theorem E_P' : E.P = Try.prog := rfl

theorem queue_calls (W : World) (v : Value) (hv : v = .slice none 0 0 ∨ ∃ zs : List Int, (∀ n ∈ zs, (Lit.int .i64 n).wf = true) ∧ VRel noI (Zed.all W) (.imm (zs.map fun n => .i .i64 n) zs.length) v) :
    Calls Try.prog 4 #[v] W fun e W' => e = .returned (.bool true) ∧ Keeps W W' := by
  have hG : Glob noI (Zed.all W) E := fun g cs e => by cases e
  rcases hv with rfl | ⟨zs, _, hv⟩
  · exact calls_true (E := E) (n := 501) (f := 4) (args := [.nsl]) good queue_nil W [.slice none 0 0] hG (.cons .nsl .nil)
  · have hs : saysTrue (run E 501 (.call 4 [.imm (zs.map I) zs.length] emptyH)) = true := by
      by_cases hl : zs.length ≤ 100
      · exact queue_run hl
      · exact queue_long (by omega)
    exact calls_true (E := E) (n := 501) (f := 4) (args := [.imm (zs.map I) zs.length]) good hs W [v] hG (.cons hv .nil)

theorem queue_lifted (os : Os) (started : os.Started) (H : Type) (enc : TypeId × Value → H) :
    ReturnsInHanded {} Try.checked os 4 .any (Rows.laneQueueSpec.pre6 enc Try.prog Try.f4 Rows.laneQueueRow.domain false) (Rows.laneQueueSpec.post enc Try.prog Try.f4 false true false false) := by
  refine returnsInHanded_of_change (C := Try.checked) own started (by kernel_rfl) Try.func4
    (ChangeSpec.witness6 (enc := enc) (C := Try.checked) false ⟨#[], #[.slice none 0 0], []⟩ 8 (by kernel_rfl) (by kernel_rfl) (by kernel_rfl) (by kernel_rfl)) ?_
  intro W base args ds gs before hval0 hW hcnd _
  have hval : ∀ (j : Nat) t v, Try.f4.params[j]? = some t → args[j]? = some v → Value.okWide Try.prog W .any base t v := hval0
  have hW' := hW
  have hlt : ∀ x ∈ before, x.block < W.heap.size := fun x hx => hW.lt x hx
  obtain ⟨p, q, hA0, hV, rfl, hfz, hnd⟩ := hW
  have hA : DataW.TrodAll enc Try.prog W 0 (fun _ => true) true Try.f4.params.toList args.toList ds p := hA0
  rw [Try.params4] at hA hval
  obtain ⟨v0, vs0, d0, ds0, p0, q0, hargs, rfl, rfl, h0, r0⟩ := trodAll_cons hA
  obtain ⟨rfl, rfl, rfl⟩ := trodAll_nil r0
  obtain rfl : args = #[v0] := by cases args; simp_all
  obtain ⟨rfl, rfl⟩ := trodVars_none hV
  have hv := ints_rel Try.underlying22 Try.underlying3 cells3 (hval 0 22 v0 rfl rfl) h0
  clear hA0 hval0
  refine (queue_calls W v0 hv).mono fun e W' ⟨he, hk⟩ => ?_
  subst he
  simp only [List.append_nil] at hW' hlt
  refine ⟨_, rfl, post_of_kept (pa := p0) (pv := []) hW' (fun _ _ _ => trodAll_cons_mk (shut_bool Try.underlying4 _) trodAll_mk0)
    (fun sp hs => ?_) (fun _ _ => rfl) (by simp) hk (ok_one (t := 4) (by kernel_rfl) rfl (okWide_bool_mk Try.underlying4 _))⟩
  rw [Try.params4]
  exact trodAll_mk1 (hk.trod laidOut (by kernel_rfl) (of_decide_eq_true (by kernel_rfl)) h0 hlt hs)

theorem laneQueue_holds : Rows.LaneQueueSaid :=
  OpenClaim.holds_of_wide 4 Try.f4 rfl rfl rfl rfl rfl rfl rfl ⟨rfl, rfl, rfl, rfl, rfl⟩ rfl rfl rfl rfl rfl (by kernel_rfl) Try.func4 (by kernel_rfl)
    (of_decide_eq_true (by kernel_rfl)) (by unfold Func.isWrapper; first | (rw [if_pos (by decide +kernel)]; kernel_rfl) | (rw [if_neg (by decide +kernel)]; exact ⟨rfl, rfl⟩))
    (fun os started H enc _ => queue_lifted os started H enc)
end Go.Proofs.Ytgiphcfpopgchaa
