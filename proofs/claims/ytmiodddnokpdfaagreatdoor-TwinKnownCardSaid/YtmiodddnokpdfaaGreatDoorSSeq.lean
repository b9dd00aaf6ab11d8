/-
  slices.AppendSeq of a map's keys, where the map has none.
-/
import Derived.Test.YtmiodddnokpdfaaGreatDoorBEnv
import Derived.Test.YtmiodddnokpdfaaGreatDoorAvK
import Derived.Test.YtmiodddnokpdfaaGreatDoorAvR
import Derived.Laws.IdiomRangeMap
import Derived.WalkSpells
import Derived.LoopNIn
namespace Go.Proofs.YtmiodddnokpdfaaGreatDoor
open Go.Av
set_option maxRecDepth 1000000
set_option linter.unusedSimpArgs false
set_option linter.unusedSectionVars false
set_option maxHeartbeats 4000000

theorem keys_run (Bm o bm clock : Nat) (y : Value) (W : World) (hm : W.cell? ⟨Bm, o, none⟩ = some (.map (some bm))) (hb : W.heap[bm]? = some (.map #[] clock)) :
    Calls Tryz.prog 164 #[y, .pointer (some ⟨Bm, o, none⟩)] W fun e W' => e = .returned (.tuple #[]) ∧ W' = W.alloc (.mapIter (some bm) clock #[] clock) := by
  refine (callsIn_wide (n := 6)).1 ?_
  refine callsIn_of_wp Tryz.func164 rfl trivial ?_ rfl
  simp only [Tryz.ntmps164, List.size_toArray, List.length_cons, List.length_nil, Nat.reduceAdd, Nat.reduceSub, Array.replicate_succ, Array.replicate_zero, List.push_toArray, List.append_toArray, List.nil_append, List.cons_append]
  have hrg := run_range_map (P := Tryz.prog) W 231 _ _ bm #[] clock Tryz.underlying231 hb
  have hnx : ∀ ty, (Instr.next (.pointer (some ⟨W.heap.size, 0, none⟩)) false ty).run Tryz.prog (W.alloc (.mapIter (some bm) clock #[] clock)) = .ok (.tuple #[.bool false]) (W.alloc (.mapIter (some bm) clock #[] clock)) := fun ty => by
    rcases run_next_map (P := Tryz.prog) W ty bm clock clock #[] #[] clock hb (by simp) (Nat.le_refl _) with ⟨_, h⟩ | ⟨e, he, _⟩
    · exact h
    · simp [leftOf] at he
  gi_wp2
  refine wpIn_loop_rounds 1 ?_
  rw [roundsIn_succ]
  gi_wp2
  go_end0
  exact ⟨rfl, rfl⟩

section
variable [Toks]

def tabQ : Tab := { tabG with mode := [], glob := [], win := [] }
noncomputable def EI : Env := env Tryz.prog tabQ
theorem EI_P : EI.P = Tryz.prog := rfl
theorem EI_fun (f : FuncId) : EI.fun_ f = Tryz.prog.funcs[f]? := rfl
theorem EI_mode (f : FuncId) : EI.mode f = 0 := rfl
theorem EI_phook (f : FuncId) : EI.phook f = none := rfl
theorem EI_glob (g : Nat) : EI.glob g = none := rfl
theorem good_I : EnvGood EI := env_good good_mixed good_bits good_fromBits rfl
noncomputable def keysH (args : List AV) (h : AH) : Option (AV × AH) :=
  match args with
  | [_, .p (some (k, o))] => match h.get k with
    | some (.cells _ [.m (some m)]) => match h.get m with
      | some (.map (.es [] _ _)) => if o = 0 then some (.tup [], h) else none
      | _ => none
    | _ => none
  | _ => none

theorem keysH_ok (args : List AV) (h : AH) (r : AV) (h' : AH) (e : keysH args h = some (r, h')) : CallOk EI 164 args h r h' := by
  unfold keysH at e
  split at e
  · rename_i a k o
    split at e
    · rename_i es m hk
      split at e
      · rename_i hm
        split at e
        · rename_i ho
          subst ho
          cases e
          intro I Z w vs hg hL hr
          obtain ⟨v1, l1, rfl, hv1, hL1⟩ := hL.inv_cons
          obtain ⟨v2, l2, rfl, hv2, hL2⟩ := hL1.inv_cons
          obtain rfl := hL2.inv_nil
          obtain ⟨B, hB, hes, arr, elem, fr, a1, a2, a3, a4, a5⟩ := hr.cells k es _ hk
          obtain ⟨B2, hB2, ces, b1, b2, b3⟩ := hr.map m _ hm
          cases hv2 with
          | p hk' =>
          rw [hB] at hk'; cases hk'
          obtain ⟨_, v, c1, c2⟩ := a4 0 (.m (some m)) rfl
          cases c2 with
          | m hm' =>
          rw [hB2] at hm'; cases hm'
          have hces : ces = #[] := Array.eq_empty_of_size_eq_zero b2.symm
          subst hces
          have hcell : w.cell? ⟨B.blk, B.d + 0, none⟩ = some (.map (some B2.blk)) := by simp only [World.cell?, a1]; simpa using c1
          refine (keys_run B.blk (B.d + 0) B2.blk _ v1 w hcell b1).mono ?_
          rintro e w' ⟨rfl, rfl⟩
          refine ⟨I, Z, _, rfl, Goes.patch hr (.refl hr) (by simp) rfl rfl (fun b => ?_), .tup rfl (fun j a v h => by simp at h)⟩
          rcases Nat.lt_or_ge b w.heap.size with hlt | hge
          · left
            show (w.heap.push _)[b]? = _
            rw [Array.getElem?_push, if_neg (by omega)]
          · exact .inr ⟨hge, fun k' B' hl hB' e => by have := hr.size k' B' hB'; omega, fun o => cell_out hge⟩
        · cases e
      · cases e
    · cases e
  · cases e

noncomputable def EQ : Env := hookE EI 164 keysH
theorem good_Q : EnvGood EQ := hookE_good good_I keysH_ok (by rw [EI_mode]; decide) (by rw [EI_mode]; decide) (EI_phook 164)

theorem EQ_P : EQ.P = Tryz.prog := rfl
theorem EQ_fun (f : FuncId) : EQ.fun_ f = Tryz.prog.funcs[f]? := rfl
theorem EQ_mode (f : FuncId) : EQ.mode f = 0 := rfl
theorem EQ_hook (f : FuncId) : EQ.hook f = if Nat.beq f 164 = true then some keysH else none := rfl
theorem EQ_phook (f : FuncId) : EQ.phook f = none := rfl
theorem sz199 : szA Tryz.prog 199 = some 1 := by kernel_rfl
theorem agg199 : isAggA Tryz.prog 199 = some false := by kernel_rfl

theorem keysQ {h : AH} {k m es : Nat} (hk : h.get k = some (.cells es [.m (some m)])) {bs : List Nat} {cl : Nat} (hm : h.get m = some (.map (.es [] bs cl))) (a : AV) : run EQ 1 (.call 164 [a, .p (some (k, 0))] h) = some (.ret (.tup []) h) := by
  simp [run, stepTask, stepCall, EQ_phook, EQ_hook, keysH, hk, hm]

theorem seq_ok {h : AH} {k m es : Nat} (hk : h.get k = some (.cells es [.m (some m)])) {bs : List Nat} {cl : Nat} (hm : h.get m = some (.map (.es [] bs cl))) (hkn : k < h.next) (hmn : m < h.next) :
    CallOk EQ 183 [.nsl, .fn (.func 164) [] [.p (some (k, 0))]] h .nsl (h.new (.cells 1 [.nsl])) := by
  have g0 : (h.new (.cells 1 [.nsl])).get h.next = some (.cells 1 [.nsl]) := by rw [AH.get_new, if_pos rfl]
  have gk : (h.new (.cells 1 [.nsl])).get k = some (.cells es [.m (some m)]) := by rw [AH.get_new, if_neg (by omega)]; exact hk
  have gm : (h.new (.cells 1 [.nsl])).get m = some (.map (.es [] bs cl)) := by rw [AH.get_new, if_neg (by omega)]; exact hm
  have q1 := keysQ gk gm .any
  refine callok_range (n := 1) (v := .tup []) (c := [.p (some (k, 0))]) (h2 := h.new (.cells 1 [.nsl])) (s0 := ?s0) (s1 := ?s1) (s3 := ⟨?t3, h.new (.cells 1 [.nsl])⟩) good_Q (by rw [EQ_fun]; exact Tryz.func183) (by rfl) (by rw [EQ_fun]; exact Tryz.func164) (by rfl) (by decide) ?h1 ?h1b ?hev ?hq ?h3 ?h4
  case h1 =>
    simp [stepCode, stepOps, List.range_succ, step1, wantedA, stepOp, execA, evA, putA, ofV, AV.cells, AV.one, Tryz.f183]
    rfl
  case h1b =>
    simp [stepCode, stepOps, List.range_succ, step1, wantedA, stepOp, execA, evA, putA]
    rfl
  case hev => simp [evA]
  case hq => exact q1
  case h3 =>
    simp [stepCode, stepOps, List.range_succ, step1, wantedA, stepOp, execA, evA, putA, ofV, loadA, EQ_P, sz199, agg199, cellsAt, g0, takeN]
    rfl
  case h4 => simp [resultsA, resA, Tryz.f183]

noncomputable def seqH (args : List AV) (h : AH) : Option (AV × AH) :=
  match args with
  | [.nsl, .fn (.func q) [] [.p (some (k, o))]] => match h.get k with
    | some (.cells _ [.m (some m)]) => match h.get m with
      | some (.map (.es [] _ _)) => if q = 164 ∧ o = 0 ∧ k < h.next ∧ m < h.next then some (.nsl, h.new (.cells 1 [.nsl])) else none
      | _ => none
    | _ => none
  | _ => none

theorem seqH_ok (args : List AV) (h : AH) (r : AV) (h' : AH) (e : seqH args h = some (r, h')) : CallOk EQ 183 args h r h' := by
  unfold seqH at e
  split at e
  · rename_i q k o
    split at e
    · rename_i es m hk
      split at e
      · rename_i hm
        split at e
        · rename_i hc
          obtain ⟨rfl, rfl, hkn, hmn⟩ := hc
          cases e
          exact seq_ok hk hm hkn hmn
        · cases e
      · cases e
    · cases e
  · cases e

/-- Where a function's surroundings name no laid variable. -/
theorem free_ok {E E' : Env} (hP : E'.P = E.P) (hg : ∀ g, E.glob g = none) {f : FuncId} {args : List AV} {h h' : AH} {v : AV} (c : CallOk E f args h v h') : CallOk E' f args h v h' := by
  intro I Z w vs _ hL hr
  rw [hP]
  exact c I Z w vs (fun g cs e => by rw [hg] at e; cases e) hL hr
end
end Go.Proofs.YtmiodddnokpdfaaGreatDoor
