/-
  slices.Insert of one number ahead of one, on the abstract machine: slices.overlaps may answer either way.
-/
import Derived.Test.YtiiadbmmgpbmjaaGreatDoorChecked
import Derived.Test.YtiiadbmmgpbmjaaGreatDoorAvK
import Derived.KernelRfl
namespace Go.Proofs.YtiiadbmmgpbmjaaGreatDoor
open Go.Av
set_option maxRecDepth 100000
set_option linter.unusedSimpArgs false
set_option linter.unusedSectionVars false
set_option maxHeartbeats 4000000
section
variable [Toks]

def insWin : List (FuncId × List (Nat × List (Nat × Nat × Nat))) := [(62, [(11, []), (15, [])]), (175, [(3, [])])]
noncomputable def EI : Env := envK Tryz.prog 108 insWin
theorem ov_is : ExtIs Tryz.prog 108 (Extern.SlicesOverlaps.overlaps #[77, 77] #[4]) := ⟨Tryz.f108, Tryz.func108, by kernel_rfl, by kernel_rfl, by kernel_rfl, by kernel_rfl⟩
theorem sz32 : szA Tryz.prog 32 = some 1 := by kernel_rfl
theorem agg32 : isAggA Tryz.prog 32 = some false := by kernel_rfl
theorem el77 : elemA Tryz.prog 77 = some 32 := by kernel_rfl
theorem es32 : esA Tryz.prog 32 = some 1 := by kernel_rfl
theorem z32 : zeroA Tryz.prog 32 = some (.i .u64 0) := by kernel_rfl
theorem by32 : bytesA Tryz.prog 32 = some 8 := by kernel_rfl
theorem winI : EI.win 62 11 = some [] := by kernel_rfl
theorem winI2 : EI.win 62 15 = some [] := by kernel_rfl
theorem winI3 : EI.win 175 3 = some [] := by kernel_rfl
theorem EI_P : EI.P = Tryz.prog := rfl
theorem EI_fun (f : FuncId) : EI.fun_ f = Tryz.prog.funcs[f]? := rfl
theorem EI_mode (f : FuncId) : EI.mode f = if f = 108 then 5 else 0 := rfl
theorem EI_hook (f : FuncId) : EI.hook f = none := rfl
theorem EI_phook (f : FuncId) : EI.phook f = none := rfl
theorem EI_ext (f : FuncId) : EI.ext f = none := rfl
theorem EI_own (t : TypeId) (c : Bool) : EI.ownLit t c = false := rfl
theorem EI_glob (g : Nat) : EI.glob g = none := rfl
theorem EI_xh (f : FuncId) : EI.xh f = if f = 108 then some ovU else none := rfl
theorem EI_tb (a b c d) : EI.tb a b c d = none := rfl
theorem EI_tu (a b) : EI.tu a b = notU a b := rfl

theorem good_I : EnvGood EI := by
  refine envK_good (tS := 77) (tR := 4) (e := 32) (es0 := 1) Tryz.underlying77 (fun w => ?_) ov_is (by kernel_rfl) (by kernel_rfl)
  exact run_szA sz32

def lf : Code → Code | .seq a _ => a | c => c
def rg : Code → Code | .seq _ b => b | c => c
def cx : Code → Code | .cond _ x _ => x | c => c
noncomputable def insB : Code := Tryz.f62.body.getD .skip
noncomputable def insR : Nat → Code | 0 => insB | n + 1 => rg (insR n)
noncomputable def insPre : List Code := [lf (insR 0), lf (insR 1), lf (insR 2), lf (insR 3), lf (insR 4), lf (insR 5), lf (insR 6), lf (insR 7)]
theorem ins_body : Tryz.f62.body = some (chain insPre (.seq (.seq (lf (lf (insR 8))) (.cond (.tmp 68) (cx (rg (lf (insR 8)))) .skip)) (rg (insR 8)))) := by kernel_rfl
theorem repZ_length (z : List AV) : ∀ m, (repZ z m).length = m * z.length
  | 0 => by simp [repZ]
  | m + 1 => by simp [repZ, repZ_length z m, Nat.add_mul]; omega
theorem repZ_one {z : List AV} (h : z.all AV.one = true) : ∀ m, (repZ z m).all AV.one = true
  | 0 => rfl
  | m + 1 => by simp only [repZ, List.all_append, h, repZ_one h m]; rfl

theorem wrap_int {x : Int} (h : -4611686018427387904 ≤ x ∧ x < 4611686018427387904) : IntKind.wrap .i64 x = x := by
  simp [IntKind.wrap, IntKind.bits, IntKind.signed]
  omega

theorem app_ins {h : AH} {k i m c : Nat} {D : List AV} {x : Int} (hk : h.get k = some (.cells 1 D)) (hx : x = (m : Int)) (hc : c < i + m) (hD : i ≤ D.length) (hb : i + m ≤ 2000) :
    appendA Tryz.prog h 77 3 (.own k 0 i (some c)) (.i .i64 x) = some (.own h.next 0 (i + m) none, h.new (.cells 1 (D.take i ++ repZ [.i .u64 0] m))) := by
  subst hx
  unfold appendA
  simp only [el77, es32, z32, by32, AV.cells, List.length_cons, List.length_nil]
  rw [if_pos (by decide)]
  unfold moreA
  simp only [Tryz.underlying3]
  rw [if_pos ⟨by omega, by simp only [room]; omega⟩]
  simp only [Int.toNat_natCast]
  rw [if_pos ⟨repZ_one (by decide) _, by simp only [room]; omega⟩, hk]
  simp only
  rw [if_pos ⟨trivial, by simp only [room]; omega, by omega⟩, if_neg (by omega)]
  simp [newSlice]

theorem more_imm {h : AH} {v : List AV} (hv : v.length = 1) : moreA Tryz.prog h 1 77 [] (.imm v 1) = some (v, 1) := by
  unfold moreA
  simp only [Tryz.underlying77]
  rw [if_pos (by omega)]
theorem more_own {h : AH} {k o n : Nat} {cap : Option Nat} {D : List AV} (hk : h.get k = some (.cells 1 D)) (hn : n ≠ 0) (hl : o + n ≤ D.length) : moreA Tryz.prog h 1 77 [] (.own k o n cap) = some ((D.drop o).take (n), n) := by
  unfold moreA
  simp only [Tryz.underlying77]
  rw [if_neg hn]
  simp only [sliceCells, hk, if_true, takeN]
  rw [if_pos (by simp; omega), Nat.mul_one]; rfl

theorem copy_run {h : AH} {q o n kk : Nat} {cap : Option Nat} {D new : List AV} {x : AV} (hm : moreA Tryz.prog h 1 77 [] x = some (new, kk)) (hq : h.get q = some (.cells 1 D)) (h1 : new.all AV.one = true) (hl : o + (new.take (min kk n)).length ≤ D.length) :
    copyA Tryz.prog h 77 77 (.own q o n cap) x = some (.i .i64 (min kk n : Nat), h.set q (.cells 1 (splice D o (new.take (min kk n))))) := by
  unfold copyA
  simp only [el77, es32, hm, Tryz.underlying77]
  unfold putCells
  simp only [hq]
  rw [if_pos (by
    rw [Bool.and_eq_true]
    refine ⟨?_, by simpa using hl⟩
    simp only [List.all_eq_true] at h1 ⊢
    exact fun x hx => h1 x (List.mem_of_mem_take hx))]
  simp only [Nat.mul_one, Option.map_some]

theorem splice_length {α : Type} (cs : List α) (o : Nat) (vs : List α) (h : o + vs.length ≤ cs.length) : (splice cs o vs).length = cs.length := by
  simp [splice]; omega

theorem all_sub {l : List AV} {p : AV → Bool} (h : l.all p = true) (a b : Nat) : (((l.drop a).take b).all p) = true := by
  simp only [List.all_eq_true] at h ⊢
  exact fun x hx => h x (List.mem_of_mem_drop (List.mem_of_mem_take hx))


theorem ins_A {H : AH} {k : Nat} {x y : AV} (hk : H.get k = some (.cells 1 [y])) (hkn : k < H.next) (hx : x.one = true) (hy : y.one = true) (fuel : Nat) :
    ∃ hA, run EI (fuel + 1) (.call 62 [.own k 0 1 (some 1), .i .i64 0, .imm [x] 1] H) = some (.ret (.own H.next 0 2 none) hA) ∧ hA.Alike (H.new (.cells 1 [x, y])) := by
  have e1 : IntKind.wrap .i64 2 = 2 := wrap_int (by omega)
  have e2 : IntKind.wrap .i64 1 = 1 := wrap_int (by omega)
  have a1 := app_ins (i := 0) (m := 2) (c := 1) (x := 2) hk rfl (by omega) (by omega) (by omega)
  obtain ⟨H1, hH1⟩ : ∃ H1, H1 = H.new (.cells 1 [.i .u64 0, .i .u64 0]) := ⟨_, rfl⟩
  rw [show List.take 0 [y] ++ repZ [AV.i .u64 0] 2 = [.i .u64 0, .i .u64 0] from rfl, ← hH1] at a1
  have g1 : H1.get H.next = some (.cells 1 [.i .u64 0, .i .u64 0]) := by rw [hH1, AH.get_new, if_pos rfl]
  have b1 := copy_run (o := 0) (n := 2) (cap := none) (more_imm (h := H1) (v := [x]) rfl) g1 (by simp [hx]) (by simp)
  rw [show splice [AV.i .u64 0, .i .u64 0] 0 (List.take (min 1 2) [x]) = [x, .i .u64 0] from rfl] at b1
  obtain ⟨H2, hH2⟩ : ∃ H2, H2 = H1.set H.next (.cells 1 [x, .i .u64 0]) := ⟨_, rfl⟩
  rw [← hH2] at b1
  have g2 : H2.get H.next = some (.cells 1 [x, .i .u64 0]) := by rw [hH2, AH.get_set, if_pos rfl]
  have gk1 : H1.get k = some (.cells 1 [y]) := by rw [hH1, AH.get_new, if_neg (by omega)]; exact hk
  have gk2 : H2.get k = some (.cells 1 [y]) := by rw [hH2, AH.get_set, if_neg (by omega)]; exact gk1
  have c1 := copy_run (o := 1) (n := 1) (cap := none) (more_own (cap := some 1) (o := 0) (n := 1) gk2 (by omega) (by simp)) g2 (by simp [hy]) (by simp)
  rw [show splice [x, AV.i .u64 0] 1 (List.take (min 1 1) (List.take 1 (List.drop 0 [y]))) = [x, y] from rfl] at c1
  refine ⟨_, (by
    simp [run, stepTask, stepCall, bodyA, stepCode, stepOps, List.range_succ, step1, wantedA, stepOp, execA, evA, putA, ofV, builtinA, lenA, binE, unE, binA, resultsA, resA, sliceA, capA,
      EI_P, EI_fun, EI_mode, EI_hook, EI_phook, EI_ext, EI_own, EI_glob, EI_tb, EI_tu, EI_xh, Tryz.func62, Tryz.f62, Tryz.underlying77, Tryz.underlying3, es32, hk, intA, optIntA, capLe, kindA, stepDraw, runD, nthW, winI, winI2, e1, e2, a1, b1, g1, g2, gk1, gk2, c1]
    rfl), ?_⟩
  refine ⟨?_, fun j => ?_⟩
  · rw [AH.next_set, hH2, AH.next_set, hH1, AH.next_new, AH.next_new]
  · rw [AH.get_set, AH.get_new]
    by_cases hj : j = H.next
    · rw [if_pos hj, if_pos hj]
    · rw [if_neg hj, if_neg hj, hH2, AH.get_set, if_neg hj, hH1, AH.get_new, if_neg hj]

/-- One place: nothing to turn round. -/
theorem rev_one {H : AH} {k o : Nat} {cap : Option Nat} (fuel : Nat) : run EI (fuel + 2) (.call 175 [.own k o 1 cap] H) = some (.ret (.tup []) H) := by
  have e1 : IntKind.wrap .i64 0 = 0 := wrap_int (by omega)
  simp [run, stepTask, stepCall, bodyA, stepCode, stepOps, List.range_succ, step1, wantedA, stepOp, execA, evA, putA, ofV, builtinA, lenA, binE, unE, binA, resultsA, resA,
    EI_P, EI_fun, EI_mode, EI_hook, EI_phook, EI_ext, EI_own, EI_glob, EI_tb, EI_tu, EI_xh, Tryz.func175, Tryz.f175, Tryz.underlying77, Tryz.underlying3, e1]

/-- Two places. -/
theorem rev_two {H : AH} {k : Nat} {cap : Option Nat} {a b : AV} {rest : List AV} (hk : H.get k = some (.cells 1 (a :: b :: rest))) (ha : a.one = true) (hb : b.one = true) (fuel : Nat) :
    ∃ H', run EI (fuel + 3) (.call 175 [.own k 0 2 cap] H) = some (.ret (.tup []) H') ∧ H'.Alike (H.set k (.cells 1 (b :: a :: rest))) := by
  have e1 : IntKind.wrap .i64 1 = 1 := wrap_int (by omega)
  have e2 : IntKind.wrap .i64 0 = 0 := wrap_int (by omega)
  have p1 : putCells H k 0 [b] = some (H.set k (.cells 1 (b :: b :: rest))) := by unfold putCells; simp [hk, hb, splice]
  have g1 : (H.set k (.cells 1 (b :: b :: rest))).get k = some (.cells 1 (b :: b :: rest)) := by rw [AH.get_set, if_pos rfl]
  have p2 : putCells (H.set k (.cells 1 (b :: b :: rest))) k 1 [a] = some ((H.set k (.cells 1 (b :: b :: rest))).set k (.cells 1 (b :: a :: rest))) := by unfold putCells; simp [g1, ha, splice]
  have ca : a.cells = [a] := by cases a <;> simp_all [AV.cells, AV.one]
  have cb : b.cells = [b] := by cases b <;> simp_all [AV.cells, AV.one]
  have t0 : takeN (a :: b :: rest) 0 1 = some [a] := rfl
  have t1 : takeN (a :: b :: rest) 1 1 = some [b] := rfl
  refine ⟨_, (by
    simp [run, stepTask, stepCall, bodyA, stepCode, stepOps, List.range_succ, step1, wantedA, stepOp, execA, evA, putA, ofV, builtinA, lenA, binE, unE, binA, resultsA, resA, indexAddrA, loadA, storeA, cellsAt, sz32, agg32, ca, cb,
      EI_P, EI_fun, EI_mode, EI_hook, EI_phook, EI_ext, EI_own, EI_glob, EI_tb, EI_tu, EI_xh, Tryz.func175, Tryz.f175, Tryz.underlying77, Tryz.underlying3, Tryz.underlying32, es32, hk, intA, e1, e2, kindA, stepDraw, runD, nthW, winI3, t0, t1, p1, p2]
    rfl), ?_⟩
  refine ⟨rfl, fun j => ?_⟩
  simp only [AH.get_set]
  split <;> rfl

theorem rotL_run {H : AH} {k c : Nat} {a b : AV} {rest : List AV} (hk : H.get k = some (.cells 1 (a :: b :: rest))) (hc : 2 ≤ c) (ha : a.one = true) (hb : b.one = true) :
    ∃ H', run EI 4 (.call 145 [.own k 0 2 (some c), .i .i64 1] H) = some (.ret (.tup []) H') ∧ H'.Alike (H.set k (.cells 1 (b :: a :: rest))) := by
  obtain ⟨H', r2, al⟩ := rev_two (cap := some c) hk ha hb 0
  have r0 : run EI 3 (.call 175 [.own k 0 1 (some c)] H) = some (.ret (.tup []) H) := rev_one 1
  have r1 : run EI 3 (.call 175 [.own k 1 1 (some (c - 1))] H) = some (.ret (.tup []) H) := rev_one 1
  have e1 : (1 : Int) ≤ (c : Int) := by omega
  have e2 : (2 : Int) ≤ (c : Int) := by omega
  refine ⟨H', ?_, al⟩
  rw [show (0 + 3) = 3 from rfl] at r2
  rw [show (4 : Nat) = 3 + 1 from rfl]
  generalize hr : run EI 3 = R at r0 r1 r2
  rw [run, hr]
  simp [stepTask, stepCall, bodyA, stepCode, stepOps, List.range_succ, step1, wantedA, stepOp, execA, evA, putA, ofV, builtinA, lenA, binE, unE, unA, notU, binA, resultsA, resA, sliceA, capA, callFnA,
      EI_P, EI_fun, EI_mode, EI_hook, EI_phook, EI_ext, EI_own, EI_glob, EI_tb, EI_tu, EI_xh, Tryz.underlying77, Tryz.underlying3, es32, hk, intA, optIntA, capLe, kindA, stepDraw, runD, nthW, winI, winI2, Tryz.func145, Tryz.f145, Tryz.func175, Tryz.f175, e1, e2, r0, r1, r2]

theorem rotR_run {H : AH} {k c : Nat} {a b : AV} {rest : List AV} (hk : H.get k = some (.cells 1 (a :: b :: rest))) (hc : 2 ≤ c) (ha : a.one = true) (hb : b.one = true) :
    ∃ H', run EI 5 (.call 109 [.own k 0 2 (some c), .i .i64 1] H) = some (.ret (.tup []) H') ∧ H'.Alike (H.set k (.cells 1 (b :: a :: rest))) := by
  obtain ⟨H', r0, al⟩ := rotL_run hk hc ha hb
  have e1 : IntKind.wrap .i64 1 = 1 := wrap_int (by omega)
  refine ⟨H', ?_, al⟩
  rw [show (5 : Nat) = 4 + 1 from rfl]
  generalize hr : run EI 4 = R at r0
  rw [run, hr]
  simp [stepTask, stepCall, bodyA, stepCode, stepOps, List.range_succ, step1, wantedA, stepOp, execA, evA, putA, ofV, builtinA, lenA, binE, unE, unA, notU, binA, resultsA, resA, sliceA, capA, callFnA,
      EI_P, EI_fun, EI_mode, EI_hook, EI_phook, EI_ext, EI_own, EI_glob, EI_tb, EI_tu, EI_xh, Tryz.underlying77, Tryz.underlying3, es32, hk, intA, optIntA, capLe, kindA, stepDraw, runD, nthW, winI, winI2, Tryz.func109, Tryz.f109, Tryz.func145, Tryz.f145, e1, r0]

theorem ins_B {H : AH} {k c : Nat} {x y y1 : AV} {rest : List AV} (hk : H.get k = some (.cells 1 (y :: y1 :: rest))) (hc : 2 ≤ c) (hx : x.one = true) (hy : y.one = true) (hy1 : y1.one = true) :
    CallOk EI 62 [.own k 0 1 (some c), .i .i64 0, .imm [x] 1] H (.own k 0 2 (some c)) (H.set k (.cells 1 (x :: y :: rest))) := by
  have e1 : IntKind.wrap .i64 2 = 2 := wrap_int (by omega)
  have e2 : IntKind.wrap .i64 1 = 1 := wrap_int (by omega)
  have e3 : (1 : Int) ≤ (c : Int) := by omega
  have e4 : (2 : Int) ≤ (c : Int) := by omega
  have e5 : ¬ (c : Int) < 2 := by omega
  have x1 : ovU [.imm [x] 1, .own k 1 1 (some (c - 1))] H = some .unkb := by
    unfold ovU
    simp [hk]
  have m1 : moreA Tryz.prog H 1 77 [] (.own k 0 2 (some c)) = some ([y, y1], 2) := by
    have := more_own (cap := some c) (o := 0) (n := 2) hk (by omega) (by simp)
    simpa using this
  have b1 := copy_run (o := 1) (n := 1) (cap := some (c - 1)) m1 hk (by simp [hy, hy1]) (by simp)
  rw [show splice (y :: y1 :: rest) 1 (List.take (min 2 1) [y, y1]) = y :: y :: rest from rfl] at b1
  have b2 := copy_run (o := 1) (n := 1) (cap := some (c - 1)) (more_imm (h := H) (v := [x]) rfl) hk (by simp [hx]) (by simp)
  rw [show splice (y :: y1 :: rest) 1 (List.take (min 1 1) [x]) = y :: x :: rest from rfl] at b2
  obtain ⟨H1, hH1⟩ : ∃ H1, H1 = H.set k (.cells 1 (y :: y :: rest)) := ⟨_, rfl⟩
  rw [← hH1] at b1
  have g1 : H1.get k = some (.cells 1 (y :: y :: rest)) := by rw [hH1, AH.get_set, if_pos rfl]
  have b3 := copy_run (o := 0) (n := 2) (cap := some c) (more_imm (h := H1) (v := [x]) rfl) g1 (by simp [hx]) (by simp)
  rw [show splice (y :: y :: rest) 0 (List.take (min 1 2) [x]) = x :: y :: rest from rfl] at b3
  obtain ⟨H2, hH2⟩ : ∃ H2, H2 = H.set k (.cells 1 (y :: x :: rest)) := ⟨_, rfl⟩
  rw [← hH2] at b2
  have g2 : H2.get k = some (.cells 1 (y :: x :: rest)) := by rw [hH2, AH.get_set, if_pos rfl]
  obtain ⟨H3, r3, al3⟩ := rotR_run g2 hc hy hx
  generalize hr : run EI 5 = R at r3
  refine callok_fork (n := 5) (s1 := ?s1) (s2 := ?s2) (s3 := ?s3) (s4 := ?s4) good_I (by rw [EI_fun]; exact Tryz.func62) ins_body ?h1 ?h2 ?hc ?h3 ?h4 ?r3 ?r4 ?g3 ?g4
  all_goals (try rw [hr])
  case h1 =>
    simp [stepL, insPre, insR, insB, lf, rg, Tryz.f62, stepTask, stepCall, bodyA, stepCode, stepOps, List.range_succ, step1, wantedA, stepOp, execA, evA, putA, ofV, builtinA, lenA, binE, unE, unA, notU, binA, resultsA, resA, sliceA, capA, callFnA,
      EI_P, EI_fun, EI_mode, EI_hook, EI_phook, EI_ext, EI_own, EI_glob, EI_tb, EI_tu, EI_xh, Tryz.underlying77, Tryz.underlying3, es32, hk, intA, optIntA, capLe, kindA, stepDraw, runD, nthW, winI, winI2, e1, e2, e3, e4, e5, x1, b1, b2, b3, g1, g2]
    rfl
  case h2 =>
    simp [stepL, insPre, insR, insB, lf, rg, cx, Tryz.f62, Tryz.func62, Tryz.func108, Tryz.f108, stepTask, stepCall, bodyA, stepCode, stepOps, List.range_succ, step1, wantedA, stepOp, execA, evA, putA, ofV, builtinA, lenA, binE, unE, unA, notU, binA, resultsA, resA, sliceA, capA, callFnA,
      EI_P, EI_fun, EI_mode, EI_hook, EI_phook, EI_ext, EI_own, EI_glob, EI_tb, EI_tu, EI_xh, Tryz.underlying77, Tryz.underlying3, es32, hk, intA, optIntA, capLe, kindA, stepDraw, runD, nthW, winI, winI2, e1, e2, e3, e4, e5, x1, b1, b2, b3, g1, g2]
    rfl
  case hc => simp [evA]
  case h3 =>
    simp [stepL, insPre, insR, insB, lf, rg, cx, Tryz.f62, Tryz.func62, stepTask, stepCall, bodyA, stepCode, stepOps, List.range_succ, step1, wantedA, stepOp, execA, evA, putA, ofV, builtinA, lenA, binE, unE, unA, notU, binA, resultsA, resA, sliceA, capA, callFnA,
      EI_P, EI_fun, EI_mode, EI_hook, EI_phook, EI_ext, EI_own, EI_glob, EI_tb, EI_tu, EI_xh, Tryz.underlying77, Tryz.underlying3, es32, hk, intA, optIntA, capLe, kindA, stepDraw, runD, nthW, winI, winI2, e1, e2, e3, e4, e5, x1, b1, b2, b3, g1, g2]
    rfl
  case h4 =>
    simp [stepL, insPre, insR, insB, lf, rg, cx, Tryz.f62, Tryz.func62, Tryz.func109, Tryz.f109, stepTask, stepCall, bodyA, stepCode, stepOps, List.range_succ, step1, wantedA, stepOp, execA, evA, putA, ofV, builtinA, lenA, binE, unE, unA, notU, binA, resultsA, resA, sliceA, capA, callFnA,
      EI_P, EI_fun, EI_mode, EI_hook, EI_phook, EI_ext, EI_own, EI_glob, EI_tb, EI_tu, EI_xh, Tryz.underlying77, Tryz.underlying3, es32, hk, intA, optIntA, capLe, kindA, stepDraw, runD, nthW, winI, winI2, e1, e2, e3, e4, e5, x1, b1, b2, b3, g1, g2, r3]
    rfl
  case r3 => simp [resultsA, resA, Tryz.f62]
  case r4 => simp [resultsA, resA, Tryz.f62]
  case g3 =>
    refine ⟨by rw [AH.next_set, hH1, AH.next_set, AH.next_set], fun j => ?_⟩
    simp only [hH1, AH.get_set]
    split <;> rfl
  case g4 =>
    refine ⟨by rw [al3.next, hH2, AH.next_set, AH.next_set, AH.next_set], fun j => ?_⟩
    rw [al3.get]
    simp only [hH2, AH.get_set]
    split <;> rfl

/-- slices.Insert of one number ahead of one. -/
noncomputable def insM (args : List AV) (h : AH) : Option (AV × AH) :=
  match args with
  | [.own k o n none, .i .i64 (.ofNat i), .imm [x] m] => match h.get k with
    | some (.cells es [y]) => if o = 0 ∧ n = 1 ∧ i = 0 ∧ m = 1 ∧ es = 1 ∧ x.one = true ∧ y.one = true ∧ k < h.next then
        some (.own h.next 0 2 none, (h.del k).new (.cells 1 [x, y]))
      else none
    | _ => none
  | _ => none

noncomputable def insH (args : List AV) (h : AH) : Option (AV × AH) :=
  match insM args h with
  | some r => some r
  | none => match run EI 60 (.call 62 args h) with
    | some (.ret v h') => some (v, h')
    | _ => none

theorem insM_ok {args : List AV} {h h' : AH} {r : AV} (e : insM args h = some (r, h')) : CallOk EI 62 args h r h' := by
  unfold insM at e
  split at e
  · rename_i k o n i x m
    split at e
    · rename_i es y hk
      split at e
      · rename_i hc
        obtain ⟨rfl, rfl, rfl, rfl, rfl, hx, hy, hkn⟩ := hc
        cases e
        refine put_ok' (n' := 2) (by omega) (by omega) hk rfl (fun c h1 h2 h3 => ?_) (fun c h1 h2 h3 => ?_)
        · obtain rfl : c = 1 := by omega
          have g : (padH h k 1 1 [y]).get k = some (.cells 1 [y]) := by unfold padH; rw [AH.get_set, if_pos rfl]; rfl
          obtain ⟨hA, e1, e2⟩ := ins_A g (show k < (padH h k 1 1 [y]).next from hkn) hx hy 6
          exact ⟨hA, call_ok good_I e1, e2⟩
        · obtain ⟨d, rfl⟩ : ∃ d, c = d + 2 := ⟨c - 2, by omega⟩
          have g : (padH h k 1 (d + 2) [y]).get k = some (.cells 1 (y :: .junk :: List.replicate d .junk)) := by
            unfold padH
            rw [AH.get_set, if_pos rfl, show (d + 2) * 1 - [y].length = d + 1 by simp]
            rfl
          refine ⟨_, List.replicate d .junk, ins_B g (by omega) hx hy rfl, ⟨rfl, fun j => ?_⟩⟩
          unfold padH
          simp only [AH.get_set]
          split <;> rfl
      · cases e
    · cases e
  · cases e

theorem insH_ok (args : List AV) (h : AH) (r : AV) (h' : AH) (e : insH args h = some (r, h')) : CallOk EI 62 args h r h' := by
  unfold insH at e
  split at e
  · rename_i x hx
    cases e
    exact insM_ok hx
  · split at e
    · rename_i v h2 hr
      cases e
      exact call_ok good_I hr
    · cases e
end
end Go.Proofs.YtiiadbmmgpbmjaaGreatDoor
