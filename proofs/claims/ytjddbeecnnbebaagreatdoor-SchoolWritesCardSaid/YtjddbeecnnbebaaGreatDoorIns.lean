/-
  slices.Insert of one entry, on the abstract machine.
-/
import Derived.Test.YtjddbeecnnbebaaGreatDoorChecked
import Derived.Test.YtjddbeecnnbebaaGreatDoorAvO
import Derived.KernelRfl
namespace Go.Proofs.YtjddbeecnnbebaaGreatDoor
open Go.Av
set_option maxRecDepth 100000
set_option linter.unusedSimpArgs false
set_option linter.unusedSectionVars false
set_option maxHeartbeats 4000000
section
variable [Toks]

def insWin : List (FuncId × List (Nat × List (Nat × Nat × Nat))) := [(211, [(11, []), (15, [])])]
noncomputable def EI : Env := envO Tryz.prog 217 3 insWin
theorem ov_is : ExtIs Tryz.prog 217 (Extern.SlicesOverlaps.overlaps #[156, 156] #[4]) := ⟨Tryz.f217, Tryz.func217, by kernel_rfl, by kernel_rfl, by kernel_rfl, by kernel_rfl⟩
theorem sz302 : szA Tryz.prog 298 = some 3 := by kernel_rfl
theorem el160 : elemA Tryz.prog 156 = some 298 := by kernel_rfl
theorem es302 : esA Tryz.prog 298 = some 3 := by kernel_rfl
theorem z302 : zeroA Tryz.prog 298 = some (.agg [.i .i64 0, .i .u64 0, .i .u64 0]) := by kernel_rfl
theorem by302 : bytesA Tryz.prog 298 = some 24 := by kernel_rfl
theorem winI : EI.win 211 11 = some [] := by kernel_rfl
theorem winI2 : EI.win 211 15 = some [] := by kernel_rfl
theorem EI_P : EI.P = Tryz.prog := rfl
theorem EI_fun (f : FuncId) : EI.fun_ f = Tryz.prog.funcs[f]? := rfl
theorem EI_mode (f : FuncId) : EI.mode f = if f = 217 then 5 else 0 := rfl
theorem EI_hook (f : FuncId) : EI.hook f = none := rfl
theorem EI_phook (f : FuncId) : EI.phook f = none := rfl
theorem EI_ext (f : FuncId) : EI.ext f = none := rfl
theorem EI_own (t : TypeId) (c : Bool) : EI.ownLit t c = false := rfl
theorem EI_glob (g : Nat) : EI.glob g = none := rfl
theorem EI_xh (f : FuncId) : EI.xh f = if f = 217 then some (ovX 3) else none := rfl
theorem EI_tb (a b c d) : EI.tb a b c d = none := rfl
theorem EI_tu (a b) : EI.tu a b = none := rfl

theorem good_I : EnvGood EI := by
  refine envO_good (tS := 156) (tR := 4) (e := 298) Tryz.underlying156 (fun w => ?_) ov_is (by kernel_rfl) (by kernel_rfl)
  exact run_szA sz302

theorem repZ_length (z : List AV) : ∀ m, (repZ z m).length = m * z.length
  | 0 => by simp [repZ]
  | m + 1 => by simp [repZ, repZ_length z m, Nat.add_mul]; omega
theorem repZ_one {z : List AV} (h : z.all AV.one = true) : ∀ m, (repZ z m).all AV.one = true
  | 0 => rfl
  | m + 1 => by simp only [repZ, List.all_append, h, repZ_one h m]; rfl

theorem wrap_int {x : Int} (h : -4611686018427387904 ≤ x ∧ x < 4611686018427387904) : IntKind.wrap .i64 x = x := by
  simp [IntKind.wrap, IntKind.bits, IntKind.signed]
  omega

theorem app_ins {h : AH} {k i m c : Nat} {D : List AV} {x : Int} (hk : h.get k = some (.cells 3 D)) (hx : x = (m : Int)) (hc : c < i + m) (hD : i * 3 ≤ D.length) (hb : i + m ≤ 2000) :
    appendA Tryz.prog h 156 3 (.own k 0 i (some c)) (.i .i64 x) = some (.own h.next 0 (i + m) none, h.new (.cells 3 (D.take (i * 3) ++ repZ [.i .i64 0, .i .u64 0, .i .u64 0] m))) := by
  subst hx
  unfold appendA
  simp only [el160, es302, z302, by302, AV.cells, List.length_cons, List.length_nil]
  rw [if_pos (by decide)]
  unfold moreA
  simp only [Tryz.underlying3]
  rw [if_pos ⟨by omega, by simp only [room]; omega⟩]
  simp only [Int.toNat_natCast]
  rw [if_pos ⟨repZ_one (by decide) _, by simp only [room]; omega⟩, hk]
  simp only
  rw [if_pos ⟨trivial, by simp only [room]; omega, by omega⟩, if_neg (by omega)]
  simp [newSlice]

theorem more_imm {h : AH} {v : List AV} (hv : v.length = 3) : moreA Tryz.prog h 3 156 [] (.imm v 1) = some (v, 1) := by
  unfold moreA
  simp only [Tryz.underlying156]
  rw [if_pos (by omega)]
theorem more_own {h : AH} {k o n : Nat} {cap : Option Nat} {D : List AV} (hk : h.get k = some (.cells 3 D)) (hn : n ≠ 0) (hl : o + n * 3 ≤ D.length) : moreA Tryz.prog h 3 156 [] (.own k o n cap) = some ((D.drop o).take (n * 3), n) := by
  unfold moreA
  simp only [Tryz.underlying156]
  rw [if_neg hn]
  simp only [sliceCells, hk, if_true, takeN]
  rw [if_pos (by simp; omega)]; rfl

theorem copy_run {h : AH} {q o n kk : Nat} {cap : Option Nat} {D new : List AV} {x : AV} (hm : moreA Tryz.prog h 3 156 [] x = some (new, kk)) (hq : h.get q = some (.cells 3 D)) (h1 : new.all AV.one = true) (hl : o + (new.take (min kk n * 3)).length ≤ D.length) :
    copyA Tryz.prog h 156 156 (.own q o n cap) x = some (.i .i64 (min kk n : Nat), h.set q (.cells 3 (splice D o (new.take (min kk n * 3))))) := by
  unfold copyA
  simp only [el160, es302, hm, Tryz.underlying156]
  unfold putCells
  simp only [hq]
  rw [if_pos (by
    rw [Bool.and_eq_true]
    refine ⟨?_, by simpa using hl⟩
    simp only [List.all_eq_true] at h1 ⊢
    exact fun x hx => h1 x (List.mem_of_mem_take hx))]
  rfl

theorem splice_length {α : Type} (cs : List α) (o : Nat) (vs : List α) (h : o + vs.length ≤ cs.length) : (splice cs o vs).length = cs.length := by
  simp [splice]; omega

theorem all_sub {l : List AV} {p : AV → Bool} (h : l.all p = true) (a b : Nat) : (((l.drop a).take b).all p) = true := by
  simp only [List.all_eq_true] at h ⊢
  exact fun x hx => h x (List.mem_of_mem_drop (List.mem_of_mem_take hx))

theorem ins_A {H : AH} {k n i c : Nat} {D v : List AV} (hk : H.get k = some (.cells 3 D)) (hkn : k < H.next) (hD : D.length = c * 3) (h1 : D.all AV.one = true) (hi : i < n) (hn : n ≤ c) (hc : c < n + 1) (hb : n ≤ 1000) (hv : v.length = 3) (hv1 : v.all AV.one = true) (fuel : Nat) :
    ∃ hA, run EI (fuel + 1) (.call 211 [.own k 0 n (some c), .i .i64 i, .imm v 1] H) = some (.ret (.own H.next 0 (n + 1) none) hA) ∧ hA.Alike (H.new (.cells 3 (D.take (i * 3) ++ v ++ (D.drop (i * 3)).take ((n - i) * 3)))) := by
  have e1 : IntKind.wrap .i64 ((n : Int) + 1) = (n : Int) + 1 := wrap_int (by omega)
  have e2 : IntKind.wrap .i64 ((n : Int) + 1 - (i : Int)) = (n : Int) + 1 - (i : Int) := wrap_int (by omega)
  have e3 : IntKind.wrap .i64 ((i : Int) + 1) = (i : Int) + 1 := wrap_int (by omega)
  have e4 : ((i : Int) == (n : Int)) = false := by simp; omega
  have e5 : ((n : Int) + 1).toNat = n + 1 := by omega
  have e6 : ((i : Int) + 1).toNat = i + 1 := by omega
  have e7 : (i : Int) ≤ (n : Int) := by omega
  have e8 : (i : Int) ≤ (n : Int) + 1 := by omega
  have e9 : (n : Int) ≤ (c : Int) := by omega
  have e10 : (c : Int) < (n : Int) + 1 := by omega
  have e11 : n * 3 ≤ D.length := by omega
  have e12 : i * 3 ≤ D.length := by omega
  have e13 : (0 : Int) ≤ (i : Int) + 1 := by omega
  have e14 : (i : Int) ≤ (c : Int) := by omega
  have e15 : n + 1 - (i + 1) = n - i := by omega
  have a1 := app_ins (m := n + 1 - i) (x := (n : Int) + 1 - (i : Int)) hk (by omega) (c := c) (i := i) (by omega) (by omega) (by omega)
  rw [show i + (n + 1 - i) = n + 1 by omega] at a1
  have hDl : (D.take (i * 3)).length = i * 3 := by simp; omega
  obtain ⟨X, hX⟩ : ∃ X, X = D.take (i * 3) ++ repZ [.i .i64 0, .i .u64 0, .i .u64 0] (n + 1 - i) := ⟨_, rfl⟩
  have hXl : X.length = (n + 1) * 3 := by rw [hX, List.length_append, hDl, repZ_length]; simp; omega
  rw [← hX] at a1
  obtain ⟨H1, hH1⟩ : ∃ H1, H1 = H.new (.cells 3 X) := ⟨_, rfl⟩
  rw [← hH1] at a1
  have g1 : H1.get H.next = some (.cells 3 X) := by rw [hH1, AH.get_new, if_pos rfl]
  have b1 := copy_run (o := i * 3) (n := n + 1 - i) (cap := none) (more_imm (h := H1) hv) g1 hv1 (by rw [hXl]; simp; omega)
  have t1 : v.take (min 1 (n + 1 - i) * 3) = v := by rw [List.take_of_length_le]; omega
  rw [t1] at b1
  obtain ⟨H2, hH2⟩ : ∃ H2, H2 = H1.set H.next (.cells 3 (splice X (i * 3) v)) := ⟨_, rfl⟩
  rw [← hH2] at b1
  have g2 : H2.get H.next = some (.cells 3 (splice X (i * 3) v)) := by rw [hH2, AH.get_set, if_pos rfl]
  have gk1 : H1.get k = some (.cells 3 D) := by rw [hH1, AH.get_new, if_neg (by omega)]; exact hk
  have gk2 : H2.get k = some (.cells 3 D) := by rw [hH2, AH.get_set, if_neg (by omega)]; exact gk1
  have hsl : (splice X (i * 3) v).length = X.length := splice_length _ _ _ (by omega)
  have e16 : (n + 1) * 3 ≤ X.length := by omega
  have e17 : (n + 1) * 3 ≤ (splice X (i * 3) v).length := by omega
  have c1 := copy_run (o := (i + 1) * 3) (n := n - i) (cap := none) (more_own (cap := some (c - i)) (o := i * 3) (n := n - i) gk2 (by omega) (by omega)) g2 (all_sub h1 _ _) (by rw [hsl, hXl]; simp; omega)
  have t2 : ((D.drop (i * 3)).take ((n - i) * 3)).take (min (n - i) (n - i) * 3) = (D.drop (i * 3)).take ((n - i) * 3) := by rw [List.take_of_length_le]; simp; omega
  rw [t2] at c1
  refine ⟨_, (by
    simp [run, stepTask, stepCall, bodyA, stepCode, stepOps, List.range_succ, step1, wantedA, stepOp, execA, evA, putA, ofV, builtinA, lenA, binE, unE, binA, resultsA, resA, sliceA, capA,
      EI_P, EI_fun, EI_mode, EI_hook, EI_phook, EI_ext, EI_own, EI_glob, EI_tb, EI_tu, EI_xh, Tryz.func211, Tryz.f211, Tryz.underlying156, Tryz.underlying3, es302, hk, intA, optIntA, capLe, kindA, stepDraw, runD, nthW, winI, winI2, e1, e2, e3, e4, e5, e6, e7, e8, e9, e10, e11, e12, e13, e14, e15, e16, e17, a1, b1, g1, g2, gk1, gk2, c1]
    rfl), ?_⟩
  have hv0 : ∀ X' T : List AV, X'.length = (n + 1) * 3 → X'.take (i * 3) = D.take (i * 3) → T.length = (n - i) * 3 → splice (splice X' (i * 3) v) ((i + 1) * 3) T = D.take (i * 3) ++ v ++ T := fun X' T hl ht htl => by
    have hav : (D.take (i * 3) ++ v).length = (i + 1) * 3 := by rw [List.length_append, hDl]; omega
    have hs1 : splice X' (i * 3) v = (D.take (i * 3) ++ v) ++ X'.drop (i * 3 + v.length) := by unfold splice; rw [ht]
    have hs2 : ((D.take (i * 3) ++ v) ++ X'.drop (i * 3 + v.length)).length = (n + 1) * 3 := by rw [List.length_append, hav, List.length_drop, hl]; omega
    rw [hs1]
    unfold splice
    rw [List.take_left' hav, htl, List.drop_of_length_le (by rw [hs2]; omega), List.append_nil]
  rw [hv0 X _ hXl (by rw [hX, List.take_left' hDl]) (by simp; omega)]
  refine ⟨?_, fun j => ?_⟩
  · rw [AH.next_set, hH2, AH.next_set, hH1, AH.next_new, AH.next_new]
  · rw [AH.get_set, AH.get_new]
    by_cases hj : j = H.next
    · rw [if_pos hj, if_pos hj]
    · rw [if_neg hj, if_neg hj, hH2, AH.get_set, if_neg hj, hH1, AH.get_new, if_neg hj]

theorem ins_B {H : AH} {k n i c : Nat} {D v : List AV} (hk : H.get k = some (.cells 3 D)) (hD : D.length = c * 3) (h1 : D.all AV.one = true) (hi : i < n) (hn : n + 1 ≤ c) (hb : n ≤ 1000) (hv : v.length = 3) (hv1 : v.all AV.one = true) (fuel : Nat) :
    ∃ hB, run EI (fuel + 1) (.call 211 [.own k 0 n (some c), .i .i64 i, .imm v 1] H) = some (.ret (.own k 0 (n + 1) (some c)) hB) ∧ hB.Alike (H.set k (.cells 3 (D.take (i * 3) ++ v ++ (D.drop (i * 3)).take ((n - i) * 3) ++ D.drop ((n + 1) * 3)))) := by
  have e1 : IntKind.wrap .i64 ((n : Int) + 1) = (n : Int) + 1 := wrap_int (by omega)
  have e2 : IntKind.wrap .i64 ((n : Int) + 1 - (i : Int)) = (n : Int) + 1 - (i : Int) := wrap_int (by omega)
  have e3 : IntKind.wrap .i64 ((i : Int) + 1) = (i : Int) + 1 := wrap_int (by omega)
  have e4 : ((i : Int) == (n : Int)) = false := by simp; omega
  have e5 : ((n : Int) + 1).toNat = n + 1 := by omega
  have e6 : ((i : Int) + 1).toNat = i + 1 := by omega
  have e7 : (i : Int) ≤ (n : Int) := by omega
  have e8 : (i : Int) ≤ (n : Int) + 1 := by omega
  have e9 : (n : Int) ≤ (c : Int) := by omega
  have e10 : ¬ (c : Int) < (n : Int) + 1 := by omega
  have e10' : (n : Int) + 1 ≤ (c : Int) := by omega
  have e11 : n * 3 ≤ D.length := by omega
  have e12 : i * 3 ≤ D.length := by omega
  have e13 : (0 : Int) ≤ (i : Int) + 1 := by omega
  have e14 : (i : Int) ≤ (c : Int) := by omega
  have e15 : n + 1 - (i + 1) = n - i := by omega
  have e16 : (n + 1) * 3 ≤ D.length := by omega
  have e18 : (0 : Int) ≤ (n : Int) + 1 := by omega
  have hDl : (D.take (i * 3)).length = i * 3 := by simp; omega
  have x1 : ovX 3 [.imm v 1, .own k ((i + 1) * 3) (n - i) (some (c - (i + 1)))] H = some (.b false) := by
    unfold ovX
    simp only [hk]
    rw [if_pos ⟨trivial, by decide, by decide, by intro h; rw [h] at hv; simp at hv, by omega, by omega, by omega⟩]
  obtain ⟨T, hT⟩ : ∃ T, T = (D.drop (i * 3)).take ((n - i) * 3) := ⟨_, rfl⟩
  have htl : T.length = (n - i) * 3 := by rw [hT]; simp; omega
  have b1 := copy_run (o := (i + 1) * 3) (n := n - i) (cap := some (c - (i + 1))) (more_own (cap := some (c - i)) (o := i * 3) (n := n + 1 - i) hk (by omega) (by omega)) hk (all_sub h1 _ _) (by simp; omega)
  have t2 : ((D.drop (i * 3)).take ((n + 1 - i) * 3)).take (min (n + 1 - i) (n - i) * 3) = T := by
    rw [List.take_take, hT, show min (min (n + 1 - i) (n - i) * 3) ((n + 1 - i) * 3) = (n - i) * 3 by omega]
  rw [t2] at b1
  obtain ⟨H1, hH1⟩ : ∃ H1, H1 = H.set k (.cells 3 (splice D ((i + 1) * 3) T)) := ⟨_, rfl⟩
  rw [← hH1] at b1
  have g1 : H1.get k = some (.cells 3 (splice D ((i + 1) * 3) T)) := by rw [hH1, AH.get_set, if_pos rfl]
  have hsl : (splice D ((i + 1) * 3) T).length = D.length := splice_length _ _ _ (by omega)
  have e17 : (n + 1) * 3 ≤ (splice D ((i + 1) * 3) T).length := by omega
  have c1 := copy_run (o := i * 3) (n := n + 1 - i) (cap := some (c - i)) (more_imm (h := H1) hv) g1 hv1 (by rw [hsl]; simp; omega)
  have t1 : v.take (min 1 (n + 1 - i) * 3) = v := by rw [List.take_of_length_le]; omega
  rw [t1] at c1
  refine ⟨_, (by
    simp [run, stepTask, stepCall, bodyA, stepCode, stepOps, List.range_succ, step1, wantedA, stepOp, execA, evA, putA, ofV, builtinA, lenA, binE, unE, unA, binA, resultsA, resA, sliceA, capA, callFnA,
      EI_P, EI_fun, EI_mode, EI_hook, EI_phook, EI_ext, EI_own, EI_glob, EI_tb, EI_tu, EI_xh, Tryz.func211, Tryz.f211, Tryz.underlying156, Tryz.underlying3, es302, hk, intA, optIntA, capLe, kindA, stepDraw, runD, nthW, winI, winI2, e1, e2, e3, e4, e5, e6, e7, e8, e9, e10, e10', e11, e12, e13, e14, e15, e16, e17, e18, x1, b1, g1, c1]
    rfl), ?_⟩
  have hav : (D.take (i * 3) ++ v).length = (i + 1) * 3 := by rw [List.length_append, hDl]; omega
  have hcells : splice (splice D ((i + 1) * 3) T) (i * 3) v = D.take (i * 3) ++ v ++ T ++ D.drop ((n + 1) * 3) := by
    unfold splice
    have h3 : (D.take ((i + 1) * 3)).length = (i + 1) * 3 := by simp; omega
    rw [List.append_assoc (D.take ((i + 1) * 3)), List.take_append_of_le_length (by omega), List.take_take, show min (i * 3) ((i + 1) * 3) = i * 3 by omega, List.drop_append_of_le_length (by omega), List.drop_of_length_le (by omega), List.nil_append, htl, show (i + 1) * 3 + (n - i) * 3 = (n + 1) * 3 by omega]
    simp
  rw [hcells, hT]
  refine ⟨?_, fun j => ?_⟩
  · rw [AH.next_set, hH1, AH.next_set, AH.next_set]
  · rw [AH.get_set, AH.get_set]
    by_cases hj : j = k
    · rw [if_pos hj, if_pos hj]
    · rw [if_neg hj, if_neg hj, hH1, AH.get_set, if_neg hj]

/-- slices.Insert of one entry, not at the end. -/
noncomputable def insM (args : List AV) (h : AH) : Option (AV × AH) :=
  match args with
  | [.own k o n none, .i .i64 (.ofNat i), .imm v m] => match h.get k with
    | some (.cells es cs) => if o = 0 ∧ m = 1 ∧ es = 3 ∧ i < n ∧ n ≤ 1000 ∧ n * 3 ≤ cs.length ∧ v.length = 3 ∧ v.all AV.one = true ∧ cs.all AV.one = true ∧ k < h.next then
        some (.own h.next 0 (n + 1) none, (h.del k).new (.cells 3 (cs.take (i * 3) ++ v ++ (cs.drop (i * 3)).take ((n - i) * 3))))
      else none
    | _ => none
  | _ => none

noncomputable def insH (args : List AV) (h : AH) : Option (AV × AH) :=
  match insM args h with
  | some r => some r
  | none => match run EI 60 (.call 211 args h) with
    | some (.ret v h') => some (v, h')
    | _ => none

theorem insM_ok {args : List AV} {h h' : AH} {r : AV} (e : insM args h = some (r, h')) : CallOk EI 211 args h r h' := by
  unfold insM at e
  split at e
  · rename_i k o n i v m
    split at e
    · rename_i es cs hk
      split at e
      · rename_i hc
        obtain ⟨rfl, rfl, rfl, hi, hb, hl, hv, hv1, hc1, hkn⟩ := hc
        cases e
        have hDl : ∀ c, cs.length ≤ c * 3 → (cs ++ List.replicate (c * 3 - cs.length) AV.junk).length = c * 3 := fun c h => by simp; omega
        have hD1 : ∀ c, (cs ++ List.replicate (c * 3 - cs.length) AV.junk).all AV.one = true := fun c => by
          rw [List.all_append, hc1]
          simp [List.all_eq_true, AV.one]
        have ht : ∀ c, (cs ++ List.replicate (c * 3 - cs.length) AV.junk).take (i * 3) = cs.take (i * 3) := fun c => List.take_append_of_le_length (by omega)
        have hd : ∀ c, ((cs ++ List.replicate (c * 3 - cs.length) AV.junk).drop (i * 3)).take ((n - i) * 3) = (cs.drop (i * 3)).take ((n - i) * 3) := fun c => by
          rw [List.drop_append_of_le_length (by omega), List.take_append_of_le_length (by simp; omega)]
        have gp : ∀ c, (padH h k 3 c cs).get k = some (.cells 3 (cs ++ List.replicate (c * 3 - cs.length) AV.junk)) := fun c => by unfold padH; rw [AH.get_set, if_pos rfl]
        refine put_ok good_I (N := 7) (by omega) (by omega) hk (by simp; omega) (fun c h1 h2 h3 => ?_) (fun c h1 h2 h3 => ?_)
        · obtain ⟨hA, e1, e2⟩ := ins_A (gp c) (show k < (padH h k 3 c cs).next from hkn) (hDl c h2) (hD1 c) hi h1 h3 hb hv hv1 6
          rw [ht, hd] at e2
          exact ⟨hA, e1, e2⟩
        · obtain ⟨hB, e1, e2⟩ := ins_B (gp c) (hDl c h2) (hD1 c) hi h3 hb hv hv1 6
          rw [ht, hd] at e2
          refine ⟨hB, (cs ++ List.replicate (c * 3 - cs.length) AV.junk).drop ((n + 1) * 3), e1, ⟨e2.next, fun j => ?_⟩⟩
          rw [e2.get]
          unfold padH
          rw [AH.get_set, AH.get_set, AH.get_set]
          split <;> rfl
      · cases e
    · cases e
  · cases e

theorem insH_ok (args : List AV) (h : AH) (r : AV) (h' : AH) (e : insH args h = some (r, h')) : CallOk EI 211 args h r h' := by
  unfold insH at e
  split at e
  · rename_i x hx
    cases e
    exact insM_ok hx
  · split at e
    · rename_i v h2 hr
      cases e
      exact call_ok good_I hr
    · cases e
end
end Go.Proofs.YtjddbeecnnbebaaGreatDoor
