/-
  slices.Delete of one place, on the abstract machine.
-/
import Derived.Test.YtgiphcfpopgchaaEnv
namespace Go.Proofs.Ytgiphcfpopgchaa
open Go.Av
set_option maxRecDepth 100000
set_option linter.unusedSimpArgs false
set_option maxHeartbeats 4000000
theorem el22 : elemA Try.prog 22 = some 3 := by kernel_rfl
theorem es3 : esA Try.prog 3 = some 1 := by kernel_rfl
theorem z3 : zeroA Try.prog 3 = some (.i .i64 0) := by kernel_rfl
theorem by3 : bytesA Try.prog 3 = some 8 := by kernel_rfl
theorem win42 : E.win 42 5 = some [] := by kernel_rfl
theorem E_P : E.P = Try.prog := rfl
theorem E_fun (f : FuncId) : E.fun_ f = Try.prog.funcs[f]? := rfl
theorem E_mode (f : FuncId) : E.mode f = 0 := rfl
theorem E_hook (f : FuncId) : E.hook f = none := rfl
theorem E_phook (f : FuncId) : E.phook f = none := rfl
theorem E_ext (f : FuncId) : E.ext f = none := rfl
theorem E_own (t : TypeId) (c : Bool) : E.ownLit t c = false := rfl
theorem E_glob (g : Nat) : E.glob g = none := rfl

theorem wrap_small {n : Nat} (h : n < 2 ^ 62) : IntKind.wrap .i64 (n : Int) = n := by
  simp [IntKind.wrap, IntKind.bits, IntKind.signed]
  omega

/-- What slices.Delete of one place leaves of the cells. -/
def delCells (cs : List AV) (i len : Nat) : List AV := splice (splice cs i ((cs.drop (i + 1)).take (len - (i + 1)))) (len - 1) [.i .i64 0]

theorem all_take {l : List AV} {p : AV → Bool} (h : l.all p = true) (a b : Nat) : (((l.drop a).take b).all p) = true := by
  simp only [List.all_eq_true] at h ⊢
  exact fun x hx => h x (List.mem_of_mem_drop (List.mem_of_mem_take hx))

theorem moreA_own {h : AH} {q o n : Nat} {cap : Option Nat} {z cs : List AV} (hq : h.get q = some (.cells 1 cs)) (hl : o + n ≤ cs.length) : moreA Try.prog h 1 22 z (.own q o n cap) = some ((cs.drop o).take n, n) := by
  unfold moreA
  simp only [Try.underlying22]
  split
  · rename_i hn; subst hn; simp
  · simp only [sliceCells, hq, if_true, takeN, Nat.mul_one]
    rw [if_pos (by simp; omega)]; rfl

theorem app_del {h : AH} {q i m : Nat} {cs : List AV} (hq : h.get q = some (.cells 1 cs)) (hl : i + 1 + m ≤ cs.length) (hc : cs.all AV.one = true) (hb : i + m ≤ 5000) :
    appendA Try.prog h 22 22 (.own q 0 i none) (.own q (i + 1) m none) = some (.own q 0 (i + m) none, h.set q (.cells 1 (splice cs i ((cs.drop (i + 1)).take m)))) := by
  unfold appendA
  simp only [el22, es3, z3, by3, AV.cells, List.length_singleton]
  rw [if_pos (by decide), moreA_own hq hl]
  simp only
  rw [if_pos ⟨all_take hc _ _, by simp only [room]; omega⟩, hq]
  simp only
  rw [if_pos ⟨trivial, by simp only [room]; omega, by omega⟩, if_pos (by omega)]
  unfold putCells
  simp only [hq, Nat.mul_one, Nat.zero_add]
  rw [if_pos (by rw [Bool.and_eq_true]; exact ⟨all_take hc _ _, by simp; omega⟩)]
  rfl

theorem clear_one {h : AH} {q i : Nat} {cap : Option Nat} {cs : List AV} (hq : h.get q = some (.cells 1 cs)) (hl : i < cs.length) :
    clearA Try.prog h 22 (.own q i 1 cap) = some (.tup [], h.set q (.cells 1 (splice cs i [.i .i64 0]))) := by
  unfold clearA
  simp only [Try.underlying22, es3, z3, AV.cells, List.length_singleton]
  rw [if_neg (by omega), if_pos (by decide)]
  unfold putCells
  simp only [hq, repZ, List.append_nil]
  rw [if_pos (by simp [AV.one]; omega)]
  rfl

theorem splice_length {α : Type} (cs : List α) (o : Nat) (vs : List α) (h : o + vs.length ≤ cs.length) : (splice cs o vs).length = cs.length := by
  simp [splice]; omega

theorem del_run {h : AH} {q len i : Nat} {cs : List AV} (hq : h.get q = some (.cells 1 cs)) (hi : i < len) (hl : len ≤ cs.length) (hc : cs.all AV.one = true) (hb : len ≤ 5000) (n : Nat) :
    run E (n + 1) (.call 42 [.own q 0 len none, .i .i64 i, .i .i64 ((i : Int) + 1)] h) = some (.ret (.own q 0 (len - 1) none) ((h.set q (.cells 1 (splice cs i ((cs.drop (i + 1)).take (len - (i + 1)))))).set q (.cells 1 (delCells cs i len)))) := by
  have e1 : ((i : Int) == (i : Int) + 1) = false := by simp; omega
  have e2 : ((i : Int) ≤ (i : Int) + 1) := by omega
  have e3 : ((i : Int) + 1 ≤ len) := by omega
  have e4 : ((i : Int) ≤ len) := by omega
  have e5 : i ≤ cs.length := by omega
  have e6 : ((i : Int) + 1).toNat = i + 1 := by omega
  have e7 : i + (len - (i + 1)) = len - 1 := by omega
  have e11 : (0 : Int) ≤ (i : Int) + 1 := by omega
  have a1 := app_del (i := i) (m := len - (i + 1)) hq (by omega) hc (by omega)
  rw [e7] at a1
  have hq1 : (h.set q (.cells 1 (splice cs i ((cs.drop (i + 1)).take (len - (i + 1)))))).get q = some (.cells 1 (splice cs i ((cs.drop (i + 1)).take (len - (i + 1))))) := by rw [AH.get_set]; simp
  have hl1 : (splice cs i ((cs.drop (i + 1)).take (len - (i + 1)))).length = cs.length := splice_length _ _ _ (by simp; omega)
  have c1 := clear_one (i := len - 1) (cap := none) hq1 (by rw [hl1]; omega)
  have e8 : ((len - 1 : Nat) : Int) ≤ len := by omega
  have e9 : len - (len - 1) = 1 := by omega
  have e10 : len ≤ (splice cs i ((cs.drop (i + 1)).take (len - (i + 1)))).length := by omega
  simp [run, stepTask, stepCall, bodyA, stepCode, stepOps, List.range_succ, step1, wantedA, stepOp, execA, evA, putA, ofV, builtinA, lenA, binA, resultsA, resA, sliceA,
    E_P, E_fun, E_mode, E_hook, E_phook, E_ext, E_own, E_glob, Try.func42, Try.f42,  Try.underlying22, Try.underlying3, es3, hq, intA, optIntA, capLe, kindA, stepDraw, runD, nthW, win42, e1, e2, e3, hl, e4, e5, e6, a1, hq1, c1, e8, e9, e10, e11, delCells]
end Go.Proofs.Ytgiphcfpopgchaa
