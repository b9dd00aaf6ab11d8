/-
  shoallaw26.SchoolWrites, for every engine and every slice of numbers with a point: the abstract machine's answers, case by case; the row; the card.
-/
import Derived.Test.YtjddbeecnnbebaaGreatDoorCards
import Derived.Test.YtjddbeecnnbebaaGreatDoorTie
import Derived.Test.YtjddbeecnnbebaaGreatDoorRows
import Derived.Test.YtjddbeecnnbebaaGreatDoorBGood
import Derived.Test.YtjddbeecnnbebaaGreatDoorWFK0
import Derived.Test.YtjddbeecnnbebaaGreatDoorWFK1
import Derived.Test.YtjddbeecnnbebaaGreatDoorWFK2
import Derived.Test.YtjddbeecnnbebaaGreatDoorWFK3
import Derived.Test.YtjddbeecnnbebaaGreatDoorWFK4
import Derived.Test.YtjddbeecnnbebaaGreatDoorWFZ
import Derived.Test.YtjddbeecnnbebaaGreatDoorWTK0
import Derived.Test.YtjddbeecnnbebaaGreatDoorWTK1
import Derived.Test.YtjddbeecnnbebaaGreatDoorWTK2
import Derived.Test.YtjddbeecnnbebaaGreatDoorWTK3
import Derived.Test.YtjddbeecnnbebaaGreatDoorWTK4
import Derived.Test.YtjddbeecnnbebaaGreatDoorWTZ
import Derived.Laws.Cover2
import Derived.WideKeyArgs
namespace Go.Proofs.YtjddbeecnnbebaaGreatDoor.schoolWrites
open Go.ChangeShapes Go.WideShapes Go.ChangeAt Go.RowKit Go.Av
set_option linter.unusedSimpArgs false

theorem own : ownKnob Tryz.prog.godebug = none := by kernel_rfl
theorem gTab : Tryz.prog.globalNamed "math/bits.deBruijn64tab" = some 0 := by kernel_rfl
theorem gTabType : (Tryz.prog.globals[0]?).map (·.type) = some 245 := by kernel_rfl
theorem uTab : Tryz.prog.underlying 245 = some (.array 64 5) := by kernel_rfl
theorem uEl : Tryz.prog.underlying 5 = some (.int .u8) := by kernel_rfl
theorem cellsTab : Tryz.prog.cellsOf 245 = 64 := by kernel_rfl
theorem cellsEl : Tryz.prog.cellsOf 5 = 1 := by kernel_rfl


def bytes : List Nat := [0, 1, 56, 2, 57, 49, 28, 3, 61, 58, 42, 50, 38, 29, 17, 4, 62, 47, 59, 36, 45, 43, 51, 22, 53, 39, 33, 30, 24, 18, 12, 5, 63, 55, 48, 27, 60, 41, 37, 16, 46, 35, 44, 21, 52, 32, 23, 11, 54, 26, 40, 15, 34, 20, 31, 10, 25, 14, 19, 9, 13, 8, 7, 6]

/-- WHAT THE ROW's LIST GIVES: the table's cells. -/
theorem table {W : World} (h : laidMetH Tryz.prog Rows.schoolWritesRow.laid W) : Lib.TabIs Tryz.prog W "math/bits.deBruijn64tab" .u8 (bytes.map fun (n : Nat) => (n : Int)) :=
  Lib.tabIs_of_head (rest := []) gTab gTabType uTab uEl cellsEl cellsTab h

theorem says_of {E : Env} {n : Nat} {f : FuncId} {args : List AV} {h : AH} (e : trueF (runF E n (.call f args h)) = true) : saysTrue (run E n (.call f args h)) = true := by
  unfold trueF at e
  split at e
  · rename_i h' hr
    letI := toks fun _ => ⟨0, 0, 0, false, 0, 0⟩
    rw [runF_ret hr]; rfl
  · cases e

theorem globT [Toks] {W : World} {c : Nat} {es : List Entry} {fs : List FuncId} (h : laidMetH Tryz.prog Rows.schoolWritesRow.laid W) : Glob noI (Zed.all W) (withE (EG c) fs es) := by
  have hg : Glob noI (Zed.all W) (env Tryz.prog tabG) := glob_tab (l := bytes) rfl gTab (table h)
  exact hg

theorem keeps_same {W W' : World} (h : Keeps W W') {p : MemPlace} (hp : p.block < W.heap.size) : W.sameAt W' p := by
  cases p with
  | cell b o => exact World.cell?_of_block (w := W) (h.block b hp)
  | map b => exact h.block b hp

theorem keeps_trod {H : Type} {enc : TypeId × Value → H} {P : Program} {t : TypeId} (hl : laidOutB P = true) (hr : P.readableRec t = true) (hrow : t < P.types.size) {W W' : World} {v : Value} {d : DataW H} {ps : List MemPlace} {sp : Nat → Bool}
    (h : DataW.Trod enc P W 0 (fun _ => true) true t v d ps) (hb : Keeps W W') (hlt : ∀ x ∈ ps, x.block < W.heap.size) (hs : ∀ p ∈ ps, sp p.block = true) :
    DataW.Trod enc P W' 0 sp true t v d ps :=
  WideElems.Trod_stays hl hr hrow h (fun x hx => keeps_same hb (hlt x hx)) hs

theorem laidOut : laidOutB Tryz.prog = true := by kernel_rfl
theorem cells32 : Tryz.prog.cellsOf 32 = 1 := by kernel_rfl
/-- A slice of numbers with a point. -/
def FloatsAre (W : World) (v : Value) : Prop := v = .slice none 0 0 ∨ ∃ blk off len cap, v = .slice (some ⟨blk, off, none⟩) len cap ∧ len ≤ cap ∧ ∀ i, i < len → ∃ X, X < 2 ^ 64 ∧ Zed.all W blk (off + i) = some (.float .f64 X)

theorem floats_are {H : Type} {enc : TypeId × Value → H} {P : Program} {t e : TypeId} {W : World} {base : Nat} {v : Value} {d : DataW H} {ps : List MemPlace} (ht : P.underlying t = some (.slice e)) (he : P.underlying e = some (.float .f64)) (hc : P.cellsOf e = 1)
    (hval : Value.okWide P W .any base t v) (h : DataW.Trod enc P W 0 (fun _ => true) true t v d ps) : FloatsAre W v := by
  obtain ⟨a0, len0, cap0, hv⟩ := okWide_slice ht hval
  obtain ⟨fuel, hf⟩ := h
  have hcells : v.cells.toList = [v] := by subst hv; rfl
  rcases DataW.trod_slice ht hf with ⟨h1, _⟩ | ⟨a, len, cap, elems, rest, n, _, h1, _, _, hl, _, hlen, hel, _, _⟩
  · left; rw [hcells] at h1; simpa using h1
  · right
    rw [hcells] at h1
    have hv1 : v = .slice (some a) len cap := by simpa using h1
    subst hv1
    have hspot : a.spot = none := by
      simp only [Value.okWide, ht, Cell.okWide, Cell.ok] at hval
      exact hval.2.2.2.1
    obtain ⟨blk, off, spot⟩ := a
    dsimp only at hspot
    subst hspot
    refine ⟨blk, off, len, cap, rfl, hl, fun i hi => ?_⟩
    have h2 := hel i hi
    rw [hc, Nat.mul_one] at h2
    have hy : elems[i]? = some (elems[i]'(by omega)) := List.getElem?_eq_getElem (by omega)
    rw [hy, Option.bind_eq_some_iff] at h2
    obtain ⟨cs', h3, h4⟩ := h2
    have hlen1 := (World.cells?_some h3).2.1
    obtain ⟨x, rfl⟩ : ∃ x, cs' = [x] := by
      cases cs' with
      | nil => simp at hlen1
      | cons x r => cases r with
        | nil => exact ⟨x, rfl⟩
        | cons y r => simp at hlen1
    have hcell := cell_of_cells?_one h3
    have hadd : Addr.add ⟨blk, off, none⟩ i = ⟨blk, off + i, none⟩ := by unfold Addr.add; split <;> simp_all
    rw [hadd] at hcell
    cases n with
    | zero => simp [DataW.trod] at h4
    | succ n =>
      simp only [DataW.trod, he] at h4
      cases x with
      | float k b =>
        by_cases hw : (Lit.float .f64 b).wf = true
        · cases k with
          | f64 => exact ⟨b, by simpa [Lit.wf] using hw, hcell⟩
          | f32 => simp at h4
        · cases k with
          | f64 => simp [hw] at h4
          | f32 => simp at h4
      | _ => simp at h4

set_option maxRecDepth 100000 in
theorem long {E : Env} {k n : Nat} {b : Bool} {hA : AH} (hP : E.P = Tryz.prog) (hf : ∀ f, E.fun_ f = Tryz.prog.funcs[f]?) (hm : E.mode 3 = 0) (hh : E.hook 3 = none) (hp : E.phook 3 = none) (hx : E.ext 4 = none) (hm6 : E.mode 4 = 0) (hbt : E.tb = tbG 3) (hut : E.tu = fun _ _ => none)
    (haw : run E k (.call 4 [] emptyH) = some (.ret (.b true) hA)) (hn : 9 ≤ n) : ∃ h', run E (k + 1) (.call 3 [.b b, .imm [] n] emptyH) = some (.ret (.b true) h') := by
  have e1 : ¬ (n : Int) < 1 := by omega
  have e2 : (8 : Int) < (n : Int) := by omega
  refine ⟨hA, ?_⟩
  generalize hr : run E k = R at haw
  rw [run, hr]
  simp [stepTask, stepCall, bodyA, stepCode, stepOps, List.range_succ, step1, wantedA, stepOp, execA, evA, putA, ofV, builtinA, lenA, binE, unE, unA, binA, resultsA, resA, callFnA, hP, hf, hm, hh, hp, hx, hm6, hbt, hut, tbG, Tryz.func3, Tryz.f3, Tryz.func4, Tryz.f4, Tryz.underlying22, Tryz.underlying3, haw, e1, e2]

section
variable [Toks]
theorem subWF_good (hE : EnvGood (EG 3)) : ∀ e ∈ subWF, e.good (EG 3) := (List.forall_mem_cons.2 ⟨Entry.good_of hE okWF3, (List.forall_mem_cons.2 ⟨Entry.good_of hE okWF4, (List.forall_mem_cons.2 ⟨Entry.good_of hE okWF10, (List.forall_mem_cons.2 ⟨Entry.good_of hE okWF11, (List.forall_mem_cons.2 ⟨Entry.good_of hE okWF12, (List.forall_mem_cons.2 ⟨Entry.good_of hE okWF13, (List.forall_mem_cons.2 ⟨Entry.good_of hE okWF19, (List.forall_mem_cons.2 ⟨Entry.good_of hE okWF20, (List.forall_mem_cons.2 ⟨Entry.good_of hE okWF21, (List.forall_mem_cons.2 ⟨Entry.good_of hE okWF22, (List.forall_mem_cons.2 ⟨Entry.good_of hE okWF24, (List.forall_mem_cons.2 ⟨Entry.good_of hE okWF25, (List.forall_mem_cons.2 ⟨Entry.good_of hE okWF31, (List.forall_mem_cons.2 ⟨Entry.good_of hE okWF32, (List.forall_mem_cons.2 ⟨Entry.good_of hE okWF33, (List.forall_mem_cons.2 ⟨Entry.good_of hE okWF34, (List.forall_mem_cons.2 ⟨Entry.good_of hE okWF36, (List.forall_mem_cons.2 ⟨Entry.good_of hE okWF37, (List.forall_mem_cons.2 ⟨Entry.good_of hE okWF38, (List.forall_mem_cons.2 ⟨Entry.good_of hE okWF39, (List.forall_mem_cons.2 ⟨Entry.good_of hE okWF44, (List.forall_mem_cons.2 ⟨Entry.good_of hE okWF45, (List.forall_mem_cons.2 ⟨Entry.good_of hE okWF46, (List.forall_mem_cons.2 ⟨Entry.good_of hE okWF47, (List.forall_mem_cons.2 ⟨Entry.good_of hE okWF49, (List.forall_mem_cons.2 ⟨Entry.good_of hE okWF50, (List.forall_mem_cons.2 ⟨Entry.good_of hE okWF51, (List.forall_mem_cons.2 ⟨Entry.good_of hE okWF52, (List.forall_mem_cons.2 ⟨Entry.good_of hE okWF57, (List.forall_mem_cons.2 ⟨Entry.good_of hE okWF58, (List.forall_mem_cons.2 ⟨Entry.good_of hE okWF59, (List.forall_mem_cons.2 ⟨Entry.good_of hE okWF60, (List.forall_mem_cons.2 ⟨Entry.good_of hE okWF66, (List.forall_mem_cons.2 ⟨Entry.good_of hE okWF67, (List.forall_mem_cons.2 ⟨Entry.good_of hE okWF73, (List.forall_mem_cons.2 ⟨Entry.good_of hE okWF74, (List.forall_mem_cons.2 ⟨Entry.good_of hE okWF75, (List.forall_mem_cons.2 ⟨Entry.good_of hE okWF76, (List.forall_mem_nil _)⟩)⟩)⟩)⟩)⟩)⟩)⟩)⟩)⟩)⟩)⟩)⟩)⟩)⟩)⟩)⟩)⟩)⟩)⟩)⟩)⟩)⟩)⟩)⟩)⟩)⟩)⟩)⟩)⟩)⟩)⟩)⟩)⟩)⟩)⟩)⟩)⟩)⟩)
theorem EWF_good (hE : EnvGood (EG 3)) : EnvGood EWF := withE_good hE (subWF_good hE) (by kernel_rfl)
theorem mainWF1_good (hE : EnvGood (EG 3)) : ∀ e ∈ mainWF1, e.good (EG 3) := by
  have h := EWF_good hE
  have k : ∀ e ∈ mainWF1, e.good EWF := (List.forall_mem_cons.2 ⟨Entry.good_of h okWF0, (List.forall_mem_cons.2 ⟨Entry.good_of h okWF1, (List.forall_mem_cons.2 ⟨Entry.good_of h okWF2, (List.forall_mem_cons.2 ⟨Entry.good_of h okWF5, (List.forall_mem_cons.2 ⟨Entry.good_of h okWF6, (List.forall_mem_cons.2 ⟨Entry.good_same h okWF7, (List.forall_mem_nil _)⟩)⟩)⟩)⟩)⟩)⟩)
  exact fun e he => Entry.good.of rfl rfl (k e he)
theorem mainWF2_good (hE : EnvGood (EG 3)) : ∀ e ∈ mainWF2, e.good (EG 3) := by
  have h := EWF_good hE
  have k : ∀ e ∈ mainWF2, e.good EWF := (List.forall_mem_cons.2 ⟨Entry.good_of h okWF0, (List.forall_mem_cons.2 ⟨Entry.good_of h okWF1, (List.forall_mem_cons.2 ⟨Entry.good_of h okWF8, (List.forall_mem_cons.2 ⟨Entry.good_of h okWF9, (List.forall_mem_cons.2 ⟨Entry.good_of h okWF14, (List.forall_mem_cons.2 ⟨Entry.good_of h okWF15, (List.forall_mem_cons.2 ⟨Entry.good_same h okWF16, (List.forall_mem_nil _)⟩)⟩)⟩)⟩)⟩)⟩)⟩)
  exact fun e he => Entry.good.of rfl rfl (k e he)
theorem mainWF3_good (hE : EnvGood (EG 3)) : ∀ e ∈ mainWF3, e.good (EG 3) := by
  have h := EWF_good hE
  have k : ∀ e ∈ mainWF3, e.good EWF := (List.forall_mem_cons.2 ⟨Entry.good_of h okWF0, (List.forall_mem_cons.2 ⟨Entry.good_of h okWF1, (List.forall_mem_cons.2 ⟨Entry.good_of h okWF8, (List.forall_mem_cons.2 ⟨Entry.good_of h okWF17, (List.forall_mem_cons.2 ⟨Entry.good_of h okWF18, (List.forall_mem_cons.2 ⟨Entry.good_of h okWF23, (List.forall_mem_cons.2 ⟨Entry.good_of h okWF26, (List.forall_mem_cons.2 ⟨Entry.good_of h okWF27, (List.forall_mem_cons.2 ⟨Entry.good_same h okWF28, (List.forall_mem_nil _)⟩)⟩)⟩)⟩)⟩)⟩)⟩)⟩)⟩)
  exact fun e he => Entry.good.of rfl rfl (k e he)
theorem mainWF4_good (hE : EnvGood (EG 3)) : ∀ e ∈ mainWF4, e.good (EG 3) := by
  have h := EWF_good hE
  have k : ∀ e ∈ mainWF4, e.good EWF := (List.forall_mem_cons.2 ⟨Entry.good_of h okWF0, (List.forall_mem_cons.2 ⟨Entry.good_of h okWF1, (List.forall_mem_cons.2 ⟨Entry.good_of h okWF8, (List.forall_mem_cons.2 ⟨Entry.good_of h okWF17, (List.forall_mem_cons.2 ⟨Entry.good_of h okWF29, (List.forall_mem_cons.2 ⟨Entry.good_of h okWF30, (List.forall_mem_cons.2 ⟨Entry.good_of h okWF35, (List.forall_mem_cons.2 ⟨Entry.good_of h okWF40, (List.forall_mem_cons.2 ⟨Entry.good_of h okWF41, (List.forall_mem_cons.2 ⟨Entry.good_same h okWF42, (List.forall_mem_nil _)⟩)⟩)⟩)⟩)⟩)⟩)⟩)⟩)⟩)⟩)
  exact fun e he => Entry.good.of rfl rfl (k e he)
theorem mainWF5_good (hE : EnvGood (EG 3)) : ∀ e ∈ mainWF5, e.good (EG 3) := by
  have h := EWF_good hE
  have k : ∀ e ∈ mainWF5, e.good EWF := (List.forall_mem_cons.2 ⟨Entry.good_of h okWF0, (List.forall_mem_cons.2 ⟨Entry.good_of h okWF1, (List.forall_mem_cons.2 ⟨Entry.good_of h okWF8, (List.forall_mem_cons.2 ⟨Entry.good_of h okWF17, (List.forall_mem_cons.2 ⟨Entry.good_of h okWF29, (List.forall_mem_cons.2 ⟨Entry.good_of h okWF43, (List.forall_mem_cons.2 ⟨Entry.good_of h okWF48, (List.forall_mem_cons.2 ⟨Entry.good_of h okWF53, (List.forall_mem_cons.2 ⟨Entry.good_of h okWF54, (List.forall_mem_cons.2 ⟨Entry.good_same h okWF55, (List.forall_mem_nil _)⟩)⟩)⟩)⟩)⟩)⟩)⟩)⟩)⟩)⟩)
  exact fun e he => Entry.good.of rfl rfl (k e he)
theorem mainWF6_good (hE : EnvGood (EG 3)) : ∀ e ∈ mainWF6, e.good (EG 3) := by
  have h := EWF_good hE
  have k : ∀ e ∈ mainWF6, e.good EWF := (List.forall_mem_cons.2 ⟨Entry.good_of h okWF0, (List.forall_mem_cons.2 ⟨Entry.good_of h okWF1, (List.forall_mem_cons.2 ⟨Entry.good_of h okWF8, (List.forall_mem_cons.2 ⟨Entry.good_of h okWF17, (List.forall_mem_cons.2 ⟨Entry.good_of h okWF29, (List.forall_mem_cons.2 ⟨Entry.good_of h okWF43, (List.forall_mem_cons.2 ⟨Entry.good_of h okWF56, (List.forall_mem_cons.2 ⟨Entry.good_of h okWF61, (List.forall_mem_cons.2 ⟨Entry.good_of h okWF62, (List.forall_mem_cons.2 ⟨Entry.good_same h okWF63, (List.forall_mem_nil _)⟩)⟩)⟩)⟩)⟩)⟩)⟩)⟩)⟩)⟩)
  exact fun e he => Entry.good.of rfl rfl (k e he)
theorem mainWF7_good (hE : EnvGood (EG 3)) : ∀ e ∈ mainWF7, e.good (EG 3) := by
  have h := EWF_good hE
  have k : ∀ e ∈ mainWF7, e.good EWF := (List.forall_mem_cons.2 ⟨Entry.good_of h okWF0, (List.forall_mem_cons.2 ⟨Entry.good_of h okWF1, (List.forall_mem_cons.2 ⟨Entry.good_of h okWF8, (List.forall_mem_cons.2 ⟨Entry.good_of h okWF17, (List.forall_mem_cons.2 ⟨Entry.good_of h okWF29, (List.forall_mem_cons.2 ⟨Entry.good_of h okWF43, (List.forall_mem_cons.2 ⟨Entry.good_of h okWF56, (List.forall_mem_cons.2 ⟨Entry.good_of h okWF64, (List.forall_mem_cons.2 ⟨Entry.good_of h okWF65, (List.forall_mem_cons.2 ⟨Entry.good_of h okWF68, (List.forall_mem_cons.2 ⟨Entry.good_of h okWF69, (List.forall_mem_cons.2 ⟨Entry.good_same h okWF70, (List.forall_mem_nil _)⟩)⟩)⟩)⟩)⟩)⟩)⟩)⟩)⟩)⟩)⟩)⟩)
  exact fun e he => Entry.good.of rfl rfl (k e he)
theorem mainWF8_good (hE : EnvGood (EG 3)) : ∀ e ∈ mainWF8, e.good (EG 3) := by
  have h := EWF_good hE
  have k : ∀ e ∈ mainWF8, e.good EWF := (List.forall_mem_cons.2 ⟨Entry.good_of h okWF0, (List.forall_mem_cons.2 ⟨Entry.good_of h okWF1, (List.forall_mem_cons.2 ⟨Entry.good_of h okWF8, (List.forall_mem_cons.2 ⟨Entry.good_of h okWF17, (List.forall_mem_cons.2 ⟨Entry.good_of h okWF29, (List.forall_mem_cons.2 ⟨Entry.good_of h okWF43, (List.forall_mem_cons.2 ⟨Entry.good_of h okWF56, (List.forall_mem_cons.2 ⟨Entry.good_of h okWF64, (List.forall_mem_cons.2 ⟨Entry.good_of h okWF71, (List.forall_mem_cons.2 ⟨Entry.good_of h okWF72, (List.forall_mem_cons.2 ⟨Entry.good_of h okWF77, (List.forall_mem_cons.2 ⟨Entry.good_of h okWF78, (List.forall_mem_cons.2 ⟨Entry.good_same h okWF79, (List.forall_mem_nil _)⟩)⟩)⟩)⟩)⟩)⟩)⟩)⟩)⟩)⟩)⟩)⟩)⟩)
  exact fun e he => Entry.good.of rfl rfl (k e he)
theorem subWT_good (hE : EnvGood (EG 3)) : ∀ e ∈ subWT, e.good (EG 3) := (List.forall_mem_cons.2 ⟨Entry.good_of hE okWT3, (List.forall_mem_cons.2 ⟨Entry.good_of hE okWT4, (List.forall_mem_cons.2 ⟨Entry.good_of hE okWT10, (List.forall_mem_cons.2 ⟨Entry.good_of hE okWT11, (List.forall_mem_cons.2 ⟨Entry.good_of hE okWT12, (List.forall_mem_cons.2 ⟨Entry.good_of hE okWT13, (List.forall_mem_cons.2 ⟨Entry.good_of hE okWT19, (List.forall_mem_cons.2 ⟨Entry.good_of hE okWT20, (List.forall_mem_cons.2 ⟨Entry.good_of hE okWT21, (List.forall_mem_cons.2 ⟨Entry.good_of hE okWT22, (List.forall_mem_cons.2 ⟨Entry.good_of hE okWT24, (List.forall_mem_cons.2 ⟨Entry.good_of hE okWT25, (List.forall_mem_cons.2 ⟨Entry.good_of hE okWT31, (List.forall_mem_cons.2 ⟨Entry.good_of hE okWT32, (List.forall_mem_cons.2 ⟨Entry.good_of hE okWT33, (List.forall_mem_cons.2 ⟨Entry.good_of hE okWT34, (List.forall_mem_cons.2 ⟨Entry.good_of hE okWT36, (List.forall_mem_cons.2 ⟨Entry.good_of hE okWT37, (List.forall_mem_cons.2 ⟨Entry.good_of hE okWT38, (List.forall_mem_cons.2 ⟨Entry.good_of hE okWT39, (List.forall_mem_cons.2 ⟨Entry.good_of hE okWT44, (List.forall_mem_cons.2 ⟨Entry.good_of hE okWT45, (List.forall_mem_cons.2 ⟨Entry.good_of hE okWT46, (List.forall_mem_cons.2 ⟨Entry.good_of hE okWT47, (List.forall_mem_cons.2 ⟨Entry.good_of hE okWT49, (List.forall_mem_cons.2 ⟨Entry.good_of hE okWT50, (List.forall_mem_cons.2 ⟨Entry.good_of hE okWT51, (List.forall_mem_cons.2 ⟨Entry.good_of hE okWT52, (List.forall_mem_cons.2 ⟨Entry.good_of hE okWT57, (List.forall_mem_cons.2 ⟨Entry.good_of hE okWT58, (List.forall_mem_cons.2 ⟨Entry.good_of hE okWT59, (List.forall_mem_cons.2 ⟨Entry.good_of hE okWT60, (List.forall_mem_cons.2 ⟨Entry.good_of hE okWT66, (List.forall_mem_cons.2 ⟨Entry.good_of hE okWT67, (List.forall_mem_cons.2 ⟨Entry.good_of hE okWT73, (List.forall_mem_cons.2 ⟨Entry.good_of hE okWT74, (List.forall_mem_cons.2 ⟨Entry.good_of hE okWT75, (List.forall_mem_cons.2 ⟨Entry.good_of hE okWT76, (List.forall_mem_nil _)⟩)⟩)⟩)⟩)⟩)⟩)⟩)⟩)⟩)⟩)⟩)⟩)⟩)⟩)⟩)⟩)⟩)⟩)⟩)⟩)⟩)⟩)⟩)⟩)⟩)⟩)⟩)⟩)⟩)⟩)⟩)⟩)⟩)⟩)⟩)⟩)⟩)⟩)
theorem EWT_good (hE : EnvGood (EG 3)) : EnvGood EWT := withE_good hE (subWT_good hE) (by kernel_rfl)
theorem mainWT1_good (hE : EnvGood (EG 3)) : ∀ e ∈ mainWT1, e.good (EG 3) := by
  have h := EWT_good hE
  have k : ∀ e ∈ mainWT1, e.good EWT := (List.forall_mem_cons.2 ⟨Entry.good_of h okWT0, (List.forall_mem_cons.2 ⟨Entry.good_of h okWT1, (List.forall_mem_cons.2 ⟨Entry.good_of h okWT2, (List.forall_mem_cons.2 ⟨Entry.good_of h okWT5, (List.forall_mem_cons.2 ⟨Entry.good_of h okWT6, (List.forall_mem_cons.2 ⟨Entry.good_same h okWT7, (List.forall_mem_nil _)⟩)⟩)⟩)⟩)⟩)⟩)
  exact fun e he => Entry.good.of rfl rfl (k e he)
theorem mainWT2_good (hE : EnvGood (EG 3)) : ∀ e ∈ mainWT2, e.good (EG 3) := by
  have h := EWT_good hE
  have k : ∀ e ∈ mainWT2, e.good EWT := (List.forall_mem_cons.2 ⟨Entry.good_of h okWT0, (List.forall_mem_cons.2 ⟨Entry.good_of h okWT1, (List.forall_mem_cons.2 ⟨Entry.good_of h okWT8, (List.forall_mem_cons.2 ⟨Entry.good_of h okWT9, (List.forall_mem_cons.2 ⟨Entry.good_of h okWT14, (List.forall_mem_cons.2 ⟨Entry.good_of h okWT15, (List.forall_mem_cons.2 ⟨Entry.good_same h okWT16, (List.forall_mem_nil _)⟩)⟩)⟩)⟩)⟩)⟩)⟩)
  exact fun e he => Entry.good.of rfl rfl (k e he)
theorem mainWT3_good (hE : EnvGood (EG 3)) : ∀ e ∈ mainWT3, e.good (EG 3) := by
  have h := EWT_good hE
  have k : ∀ e ∈ mainWT3, e.good EWT := (List.forall_mem_cons.2 ⟨Entry.good_of h okWT0, (List.forall_mem_cons.2 ⟨Entry.good_of h okWT1, (List.forall_mem_cons.2 ⟨Entry.good_of h okWT8, (List.forall_mem_cons.2 ⟨Entry.good_of h okWT17, (List.forall_mem_cons.2 ⟨Entry.good_of h okWT18, (List.forall_mem_cons.2 ⟨Entry.good_of h okWT23, (List.forall_mem_cons.2 ⟨Entry.good_of h okWT26, (List.forall_mem_cons.2 ⟨Entry.good_of h okWT27, (List.forall_mem_cons.2 ⟨Entry.good_same h okWT28, (List.forall_mem_nil _)⟩)⟩)⟩)⟩)⟩)⟩)⟩)⟩)⟩)
  exact fun e he => Entry.good.of rfl rfl (k e he)
theorem mainWT4_good (hE : EnvGood (EG 3)) : ∀ e ∈ mainWT4, e.good (EG 3) := by
  have h := EWT_good hE
  have k : ∀ e ∈ mainWT4, e.good EWT := (List.forall_mem_cons.2 ⟨Entry.good_of h okWT0, (List.forall_mem_cons.2 ⟨Entry.good_of h okWT1, (List.forall_mem_cons.2 ⟨Entry.good_of h okWT8, (List.forall_mem_cons.2 ⟨Entry.good_of h okWT17, (List.forall_mem_cons.2 ⟨Entry.good_of h okWT29, (List.forall_mem_cons.2 ⟨Entry.good_of h okWT30, (List.forall_mem_cons.2 ⟨Entry.good_of h okWT35, (List.forall_mem_cons.2 ⟨Entry.good_of h okWT40, (List.forall_mem_cons.2 ⟨Entry.good_of h okWT41, (List.forall_mem_cons.2 ⟨Entry.good_same h okWT42, (List.forall_mem_nil _)⟩)⟩)⟩)⟩)⟩)⟩)⟩)⟩)⟩)⟩)
  exact fun e he => Entry.good.of rfl rfl (k e he)
theorem mainWT5_good (hE : EnvGood (EG 3)) : ∀ e ∈ mainWT5, e.good (EG 3) := by
  have h := EWT_good hE
  have k : ∀ e ∈ mainWT5, e.good EWT := (List.forall_mem_cons.2 ⟨Entry.good_of h okWT0, (List.forall_mem_cons.2 ⟨Entry.good_of h okWT1, (List.forall_mem_cons.2 ⟨Entry.good_of h okWT8, (List.forall_mem_cons.2 ⟨Entry.good_of h okWT17, (List.forall_mem_cons.2 ⟨Entry.good_of h okWT29, (List.forall_mem_cons.2 ⟨Entry.good_of h okWT43, (List.forall_mem_cons.2 ⟨Entry.good_of h okWT48, (List.forall_mem_cons.2 ⟨Entry.good_of h okWT53, (List.forall_mem_cons.2 ⟨Entry.good_of h okWT54, (List.forall_mem_cons.2 ⟨Entry.good_same h okWT55, (List.forall_mem_nil _)⟩)⟩)⟩)⟩)⟩)⟩)⟩)⟩)⟩)⟩)
  exact fun e he => Entry.good.of rfl rfl (k e he)
theorem mainWT6_good (hE : EnvGood (EG 3)) : ∀ e ∈ mainWT6, e.good (EG 3) := by
  have h := EWT_good hE
  have k : ∀ e ∈ mainWT6, e.good EWT := (List.forall_mem_cons.2 ⟨Entry.good_of h okWT0, (List.forall_mem_cons.2 ⟨Entry.good_of h okWT1, (List.forall_mem_cons.2 ⟨Entry.good_of h okWT8, (List.forall_mem_cons.2 ⟨Entry.good_of h okWT17, (List.forall_mem_cons.2 ⟨Entry.good_of h okWT29, (List.forall_mem_cons.2 ⟨Entry.good_of h okWT43, (List.forall_mem_cons.2 ⟨Entry.good_of h okWT56, (List.forall_mem_cons.2 ⟨Entry.good_of h okWT61, (List.forall_mem_cons.2 ⟨Entry.good_of h okWT62, (List.forall_mem_cons.2 ⟨Entry.good_same h okWT63, (List.forall_mem_nil _)⟩)⟩)⟩)⟩)⟩)⟩)⟩)⟩)⟩)⟩)
  exact fun e he => Entry.good.of rfl rfl (k e he)
theorem mainWT7_good (hE : EnvGood (EG 3)) : ∀ e ∈ mainWT7, e.good (EG 3) := by
  have h := EWT_good hE
  have k : ∀ e ∈ mainWT7, e.good EWT := (List.forall_mem_cons.2 ⟨Entry.good_of h okWT0, (List.forall_mem_cons.2 ⟨Entry.good_of h okWT1, (List.forall_mem_cons.2 ⟨Entry.good_of h okWT8, (List.forall_mem_cons.2 ⟨Entry.good_of h okWT17, (List.forall_mem_cons.2 ⟨Entry.good_of h okWT29, (List.forall_mem_cons.2 ⟨Entry.good_of h okWT43, (List.forall_mem_cons.2 ⟨Entry.good_of h okWT56, (List.forall_mem_cons.2 ⟨Entry.good_of h okWT64, (List.forall_mem_cons.2 ⟨Entry.good_of h okWT65, (List.forall_mem_cons.2 ⟨Entry.good_of h okWT68, (List.forall_mem_cons.2 ⟨Entry.good_of h okWT69, (List.forall_mem_cons.2 ⟨Entry.good_same h okWT70, (List.forall_mem_nil _)⟩)⟩)⟩)⟩)⟩)⟩)⟩)⟩)⟩)⟩)⟩)⟩)
  exact fun e he => Entry.good.of rfl rfl (k e he)
theorem mainWT8_good (hE : EnvGood (EG 3)) : ∀ e ∈ mainWT8, e.good (EG 3) := by
  have h := EWT_good hE
  have k : ∀ e ∈ mainWT8, e.good EWT := (List.forall_mem_cons.2 ⟨Entry.good_of h okWT0, (List.forall_mem_cons.2 ⟨Entry.good_of h okWT1, (List.forall_mem_cons.2 ⟨Entry.good_of h okWT8, (List.forall_mem_cons.2 ⟨Entry.good_of h okWT17, (List.forall_mem_cons.2 ⟨Entry.good_of h okWT29, (List.forall_mem_cons.2 ⟨Entry.good_of h okWT43, (List.forall_mem_cons.2 ⟨Entry.good_of h okWT56, (List.forall_mem_cons.2 ⟨Entry.good_of h okWT64, (List.forall_mem_cons.2 ⟨Entry.good_of h okWT71, (List.forall_mem_cons.2 ⟨Entry.good_of h okWT72, (List.forall_mem_cons.2 ⟨Entry.good_of h okWT77, (List.forall_mem_cons.2 ⟨Entry.good_of h okWT78, (List.forall_mem_cons.2 ⟨Entry.good_same h okWT79, (List.forall_mem_nil _)⟩)⟩)⟩)⟩)⟩)⟩)⟩)⟩)⟩)⟩)⟩)⟩)⟩)
  exact fun e he => Entry.good.of rfl rfl (k e he)
end

theorem topNilT : trueF (runF (withE (EG 3) [7, 4] mainWT1) 4000 (.call 3 [.b true, .nsl] emptyH)) = true := by kernel_rfl
theorem topNilF : trueF (runF (withE (EG 3) [7, 4] mainWF1) 4000 (.call 3 [.b false, .nsl] emptyH)) = true := by kernel_rfl
theorem topNoneT : trueF (runF (withE (EG 3) [7, 4] mainWT1) 4000 (.call 3 [.b true, .imm [] 0] emptyH)) = true := by kernel_rfl
theorem topNoneF : trueF (runF (withE (EG 3) [7, 4] mainWF1) 4000 (.call 3 [.b false, .imm [] 0] emptyH)) = true := by kernel_rfl
theorem awT : trueF (runF (withE (EG 3) [7, 4] mainWT1) 3999 (.call 4 [] emptyH)) = true := by kernel_rfl
theorem long_says {n : Nat} (hn : 9 ≤ n) (e : Bool) : saysTrue (run (withE (EG 3) [7, 4] mainWT1) 4000 (.call 3 [.b e, .imm [] n] emptyH)) = true := by
  have h := says_of awT
  unfold saysTrue at h
  split at h
  · rename_i hA hr
    letI := toks fun _ => ⟨0, 0, 0, false, 0, 0⟩
    obtain ⟨h', e'⟩ := long (E := withE (EG 3) [7, 4] mainWT1) (b := e) rfl (fun _ => rfl) (by kernel_rfl) (by kernel_rfl) (by kernel_rfl) (by kernel_rfl) (by kernel_rfl) rfl rfl hr hn
    rw [e']; rfl
  · cases h

theorem fin0 (es : List Entry) (fl : Nat → Fl) (hg : ∀ i, (fl i).Gen Tryz.prog 141 135 87) (c : Nat) (hc : c = 3 ∨ 10 ≤ c) (hn : NanCls fl c) (e : Bool) (x : AV) (v : Value) (hes : ∀ [Toks], EnvGood (EG 3) → ∀ e ∈ es, e.good (EG 3))
    (hr : saysTrue (run (withE (EG c) [7, 4] es) 4000 (.call 3 [.b e, x] emptyH)) = true) (W : World) (hL : laidMetH Tryz.prog Rows.schoolWritesRow.laid W) (hx : @VRel (toks fl) noI (Zed.all W) x v) :
    Calls Tryz.prog 3 #[.bool e, v] W fun e W' => e = .returned (.bool true) ∧ Keeps W W' := by
  letI := toks fl
  have h3 : EnvGood (EG 3) := EG_good 3 _ hg (fun _ => .inl (.inl rfl)) (fun h => absurd h (by decide))
  have hcg : EnvGood (EG c) := EG_good c _ hg (fun _ => .inl hc) hn
  exact calls_true (withE_good hcg (fun e he => Entry.good.of rfl rfl (hes h3 e he)) (by unfold EG; rfl)) hr W [.bool e, v] (globT hL) (.cons (.b e) (.cons hx .nil))

theorem fin (es : List Entry) (fl : Nat → Fl) (hg : ∀ i, (fl i).Gen Tryz.prog 141 135 87) (j c0 c1 : Nat) (h0 : c0 = 10 + 2 * j) (h1 : c1 = 11 + 2 * j) (e : Bool) (x : AV) (v : Value) (hes : ∀ [Toks], EnvGood (EG 3) → ∀ e ∈ es, e.good (EG 3))
    (r0 : trueF (runF (withE (EG c0) [7, 4] es) 4000 (.call 3 [.b e, x] emptyH)) = true) (r1 : trueF (runF (withE (EG c1) [7, 4] es) 4000 (.call 3 [.b e, x] emptyH)) = true) (W : World) (hL : laidMetH Tryz.prog Rows.schoolWritesRow.laid W) (hx : @VRel (toks fl) noI (Zed.all W) x v) :
    Calls Tryz.prog 3 #[.bool e, v] W fun e W' => e = .returned (.bool true) ∧ Keeps W W' := by
  cases hn : isNan (fl j).X with
  | false =>
    refine fin0 es fl hg c0 (.inr (by omega)) (fun _ => ?_) e x v hes (says_of r0) W hL hx
    rw [show (c0 - 10) / 2 = j by omega, hn, show c0 % 2 = 0 by omega]; rfl
  | true =>
    refine fin0 es fl hg c1 (.inr (by omega)) (fun _ => ?_) e x v hes (says_of r1) W hL hx
    rw [show (c1 - 10) / 2 = j by omega, hn, show c1 % 2 = 1 by omega]; rfl

/-- Names for the numbers of a slice. -/
theorem names {W : World} {blk off len : Nat} (hc : ∀ i, i < len → ∃ X, X < 2 ^ 64 ∧ Zed.all W blk (off + i) = some (.float .f64 X)) :
    ∃ fl : Nat → Fl, (∀ i, (fl i).Gen Tryz.prog 141 135 87) ∧ ∀ i, i < len → Zed.all W blk (off + i) = some (.float .f64 (fl i).X) := by
  have h : ∀ i, ∃ a : Fl, a.Gen Tryz.prog 141 135 87 ∧ (i < len → Zed.all W blk (off + i) = some (.float .f64 a.X)) := fun i => by
    by_cases hi : i < len
    · obtain ⟨X, hX, hz⟩ := hc i hi
      obtain ⟨a, rfl, _, ga⟩ := gen_all hX
      exact ⟨a, ga, fun _ => hz⟩
    · obtain ⟨a, _, _, ga⟩ := gen_all (X := 0) (by decide)
      exact ⟨a, ga, fun h => absurd h hi⟩
  exact ⟨fun i => (h i).choose, fun i => (h i).choose_spec.1, fun i => (h i).choose_spec.2⟩

theorem names_rel {W : World} {blk off n cap : Nat} {fl : Nat → Fl} (hz : ∀ i, i < n → Zed.all W blk (off + i) = some (.float .f64 (fl i).X)) (hle : n ≤ cap) :
    @VRel (toks fl) noI (Zed.all W) (.imm ((List.range n).map fun i => .tok (100 * i)) n) (.slice (some ⟨blk, off, none⟩) n cap) := by
  letI := toks fl
  refine .imm (vs := (List.range n).map fun i => .float .f64 (fl i).X) (by simp) (fun j v h => ?_) (fun j x v h1 h2 => ?_) hle
  · obtain ⟨i, hi, rfl⟩ := Option.map_eq_some_iff.1 (by rw [← List.getElem?_map]; exact h)
    obtain ⟨hj, rfl⟩ := List.getElem?_eq_some_iff.1 hi
    rw [List.getElem_range]
    exact hz j (by simpa using hj)
  · obtain ⟨i, hi, rfl⟩ := Option.map_eq_some_iff.1 (by rw [← List.getElem?_map]; exact h1)
    obtain ⟨i', hi', rfl⟩ := Option.map_eq_some_iff.1 (by rw [← List.getElem?_map]; exact h2)
    rw [hi] at hi'; cases hi'
    refine .tok _ _ ?_
    show flVal (fl ((100 * i) / 100)) ((100 * i) % 100) = _
    rw [show (100 * i) / 100 = i by omega, show (100 * i) % 100 = 0 by omega]
    rfl

theorem writes_calls (e : Bool) (v : Value) (W : World) (hL : laidMetH Tryz.prog Rows.schoolWritesRow.laid W) (hv : FloatsAre W v) : Calls Tryz.prog 3 #[.bool e, v] W fun e W' => e = .returned (.bool true) ∧ Keeps W W' := by
  rcases hv with rfl | ⟨blk, off, len, cap, rfl, hle, hc⟩
  · obtain ⟨a0, _, _, g0⟩ := gen_all (X := 0) (by decide)
    have hx : @VRel (toks fun _ => a0) noI (Zed.all W) .nsl (.slice none 0 0) := by letI := toks fun _ => a0; exact .nsl
    cases e with
    | true => exact fin0 mainWT1 (fun _ => a0) (fun _ => g0) 3 (.inl rfl) (fun h => absurd h (by decide)) true _ _ (fun h3 e he => mainWT1_good h3 e he) (says_of topNilT) W hL hx
    | false => exact fin0 mainWF1 (fun _ => a0) (fun _ => g0) 3 (.inl rfl) (fun h => absurd h (by decide)) false _ _ (fun h3 e he => mainWF1_good h3 e he) (says_of topNilF) W hL hx
  · obtain ⟨fl, hg, hz⟩ := names hc
    have hx := names_rel hz hle
    by_cases hlong : 9 ≤ len
    · have hx2 : @VRel (toks fl) noI (Zed.all W) (.imm [] len) (.slice (some ⟨blk, off, none⟩) len cap) := by
        letI := toks fl
        exact .imm (vs := []) rfl (fun j v h => by simp at h) (fun j a v h => by simp at h) hle
      exact fin0 mainWT1 fl hg 3 (.inl rfl) (fun h => absurd h (by decide)) e _ _ (fun h3 e he => mainWT1_good h3 e he) (long_says hlong e) W hL hx2
    · have hcase : len = 0 ∨ len = 1 ∨ len = 2 ∨ len = 3 ∨ len = 4 ∨ len = 5 ∨ len = 6 ∨ len = 7 ∨ len = 8 := by omega
      rcases hcase with rfl | rfl | rfl | rfl | rfl | rfl | rfl | rfl | rfl
      · cases e with
        | true => exact fin0 mainWT1 fl hg 3 (.inl rfl) (fun h => absurd h (by decide)) true _ _ (fun h3 e he => mainWT1_good h3 e he) (says_of topNoneT) W hL hx
        | false => exact fin0 mainWF1 fl hg 3 (.inl rfl) (fun h => absurd h (by decide)) false _ _ (fun h3 e he => mainWF1_good h3 e he) (says_of topNoneF) W hL hx
      · cases e with
        | true => exact fin mainWT1 fl hg 0 10 11 rfl rfl true _ _ (fun h3 e he => mainWT1_good h3 e he) topWT1f topWT1n W hL hx
        | false => exact fin mainWF1 fl hg 0 10 11 rfl rfl false _ _ (fun h3 e he => mainWF1_good h3 e he) topWF1f topWF1n W hL hx
      · cases e with
        | true => exact fin mainWT2 fl hg 1 12 13 rfl rfl true _ _ (fun h3 e he => mainWT2_good h3 e he) topWT2f topWT2n W hL hx
        | false => exact fin mainWF2 fl hg 1 12 13 rfl rfl false _ _ (fun h3 e he => mainWF2_good h3 e he) topWF2f topWF2n W hL hx
      · cases e with
        | true => exact fin mainWT3 fl hg 2 14 15 rfl rfl true _ _ (fun h3 e he => mainWT3_good h3 e he) topWT3f topWT3n W hL hx
        | false => exact fin mainWF3 fl hg 2 14 15 rfl rfl false _ _ (fun h3 e he => mainWF3_good h3 e he) topWF3f topWF3n W hL hx
      · cases e with
        | true => exact fin mainWT4 fl hg 3 16 17 rfl rfl true _ _ (fun h3 e he => mainWT4_good h3 e he) topWT4f topWT4n W hL hx
        | false => exact fin mainWF4 fl hg 3 16 17 rfl rfl false _ _ (fun h3 e he => mainWF4_good h3 e he) topWF4f topWF4n W hL hx
      · cases e with
        | true => exact fin mainWT5 fl hg 3 16 17 rfl rfl true _ _ (fun h3 e he => mainWT5_good h3 e he) topWT5f topWT5n W hL hx
        | false => exact fin mainWF5 fl hg 3 16 17 rfl rfl false _ _ (fun h3 e he => mainWF5_good h3 e he) topWF5f topWF5n W hL hx
      · cases e with
        | true => exact fin mainWT6 fl hg 3 16 17 rfl rfl true _ _ (fun h3 e he => mainWT6_good h3 e he) topWT6f topWT6n W hL hx
        | false => exact fin mainWF6 fl hg 3 16 17 rfl rfl false _ _ (fun h3 e he => mainWF6_good h3 e he) topWF6f topWF6n W hL hx
      · cases e with
        | true => exact fin mainWT7 fl hg 6 22 23 rfl rfl true _ _ (fun h3 e he => mainWT7_good h3 e he) topWT7f topWT7n W hL hx
        | false => exact fin mainWF7 fl hg 6 22 23 rfl rfl false _ _ (fun h3 e he => mainWF7_good h3 e he) topWF7f topWF7n W hL hx
      · cases e with
        | true => exact fin mainWT8 fl hg 7 24 25 rfl rfl true _ _ (fun h3 e he => mainWT8_good h3 e he) topWT8f topWT8n W hL hx
        | false => exact fin mainWF8 fl hg 7 24 25 rfl rfl false _ _ (fun h3 e he => mainWF8_good h3 e he) topWF8f topWF8n W hL hx

set_option maxRecDepth 100000 in
theorem contract (H : Type) (enc : TypeId × Value → H) (W : World) (base : Nat) (args : Array Value) (ds gs : List (DataW H)) (before : List MemPlace)
    (hval : ∀ (j : Nat) t v, Tryz.f3.params[j]? = some t → args[j]? = some v → Value.okWide Tryz.prog W .any base t v)
    (hW : DataW.Whole enc Tryz.prog Tryz.f3.params.toList Rows.schoolWritesSpec.vars false W args.toList ds gs before) (hL : laidMetH Tryz.prog Rows.schoolWritesRow.laid W) :
    Calls Tryz.prog 3 args W fun e W' => ∃ v, e = .returned v ∧ Rows.schoolWritesSpec.post enc Tryz.prog Tryz.f3 false true false false W args v W' := by
  have hW' := hW
  have hlt : ∀ x ∈ before, x.block < W.heap.size := fun x hx => hW.lt x hx
  obtain ⟨p, q, hA0, hV, rfl, hfz, hnd⟩ := hW
  have hA : DataW.TrodAll enc Tryz.prog W 0 (fun _ => true) true Tryz.f3.params.toList args.toList ds p := hA0
  rw [Tryz.params3] at hA hval
  obtain ⟨v0, v1, d0, d1, p0, p1, rfl, rfl, rfl, h0, h1⟩ := trodAll_two hA
  obtain ⟨rfl, rfl⟩ := trodVars_none hV
  obtain ⟨b, rfl, rfl, rfl⟩ := open_bool Tryz.underlying4 (hval 0 4 v0 rfl rfl) h0
  have hv := floats_are Tryz.underlying22 Tryz.underlying32 cells32 (hval 1 22 v1 rfl rfl) h1
  clear hA0
  refine (writes_calls b v1 W hL hv).mono fun e W' ⟨he, hk⟩ => ?_
  subst he
  letI := toks fun _ => ⟨0, 0, 0, false, 0, 0⟩
  simp only [List.append_nil, List.nil_append] at hW' hlt
  exact ⟨_, rfl, post_of_kept (pa := p1) (pv := []) hW' (fun _ _ _ => trodAll_cons_mk (shut_bool Tryz.underlying4 _) trodAll_mk0) (fun sp hs => by
      rw [Tryz.params3]; exact trodAll_mk2 (shut_bool Tryz.underlying4 _) (keeps_trod laidOut (by kernel_rfl) (of_decide_eq_true (by kernel_rfl)) h1 hk hlt hs)) (fun _ _ => rfl) (by simp) hk
    (ok_one (t := 4) (by kernel_rfl) rfl (okWide_bool_mk Tryz.underlying4 _))⟩

/-- A WORLD FOR THE WITNESS: the settled one, the table (block 0) holding what its initialiser lays. -/
noncomputable def laidWorld (os : Os) : World :=
  { World.holding Tryz.prog os ⟨#[], #[], []⟩ with heap := (World.holding Tryz.prog os ⟨#[], #[], []⟩).heap.modify 0 fun
      | .cells _ t frozen => .cells (bytes.map fun (n : Nat) => Value.int .u8 (n : Int)).toArray t frozen
      | o => o }
theorem laid_met (os : Os) : laidMet Tryz.prog Rows.schoolWritesRow.laid ((laidWorld os).forCall (fun _ _ => 0) ⟨#[], #[.bool true, .slice none 0 0], []⟩).memory :=
  laidMet_of_run' 8 (by kernel_rfl) (by kernel_rfl)
theorem reads (os : Os) {H : Type} (enc : TypeId × Value → H) : ∃ places, DataW.whole enc Tryz.prog ((laidWorld os).forCall (fun _ _ => 0) ⟨#[], #[.bool true, .slice none 0 0], []⟩).memory Tryz.f3.params.toList Rows.schoolWritesSpec.vars false #[Value.bool true, Value.slice none 0 0].toList 8 = some ([.lit (.bool true), .nil], [], places) :=
  ⟨[], by kernel_rfl⟩

set_option maxRecDepth 100000 in
theorem lifted (os : Os) (started : os.Started) (H : Type) (enc : TypeId × Value → H) (F : Stop.Interp) :
    ReturnsInHanded {} Tryz.checked os 3 .any ((OpenSpec.ofChange Rows.schoolWritesSpec).preRow enc Tryz.prog Tryz.f3 Rows.schoolWritesRow.domain false Rows.schoolWritesRow.laid) (((OpenSpec.ofChange Rows.schoolWritesSpec).at F).post enc Tryz.prog Tryz.f3 false true false false) := by
  obtain ⟨places, hx⟩ := reads os enc
  refine returnsInHanded_of_row (C := Tryz.checked) (s := OpenSpec.ofChange Rows.schoolWritesSpec) own started (by kernel_rfl) Tryz.func3
    (witness_row_at (enc := enc) (C := Tryz.checked) false (laidWorld os) #[.bool true, .slice none 0 0] rfl (by kernel_rfl) (by kernel_rfl) (by kernel_rfl)
      (OpenSpec.preRow_of_cond 8 hx (by kernel_rfl) (fun k hk => by cases hk) (by kernel_rfl) (laid_met os))) ?_
  intro W base args ds gs before hval hW _ _ _ hL _ _
  exact contract H enc W base args ds gs before hval hW hL

theorem said : Rows.SchoolWritesSaid :=
  OpenClaim.holds_of_cond 3 Tryz.f3 rfl rfl rfl rfl rfl rfl rfl ⟨rfl, rfl, rfl, rfl, rfl⟩ rfl rfl rfl rfl rfl (by kernel_rfl) Tryz.func3 (by kernel_rfl)
    (of_decide_eq_true (by kernel_rfl)) (by unfold Func.isWrapper; first | (rw [if_pos (by decide +kernel)]; kernel_rfl) | (rw [if_neg (by decide +kernel)]; exact ⟨rfl, rfl⟩))
    (fun os started H enc _ F => by rw [OpenClaim.pre_eq_preRow]; exact lifted os started H enc F)

theorem plain (f : FuncId) (fn : Func) (hf : Tryz.pinned.checked.prog.funcNamed "shoal/shoallaw26.SchoolWrites" = some f) (hfn : Tryz.pinned.checked.prog.funcs[f]? = some fn) :
    false = Tryz.pinned.checked.prog.looks [] ∧ ∀ (j : Nat) t, fn.params[j]? = some t → Tryz.pinned.checked.prog.wantsStandIn t = false := by
  obtain rfl : f = 3 := Option.some.inj ((show Tryz.prog.funcNamed "shoal/shoallaw26.SchoolWrites" = some 3 by kernel_rfl).symm.trans hf) |>.symm
  obtain rfl : fn = Tryz.f3 := (Option.some.inj (Tryz.func3.symm.trans hfn)).symm
  refine ⟨by kernel_rfl, fun j t ht => ?_⟩
  rw [Tryz.params3] at ht
  rcases j with _ | _ | j <;> simp at ht <;> subst ht <;> kernel_rfl

theorem card : Rows.SchoolWritesCardSaid :=
  Claim7.holds_tied_plain_at .later [] _ _ _ _ said (fun _ h => by cases h) (by kernel_rfl) (fun _ h => by cases h) schoolWrites_row_tie rfl ⟨rfl, rfl⟩ (by kernel_rfl) rfl plain (by kernel_rfl)
end Go.Proofs.YtjddbeecnnbebaaGreatDoor.schoolWrites
namespace Go.Proofs.YtjddbeecnnbebaaGreatDoor
theorem schoolWrites_card : Rows.SchoolWritesCardSaid := schoolWrites.card
end Go.Proofs.YtjddbeecnnbebaaGreatDoor
