/-
  shoaltop.TopReads, for every engine and every slice of numbers with a point: the abstract machine's answers, case by case; the row; the card.
-/
import Derived.Test.YtkcogdalihcamaaGreatDoorCards
import Derived.Test.YtkcogdalihcamaaGreatDoorTie
import Derived.Test.YtkcogdalihcamaaGreatDoorRows
import Derived.Test.YtkcogdalihcamaaGreatDoorBGood
import Derived.Test.YtkcogdalihcamaaGreatDoorRT1K0
import Derived.Test.YtkcogdalihcamaaGreatDoorRT1K1
import Derived.Test.YtkcogdalihcamaaGreatDoorRT2K0
import Derived.Test.YtkcogdalihcamaaGreatDoorRT2K1
import Derived.Test.YtkcogdalihcamaaGreatDoorRF1K0
import Derived.Test.YtkcogdalihcamaaGreatDoorRF1K1
import Derived.Test.YtkcogdalihcamaaGreatDoorRF2K0
import Derived.Test.YtkcogdalihcamaaGreatDoorRF2K1
import Derived.Laws.Cover2
import Derived.WideKeyArgs
namespace Go.Proofs.YtkcogdalihcamaaGreatDoor.topReads
open Go.ChangeShapes Go.WideShapes Go.ChangeAt Go.RowKit Go.Av
set_option linter.unusedSimpArgs false

theorem own : ownKnob Tryz.prog.godebug = none := by kernel_rfl
theorem gTab : Tryz.prog.globalNamed "math/bits.deBruijn64tab" = some 0 := by kernel_rfl
theorem gTabType : (Tryz.prog.globals[0]?).map (·.type) = some 249 := by kernel_rfl
theorem uTab : Tryz.prog.underlying 249 = some (.array 64 5) := by kernel_rfl
theorem uEl : Tryz.prog.underlying 5 = some (.int .u8) := by kernel_rfl
theorem cellsTab : Tryz.prog.cellsOf 249 = 64 := by kernel_rfl
theorem cellsEl : Tryz.prog.cellsOf 5 = 1 := by kernel_rfl


def bytes : List Nat := [0, 1, 56, 2, 57, 49, 28, 3, 61, 58, 42, 50, 38, 29, 17, 4, 62, 47, 59, 36, 45, 43, 51, 22, 53, 39, 33, 30, 24, 18, 12, 5, 63, 55, 48, 27, 60, 41, 37, 16, 46, 35, 44, 21, 52, 32, 23, 11, 54, 26, 40, 15, 34, 20, 31, 10, 25, 14, 19, 9, 13, 8, 7, 6]

/-- WHAT THE ROW's LIST GIVES: the table's cells. -/
theorem table {W : World} (h : laidMetH Tryz.prog Rows.topReadsRow.laid W) : Lib.TabIs Tryz.prog W "math/bits.deBruijn64tab" .u8 (bytes.map fun (n : Nat) => (n : Int)) :=
  Lib.tabIs_of_head (rest := []) gTab gTabType uTab uEl cellsEl cellsTab h

theorem says_of {E : Env} {n : Nat} {f : FuncId} {args : List AV} {h : AH} (e : trueF (runF E n (.call f args h)) = true) : saysTrue (run E n (.call f args h)) = true := by
  unfold trueF at e
  split at e
  · rename_i h' hr
    letI := toks fun _ => ⟨0, 0, 0, false, 0, 0⟩
    rw [runF_ret hr]; rfl
  · cases e

theorem globT [Toks] {W : World} {c : Nat} {es : List Entry} {fs : List FuncId} (h : laidMetH Tryz.prog Rows.topReadsRow.laid W) : Glob noI (Zed.all W) (withE (EG c) fs es) := by
  have hg : Glob noI (Zed.all W) (env Tryz.prog tabG) := glob_tab (l := bytes) rfl gTab (table h)
  exact hg

theorem keeps_same {W W' : World} (h : Keeps W W') {p : MemPlace} (hp : p.block < W.heap.size) : W.sameAt W' p := by
  cases p with
  | cell b o => exact World.cell?_of_block (w := W) (h.block b hp)
  | map b => exact h.block b hp

theorem keeps_trod {H : Type} {enc : TypeId × Value → H} {P : Program} {t : TypeId} (hl : laidOutB P = true) (hr : P.readableRec t = true) (hrow : t < P.types.size) {W W' : World} {v : Value} {d : DataW H} {ps : List MemPlace} {sp : Nat → Bool}
    (h : DataW.Trod enc P W 0 (fun _ => true) true t v d ps) (hb : Keeps W W') (hlt : ∀ x ∈ ps, x.block < W.heap.size) (hs : ∀ p ∈ ps, sp p.block = true) :
    DataW.Trod enc P W' 0 sp true t v d ps :=
  WideElems.Trod_stays hl hr hrow h (fun x hx => keeps_same hb (hlt x hx)) hs

theorem laidOut : laidOutB Tryz.prog = true := by kernel_rfl
theorem cells22 : Tryz.prog.cellsOf 22 = 1 := by kernel_rfl
/-- A slice of numbers with a point. -/
def FloatsAre (W : World) (v : Value) : Prop := v = .slice none 0 0 ∨ ∃ blk off len cap, v = .slice (some ⟨blk, off, none⟩) len cap ∧ len ≤ cap ∧ ∀ i, i < len → ∃ X, X < 2 ^ 64 ∧ Zed.all W blk (off + i) = some (.float .f64 X)

theorem floats_are {H : Type} {enc : TypeId × Value → H} {P : Program} {t e : TypeId} {W : World} {base : Nat} {v : Value} {d : DataW H} {ps : List MemPlace} (ht : P.underlying t = some (.slice e)) (he : P.underlying e = some (.float .f64)) (hc : P.cellsOf e = 1)
    (hval : Value.okWide P W .any base t v) (h : DataW.Trod enc P W 0 (fun _ => true) true t v d ps) : FloatsAre W v := by
  obtain ⟨a0, len0, cap0, hv⟩ := okWide_slice ht hval
  obtain ⟨fuel, hf⟩ := h
  have hcells : v.cells.toList = [v] := by subst hv; rfl
  rcases DataW.trod_slice ht hf with ⟨h1, _⟩ | ⟨a, len, cap, elems, rest, n, _, h1, _, _, hl, _, hlen, hel, _, _⟩
  · left; rw [hcells] at h1; simpa using h1
  · right
    rw [hcells] at h1
    have hv1 : v = .slice (some a) len cap := by simpa using h1
    subst hv1
    have hspot : a.spot = none := by
      simp only [Value.okWide, ht, Cell.okWide, Cell.ok] at hval
      exact hval.2.2.2.1
    obtain ⟨blk, off, spot⟩ := a
    dsimp only at hspot
    subst hspot
    refine ⟨blk, off, len, cap, rfl, hl, fun i hi => ?_⟩
    have h2 := hel i hi
    rw [hc, Nat.mul_one] at h2
    have hy : elems[i]? = some (elems[i]'(by omega)) := List.getElem?_eq_getElem (by omega)
    rw [hy, Option.bind_eq_some_iff] at h2
    obtain ⟨cs', h3, h4⟩ := h2
    have hlen1 := (World.cells?_some h3).2.1
    obtain ⟨x, rfl⟩ : ∃ x, cs' = [x] := by
      cases cs' with
      | nil => simp at hlen1
      | cons x r => cases r with
        | nil => exact ⟨x, rfl⟩
        | cons y r => simp at hlen1
    have hcell := cell_of_cells?_one h3
    have hadd : Addr.add ⟨blk, off, none⟩ i = ⟨blk, off + i, none⟩ := by unfold Addr.add; split <;> simp_all
    rw [hadd] at hcell
    cases n with
    | zero => simp [DataW.trod] at h4
    | succ n =>
      simp only [DataW.trod, he] at h4
      cases x with
      | float k b =>
        by_cases hw : (Lit.float .f64 b).wf = true
        · cases k with
          | f64 => exact ⟨b, by simpa [Lit.wf] using hw, hcell⟩
          | f32 => simp at h4
        · cases k with
          | f64 => simp [hw] at h4
          | f32 => simp at h4
      | _ => simp at h4

set_option maxRecDepth 100000 in
theorem long {E : Env} {k n : Nat} {b : Bool} {hA : AH} (hP : E.P = Tryz.prog) (hf : ∀ f, E.fun_ f = Tryz.prog.funcs[f]?) (hm : E.mode 4 = 0) (hh : E.hook 4 = none) (hp : E.phook 4 = none) (hx : E.ext 6 = none) (hm6 : E.mode 6 = 0) (hbt : E.tb = tbG 3) (hut : E.tu = fun _ _ => none)
    (haw : run E k (.call 6 [] emptyH) = some (.ret (.b true) hA)) (hn : 3 ≤ n) : ∃ h', run E (k + 1) (.call 4 [.b b, .imm [] n] emptyH) = some (.ret (.b true) h') := by
  have e1 : ¬ (n : Int) < 1 := by omega
  have e2 : (2 : Int) < (n : Int) := by omega
  refine ⟨hA, ?_⟩
  generalize hr : run E k = R at haw
  rw [run, hr]
  simp [stepTask, stepCall, bodyA, stepCode, stepOps, List.range_succ, step1, wantedA, stepOp, execA, evA, putA, ofV, builtinA, lenA, binE, unE, unA, binA, resultsA, resA, callFnA, hP, hf, hm, hh, hp, hx, hm6, hbt, hut, tbG, Tryz.func4, Tryz.f4, Tryz.func6, Tryz.f6, Tryz.underlying42, Tryz.underlying3, haw, e1, e2]

theorem topRTn : trueF (runF (withE (EG 3) [9, 6] mainRT1) 4000 (.call 4 [.b true, .nsl] emptyH)) = true := by kernel_rfl
theorem topRFn : trueF (runF (withE (EG 3) [9, 6] mainRT1) 4000 (.call 4 [.b false, .nsl] emptyH)) = true := by kernel_rfl
theorem topRT0 : trueF (runF (withE (EG 3) [9, 6] mainRT1) 4000 (.call 4 [.b true, .imm [] 0] emptyH)) = true := by kernel_rfl
theorem topRF0 : trueF (runF (withE (EG 3) [9, 6] mainRT1) 4000 (.call 4 [.b false, .imm [] 0] emptyH)) = true := by kernel_rfl
theorem awT : trueF (runF (withE (EG 3) [9, 6] mainRT1) 3999 (.call 6 [] emptyH)) = true := by kernel_rfl
theorem long_says {n : Nat} (hn : 3 ≤ n) (e : Bool) : saysTrue (run (withE (EG 3) [9, 6] mainRT1) 4000 (.call 4 [.b e, .imm [] n] emptyH)) = true := by
  have h := says_of awT
  unfold saysTrue at h
  split at h
  · rename_i hA hr
    letI := toks fun _ => ⟨0, 0, 0, false, 0, 0⟩
    obtain ⟨h', e'⟩ := long (E := withE (EG 3) [9, 6] mainRT1) (b := e) rfl (fun _ => rfl) (by kernel_rfl) (by kernel_rfl) (by kernel_rfl) (by kernel_rfl) (by kernel_rfl) rfl rfl hr hn
    rw [e']; rfl
  · cases h

section
variable [Toks]

theorem subRT1_good (hE : EnvGood (EG 3)) : ∀ e ∈ subRT1, e.good (EG 3) := (List.forall_mem_cons.2 ⟨Entry.good_of hE okRT13, (List.forall_mem_cons.2 ⟨Entry.good_of hE okRT14, (List.forall_mem_cons.2 ⟨Entry.good_of hE okRT16, (List.forall_mem_nil _)⟩)⟩)⟩)
theorem ERT1_good (hE : EnvGood (EG 3)) : EnvGood ERT1 := withE_good hE (subRT1_good hE) (by kernel_rfl)
theorem mainRT1_good (hE : EnvGood (EG 3)) : ∀ e ∈ mainRT1, e.good ERT1 := by
  have h := ERT1_good hE
  exact (List.forall_mem_cons.2 ⟨Entry.good_of h okRT10, (List.forall_mem_cons.2 ⟨Entry.good_of h okRT11, (List.forall_mem_cons.2 ⟨Entry.good_of h okRT12, (List.forall_mem_cons.2 ⟨Entry.good_of h okRT15, (List.forall_mem_cons.2 ⟨Entry.good_of h okRT17, (List.forall_mem_cons.2 ⟨Entry.good_of h okRT18, (List.forall_mem_cons.2 ⟨Entry.good_of h okRT19, (List.forall_mem_cons.2 ⟨Entry.good_of h okRT110, (List.forall_mem_cons.2 ⟨Entry.good_of h okRT111, (List.forall_mem_cons.2 ⟨Entry.good_of h okRT112, (List.forall_mem_cons.2 ⟨Entry.good_of h okRT113, (List.forall_mem_cons.2 ⟨Entry.good_of h okRT114, (List.forall_mem_cons.2 ⟨Entry.good_of h okRT115, (List.forall_mem_cons.2 ⟨Entry.good_of h okRT116, (List.forall_mem_cons.2 ⟨Entry.good_of h okRT117, (List.forall_mem_cons.2 ⟨Entry.good_of h okRT118, (List.forall_mem_cons.2 ⟨Entry.good_of h okRT119, (List.forall_mem_cons.2 ⟨Entry.good_of h okRT120, (List.forall_mem_cons.2 ⟨Entry.good_of h okRT121, (List.forall_mem_nil _)⟩)⟩)⟩)⟩)⟩)⟩)⟩)⟩)⟩)⟩)⟩)⟩)⟩)⟩)⟩)⟩)⟩)⟩)⟩)

theorem subRT2_good (hE : EnvGood (EG 3)) : ∀ e ∈ subRT2, e.good (EG 3) := (List.forall_mem_cons.2 ⟨Entry.good_of hE okRT24, (List.forall_mem_cons.2 ⟨Entry.good_of hE okRT25, (List.forall_mem_cons.2 ⟨Entry.good_of hE okRT27, (List.forall_mem_cons.2 ⟨Entry.good_of hE okRT29, (List.forall_mem_nil _)⟩)⟩)⟩)⟩)
theorem ERT2_good (hE : EnvGood (EG 3)) : EnvGood ERT2 := withE_good hE (subRT2_good hE) (by kernel_rfl)
theorem mainRT2_good (hE : EnvGood (EG 3)) : ∀ e ∈ mainRT2, e.good ERT2 := by
  have h := ERT2_good hE
  exact (List.forall_mem_cons.2 ⟨Entry.good_of h okRT20, (List.forall_mem_cons.2 ⟨Entry.good_of h okRT21, (List.forall_mem_cons.2 ⟨Entry.good_of h okRT22, (List.forall_mem_cons.2 ⟨Entry.good_of h okRT23, (List.forall_mem_cons.2 ⟨Entry.good_of h okRT26, (List.forall_mem_cons.2 ⟨Entry.good_of h okRT28, (List.forall_mem_cons.2 ⟨Entry.good_of h okRT210, (List.forall_mem_cons.2 ⟨Entry.good_of h okRT211, (List.forall_mem_cons.2 ⟨Entry.good_of h okRT212, (List.forall_mem_cons.2 ⟨Entry.good_of h okRT213, (List.forall_mem_cons.2 ⟨Entry.good_of h okRT214, (List.forall_mem_cons.2 ⟨Entry.good_of h okRT215, (List.forall_mem_cons.2 ⟨Entry.good_of h okRT216, (List.forall_mem_cons.2 ⟨Entry.good_of h okRT217, (List.forall_mem_cons.2 ⟨Entry.good_of h okRT218, (List.forall_mem_cons.2 ⟨Entry.good_of h okRT219, (List.forall_mem_cons.2 ⟨Entry.good_of h okRT220, (List.forall_mem_cons.2 ⟨Entry.good_of h okRT221, (List.forall_mem_cons.2 ⟨Entry.good_of h okRT222, (List.forall_mem_cons.2 ⟨Entry.good_of h okRT223, (List.forall_mem_nil _)⟩)⟩)⟩)⟩)⟩)⟩)⟩)⟩)⟩)⟩)⟩)⟩)⟩)⟩)⟩)⟩)⟩)⟩)⟩)⟩)

theorem subRF1_good (hE : EnvGood (EG 3)) : ∀ e ∈ subRF1, e.good (EG 3) := (List.forall_mem_cons.2 ⟨Entry.good_of hE okRF13, (List.forall_mem_cons.2 ⟨Entry.good_of hE okRF14, (List.forall_mem_cons.2 ⟨Entry.good_of hE okRF16, (List.forall_mem_nil _)⟩)⟩)⟩)
theorem ERF1_good (hE : EnvGood (EG 3)) : EnvGood ERF1 := withE_good hE (subRF1_good hE) (by kernel_rfl)
theorem mainRF1_good (hE : EnvGood (EG 3)) : ∀ e ∈ mainRF1, e.good ERF1 := by
  have h := ERF1_good hE
  exact (List.forall_mem_cons.2 ⟨Entry.good_of h okRF10, (List.forall_mem_cons.2 ⟨Entry.good_of h okRF11, (List.forall_mem_cons.2 ⟨Entry.good_of h okRF12, (List.forall_mem_cons.2 ⟨Entry.good_of h okRF15, (List.forall_mem_cons.2 ⟨Entry.good_of h okRF17, (List.forall_mem_cons.2 ⟨Entry.good_of h okRF18, (List.forall_mem_cons.2 ⟨Entry.good_of h okRF19, (List.forall_mem_cons.2 ⟨Entry.good_of h okRF110, (List.forall_mem_cons.2 ⟨Entry.good_of h okRF111, (List.forall_mem_cons.2 ⟨Entry.good_of h okRF112, (List.forall_mem_cons.2 ⟨Entry.good_of h okRF113, (List.forall_mem_cons.2 ⟨Entry.good_of h okRF114, (List.forall_mem_cons.2 ⟨Entry.good_of h okRF115, (List.forall_mem_cons.2 ⟨Entry.good_of h okRF116, (List.forall_mem_cons.2 ⟨Entry.good_of h okRF117, (List.forall_mem_cons.2 ⟨Entry.good_of h okRF118, (List.forall_mem_cons.2 ⟨Entry.good_of h okRF119, (List.forall_mem_cons.2 ⟨Entry.good_of h okRF120, (List.forall_mem_cons.2 ⟨Entry.good_of h okRF121, (List.forall_mem_nil _)⟩)⟩)⟩)⟩)⟩)⟩)⟩)⟩)⟩)⟩)⟩)⟩)⟩)⟩)⟩)⟩)⟩)⟩)⟩)

theorem subRF2_good (hE : EnvGood (EG 3)) : ∀ e ∈ subRF2, e.good (EG 3) := (List.forall_mem_cons.2 ⟨Entry.good_of hE okRF24, (List.forall_mem_cons.2 ⟨Entry.good_of hE okRF25, (List.forall_mem_cons.2 ⟨Entry.good_of hE okRF27, (List.forall_mem_cons.2 ⟨Entry.good_of hE okRF29, (List.forall_mem_nil _)⟩)⟩)⟩)⟩)
theorem ERF2_good (hE : EnvGood (EG 3)) : EnvGood ERF2 := withE_good hE (subRF2_good hE) (by kernel_rfl)
theorem mainRF2_good (hE : EnvGood (EG 3)) : ∀ e ∈ mainRF2, e.good ERF2 := by
  have h := ERF2_good hE
  exact (List.forall_mem_cons.2 ⟨Entry.good_of h okRF20, (List.forall_mem_cons.2 ⟨Entry.good_of h okRF21, (List.forall_mem_cons.2 ⟨Entry.good_of h okRF22, (List.forall_mem_cons.2 ⟨Entry.good_of h okRF23, (List.forall_mem_cons.2 ⟨Entry.good_of h okRF26, (List.forall_mem_cons.2 ⟨Entry.good_of h okRF28, (List.forall_mem_cons.2 ⟨Entry.good_of h okRF210, (List.forall_mem_cons.2 ⟨Entry.good_of h okRF211, (List.forall_mem_cons.2 ⟨Entry.good_of h okRF212, (List.forall_mem_cons.2 ⟨Entry.good_of h okRF213, (List.forall_mem_cons.2 ⟨Entry.good_of h okRF214, (List.forall_mem_cons.2 ⟨Entry.good_of h okRF215, (List.forall_mem_cons.2 ⟨Entry.good_of h okRF216, (List.forall_mem_cons.2 ⟨Entry.good_of h okRF217, (List.forall_mem_cons.2 ⟨Entry.good_of h okRF218, (List.forall_mem_cons.2 ⟨Entry.good_of h okRF219, (List.forall_mem_cons.2 ⟨Entry.good_of h okRF220, (List.forall_mem_cons.2 ⟨Entry.good_of h okRF221, (List.forall_mem_cons.2 ⟨Entry.good_of h okRF222, (List.forall_mem_cons.2 ⟨Entry.good_of h okRF223, (List.forall_mem_nil _)⟩)⟩)⟩)⟩)⟩)⟩)⟩)⟩)⟩)⟩)⟩)⟩)⟩)⟩)⟩)⟩)⟩)⟩)⟩)⟩)
end

theorem fin (es : List Entry) (a b : Fl) (ga : a.Gen Tryz.prog 145 139 91) (gb : b.Gen Tryz.prog 145 139 91) (e : Bool) (x : AV) (v : Value) (hes : ∀ [Toks], EnvGood (EG 3) → ∀ e ∈ es, e.good (EG 3))
    (hr : saysTrue (run (withE (EG 3) [9, 6] es) 4000 (.call 4 [.b e, x] emptyH)) = true) (W : World) (hL : laidMetH Tryz.prog Rows.topReadsRow.laid W) (hx : @VRel (toks fun i => if i = 0 then a else b) noI (Zed.all W) x v) :
    Calls Tryz.prog 4 #[.bool e, v] W fun e W' => e = .returned (.bool true) ∧ Keeps W W' := by
  letI := toks fun i => if i = 0 then a else b
  have h3 : EnvGood (EG 3) := EG_good 3 _ (fun i => by split; exact ga; exact gb) (fun _ => .inl rfl)
  exact calls_true (withE_good h3 (hes h3) (by unfold EG; rfl)) hr W [.bool e, v] (globT hL) (.cons (.b e) (.cons hx .nil))

theorem reads_calls (e : Bool) (v : Value) (W : World) (hL : laidMetH Tryz.prog Rows.topReadsRow.laid W) (hv : FloatsAre W v) : Calls Tryz.prog 4 #[.bool e, v] W fun e W' => e = .returned (.bool true) ∧ Keeps W W' := by
  obtain ⟨a0, _, _, g0⟩ := gen_all (X := 0) (by decide)
  rcases hv with rfl | ⟨blk, off, len, cap, rfl, hle, hc⟩
  · cases e with
    | true => exact fin mainRT1 a0 a0 g0 g0 true .nsl _ (fun h3 e he => Entry.good.of rfl rfl (mainRT1_good h3 e he)) (says_of topRTn) W hL (by letI := toks fun i => if i = 0 then a0 else a0; exact .nsl)
    | false => exact fin mainRT1 a0 a0 g0 g0 false .nsl _ (fun h3 e he => Entry.good.of rfl rfl (mainRT1_good h3 e he)) (says_of topRFn) W hL (by letI := toks fun i => if i = 0 then a0 else a0; exact .nsl)
  · rcases len with _ | _ | _ | len
    · have hx : @VRel (toks fun i => if i = 0 then a0 else a0) noI (Zed.all W) (.imm [] 0) (.slice (some ⟨blk, off, none⟩) 0 cap) := by
        letI := toks fun i => if i = 0 then a0 else a0
        exact .imm (vs := []) rfl (fun j v h => by simp at h) (fun j a v h => by simp at h) hle
      cases e with
      | true => exact fin mainRT1 a0 a0 g0 g0 true _ _ (fun h3 e he => Entry.good.of rfl rfl (mainRT1_good h3 e he)) (says_of topRT0) W hL hx
      | false => exact fin mainRT1 a0 a0 g0 g0 false _ _ (fun h3 e he => Entry.good.of rfl rfl (mainRT1_good h3 e he)) (says_of topRF0) W hL hx
    · obtain ⟨X, hX, h0⟩ := hc 0 (by omega)
      obtain ⟨a, rfl, _, ga⟩ := gen_all hX
      have hx : @VRel (toks fun i => if i = 0 then a else a0) noI (Zed.all W) (.imm [.tok 0] 1) (.slice (some ⟨blk, off, none⟩) 1 cap) := by
        letI := toks fun i => if i = 0 then a else a0
        refine .imm (vs := [.float .f64 a.X]) rfl (fun j v h => ?_) (fun j x v h1 h2 => ?_) hle
        · rcases j with _ | j
          · simp at h; subst h; exact h0
          · simp at h
        · rcases j with _ | j
          · simp at h1 h2; subst h1; subst h2; exact .tok 0 _ rfl
          · simp at h1
      cases e with
      | true => exact fin mainRT1 a a0 ga g0 true _ _ (fun h3 e he => Entry.good.of rfl rfl (mainRT1_good h3 e he)) (says_of topRT1) W hL hx
      | false => exact fin mainRF1 a a0 ga g0 false _ _ (fun h3 e he => Entry.good.of rfl rfl (mainRF1_good h3 e he)) (says_of topRF1) W hL hx
    · obtain ⟨X, hX, h0⟩ := hc 0 (by omega)
      obtain ⟨X', hX', h1⟩ := hc 1 (by omega)
      obtain ⟨a, rfl, _, ga⟩ := gen_all hX
      obtain ⟨b, rfl, _, gb⟩ := gen_all hX'
      have hx : @VRel (toks fun i => if i = 0 then a else b) noI (Zed.all W) (.imm [.tok 0, .tok 100] 2) (.slice (some ⟨blk, off, none⟩) 2 cap) := by
        letI := toks fun i => if i = 0 then a else b
        refine .imm (vs := [.float .f64 a.X, .float .f64 b.X]) rfl (fun j v h => ?_) (fun j x v h1 h2 => ?_) hle
        · rcases j with _ | _ | j
          · simp at h; subst h; exact h0
          · simp at h; subst h; exact h1
          · simp at h
        · rcases j with _ | _ | j
          · simp at h1 h2; subst h1; subst h2; exact .tok 0 _ rfl
          · simp at h1 h2; subst h1; subst h2; exact .tok 100 _ rfl
          · simp at h1
      cases e with
      | true => exact fin mainRT2 a b ga gb true _ _ (fun h3 e he => Entry.good.of rfl rfl (mainRT2_good h3 e he)) (says_of topRT2) W hL hx
      | false => exact fin mainRF2 a b ga gb false _ _ (fun h3 e he => Entry.good.of rfl rfl (mainRF2_good h3 e he)) (says_of topRF2) W hL hx
    · have hx : @VRel (toks fun i => if i = 0 then a0 else a0) noI (Zed.all W) (.imm [] (len + 3)) (.slice (some ⟨blk, off, none⟩) (len + 3) cap) := by
        letI := toks fun i => if i = 0 then a0 else a0
        exact .imm (vs := []) rfl (fun j v h => by simp at h) (fun j a v h => by simp at h) hle
      exact fin mainRT1 a0 a0 g0 g0 e _ _ (fun h3 e he => Entry.good.of rfl rfl (mainRT1_good h3 e he)) (long_says (by omega) e) W hL hx

set_option maxRecDepth 100000 in
theorem contract (H : Type) (enc : TypeId × Value → H) (W : World) (base : Nat) (args : Array Value) (ds gs : List (DataW H)) (before : List MemPlace)
    (hval : ∀ (j : Nat) t v, Tryz.f4.params[j]? = some t → args[j]? = some v → Value.okWide Tryz.prog W .any base t v)
    (hW : DataW.Whole enc Tryz.prog Tryz.f4.params.toList Rows.topReadsSpec.vars false W args.toList ds gs before) (hL : laidMetH Tryz.prog Rows.topReadsRow.laid W) :
    Calls Tryz.prog 4 args W fun e W' => ∃ v, e = .returned v ∧ Rows.topReadsSpec.post enc Tryz.prog Tryz.f4 false true false false W args v W' := by
  have hW' := hW
  have hlt : ∀ x ∈ before, x.block < W.heap.size := fun x hx => hW.lt x hx
  obtain ⟨p, q, hA0, hV, rfl, hfz, hnd⟩ := hW
  have hA : DataW.TrodAll enc Tryz.prog W 0 (fun _ => true) true Tryz.f4.params.toList args.toList ds p := hA0
  rw [Tryz.params4] at hA hval
  obtain ⟨v0, v1, d0, d1, p0, p1, rfl, rfl, rfl, h0, h1⟩ := trodAll_two hA
  obtain ⟨rfl, rfl⟩ := trodVars_none hV
  obtain ⟨b, rfl, rfl, rfl⟩ := open_bool Tryz.underlying4 (hval 0 4 v0 rfl rfl) h0
  have hv := floats_are Tryz.underlying42 Tryz.underlying22 cells22 (hval 1 42 v1 rfl rfl) h1
  clear hA0
  refine (reads_calls b v1 W hL hv).mono fun e W' ⟨he, hk⟩ => ?_
  subst he
  letI := toks fun _ => ⟨0, 0, 0, false, 0, 0⟩
  simp only [List.append_nil, List.nil_append] at hW' hlt
  exact ⟨_, rfl, post_of_kept (pa := p1) (pv := []) hW' (fun _ _ _ => trodAll_cons_mk (shut_bool Tryz.underlying4 _) trodAll_mk0) (fun sp hs => by
      rw [Tryz.params4]; exact trodAll_mk2 (shut_bool Tryz.underlying4 _) (keeps_trod laidOut (by kernel_rfl) (of_decide_eq_true (by kernel_rfl)) h1 hk hlt hs)) (fun _ _ => rfl) (by simp) hk
    (ok_one (t := 4) (by kernel_rfl) rfl (okWide_bool_mk Tryz.underlying4 _))⟩

/-- A WORLD FOR THE WITNESS: the settled one, the table (block 0) holding what its initialiser lays. -/
noncomputable def laidWorld (os : Os) : World :=
  { World.holding Tryz.prog os ⟨#[], #[], []⟩ with heap := (World.holding Tryz.prog os ⟨#[], #[], []⟩).heap.modify 0 fun
      | .cells _ t frozen => .cells (bytes.map fun (n : Nat) => Value.int .u8 (n : Int)).toArray t frozen
      | o => o }
theorem laid_met (os : Os) : laidMet Tryz.prog Rows.topReadsRow.laid ((laidWorld os).forCall (fun _ _ => 0) ⟨#[], #[.bool true, .slice none 0 0], []⟩).memory :=
  laidMet_of_run' 8 (by kernel_rfl) (by kernel_rfl)
theorem reads (os : Os) {H : Type} (enc : TypeId × Value → H) : ∃ places, DataW.whole enc Tryz.prog ((laidWorld os).forCall (fun _ _ => 0) ⟨#[], #[.bool true, .slice none 0 0], []⟩).memory Tryz.f4.params.toList Rows.topReadsSpec.vars false #[Value.bool true, Value.slice none 0 0].toList 8 = some ([.lit (.bool true), .nil], [], places) :=
  ⟨[], by kernel_rfl⟩

set_option maxRecDepth 100000 in
theorem lifted (os : Os) (started : os.Started) (H : Type) (enc : TypeId × Value → H) (F : Stop.Interp) :
    ReturnsInHanded {} Tryz.checked os 4 .any ((OpenSpec.ofChange Rows.topReadsSpec).preRow enc Tryz.prog Tryz.f4 Rows.topReadsRow.domain false Rows.topReadsRow.laid) (((OpenSpec.ofChange Rows.topReadsSpec).at F).post enc Tryz.prog Tryz.f4 false true false false) := by
  obtain ⟨places, hx⟩ := reads os enc
  refine returnsInHanded_of_row (C := Tryz.checked) (s := OpenSpec.ofChange Rows.topReadsSpec) own started (by kernel_rfl) Tryz.func4
    (witness_row_at (enc := enc) (C := Tryz.checked) false (laidWorld os) #[.bool true, .slice none 0 0] rfl (by kernel_rfl) (by kernel_rfl) (by kernel_rfl)
      (OpenSpec.preRow_of_cond 8 hx (by kernel_rfl) (fun k hk => by cases hk) (by kernel_rfl) (laid_met os))) ?_
  intro W base args ds gs before hval hW _ _ _ hL _ _
  exact contract H enc W base args ds gs before hval hW hL

theorem said : Rows.TopReadsSaid :=
  OpenClaim.holds_of_cond 4 Tryz.f4 rfl rfl rfl rfl rfl rfl rfl ⟨rfl, rfl, rfl, rfl, rfl⟩ rfl rfl rfl rfl rfl (by kernel_rfl) Tryz.func4 (by kernel_rfl)
    (of_decide_eq_true (by kernel_rfl)) (by unfold Func.isWrapper; first | (rw [if_pos (by decide +kernel)]; kernel_rfl) | (rw [if_neg (by decide +kernel)]; exact ⟨rfl, rfl⟩))
    (fun os started H enc _ F => by rw [OpenClaim.pre_eq_preRow]; exact lifted os started H enc F)

theorem plain (f : FuncId) (fn : Func) (hf : Tryz.pinned.checked.prog.funcNamed "shoal/shoaltop.TopReads" = some f) (hfn : Tryz.pinned.checked.prog.funcs[f]? = some fn) :
    false = Tryz.pinned.checked.prog.looks [] ∧ ∀ (j : Nat) t, fn.params[j]? = some t → Tryz.pinned.checked.prog.wantsStandIn t = false := by
  obtain rfl : f = 4 := Option.some.inj ((show Tryz.prog.funcNamed "shoal/shoaltop.TopReads" = some 4 by kernel_rfl).symm.trans hf) |>.symm
  obtain rfl : fn = Tryz.f4 := (Option.some.inj (Tryz.func4.symm.trans hfn)).symm
  refine ⟨by kernel_rfl, fun j t ht => ?_⟩
  rw [Tryz.params4] at ht
  rcases j with _ | _ | j <;> simp at ht <;> subst ht <;> kernel_rfl

theorem card : Rows.TopReadsCardSaid :=
  Claim7.holds_tied_plain_at .later [] _ _ _ _ said (fun _ h => by cases h) (by kernel_rfl) (fun _ h => by cases h) topReads_row_tie rfl ⟨rfl, rfl⟩ (by kernel_rfl) rfl plain (by kernel_rfl)
end Go.Proofs.YtkcogdalihcamaaGreatDoor.topReads
namespace Go.Proofs.YtkcogdalihcamaaGreatDoor
theorem topReads_card : Rows.TopReadsCardSaid := topReads.card
end Go.Proofs.YtkcogdalihcamaaGreatDoor
