/-
  shoallaw26.SchoolMeter, for every engine and every slice of numbers with a point: the abstract machine's answers, case by case; the row; the card.
-/
import Derived.Test.YtejljkdkhokmoaaGreatDoorCards
import Derived.Test.YtejljkdkhokmoaaGreatDoorTie
import Derived.Test.YtejljkdkhokmoaaGreatDoorRows
import Derived.Test.YtejljkdkhokmoaaGreatDoorMGood
import Derived.Test.YtejljkdkhokmoaaGreatDoorMTK0
import Derived.Test.YtejljkdkhokmoaaGreatDoorMTK1
import Derived.Test.YtejljkdkhokmoaaGreatDoorMFK0
import Derived.Test.YtejljkdkhokmoaaGreatDoorMFK1
import Derived.Test.YtejljkdkhokmoaaGreatDoorMTZ
import Derived.Test.YtejljkdkhokmoaaGreatDoorMFZ
import Derived.Laws.Cover2
import Derived.WideKeyArgs
namespace Go.Proofs.YtejljkdkhokmoaaGreatDoor.schoolMeter
open Go.ChangeShapes Go.WideShapes Go.ChangeAt Go.RowKit Go.Av
set_option linter.unusedSimpArgs false

theorem own : ownKnob Tryz.prog.godebug = none := by kernel_rfl
theorem gTab : Tryz.prog.globalNamed "math/bits.deBruijn64tab" = some 1 := by kernel_rfl
theorem gTabType : (Tryz.prog.globals[1]?).map (·.type) = some 281 := by kernel_rfl
theorem uTab : Tryz.prog.underlying 281 = some (.array 64 5) := by kernel_rfl
theorem uEl : Tryz.prog.underlying 5 = some (.int .u8) := by kernel_rfl
theorem cellsTab : Tryz.prog.cellsOf 281 = 64 := by kernel_rfl
theorem cellsEl : Tryz.prog.cellsOf 5 = 1 := by kernel_rfl


def bytes : List Nat := [0, 1, 56, 2, 57, 49, 28, 3, 61, 58, 42, 50, 38, 29, 17, 4, 62, 47, 59, 36, 45, 43, 51, 22, 53, 39, 33, 30, 24, 18, 12, 5, 63, 55, 48, 27, 60, 41, 37, 16, 46, 35, 44, 21, 52, 32, 23, 11, 54, 26, 40, 15, 34, 20, 31, 10, 25, 14, 19, 9, 13, 8, 7, 6]

/-- WHAT THE ROW's LIST GIVES: the table's cells. -/
theorem table {W : World} (h : laidMetH Tryz.prog Rows.schoolMeterRow.laid W) : Lib.TabIs Tryz.prog W "math/bits.deBruijn64tab" .u8 (bytes.map fun (n : Nat) => (n : Int)) :=
  Lib.tabIs_of_head (rest := []) gTab gTabType uTab uEl cellsEl cellsTab h

theorem says_of {E : Env} {n : Nat} {f : FuncId} {args : List AV} {h : AH} (e : trueF (runF E n (.call f args h)) = true) : saysTrue (run E n (.call f args h)) = true := by
  unfold trueF at e
  split at e
  · rename_i h' hr
    letI := toks fun _ => ⟨0, 0, 0, false, 0, 0⟩
    rw [runF_ret hr]; rfl
  · cases e

theorem globT [Toks] {W : World} {c : Nat} {es : List Entry} {fs : List FuncId} (h : laidMetH Tryz.prog Rows.schoolMeterRow.laid W) : Glob noI (Zed.all W) (withE (EG c) fs es) := by
  have hg : Glob noI (Zed.all W) (env Tryz.prog tabG) := glob_tab (l := bytes) rfl gTab (table h)
  exact hg

theorem keeps_same {W W' : World} (h : Keeps W W') {p : MemPlace} (hp : p.block < W.heap.size) : W.sameAt W' p := by
  cases p with
  | cell b o => exact World.cell?_of_block (w := W) (h.block b hp)
  | map b => exact h.block b hp

theorem keeps_trod {H : Type} {enc : TypeId × Value → H} {P : Program} {t : TypeId} (hl : laidOutB P = true) (hr : P.readableRec t = true) (hrow : t < P.types.size) {W W' : World} {v : Value} {d : DataW H} {ps : List MemPlace} {sp : Nat → Bool}
    (h : DataW.Trod enc P W 0 (fun _ => true) true t v d ps) (hb : Keeps W W') (hlt : ∀ x ∈ ps, x.block < W.heap.size) (hs : ∀ p ∈ ps, sp p.block = true) :
    DataW.Trod enc P W' 0 sp true t v d ps :=
  WideElems.Trod_stays hl hr hrow h (fun x hx => keeps_same hb (hlt x hx)) hs

theorem laidOut : laidOutB Tryz.prog = true := by kernel_rfl
theorem cells34 : Tryz.prog.cellsOf 34 = 1 := by kernel_rfl
/-- A slice of numbers with a point. -/
def FloatsAre (W : World) (v : Value) : Prop := v = .slice none 0 0 ∨ ∃ blk off len cap, v = .slice (some ⟨blk, off, none⟩) len cap ∧ len ≤ cap ∧ ∀ i, i < len → ∃ X, X < 2 ^ 64 ∧ Zed.all W blk (off + i) = some (.float .f64 X)

theorem floats_are {H : Type} {enc : TypeId × Value → H} {P : Program} {t e : TypeId} {W : World} {base : Nat} {v : Value} {d : DataW H} {ps : List MemPlace} (ht : P.underlying t = some (.slice e)) (he : P.underlying e = some (.float .f64)) (hc : P.cellsOf e = 1)
    (hval : Value.okWide P W .any base t v) (h : DataW.Trod enc P W 0 (fun _ => true) true t v d ps) : FloatsAre W v := by
  obtain ⟨a0, len0, cap0, hv⟩ := okWide_slice ht hval
  obtain ⟨fuel, hf⟩ := h
  have hcells : v.cells.toList = [v] := by subst hv; rfl
  rcases DataW.trod_slice ht hf with ⟨h1, _⟩ | ⟨a, len, cap, elems, rest, n, _, h1, _, _, hl, _, hlen, hel, _, _⟩
  · left; rw [hcells] at h1; simpa using h1
  · right
    rw [hcells] at h1
    have hv1 : v = .slice (some a) len cap := by simpa using h1
    subst hv1
    have hspot : a.spot = none := by
      simp only [Value.okWide, ht, Cell.okWide, Cell.ok] at hval
      exact hval.2.2.2.1
    obtain ⟨blk, off, spot⟩ := a
    dsimp only at hspot
    subst hspot
    refine ⟨blk, off, len, cap, rfl, hl, fun i hi => ?_⟩
    have h2 := hel i hi
    rw [hc, Nat.mul_one] at h2
    have hy : elems[i]? = some (elems[i]'(by omega)) := List.getElem?_eq_getElem (by omega)
    rw [hy, Option.bind_eq_some_iff] at h2
    obtain ⟨cs', h3, h4⟩ := h2
    have hlen1 := (World.cells?_some h3).2.1
    obtain ⟨x, rfl⟩ : ∃ x, cs' = [x] := by
      cases cs' with
      | nil => simp at hlen1
      | cons x r => cases r with
        | nil => exact ⟨x, rfl⟩
        | cons y r => simp at hlen1
    have hcell := cell_of_cells?_one h3
    have hadd : Addr.add ⟨blk, off, none⟩ i = ⟨blk, off + i, none⟩ := by unfold Addr.add; split <;> simp_all
    rw [hadd] at hcell
    cases n with
    | zero => simp [DataW.trod] at h4
    | succ n =>
      simp only [DataW.trod, he] at h4
      cases x with
      | float k b =>
        by_cases hw : (Lit.float .f64 b).wf = true
        · cases k with
          | f64 => exact ⟨b, by simpa [Lit.wf] using hw, hcell⟩
          | f32 => simp at h4
        · cases k with
          | f64 => simp [hw] at h4
          | f32 => simp at h4
      | _ => simp at h4

set_option maxRecDepth 100000 in
theorem long {E : Env} {k n : Nat} {b : Bool} {hA : AH} (hP : E.P = Tryz.prog) (hf : ∀ f, E.fun_ f = Tryz.prog.funcs[f]?) (hm : E.mode 3 = 0) (hh : E.hook 3 = none) (hp : E.phook 3 = none) (hx : E.ext 4 = none) (hm6 : E.mode 4 = 0) (hbt : E.tb = tbG 4) (hut : E.tu = fun _ _ => none)
    (haw : run E k (.call 4 [] emptyH) = some (.ret (.b true) hA)) (hn : 21 ≤ n) : ∃ h', run E (k + 1) (.call 3 [.b b, .imm [] n] emptyH) = some (.ret (.b true) h') := by
  have e1 : (20 : Int) < (n : Int) := by omega
  have e2 : decide ((20 : Int) < (n : Int)) = true := by simpa using e1
  refine ⟨hA, ?_⟩
  generalize hr : run E k = R at haw
  rw [run, hr]
  simp [stepTask, stepCall, bodyA, stepCode, stepOps, List.range_succ, step1, wantedA, stepOp, execA, evA, putA, ofV, builtinA, lenA, binE, unE, unA, binA, resultsA, resA, callFnA, hP, hf, hm, hh, hp, hx, hm6, hbt, hut, tbG, Tryz.func3, Tryz.f3, Tryz.func4, Tryz.f4, Tryz.underlying22, Tryz.underlying3, haw, e1, e2]

section
variable [Toks]
theorem mainMT_good (hE : EnvGood (EG 4)) : ∀ e ∈ mainMT, e.good (EG 4) := (List.forall_mem_cons.2 ⟨Entry.good_of hE okMT0, (List.forall_mem_cons.2 ⟨Entry.good_of hE okMT1, (List.forall_mem_cons.2 ⟨Entry.good_of hE okMT2, (List.forall_mem_cons.2 ⟨Entry.good_of hE okMT3, (List.forall_mem_cons.2 ⟨Entry.good_of hE okMT4, (List.forall_mem_cons.2 ⟨Entry.good_of hE okMT5, (List.forall_mem_cons.2 ⟨Entry.good_of hE okMT6, (List.forall_mem_cons.2 ⟨Entry.good_of hE okMT7, (List.forall_mem_cons.2 ⟨Entry.good_of hE okMT8, (List.forall_mem_cons.2 ⟨Entry.good_of hE okMT9, (List.forall_mem_cons.2 ⟨Entry.good_of hE okMT10, (List.forall_mem_cons.2 ⟨Entry.good_of hE okMT11, (List.forall_mem_cons.2 ⟨Entry.good_of hE okMT12, (List.forall_mem_cons.2 ⟨Entry.good_of hE okMT13, (List.forall_mem_cons.2 ⟨Entry.good_of hE okMT14, (List.forall_mem_cons.2 ⟨Entry.good_of hE okMT15, (List.forall_mem_cons.2 ⟨Entry.good_of hE okMT16, (List.forall_mem_cons.2 ⟨Entry.good_of hE okMT17, (List.forall_mem_cons.2 ⟨Entry.good_of hE okMT18, (List.forall_mem_cons.2 ⟨Entry.good_of hE okMT19, (List.forall_mem_cons.2 ⟨Entry.good_of hE okMT20, (List.forall_mem_cons.2 ⟨Entry.good_of hE okMT21, (List.forall_mem_cons.2 ⟨Entry.good_of hE okMT22, (List.forall_mem_cons.2 ⟨Entry.good_of hE okMT23, (List.forall_mem_cons.2 ⟨Entry.good_of hE okMT24, (List.forall_mem_cons.2 ⟨Entry.good_of hE okMT25, (List.forall_mem_cons.2 ⟨Entry.good_of hE okMT26, (List.forall_mem_cons.2 ⟨Entry.good_of hE okMT27, (List.forall_mem_cons.2 ⟨Entry.good_of hE okMT28, (List.forall_mem_cons.2 ⟨Entry.good_of hE okMT29, (List.forall_mem_cons.2 ⟨Entry.good_of hE okMT30, (List.forall_mem_cons.2 ⟨Entry.good_of hE okMT31, (List.forall_mem_cons.2 ⟨Entry.good_of hE okMT32, (List.forall_mem_cons.2 ⟨Entry.good_of hE okMT33, (List.forall_mem_cons.2 ⟨Entry.good_of hE okMT34, (List.forall_mem_cons.2 ⟨Entry.good_of hE okMT35, (List.forall_mem_cons.2 ⟨Entry.good_of hE okMT36, (List.forall_mem_cons.2 ⟨Entry.good_of hE okMT37, (List.forall_mem_cons.2 ⟨Entry.good_of hE okMT38, (List.forall_mem_cons.2 ⟨Entry.good_of hE okMT39, (List.forall_mem_cons.2 ⟨Entry.good_of hE okMT40, (List.forall_mem_cons.2 ⟨Entry.good_of hE okMT41, (List.forall_mem_nil _)⟩)⟩)⟩)⟩)⟩)⟩)⟩)⟩)⟩)⟩)⟩)⟩)⟩)⟩)⟩)⟩)⟩)⟩)⟩)⟩)⟩)⟩)⟩)⟩)⟩)⟩)⟩)⟩)⟩)⟩)⟩)⟩)⟩)⟩)⟩)⟩)⟩)⟩)⟩)⟩)⟩)⟩)
theorem mainMF_good (hE : EnvGood (EG 4)) : ∀ e ∈ mainMF, e.good (EG 4) := (List.forall_mem_cons.2 ⟨Entry.good_of hE okMF0, (List.forall_mem_cons.2 ⟨Entry.good_of hE okMF1, (List.forall_mem_cons.2 ⟨Entry.good_of hE okMF2, (List.forall_mem_cons.2 ⟨Entry.good_of hE okMF3, (List.forall_mem_cons.2 ⟨Entry.good_of hE okMF4, (List.forall_mem_cons.2 ⟨Entry.good_of hE okMF5, (List.forall_mem_cons.2 ⟨Entry.good_of hE okMF6, (List.forall_mem_cons.2 ⟨Entry.good_of hE okMF7, (List.forall_mem_cons.2 ⟨Entry.good_of hE okMF8, (List.forall_mem_cons.2 ⟨Entry.good_of hE okMF9, (List.forall_mem_cons.2 ⟨Entry.good_of hE okMF10, (List.forall_mem_cons.2 ⟨Entry.good_of hE okMF11, (List.forall_mem_cons.2 ⟨Entry.good_of hE okMF12, (List.forall_mem_cons.2 ⟨Entry.good_of hE okMF13, (List.forall_mem_cons.2 ⟨Entry.good_of hE okMF14, (List.forall_mem_cons.2 ⟨Entry.good_of hE okMF15, (List.forall_mem_cons.2 ⟨Entry.good_of hE okMF16, (List.forall_mem_cons.2 ⟨Entry.good_of hE okMF17, (List.forall_mem_cons.2 ⟨Entry.good_of hE okMF18, (List.forall_mem_cons.2 ⟨Entry.good_of hE okMF19, (List.forall_mem_cons.2 ⟨Entry.good_of hE okMF20, (List.forall_mem_cons.2 ⟨Entry.good_of hE okMF21, (List.forall_mem_cons.2 ⟨Entry.good_of hE okMF22, (List.forall_mem_cons.2 ⟨Entry.good_of hE okMF23, (List.forall_mem_cons.2 ⟨Entry.good_of hE okMF24, (List.forall_mem_cons.2 ⟨Entry.good_of hE okMF25, (List.forall_mem_cons.2 ⟨Entry.good_of hE okMF26, (List.forall_mem_cons.2 ⟨Entry.good_of hE okMF27, (List.forall_mem_cons.2 ⟨Entry.good_of hE okMF28, (List.forall_mem_cons.2 ⟨Entry.good_of hE okMF29, (List.forall_mem_cons.2 ⟨Entry.good_of hE okMF30, (List.forall_mem_cons.2 ⟨Entry.good_of hE okMF31, (List.forall_mem_cons.2 ⟨Entry.good_of hE okMF32, (List.forall_mem_cons.2 ⟨Entry.good_of hE okMF33, (List.forall_mem_cons.2 ⟨Entry.good_of hE okMF34, (List.forall_mem_cons.2 ⟨Entry.good_of hE okMF35, (List.forall_mem_cons.2 ⟨Entry.good_of hE okMF36, (List.forall_mem_cons.2 ⟨Entry.good_of hE okMF37, (List.forall_mem_cons.2 ⟨Entry.good_of hE okMF38, (List.forall_mem_cons.2 ⟨Entry.good_of hE okMF39, (List.forall_mem_cons.2 ⟨Entry.good_of hE okMF40, (List.forall_mem_cons.2 ⟨Entry.good_of hE okMF41, (List.forall_mem_nil _)⟩)⟩)⟩)⟩)⟩)⟩)⟩)⟩)⟩)⟩)⟩)⟩)⟩)⟩)⟩)⟩)⟩)⟩)⟩)⟩)⟩)⟩)⟩)⟩)⟩)⟩)⟩)⟩)⟩)⟩)⟩)⟩)⟩)⟩)⟩)⟩)⟩)⟩)⟩)⟩)⟩)⟩)
end

theorem awT : trueF (runF (withE (EG 4) [8, 4, 5] mainMT) 3999 (.call 4 [] emptyH)) = true := by kernel_rfl
theorem long_says {n : Nat} (hn : 21 ≤ n) (e : Bool) : saysTrue (run (withE (EG 4) [8, 4, 5] mainMT) 4000 (.call 3 [.b e, .imm [] n] emptyH)) = true := by
  have h := says_of awT
  unfold saysTrue at h
  split at h
  · rename_i hA hr
    letI := toks fun _ => ⟨0, 0, 0, false, 0, 0⟩
    obtain ⟨h', e'⟩ := long (E := withE (EG 4) [8, 4, 5] mainMT) (b := e) rfl (fun _ => rfl) (by kernel_rfl) (by kernel_rfl) (by kernel_rfl) (by kernel_rfl) (by kernel_rfl) rfl rfl hr hn
    rw [e']; rfl
  · cases h

theorem fin0 (es : List Entry) (fl : Nat → Fl) (hg : ∀ i, (fl i).Gen Tryz.prog 39 175 120) (hct : Counts fl) (e : Bool) (x : AV) (v : Value) (hes : ∀ [Toks], EnvGood (EG 4) → ∀ e ∈ es, e.good (EG 4))
    (hr : saysTrue (run (withE (EG 4) [8, 4, 5] es) 4000 (.call 3 [.b e, x] emptyH)) = true) (W : World) (hL : laidMetH Tryz.prog Rows.schoolMeterRow.laid W) (hx : @VRel (toks fl) noI (Zed.all W) x v) :
    Calls Tryz.prog 3 #[.bool e, v] W fun e W' => e = .returned (.bool true) ∧ Keeps W W' := by
  letI := toks fl
  have h4 : EnvGood (EG 4) := EG_good _ hg hct
  exact calls_true (withE_good h4 (hes h4) (by unfold EG; rfl)) hr W [.bool e, v] (globT hL) (.cons (.b e) (.cons hx .nil))

/-- How many of the first are numbers. -/
def cnt (X : Nat → Nat) : Nat → Int
  | 0 => 0
  | i + 1 => if isNan (X i) = true then cnt X i else IntKind.wrap .i64 (cnt X i + 1)

/-- Names for the numbers of a slice. -/
theorem names {W : World} {blk off len : Nat} (hc : ∀ i, i < len → ∃ X, X < 2 ^ 64 ∧ Zed.all W blk (off + i) = some (.float .f64 X)) :
    ∃ fl : Nat → Fl, (∀ i, (fl i).Gen Tryz.prog 39 175 120) ∧ Counts fl ∧ ∀ i, i < len → Zed.all W blk (off + i) = some (.float .f64 (fl i).X) := by
  have h : ∀ i, ∃ a : Fl, a.Gen Tryz.prog 39 175 120 ∧ (i < len → Zed.all W blk (off + i) = some (.float .f64 a.X)) := fun i => by
    by_cases hi : i < len
    · obtain ⟨X, hX, hz⟩ := hc i hi
      obtain ⟨a, rfl, _, ga⟩ := gen_all hX
      exact ⟨a, ga, fun _ => hz⟩
    · obtain ⟨a, _, _, ga⟩ := gen_all (X := 0) (by decide)
      exact ⟨a, ga, fun h => absurd h hi⟩
  refine ⟨fun i => { (h i).choose with V := cnt (fun j => (h j).choose.X) i }, fun i => ?_, ⟨rfl, fun i => rfl⟩, fun i => (h i).choose_spec.2⟩
  have g := (h i).choose_spec.1
  exact ⟨g.klt, g.k0, g.k6, g.p0, g.p6, g.of_, g.cl⟩

theorem names_rel {W : World} {blk off n cap : Nat} {fl : Nat → Fl} (hz : ∀ i, i < n → Zed.all W blk (off + i) = some (.float .f64 (fl i).X)) (hle : n ≤ cap) :
    @VRel (toks fl) noI (Zed.all W) (.imm ((List.range n).map fun i => .tok (100 * i)) n) (.slice (some ⟨blk, off, none⟩) n cap) := by
  letI := toks fl
  refine .imm (vs := (List.range n).map fun i => .float .f64 (fl i).X) (by simp) (fun j v h => ?_) (fun j x v h1 h2 => ?_) hle
  · obtain ⟨i, hi, rfl⟩ := Option.map_eq_some_iff.1 (by rw [← List.getElem?_map]; exact h)
    obtain ⟨hj, rfl⟩ := List.getElem?_eq_some_iff.1 hi
    rw [List.getElem_range]
    exact hz j (by simpa using hj)
  · obtain ⟨i, hi, rfl⟩ := Option.map_eq_some_iff.1 (by rw [← List.getElem?_map]; exact h1)
    obtain ⟨i', hi', rfl⟩ := Option.map_eq_some_iff.1 (by rw [← List.getElem?_map]; exact h2)
    rw [hi] at hi'; cases hi'
    refine .tok _ _ ?_
    show flVal (fl ((100 * i) / 100)) ((100 * i) % 100) = _
    rw [show (100 * i) / 100 = i by omega, show (100 * i) % 100 = 0 by omega]
    rfl

theorem meter_calls (e : Bool) (v : Value) (W : World) (hL : laidMetH Tryz.prog Rows.schoolMeterRow.laid W) (hv : FloatsAre W v) : Calls Tryz.prog 3 #[.bool e, v] W fun e W' => e = .returned (.bool true) ∧ Keeps W W' := by
  rcases hv with rfl | ⟨blk, off, len, cap, rfl, hle, hc⟩
  · obtain ⟨fl, hg, hct, _⟩ := names (W := W) (blk := 0) (off := 0) (len := 0) (fun i hi => absurd hi (by omega))
    have hx : @VRel (toks fl) noI (Zed.all W) .nsl (.slice none 0 0) := by letI := toks fl; exact .nsl
    cases e with
    | true => exact fin0 mainMT fl hg hct true _ _ (fun h e he => mainMT_good h e he) (says_of topNilT) W hL hx
    | false => exact fin0 mainMF fl hg hct false _ _ (fun h e he => mainMF_good h e he) (says_of topNilF) W hL hx
  · obtain ⟨fl, hg, hct, hz⟩ := names hc
    have hx := names_rel hz hle
    by_cases hlong : 21 ≤ len
    · have hx2 : @VRel (toks fl) noI (Zed.all W) (.imm [] len) (.slice (some ⟨blk, off, none⟩) len cap) := by
        letI := toks fl
        exact .imm (vs := []) rfl (fun j v h => by simp at h) (fun j a v h => by simp at h) hle
      exact fin0 mainMT fl hg hct e _ _ (fun h e he => mainMT_good h e he) (long_says hlong e) W hL hx2
    · have hcase : len = 0 ∨ len = 1 ∨ len = 2 ∨ len = 3 ∨ len = 4 ∨ len = 5 ∨ len = 6 ∨ len = 7 ∨ len = 8 ∨ len = 9 ∨ len = 10 ∨ len = 11 ∨ len = 12 ∨ len = 13 ∨ len = 14 ∨ len = 15 ∨ len = 16 ∨ len = 17 ∨ len = 18 ∨ len = 19 ∨ len = 20 := by omega
      rcases hcase with rfl | rfl | rfl | rfl | rfl | rfl | rfl | rfl | rfl | rfl | rfl | rfl | rfl | rfl | rfl | rfl | rfl | rfl | rfl | rfl | rfl
      · cases e with
        | true => exact fin0 mainMT fl hg hct true _ _ (fun h e he => mainMT_good h e he) (says_of topMT0) W hL hx
        | false => exact fin0 mainMF fl hg hct false _ _ (fun h e he => mainMF_good h e he) (says_of topMF0) W hL hx
      · cases e with
        | true => exact fin0 mainMT fl hg hct true _ _ (fun h e he => mainMT_good h e he) (says_of topMT1) W hL hx
        | false => exact fin0 mainMF fl hg hct false _ _ (fun h e he => mainMF_good h e he) (says_of topMF1) W hL hx
      · cases e with
        | true => exact fin0 mainMT fl hg hct true _ _ (fun h e he => mainMT_good h e he) (says_of topMT2) W hL hx
        | false => exact fin0 mainMF fl hg hct false _ _ (fun h e he => mainMF_good h e he) (says_of topMF2) W hL hx
      · cases e with
        | true => exact fin0 mainMT fl hg hct true _ _ (fun h e he => mainMT_good h e he) (says_of topMT3) W hL hx
        | false => exact fin0 mainMF fl hg hct false _ _ (fun h e he => mainMF_good h e he) (says_of topMF3) W hL hx
      · cases e with
        | true => exact fin0 mainMT fl hg hct true _ _ (fun h e he => mainMT_good h e he) (says_of topMT4) W hL hx
        | false => exact fin0 mainMF fl hg hct false _ _ (fun h e he => mainMF_good h e he) (says_of topMF4) W hL hx
      · cases e with
        | true => exact fin0 mainMT fl hg hct true _ _ (fun h e he => mainMT_good h e he) (says_of topMT5) W hL hx
        | false => exact fin0 mainMF fl hg hct false _ _ (fun h e he => mainMF_good h e he) (says_of topMF5) W hL hx
      · cases e with
        | true => exact fin0 mainMT fl hg hct true _ _ (fun h e he => mainMT_good h e he) (says_of topMT6) W hL hx
        | false => exact fin0 mainMF fl hg hct false _ _ (fun h e he => mainMF_good h e he) (says_of topMF6) W hL hx
      · cases e with
        | true => exact fin0 mainMT fl hg hct true _ _ (fun h e he => mainMT_good h e he) (says_of topMT7) W hL hx
        | false => exact fin0 mainMF fl hg hct false _ _ (fun h e he => mainMF_good h e he) (says_of topMF7) W hL hx
      · cases e with
        | true => exact fin0 mainMT fl hg hct true _ _ (fun h e he => mainMT_good h e he) (says_of topMT8) W hL hx
        | false => exact fin0 mainMF fl hg hct false _ _ (fun h e he => mainMF_good h e he) (says_of topMF8) W hL hx
      · cases e with
        | true => exact fin0 mainMT fl hg hct true _ _ (fun h e he => mainMT_good h e he) (says_of topMT9) W hL hx
        | false => exact fin0 mainMF fl hg hct false _ _ (fun h e he => mainMF_good h e he) (says_of topMF9) W hL hx
      · cases e with
        | true => exact fin0 mainMT fl hg hct true _ _ (fun h e he => mainMT_good h e he) (says_of topMT10) W hL hx
        | false => exact fin0 mainMF fl hg hct false _ _ (fun h e he => mainMF_good h e he) (says_of topMF10) W hL hx
      · cases e with
        | true => exact fin0 mainMT fl hg hct true _ _ (fun h e he => mainMT_good h e he) (says_of topMT11) W hL hx
        | false => exact fin0 mainMF fl hg hct false _ _ (fun h e he => mainMF_good h e he) (says_of topMF11) W hL hx
      · cases e with
        | true => exact fin0 mainMT fl hg hct true _ _ (fun h e he => mainMT_good h e he) (says_of topMT12) W hL hx
        | false => exact fin0 mainMF fl hg hct false _ _ (fun h e he => mainMF_good h e he) (says_of topMF12) W hL hx
      · cases e with
        | true => exact fin0 mainMT fl hg hct true _ _ (fun h e he => mainMT_good h e he) (says_of topMT13) W hL hx
        | false => exact fin0 mainMF fl hg hct false _ _ (fun h e he => mainMF_good h e he) (says_of topMF13) W hL hx
      · cases e with
        | true => exact fin0 mainMT fl hg hct true _ _ (fun h e he => mainMT_good h e he) (says_of topMT14) W hL hx
        | false => exact fin0 mainMF fl hg hct false _ _ (fun h e he => mainMF_good h e he) (says_of topMF14) W hL hx
      · cases e with
        | true => exact fin0 mainMT fl hg hct true _ _ (fun h e he => mainMT_good h e he) (says_of topMT15) W hL hx
        | false => exact fin0 mainMF fl hg hct false _ _ (fun h e he => mainMF_good h e he) (says_of topMF15) W hL hx
      · cases e with
        | true => exact fin0 mainMT fl hg hct true _ _ (fun h e he => mainMT_good h e he) (says_of topMT16) W hL hx
        | false => exact fin0 mainMF fl hg hct false _ _ (fun h e he => mainMF_good h e he) (says_of topMF16) W hL hx
      · cases e with
        | true => exact fin0 mainMT fl hg hct true _ _ (fun h e he => mainMT_good h e he) (says_of topMT17) W hL hx
        | false => exact fin0 mainMF fl hg hct false _ _ (fun h e he => mainMF_good h e he) (says_of topMF17) W hL hx
      · cases e with
        | true => exact fin0 mainMT fl hg hct true _ _ (fun h e he => mainMT_good h e he) (says_of topMT18) W hL hx
        | false => exact fin0 mainMF fl hg hct false _ _ (fun h e he => mainMF_good h e he) (says_of topMF18) W hL hx
      · cases e with
        | true => exact fin0 mainMT fl hg hct true _ _ (fun h e he => mainMT_good h e he) (says_of topMT19) W hL hx
        | false => exact fin0 mainMF fl hg hct false _ _ (fun h e he => mainMF_good h e he) (says_of topMF19) W hL hx
      · cases e with
        | true => exact fin0 mainMT fl hg hct true _ _ (fun h e he => mainMT_good h e he) (says_of topMT20) W hL hx
        | false => exact fin0 mainMF fl hg hct false _ _ (fun h e he => mainMF_good h e he) (says_of topMF20) W hL hx

set_option maxRecDepth 100000 in
theorem contract (H : Type) (enc : TypeId × Value → H) (W : World) (base : Nat) (args : Array Value) (ds gs : List (DataW H)) (before : List MemPlace)
    (hval : ∀ (j : Nat) t v, Tryz.f3.params[j]? = some t → args[j]? = some v → Value.okWide Tryz.prog W .any base t v)
    (hW : DataW.Whole enc Tryz.prog Tryz.f3.params.toList Rows.schoolMeterSpec.vars false W args.toList ds gs before) (hL : laidMetH Tryz.prog Rows.schoolMeterRow.laid W) :
    Calls Tryz.prog 3 args W fun e W' => ∃ v, e = .returned v ∧ Rows.schoolMeterSpec.post enc Tryz.prog Tryz.f3 false true false false W args v W' := by
  have hW' := hW
  have hlt : ∀ x ∈ before, x.block < W.heap.size := fun x hx => hW.lt x hx
  obtain ⟨p, q, hA0, hV, rfl, hfz, hnd⟩ := hW
  have hA : DataW.TrodAll enc Tryz.prog W 0 (fun _ => true) true Tryz.f3.params.toList args.toList ds p := hA0
  rw [Tryz.params3] at hA hval
  obtain ⟨v0, v1, d0, d1, p0, p1, rfl, rfl, rfl, h0, h1⟩ := trodAll_two hA
  obtain ⟨rfl, rfl⟩ := trodVars_none hV
  obtain ⟨b, rfl, rfl, rfl⟩ := open_bool Tryz.underlying4 (hval 0 4 v0 rfl rfl) h0
  have hv := floats_are Tryz.underlying22 Tryz.underlying34 cells34 (hval 1 22 v1 rfl rfl) h1
  clear hA0
  refine (meter_calls b v1 W hL hv).mono fun e W' ⟨he, hk⟩ => ?_
  subst he
  letI := toks fun _ => ⟨0, 0, 0, false, 0, 0⟩
  simp only [List.append_nil, List.nil_append] at hW' hlt
  exact ⟨_, rfl, post_of_kept (pa := p1) (pv := []) hW' (fun _ _ _ => trodAll_cons_mk (shut_bool Tryz.underlying4 _) trodAll_mk0) (fun sp hs => by
      rw [Tryz.params3]; exact trodAll_mk2 (shut_bool Tryz.underlying4 _) (keeps_trod laidOut (by kernel_rfl) (of_decide_eq_true (by kernel_rfl)) h1 hk hlt hs)) (fun _ _ => rfl) (by simp) hk
    (ok_one (t := 4) (by kernel_rfl) rfl (okWide_bool_mk Tryz.underlying4 _))⟩

/-- A WORLD FOR THE WITNESS: the settled one, the table (block 0) holding what its initialiser lays. -/
noncomputable def laidWorld (os : Os) : World :=
  { World.holding Tryz.prog os ⟨#[], #[], []⟩ with heap := (World.holding Tryz.prog os ⟨#[], #[], []⟩).heap.modify 1 fun
      | .cells _ t frozen => .cells (bytes.map fun (n : Nat) => Value.int .u8 (n : Int)).toArray t frozen
      | o => o }
theorem laid_met (os : Os) : laidMet Tryz.prog Rows.schoolMeterRow.laid ((laidWorld os).forCall (fun _ _ => 0) ⟨#[], #[.bool true, .slice none 0 0], []⟩).memory :=
  laidMet_of_run' 8 (by kernel_rfl) (by kernel_rfl)
theorem reads (os : Os) {H : Type} (enc : TypeId × Value → H) : ∃ places, DataW.whole enc Tryz.prog ((laidWorld os).forCall (fun _ _ => 0) ⟨#[], #[.bool true, .slice none 0 0], []⟩).memory Tryz.f3.params.toList Rows.schoolMeterSpec.vars false #[Value.bool true, Value.slice none 0 0].toList 8 = some ([.lit (.bool true), .nil], [], places) :=
  ⟨[], by kernel_rfl⟩

set_option maxRecDepth 100000 in
theorem lifted (os : Os) (started : os.Started) (H : Type) (enc : TypeId × Value → H) (F : Stop.Interp) :
    ReturnsInHanded {} Tryz.checked os 3 .any ((OpenSpec.ofChange Rows.schoolMeterSpec).preRow enc Tryz.prog Tryz.f3 Rows.schoolMeterRow.domain false Rows.schoolMeterRow.laid) (((OpenSpec.ofChange Rows.schoolMeterSpec).at F).post enc Tryz.prog Tryz.f3 false true false false) := by
  obtain ⟨places, hx⟩ := reads os enc
  refine returnsInHanded_of_row (C := Tryz.checked) (s := OpenSpec.ofChange Rows.schoolMeterSpec) own started (by kernel_rfl) Tryz.func3
    (witness_row_at (enc := enc) (C := Tryz.checked) false (laidWorld os) #[.bool true, .slice none 0 0] rfl (by kernel_rfl) (by kernel_rfl) (by kernel_rfl)
      (OpenSpec.preRow_of_cond 8 hx (by kernel_rfl) (fun k hk => by cases hk) (by kernel_rfl) (laid_met os))) ?_
  intro W base args ds gs before hval hW _ _ _ hL _ _
  exact contract H enc W base args ds gs before hval hW hL

theorem said : Rows.SchoolMeterSaid :=
  OpenClaim.holds_of_cond 3 Tryz.f3 rfl rfl rfl rfl rfl rfl rfl ⟨rfl, rfl, rfl, rfl, rfl⟩ rfl rfl rfl rfl rfl (by kernel_rfl) Tryz.func3 (by kernel_rfl)
    (of_decide_eq_true (by kernel_rfl)) (by unfold Func.isWrapper; first | (rw [if_pos (by decide +kernel)]; kernel_rfl) | (rw [if_neg (by decide +kernel)]; exact ⟨rfl, rfl⟩))
    (fun os started H enc _ F => by rw [OpenClaim.pre_eq_preRow]; exact lifted os started H enc F)

theorem plain (f : FuncId) (fn : Func) (hf : Tryz.pinned.checked.prog.funcNamed "shoal/shoallaw26.SchoolMeter" = some f) (hfn : Tryz.pinned.checked.prog.funcs[f]? = some fn) :
    false = Tryz.pinned.checked.prog.looks [] ∧ ∀ (j : Nat) t, fn.params[j]? = some t → Tryz.pinned.checked.prog.wantsStandIn t = false := by
  obtain rfl : f = 3 := Option.some.inj ((show Tryz.prog.funcNamed "shoal/shoallaw26.SchoolMeter" = some 3 by kernel_rfl).symm.trans hf) |>.symm
  obtain rfl : fn = Tryz.f3 := (Option.some.inj (Tryz.func3.symm.trans hfn)).symm
  refine ⟨by kernel_rfl, fun j t ht => ?_⟩
  rw [Tryz.params3] at ht
  rcases j with _ | _ | j <;> simp at ht <;> subst ht <;> kernel_rfl

theorem card : Rows.SchoolMeterCardSaid :=
  Claim7.holds_tied_plain_at .later [] _ _ _ _ said (fun _ h => by cases h) (by kernel_rfl) (fun _ h => by cases h) schoolMeter_row_tie rfl ⟨rfl, rfl⟩ (by kernel_rfl) rfl plain (by kernel_rfl)
end Go.Proofs.YtejljkdkhokmoaaGreatDoor.schoolMeter
namespace Go.Proofs.YtejljkdkhokmoaaGreatDoor
theorem schoolMeter_card : Rows.SchoolMeterCardSaid := schoolMeter.card
end Go.Proofs.YtejljkdkhokmoaaGreatDoor
