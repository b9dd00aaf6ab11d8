/-
  shoaltop.TopBusy, for every engine, every number with a point, every whole number: the abstract machine's answers, case by case; the row; the card.
-/
import Derived.Test.YtkcogdalihcamaaGreatDoorCards
import Derived.Test.YtkcogdalihcamaaGreatDoorTie
import Derived.Test.YtkcogdalihcamaaGreatDoorRows
import Derived.Test.YtkcogdalihcamaaGreatDoorBGood
import Derived.Test.YtkcogdalihcamaaGreatDoorBTK0
import Derived.Test.YtkcogdalihcamaaGreatDoorBTK1
import Derived.Test.YtkcogdalihcamaaGreatDoorBTK2
import Derived.Test.YtkcogdalihcamaaGreatDoorBTK3
import Derived.Test.YtkcogdalihcamaaGreatDoorBTZ
import Derived.Test.YtkcogdalihcamaaGreatDoorBFK0
import Derived.Test.YtkcogdalihcamaaGreatDoorBFK1
import Derived.Test.YtkcogdalihcamaaGreatDoorBFK2
import Derived.Test.YtkcogdalihcamaaGreatDoorBFK3
import Derived.Test.YtkcogdalihcamaaGreatDoorBFZ
import Derived.Laws.Cover2
namespace Go.Proofs.YtkcogdalihcamaaGreatDoor.topBusy
open Go.ChangeShapes Go.WideShapes Go.ChangeAt Go.RowKit Go.Av

theorem own : ownKnob Tryz.prog.godebug = none := by kernel_rfl
theorem gTab : Tryz.prog.globalNamed "math/bits.deBruijn64tab" = some 0 := by kernel_rfl
theorem gTabType : (Tryz.prog.globals[0]?).map (·.type) = some 249 := by kernel_rfl
theorem uTab : Tryz.prog.underlying 249 = some (.array 64 5) := by kernel_rfl
theorem uEl : Tryz.prog.underlying 5 = some (.int .u8) := by kernel_rfl
theorem cellsTab : Tryz.prog.cellsOf 249 = 64 := by kernel_rfl
theorem cellsEl : Tryz.prog.cellsOf 5 = 1 := by kernel_rfl


def bytes : List Nat := [0, 1, 56, 2, 57, 49, 28, 3, 61, 58, 42, 50, 38, 29, 17, 4, 62, 47, 59, 36, 45, 43, 51, 22, 53, 39, 33, 30, 24, 18, 12, 5, 63, 55, 48, 27, 60, 41, 37, 16, 46, 35, 44, 21, 52, 32, 23, 11, 54, 26, 40, 15, 34, 20, 31, 10, 25, 14, 19, 9, 13, 8, 7, 6]

/-- WHAT THE ROW's LIST GIVES: the table's cells. -/
theorem table {W : World} (h : laidMetH Tryz.prog Rows.topBusyRow.laid W) : Lib.TabIs Tryz.prog W "math/bits.deBruijn64tab" .u8 (bytes.map fun (n : Nat) => (n : Int)) :=
  Lib.tabIs_of_head (rest := []) gTab gTabType uTab uEl cellsEl cellsTab h

theorem says_of {E : Env} {n : Nat} {f : FuncId} {args : List AV} {h : AH} (e : trueF (runF E n (.call f args h)) = true) : saysTrue (run E n (.call f args h)) = true := by
  unfold trueF at e
  split at e
  · rename_i h' hr
    letI := toks fun _ => ⟨0, 0, 0, false, 0, 0⟩
    rw [runF_ret hr]; rfl
  · cases e

theorem globT [Toks] {W : World} {c : Nat} {es : List Entry} {fs : List FuncId} (h : laidMetH Tryz.prog Rows.topBusyRow.laid W) : Glob noI (Zed.all W) (withE (EG c) fs es) := by
  have hg : Glob noI (Zed.all W) (env Tryz.prog tabG) := glob_tab (l := bytes) rfl gTab (table h)
  exact hg

section
variable [Toks]

theorem subBT_good (hE : EnvGood (EG 3)) : ∀ e ∈ subBT, e.good (EG 3) := (List.forall_mem_cons.2 ⟨Entry.good_of hE okBT3, (List.forall_mem_cons.2 ⟨Entry.good_of hE okBT4, (List.forall_mem_cons.2 ⟨Entry.good_of hE okBT5, (List.forall_mem_cons.2 ⟨Entry.good_of hE okBT7, (List.forall_mem_nil _)⟩)⟩)⟩)⟩)
theorem EBT_good (hE : EnvGood (EG 3)) : EnvGood EBT := withE_good hE (subBT_good hE) (by kernel_rfl)
theorem mainBT_good (hE : EnvGood (EG 3)) : ∀ e ∈ mainBT, e.good EBT := by
  have h := EBT_good hE
  exact (List.forall_mem_cons.2 ⟨Entry.good_of h okBT0, (List.forall_mem_cons.2 ⟨Entry.good_of h okBT1, (List.forall_mem_cons.2 ⟨Entry.good_of h okBT2, (List.forall_mem_cons.2 ⟨Entry.good_of h okBT6, (List.forall_mem_cons.2 ⟨Entry.good_of h okBT8, (List.forall_mem_cons.2 ⟨Entry.good_of h okBT9, (List.forall_mem_cons.2 ⟨Entry.good_of h okBT10, (List.forall_mem_cons.2 ⟨Entry.good_of h okBT11, (List.forall_mem_cons.2 ⟨Entry.good_of h okBT12, (List.forall_mem_cons.2 ⟨Entry.good_of h okBT13, (List.forall_mem_cons.2 ⟨Entry.good_of h okBT14, (List.forall_mem_cons.2 ⟨Entry.good_of h okBT15, (List.forall_mem_cons.2 ⟨Entry.good_of h okBT16, (List.forall_mem_cons.2 ⟨Entry.good_of h okBT17, (List.forall_mem_cons.2 ⟨Entry.good_of h okBT18, (List.forall_mem_nil _)⟩)⟩)⟩)⟩)⟩)⟩)⟩)⟩)⟩)⟩)⟩)⟩)⟩)⟩)⟩)

theorem subBF_good (hE : EnvGood (EG 3)) : ∀ e ∈ subBF, e.good (EG 3) := (List.forall_mem_cons.2 ⟨Entry.good_of hE okBF3, (List.forall_mem_cons.2 ⟨Entry.good_of hE okBF4, (List.forall_mem_cons.2 ⟨Entry.good_of hE okBF5, (List.forall_mem_cons.2 ⟨Entry.good_of hE okBF7, (List.forall_mem_nil _)⟩)⟩)⟩)⟩)
theorem EBF_good (hE : EnvGood (EG 3)) : EnvGood EBF := withE_good hE (subBF_good hE) (by kernel_rfl)
theorem mainBF_good (hE : EnvGood (EG 3)) : ∀ e ∈ mainBF, e.good EBF := by
  have h := EBF_good hE
  exact (List.forall_mem_cons.2 ⟨Entry.good_of h okBF0, (List.forall_mem_cons.2 ⟨Entry.good_of h okBF1, (List.forall_mem_cons.2 ⟨Entry.good_of h okBF2, (List.forall_mem_cons.2 ⟨Entry.good_of h okBF6, (List.forall_mem_cons.2 ⟨Entry.good_of h okBF8, (List.forall_mem_cons.2 ⟨Entry.good_of h okBF9, (List.forall_mem_cons.2 ⟨Entry.good_of h okBF10, (List.forall_mem_cons.2 ⟨Entry.good_of h okBF11, (List.forall_mem_cons.2 ⟨Entry.good_of h okBF12, (List.forall_mem_cons.2 ⟨Entry.good_of h okBF13, (List.forall_mem_cons.2 ⟨Entry.good_of h okBF14, (List.forall_mem_cons.2 ⟨Entry.good_of h okBF15, (List.forall_mem_cons.2 ⟨Entry.good_of h okBF16, (List.forall_mem_cons.2 ⟨Entry.good_of h okBF17, (List.forall_mem_cons.2 ⟨Entry.good_of h okBF18, (List.forall_mem_nil _)⟩)⟩)⟩)⟩)⟩)⟩)⟩)⟩)⟩)⟩)⟩)⟩)⟩)⟩)⟩)
end

/-- Where the whole number lies. -/
def cls (V : Int) : Nat := if V < 0 then 0 else if V ≤ 2 then 1 else 2
theorem cls_ok (V : Int) : InCls (cls V) V := by
  unfold cls InCls
  split
  · exact .inr (.inl ⟨rfl, by assumption⟩)
  · split
    · exact .inr (.inr (.inl ⟨rfl, by omega, by omega⟩))
    · exact .inr (.inr (.inr ⟨rfl, by omega⟩))

theorem busy_calls (b : Bool) (X : Nat) (V : Int) (hX : X < 2 ^ 64) (W : World) (hL : laidMetH Tryz.prog Rows.topBusyRow.laid W) : Calls Tryz.prog 5 #[.bool b, .float .f64 X, .int .i64 V] W fun e W' => e = .returned (.bool true) ∧ Keeps W W' := by
  obtain ⟨a0, rfl, _, hg⟩ := gen_all hX
  letI := toks fun _ => ({ a0 with V := V } : Fl)
  have h3 : EnvGood (EG 3) := EG_good 3 _ (fun _ => Fl.Gen.withV hg V) (fun _ => .inl rfl)
  have hc : EnvGood (EG (cls V)) := EG_good (cls V) _ (fun _ => Fl.Gen.withV hg V) (fun _ => cls_ok V)
  have hx : ∀ Z : Zed, VRel noI Z (.tok 0) (.float .f64 a0.X) := fun Z => .tok 0 _ rfl
  have hv : ∀ Z : Zed, VRel noI Z (.tok 99) (.int .i64 V) := fun Z => .tok 99 _ rfl
  have hLR : ∀ Z : Zed, LRel noI Z [.b b, .tok 0, .tok 99] [.bool b, .float .f64 a0.X, .int .i64 V] := fun Z => .cons (.b b) (.cons (hx Z) (.cons (hv Z) .nil))
  have run : ∀ es : List Entry, (∀ e ∈ es, e.good (EG (cls V))) → trueF (runF (withE (EG (cls V)) [9, 6] es) 4000 (.call 5 [.b b, .tok 0, .tok 99] emptyH)) = true → Calls Tryz.prog 5 #[.bool b, .float .f64 a0.X, .int .i64 V] W fun e W' => e = .returned (.bool true) ∧ Keeps W W' := fun es hes e =>
    calls_true (withE_good hc hes (by unfold EG; rfl)) (says_of e) W [.bool b, .float .f64 a0.X, .int .i64 V] (globT hL) (hLR _)
  cases b with
  | true =>
    refine run mainBT (fun e he => Entry.good.of rfl rfl (mainBT_good h3 e he)) ?_
    unfold cls
    split
    · exact topBT0
    · split
      · exact topBT1
      · exact topBT2
  | false =>
    refine run mainBF (fun e he => Entry.good.of rfl rfl (mainBF_good h3 e he)) ?_
    unfold cls
    split
    · exact topBF0
    · split
      · exact topBF1
      · exact topBF2

set_option maxRecDepth 100000 in
theorem contract (H : Type) (enc : TypeId × Value → H) (W : World) (base : Nat) (args : Array Value) (ds gs : List (DataW H)) (before : List MemPlace)
    (hval : ∀ (j : Nat) t v, Tryz.f5.params[j]? = some t → args[j]? = some v → Value.okWide Tryz.prog W .any base t v)
    (hW : DataW.Whole enc Tryz.prog Tryz.f5.params.toList Rows.topBusySpec.vars false W args.toList ds gs before) (hL : laidMetH Tryz.prog Rows.topBusyRow.laid W) :
    Calls Tryz.prog 5 args W fun e W' => ∃ v, e = .returned v ∧ Rows.topBusySpec.post enc Tryz.prog Tryz.f5 false true false false W args v W' := by
  have hW' := hW
  obtain ⟨p, q, hA0, hV, rfl, hfz, hnd⟩ := hW
  have hA : DataW.TrodAll enc Tryz.prog W 0 (fun _ => true) true Tryz.f5.params.toList args.toList ds p := hA0
  rw [Tryz.params5] at hA hval
  obtain ⟨v0, v1, v2, d0, d1, d2, p0, p1, p2, rfl, rfl, rfl, h0, h1, h2⟩ := trodAll_three hA
  obtain ⟨rfl, rfl⟩ := trodVars_none hV
  obtain ⟨b, rfl, rfl, rfl⟩ := open_bool Tryz.underlying4 (hval 0 4 v0 rfl rfl) h0
  obtain ⟨X, rfl, rfl, rfl, hw⟩ := open_float Tryz.underlying22 (hval 1 22 v1 rfl rfl) h1
  obtain ⟨V, rfl, rfl, rfl, hw2⟩ := open_int Tryz.underlying3 (hval 2 3 v2 rfl rfl) h2
  have hX : X < 2 ^ 64 := by simpa [Lit.wf] using hw
  refine (busy_calls b X V hX W hL).mono fun e W' ⟨he, hk⟩ => ?_
  subst he
  letI := toks fun _ => ⟨0, 0, 0, false, 0, 0⟩
  exact ⟨_, rfl, post_of_kept (pa := []) (pv := []) hW' (fun _ _ _ => trodAll_cons_mk (shut_bool Tryz.underlying4 _) trodAll_mk0) (fun _ _ => by
      rw [Tryz.params5]; exact trodAll_mk3 (shut_bool Tryz.underlying4 _) (shut_float Tryz.underlying22 hw) (shut_int Tryz.underlying3 hw2)) (fun _ _ => rfl) rfl hk
    (ok_one (t := 4) (by kernel_rfl) rfl (okWide_bool_mk Tryz.underlying4 _))⟩

/-- A WORLD FOR THE WITNESS: the settled one, the table (block 0) holding what its initialiser lays. -/
noncomputable def laidWorld (os : Os) : World :=
  { World.holding Tryz.prog os ⟨#[], #[], []⟩ with heap := (World.holding Tryz.prog os ⟨#[], #[], []⟩).heap.modify 0 fun
      | .cells _ t frozen => .cells (bytes.map fun (n : Nat) => Value.int .u8 (n : Int)).toArray t frozen
      | o => o }
theorem laid_met (os : Os) : laidMet Tryz.prog Rows.topBusyRow.laid ((laidWorld os).forCall (fun _ _ => 0) ⟨#[], #[.bool true, .float .f64 0, .int .i64 0], []⟩).memory :=
  laidMet_of_run' 8 (by kernel_rfl) (by kernel_rfl)
theorem reads (os : Os) {H : Type} (enc : TypeId × Value → H) : ∃ places, DataW.whole enc Tryz.prog ((laidWorld os).forCall (fun _ _ => 0) ⟨#[], #[.bool true, .float .f64 0, .int .i64 0], []⟩).memory Tryz.f5.params.toList Rows.topBusySpec.vars false #[Value.bool true, Value.float .f64 0, Value.int .i64 0].toList 8 = some ([.lit (.bool true), .lit (.float .f64 0), .lit (.int .i64 0)], [], places) :=
  ⟨[], by kernel_rfl⟩

set_option maxRecDepth 100000 in
theorem lifted (os : Os) (started : os.Started) (H : Type) (enc : TypeId × Value → H) (F : Stop.Interp) :
    ReturnsInHanded {} Tryz.checked os 5 .any ((OpenSpec.ofChange Rows.topBusySpec).preRow enc Tryz.prog Tryz.f5 Rows.topBusyRow.domain false Rows.topBusyRow.laid) (((OpenSpec.ofChange Rows.topBusySpec).at F).post enc Tryz.prog Tryz.f5 false true false false) := by
  obtain ⟨places, hx⟩ := reads os enc
  refine returnsInHanded_of_row (C := Tryz.checked) (s := OpenSpec.ofChange Rows.topBusySpec) own started (by kernel_rfl) Tryz.func5
    (witness_row_at (enc := enc) (C := Tryz.checked) false (laidWorld os) #[.bool true, .float .f64 0, .int .i64 0] rfl (by kernel_rfl) (by kernel_rfl) (by kernel_rfl)
      (OpenSpec.preRow_of_cond 8 hx (by kernel_rfl) (fun k hk => by cases hk) (by kernel_rfl) (laid_met os))) ?_
  intro W base args ds gs before hval hW _ _ _ hL _ _
  exact contract H enc W base args ds gs before hval hW hL

theorem said : Rows.TopBusySaid :=
  OpenClaim.holds_of_cond 5 Tryz.f5 rfl rfl rfl rfl rfl rfl rfl ⟨rfl, rfl, rfl, rfl, rfl⟩ rfl rfl rfl rfl rfl (by kernel_rfl) Tryz.func5 (by kernel_rfl)
    (of_decide_eq_true (by kernel_rfl)) (by unfold Func.isWrapper; first | (rw [if_pos (by decide +kernel)]; kernel_rfl) | (rw [if_neg (by decide +kernel)]; exact ⟨rfl, rfl⟩))
    (fun os started H enc _ F => by rw [OpenClaim.pre_eq_preRow]; exact lifted os started H enc F)

theorem plain (f : FuncId) (fn : Func) (hf : Tryz.pinned.checked.prog.funcNamed "shoal/shoaltop.TopBusy" = some f) (hfn : Tryz.pinned.checked.prog.funcs[f]? = some fn) :
    false = Tryz.pinned.checked.prog.looks [] ∧ ∀ (j : Nat) t, fn.params[j]? = some t → Tryz.pinned.checked.prog.wantsStandIn t = false := by
  obtain rfl : f = 5 := Option.some.inj ((show Tryz.prog.funcNamed "shoal/shoaltop.TopBusy" = some 5 by kernel_rfl).symm.trans hf) |>.symm
  obtain rfl : fn = Tryz.f5 := (Option.some.inj (Tryz.func5.symm.trans hfn)).symm
  refine ⟨by kernel_rfl, fun j t ht => ?_⟩
  rw [Tryz.params5] at ht
  rcases j with _ | _ | _ | j <;> simp at ht <;> subst ht <;> kernel_rfl

theorem card : Rows.TopBusyCardSaid :=
  Claim7.holds_tied_plain_at .later [] _ _ _ _ said (fun _ h => by cases h) (by kernel_rfl) (fun _ h => by cases h) topBusy_row_tie rfl ⟨rfl, rfl⟩ (by kernel_rfl) rfl plain (by kernel_rfl)
end Go.Proofs.YtkcogdalihcamaaGreatDoor.topBusy
namespace Go.Proofs.YtkcogdalihcamaaGreatDoor
theorem topBusy_card : Rows.TopBusyCardSaid := topBusy.card
end Go.Proofs.YtkcogdalihcamaaGreatDoor
