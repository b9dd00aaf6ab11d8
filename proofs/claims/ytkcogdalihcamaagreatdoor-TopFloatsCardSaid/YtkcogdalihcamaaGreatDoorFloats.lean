/-
  shoaltop.TopFloats, for every engine and every number with a point: the abstract machine's answers, case by case; the row; the card.
-/
import Derived.Test.YtkcogdalihcamaaGreatDoorCards
import Derived.Test.YtkcogdalihcamaaGreatDoorTie
import Derived.Test.YtkcogdalihcamaaGreatDoorRows
import Derived.Test.YtkcogdalihcamaaGreatDoorEnvD
import Derived.Test.YtkcogdalihcamaaGreatDoorFlPosTrue
import Derived.Test.YtkcogdalihcamaaGreatDoorFlPosFalse
import Derived.Test.YtkcogdalihcamaaGreatDoorFlNegTrue
import Derived.Test.YtkcogdalihcamaaGreatDoorFlNegFalse
import Derived.Test.YtkcogdalihcamaaGreatDoorFlInfTrue
import Derived.Test.YtkcogdalihcamaaGreatDoorFlInfFalse
import Derived.Test.YtkcogdalihcamaaGreatDoorFlLowTrue
import Derived.Test.YtkcogdalihcamaaGreatDoorFlLowFalse
import Derived.Test.YtkcogdalihcamaaGreatDoorFlNanTrue
import Derived.Test.YtkcogdalihcamaaGreatDoorFlNanFalse
import Derived.Laws.Cover2
namespace Go.Proofs.YtkcogdalihcamaaGreatDoor.topFloats
open Go.ChangeShapes Go.WideShapes Go.ChangeAt Go.RowKit Go.Av

theorem own : ownKnob Tryz.prog.godebug = none := by kernel_rfl
theorem gTab : Tryz.prog.globalNamed "math/bits.deBruijn64tab" = some 0 := by kernel_rfl
theorem gTabType : (Tryz.prog.globals[0]?).map (·.type) = some 249 := by kernel_rfl
theorem uTab : Tryz.prog.underlying 249 = some (.array 64 5) := by kernel_rfl
theorem uEl : Tryz.prog.underlying 5 = some (.int .u8) := by kernel_rfl
theorem cellsTab : Tryz.prog.cellsOf 249 = 64 := by kernel_rfl
theorem cellsEl : Tryz.prog.cellsOf 5 = 1 := by kernel_rfl


def bytes : List Nat := [0, 1, 56, 2, 57, 49, 28, 3, 61, 58, 42, 50, 38, 29, 17, 4, 62, 47, 59, 36, 45, 43, 51, 22, 53, 39, 33, 30, 24, 18, 12, 5, 63, 55, 48, 27, 60, 41, 37, 16, 46, 35, 44, 21, 52, 32, 23, 11, 54, 26, 40, 15, 34, 20, 31, 10, 25, 14, 19, 9, 13, 8, 7, 6]

/-- WHAT THE ROW's LIST GIVES: the table's cells. -/
theorem table {W : World} (h : laidMetH Tryz.prog Rows.topFloatsRow.laid W) : Lib.TabIs Tryz.prog W "math/bits.deBruijn64tab" .u8 (bytes.map fun (n : Nat) => (n : Int)) :=
  Lib.tabIs_of_head (rest := []) gTab gTabType uTab uEl cellsEl cellsTab h

theorem says_of {E : Env} {n : Nat} {f : FuncId} {args : List AV} {h : AH} (e : trueF (runF E n (.call f args h)) = true) : saysTrue (run E n (.call f args h)) = true := by
  unfold trueF at e
  split at e
  · rename_i h' hr
    letI := toks fun _ => ⟨0, 0, 0, false⟩
    rw [runF_ret hr]; rfl
  · cases e

theorem goodP (a : Fl) (o : a.Ok) (hn : a.neg = false) : @EnvGood (toks fun _ => a) EP := by
  have h : @EnvGood (toks fun _ => a) (envT Tryz.prog tab fun _ => a.neg) := envT_good (fun _ => a) (fun _ => o) good_mixed good_bits good_fromBits (good_draws _)
  rw [hn] at h
  exact h
theorem goodN (a : Fl) (o : a.Ok) (hn : a.neg = true) : @EnvGood (toks fun _ => a) EN := by
  have h : @EnvGood (toks fun _ => a) (envT Tryz.prog tab fun _ => a.neg) := envT_good (fun _ => a) (fun _ => o) good_mixed good_bits good_fromBits (good_draws _)
  rw [hn] at h
  exact h
theorem some_fl : ∃ a : Fl, a.Ok ∧ a.neg = false := by
  obtain ⟨a, h, o⟩ := Fl.of (X := 0) (by decide) (by decide)
  exact ⟨a, o, by rw [o.sgn, h]; rfl⟩

theorem globT [Toks] {W : World} {neg : Nat → Bool} (h : laidMetH Tryz.prog Rows.topFloatsRow.laid W) : Glob noI (Zed.all W) (envT Tryz.prog tab neg) := by
  have hg : Glob noI (Zed.all W) (env Tryz.prog tab) := glob_tab (l := bytes) rfl gTab (table h)
  exact hg

/-- A call whose second argument is told by x. -/
theorem one (a : Fl) (E : Env) (hE : @EnvGood (toks fun _ => a) E) (hP : E.P = Tryz.prog) (b : Bool) (x : AV) (v : Value) (e : trueF (runF E 2000 (.call 3 [.b b, x] emptyH)) = true) (W : World)
    (hG : @Glob (toks fun _ => a) noI (Zed.all W) E) (hx : @VRel (toks fun _ => a) noI (Zed.all W) x v) : Calls Tryz.prog 3 #[.bool b, v] W fun e W' => e = .returned (.bool true) ∧ Keeps W W' := by
  letI := toks fun _ => a
  rw [← hP]
  exact calls_true hE (says_of e) W [.bool b, v] hG (.cons (.b b) (.cons hx .nil))

theorem floats_calls (b : Bool) (X : Nat) (hX : X < 2 ^ 64) (W : World) (hL : laidMetH Tryz.prog Rows.topFloatsRow.laid W) : Calls Tryz.prog 3 #[.bool b, .float .f64 X] W fun e W' => e = .returned (.bool true) ∧ Keeps W W' := by
  obtain ⟨a0, o0, n0⟩ := some_fl
  have lit : ∀ (y : Nat) (hy : y = X ∨ (nanF .f64 y ∧ nanF .f64 X)), trueF (runF EP 2000 (.call 3 [.b b, .f .f64 y] emptyH)) = true → Calls Tryz.prog 3 #[.bool b, .float .f64 X] W fun e W' => e = .returned (.bool true) ∧ Keeps W W' := fun y hy e =>
    one a0 EP (goodP a0 o0 n0) rfl b _ _ e W (@globT (toks fun _ => a0) W (fun _ => false) hL) (@VRel.f (toks fun _ => a0) _ _ _ _ _ hy)
  have inf : Ieee.double.infRung = 2047 * 2 ^ 52 := by decide
  have sw : Ieee.double.signWeight = 2 ^ 63 := by decide
  by_cases h1 : X % 2 ^ 63 < 2047 * 2 ^ 52
  · obtain ⟨a, rfl, o⟩ := Fl.of hX h1
    have hx : ∀ Z : Zed, @VRel (toks fun _ => a) noI Z (.tok 0) (.float .f64 a.X) := fun Z => @VRel.tok (toks fun _ => a) _ _ 0 _ rfl
    cases hn : a.neg with
    | false =>
      cases b with
      | true => exact one a EP (goodP a o hn) rfl true _ _ floatsPosTrue W (@globT (toks fun _ => a) W (fun _ => false) hL) (hx _)
      | false => exact one a EP (goodP a o hn) rfl false _ _ floatsPosFalse W (@globT (toks fun _ => a) W (fun _ => false) hL) (hx _)
    | true =>
      cases b with
      | true => exact one a EN (goodN a o hn) rfl true _ _ floatsNegTrue W (@globT (toks fun _ => a) W (fun _ => true) hL) (hx _)
      | false => exact one a EN (goodN a o hn) rfl false _ _ floatsNegFalse W (@globT (toks fun _ => a) W (fun _ => true) hL) (hx _)
  · by_cases h2 : X % 2 ^ 63 = 2047 * 2 ^ 52
    · by_cases h3 : X < 2 ^ 63
      · have e : 9218868437227405312 = X := by omega
        cases b with
        | true => exact lit _ (.inl e) floatsInfTrue
        | false => exact lit _ (.inl e) floatsInfFalse
      · have e : 18442240474082181120 = X := by omega
        cases b with
        | true => exact lit _ (.inl e) floatsLowTrue
        | false => exact lit _ (.inl e) floatsLowFalse
    · have hn : nanF .f64 X := by
        show (Ieee.double.read X).isNaN = true
        unfold Ieee.Format.read
        have e3 : Ieee.double.binade = 2 ^ 52 := by decide
        simp only [inf, sw, e3]
        rw [if_neg (by omega), if_neg h1, if_neg h2]; rfl
      have hc : nanF .f64 9221120237041090560 := by
        show (Ieee.double.read 9221120237041090560).isNaN = true
        decide +kernel
      cases b with
      | true => exact lit _ (.inr ⟨hc, hn⟩) floatsNanTrue
      | false => exact lit _ (.inr ⟨hc, hn⟩) floatsNanFalse

set_option maxRecDepth 100000 in
theorem contract (H : Type) (enc : TypeId × Value → H) (W : World) (base : Nat) (args : Array Value) (ds gs : List (DataW H)) (before : List MemPlace)
    (hval : ∀ (j : Nat) t v, Tryz.f3.params[j]? = some t → args[j]? = some v → Value.okWide Tryz.prog W .any base t v)
    (hW : DataW.Whole enc Tryz.prog Tryz.f3.params.toList Rows.topFloatsSpec.vars false W args.toList ds gs before) (hL : laidMetH Tryz.prog Rows.topFloatsRow.laid W) :
    Calls Tryz.prog 3 args W fun e W' => ∃ v, e = .returned v ∧ Rows.topFloatsSpec.post enc Tryz.prog Tryz.f3 false true false false W args v W' := by
  have hW' := hW
  obtain ⟨p, q, hA0, hV, rfl, hfz, hnd⟩ := hW
  have hA : DataW.TrodAll enc Tryz.prog W 0 (fun _ => true) true Tryz.f3.params.toList args.toList ds p := hA0
  rw [Tryz.params3] at hA hval
  obtain ⟨v0, v1, d0, d1, p0, p1, rfl, rfl, rfl, h0, h1⟩ := trodAll_two hA
  obtain ⟨rfl, rfl⟩ := trodVars_none hV
  obtain ⟨b, rfl, rfl, rfl⟩ := open_bool Tryz.underlying4 (hval 0 4 v0 rfl rfl) h0
  obtain ⟨X, rfl, rfl, rfl, hw⟩ := open_float Tryz.underlying22 (hval 1 22 v1 rfl rfl) h1
  have hX : X < 2 ^ 64 := by simpa [Lit.wf] using hw
  refine (floats_calls b X hX W hL).mono fun e W' ⟨he, hk⟩ => ?_
  subst he
  letI := toks fun _ => ⟨0, 0, 0, false⟩
  exact ⟨_, rfl, post_of_kept (pa := []) (pv := []) hW' (fun _ _ _ => trodAll_cons_mk (shut_bool Tryz.underlying4 _) trodAll_mk0) (fun _ _ => by
      rw [Tryz.params3]; exact trodAll_mk2 (shut_bool Tryz.underlying4 _) (shut_float Tryz.underlying22 hw)) (fun _ _ => rfl) rfl hk
    (ok_one (t := 4) (by kernel_rfl) rfl (okWide_bool_mk Tryz.underlying4 _))⟩

/-- A WORLD FOR THE WITNESS: the settled one, the table (block 0) holding what its initialiser lays. -/
noncomputable def laidWorld (os : Os) : World :=
  { World.holding Tryz.prog os ⟨#[], #[], []⟩ with heap := (World.holding Tryz.prog os ⟨#[], #[], []⟩).heap.modify 0 fun
      | .cells _ t frozen => .cells (bytes.map fun (n : Nat) => Value.int .u8 (n : Int)).toArray t frozen
      | o => o }
theorem laid_met (os : Os) : laidMet Tryz.prog Rows.topFloatsRow.laid ((laidWorld os).forCall (fun _ _ => 0) ⟨#[], #[.bool true, .float .f64 0], []⟩).memory :=
  laidMet_of_run' 8 (by kernel_rfl) (by kernel_rfl)
theorem reads (os : Os) {H : Type} (enc : TypeId × Value → H) : ∃ places, DataW.whole enc Tryz.prog ((laidWorld os).forCall (fun _ _ => 0) ⟨#[], #[.bool true, .float .f64 0], []⟩).memory Tryz.f3.params.toList Rows.topFloatsSpec.vars false #[Value.bool true, Value.float .f64 0].toList 8 = some ([.lit (.bool true), .lit (.float .f64 0)], [], places) :=
  ⟨[], by kernel_rfl⟩

set_option maxRecDepth 100000 in
theorem lifted (os : Os) (started : os.Started) (H : Type) (enc : TypeId × Value → H) (F : Stop.Interp) :
    ReturnsInHanded {} Tryz.checked os 3 .any ((OpenSpec.ofChange Rows.topFloatsSpec).preRow enc Tryz.prog Tryz.f3 Rows.topFloatsRow.domain false Rows.topFloatsRow.laid) (((OpenSpec.ofChange Rows.topFloatsSpec).at F).post enc Tryz.prog Tryz.f3 false true false false) := by
  obtain ⟨places, hx⟩ := reads os enc
  refine returnsInHanded_of_row (C := Tryz.checked) (s := OpenSpec.ofChange Rows.topFloatsSpec) own started (by kernel_rfl) Tryz.func3
    (witness_row_at (enc := enc) (C := Tryz.checked) false (laidWorld os) #[.bool true, .float .f64 0] rfl (by kernel_rfl) (by kernel_rfl) (by kernel_rfl)
      (OpenSpec.preRow_of_cond 8 hx (by kernel_rfl) (fun k hk => by cases hk) (by kernel_rfl) (laid_met os))) ?_
  intro W base args ds gs before hval hW _ _ _ hL _ _
  exact contract H enc W base args ds gs before hval hW hL

theorem said : Rows.TopFloatsSaid :=
  OpenClaim.holds_of_cond 3 Tryz.f3 rfl rfl rfl rfl rfl rfl rfl ⟨rfl, rfl, rfl, rfl, rfl⟩ rfl rfl rfl rfl rfl (by kernel_rfl) Tryz.func3 (by kernel_rfl)
    (of_decide_eq_true (by kernel_rfl)) (by unfold Func.isWrapper; first | (rw [if_pos (by decide +kernel)]; kernel_rfl) | (rw [if_neg (by decide +kernel)]; exact ⟨rfl, rfl⟩))
    (fun os started H enc _ F => by rw [OpenClaim.pre_eq_preRow]; exact lifted os started H enc F)

theorem plain (f : FuncId) (fn : Func) (hf : Tryz.pinned.checked.prog.funcNamed "shoal/shoaltop.TopFloats" = some f) (hfn : Tryz.pinned.checked.prog.funcs[f]? = some fn) :
    false = Tryz.pinned.checked.prog.looks [] ∧ ∀ (j : Nat) t, fn.params[j]? = some t → Tryz.pinned.checked.prog.wantsStandIn t = false := by
  obtain rfl : f = 3 := Option.some.inj ((show Tryz.prog.funcNamed "shoal/shoaltop.TopFloats" = some 3 by kernel_rfl).symm.trans hf) |>.symm
  obtain rfl : fn = Tryz.f3 := (Option.some.inj (Tryz.func3.symm.trans hfn)).symm
  refine ⟨by kernel_rfl, fun j t ht => ?_⟩
  rw [Tryz.params3] at ht
  rcases j with _ | _ | j <;> simp at ht <;> subst ht <;> kernel_rfl

theorem card : Rows.TopFloatsCardSaid :=
  Claim7.holds_tied_plain_at .later [] _ _ _ _ said (fun _ h => by cases h) (by kernel_rfl) (fun _ h => by cases h) topFloats_row_tie rfl ⟨rfl, rfl⟩ (by kernel_rfl) rfl plain (by kernel_rfl)
end Go.Proofs.YtkcogdalihcamaaGreatDoor.topFloats
namespace Go.Proofs.YtkcogdalihcamaaGreatDoor
theorem topFloats_card : Rows.TopFloatsCardSaid := topFloats.card
end Go.Proofs.YtkcogdalihcamaaGreatDoor
