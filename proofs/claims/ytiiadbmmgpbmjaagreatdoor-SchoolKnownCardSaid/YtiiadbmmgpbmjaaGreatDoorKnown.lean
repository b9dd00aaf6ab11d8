/-
  shoallaw26.SchoolKnown, for every input: the abstract machine's answer; the row; the card.
-/
import Derived.Test.YtiiadbmmgpbmjaaGreatDoorCards
import Derived.Test.YtiiadbmmgpbmjaaGreatDoorTie
import Derived.Test.YtiiadbmmgpbmjaaGreatDoorSKK0
import Derived.Test.YtiiadbmmgpbmjaaGreatDoorSKK1
import Derived.Test.YtiiadbmmgpbmjaaGreatDoorSKZ
namespace Go.Proofs.YtiiadbmmgpbmjaaGreatDoor.schoolKnown
open Go.ChangeShapes Go.WideShapes Go.ChangeAt Go.RowKit Go.Av

theorem own : ownKnob Tryz.prog.godebug = none := by kernel_rfl
theorem gTab : Tryz.prog.globalNamed "math/bits.deBruijn64tab" = some 1 := by kernel_rfl
theorem gTabType : (Tryz.prog.globals[1]?).map (·.type) = some 280 := by kernel_rfl
theorem uTab : Tryz.prog.underlying 280 = some (.array 64 5) := by kernel_rfl
theorem uEl : Tryz.prog.underlying 5 = some (.int .u8) := by kernel_rfl
theorem cellsTab : Tryz.prog.cellsOf 280 = 64 := by kernel_rfl
theorem cellsEl : Tryz.prog.cellsOf 5 = 1 := by kernel_rfl

section
variable [Toks]
theorem subSK_good : ∀ e ∈ subSK, e.good ES := (List.forall_mem_cons.2 ⟨Entry.good_of ES_good okSK2, (List.forall_mem_cons.2 ⟨Entry.good_of ES_good okSK3, (List.forall_mem_nil _)⟩)⟩)
theorem ESK_good : EnvGood ESK := withE_good ES_good subSK_good (by kernel_rfl)
theorem mainSK_good : ∀ e ∈ mainSK, e.good ESK := (List.forall_mem_cons.2 ⟨Entry.good_of ESK_good okSK0, (List.forall_mem_cons.2 ⟨Entry.good_of ESK_good okSK1, (List.forall_mem_cons.2 ⟨Entry.good_of ESK_good okSK4, (List.forall_mem_cons.2 ⟨Entry.good_of ESK_good okSK5, (List.forall_mem_cons.2 ⟨Entry.good_of ESK_good okSK6, (List.forall_mem_cons.2 ⟨Entry.good_of ESK_good okSK7, (List.forall_mem_cons.2 ⟨Entry.good_of ESK_good okSK8, (List.forall_mem_cons.2 ⟨Entry.good_of ESK_good okSK9, (List.forall_mem_cons.2 ⟨Entry.good_of ESK_good okSK10, (List.forall_mem_cons.2 ⟨Entry.good_of ESK_good okSK11, (List.forall_mem_nil _)⟩)⟩)⟩)⟩)⟩)⟩)⟩)⟩)⟩)⟩)
theorem top_good : EnvGood (withE ES [7, 4] mainSK) := withE_good ES_good (fun e he => Entry.good.of rfl rfl (mainSK_good e he)) (by kernel_rfl)
end

/-- Names are not used here. -/
@[reducible] def noToks : Toks := ⟨fun _ => .int .i64 0, fun _ => .inl ⟨_, _, rfl⟩⟩

theorem says_of {E : Env} {n : Nat} {f : FuncId} {args : List AV} {h : AH} (e : trueF (runF E n (.call f args h)) = true) : saysTrue (run E n (.call f args h)) = true := by
  unfold trueF at e
  split at e
  · rename_i h' hr
    letI := noToks
    rw [runF_ret hr]; rfl
  · cases e

def bytes : List Nat := [0, 1, 56, 2, 57, 49, 28, 3, 61, 58, 42, 50, 38, 29, 17, 4, 62, 47, 59, 36, 45, 43, 51, 22, 53, 39, 33, 30, 24, 18, 12, 5, 63, 55, 48, 27, 60, 41, 37, 16, 46, 35, 44, 21, 52, 32, 23, 11, 54, 26, 40, 15, 34, 20, 31, 10, 25, 14, 19, 9, 13, 8, 7, 6]

/-- WHAT THE ROW's LIST GIVES: the table's cells. -/
theorem table {W : World} (h : laidMetH Tryz.prog Rows.schoolKnownRow.laid W) : Lib.TabIs Tryz.prog W "math/bits.deBruijn64tab" .u8 (bytes.map fun (n : Nat) => (n : Int)) :=
  Lib.tabIs_of_head (rest := []) gTab gTabType uTab uEl cellsEl cellsTab h

set_option maxRecDepth 100000 in
theorem contract (H : Type) (enc : TypeId × Value → H) (W : World) (args : Array Value) (ds gs : List (DataW H)) (before : List MemPlace)
    (hW : DataW.Whole enc Tryz.prog Tryz.f3.params.toList Rows.schoolKnownSpec.vars false W args.toList ds gs before) (hL : laidMetH Tryz.prog Rows.schoolKnownRow.laid W) :
    Calls Tryz.prog 3 args W fun e W' => ∃ v, e = .returned v ∧ Rows.schoolKnownSpec.post enc Tryz.prog Tryz.f3 false true false false W args v W' := by
  have hW' := hW
  obtain ⟨p, q, hA0, hV, rfl, hfz, hnd⟩ := hW
  have hA : DataW.TrodAll enc Tryz.prog W 0 (fun _ => true) true Tryz.f3.params.toList args.toList ds p := hA0
  rw [Tryz.params3] at hA
  obtain ⟨hargs, rfl, rfl⟩ := trodAll_nil hA
  obtain rfl : args = #[] := by cases args; simp_all
  obtain ⟨rfl, rfl⟩ := trodVars_none hV
  letI := noToks
  have hg0 : Glob noI (Zed.all W) (env Tryz.prog tabS) := glob_tab (l := bytes) rfl gTab (table hL)
  have hg : Glob noI (Zed.all W) (withE ES [7, 4] mainSK) := hg0
  have hc : Calls Tryz.prog 3 #[] W (fun e W' => e = .returned (.bool true) ∧ Keeps W W') := calls_true top_good (says_of topSK) W [] hg .nil
  refine hc.mono fun e W' ⟨he, hk⟩ => ?_
  subst he
  exact ⟨_, rfl, post_of_kept (pa := []) (pv := []) hW' (fun _ _ _ => trodAll_cons_mk (shut_bool Tryz.underlying4 _) trodAll_mk0) (fun _ _ => trodAll_mk0) (fun _ _ => rfl) rfl hk
    (ok_one (t := 4) (by kernel_rfl) rfl (okWide_bool_mk Tryz.underlying4 _))⟩

/-- A WORLD FOR THE WITNESS: the settled one, the table (block 1) holding what its initialiser lays. -/
noncomputable def laidWorld (os : Os) : World :=
  { World.holding Tryz.prog os ⟨#[], #[], []⟩ with heap := (World.holding Tryz.prog os ⟨#[], #[], []⟩).heap.modify 1 fun
      | .cells _ t frozen => .cells (bytes.map fun (n : Nat) => Value.int .u8 (n : Int)).toArray t frozen
      | o => o }
theorem laid_met (os : Os) : laidMet Tryz.prog Rows.schoolKnownRow.laid ((laidWorld os).forCall (fun _ _ => 0) ⟨#[], #[], []⟩).memory :=
  laidMet_of_run' 8 (by kernel_rfl) (by kernel_rfl)
theorem reads (os : Os) {H : Type} (enc : TypeId × Value → H) : ∃ places, DataW.whole enc Tryz.prog ((laidWorld os).forCall (fun _ _ => 0) ⟨#[], #[], []⟩).memory Tryz.f3.params.toList Rows.schoolKnownSpec.vars false (#[] : Array Value).toList 8 = some ([], [], places) :=
  ⟨[], by kernel_rfl⟩

set_option maxRecDepth 100000 in
theorem lifted (os : Os) (started : os.Started) (H : Type) (enc : TypeId × Value → H) (F : Stop.Interp) :
    ReturnsInHanded {} Tryz.checked os 3 .any ((OpenSpec.ofChange Rows.schoolKnownSpec).preRow enc Tryz.prog Tryz.f3 Rows.schoolKnownRow.domain false Rows.schoolKnownRow.laid) (((OpenSpec.ofChange Rows.schoolKnownSpec).at F).post enc Tryz.prog Tryz.f3 false true false false) := by
  obtain ⟨places, hx⟩ := reads os enc
  refine returnsInHanded_of_row (C := Tryz.checked) (s := OpenSpec.ofChange Rows.schoolKnownSpec) own started (by kernel_rfl) Tryz.func3
    (witness_row_at (enc := enc) (C := Tryz.checked) false (laidWorld os) #[] rfl (by kernel_rfl) (by kernel_rfl) (by kernel_rfl)
      (OpenSpec.preRow_of_cond 8 hx (by kernel_rfl) (fun k hk => by cases hk) (by kernel_rfl) (laid_met os))) ?_
  intro W base args ds gs before hval hW _ _ _ hL _ _
  exact contract H enc W args ds gs before hW hL

theorem said : Rows.SchoolKnownSaid :=
  OpenClaim.holds_of_cond 3 Tryz.f3 rfl rfl rfl rfl rfl rfl rfl ⟨rfl, rfl, rfl, rfl, rfl⟩ rfl rfl rfl rfl rfl (by kernel_rfl) Tryz.func3 (by kernel_rfl)
    (of_decide_eq_true (by kernel_rfl)) (by unfold Func.isWrapper; first | (rw [if_pos (by decide +kernel)]; kernel_rfl) | (rw [if_neg (by decide +kernel)]; exact ⟨rfl, rfl⟩))
    (fun os started H enc _ F => by rw [OpenClaim.pre_eq_preRow]; exact lifted os started H enc F)

theorem plain (f : FuncId) (fn : Func) (hf : Tryz.pinned.checked.prog.funcNamed "shoal/shoallaw26.SchoolKnown" = some f) (hfn : Tryz.pinned.checked.prog.funcs[f]? = some fn) :
    false = Tryz.pinned.checked.prog.looks [] ∧ ∀ (j : Nat) t, fn.params[j]? = some t → Tryz.pinned.checked.prog.wantsStandIn t = false := by
  obtain rfl : f = 3 := Option.some.inj ((show Tryz.prog.funcNamed "shoal/shoallaw26.SchoolKnown" = some 3 by kernel_rfl).symm.trans hf) |>.symm
  obtain rfl : fn = Tryz.f3 := (Option.some.inj (Tryz.func3.symm.trans hfn)).symm
  refine ⟨by kernel_rfl, fun j t ht => ?_⟩
  rw [Tryz.params3] at ht
  simp at ht

theorem card : Rows.SchoolKnownCardSaid :=
  Claim7.holds_tied_plain_at .later [] _ _ _ _ said (fun _ h => by cases h) (by kernel_rfl) (fun _ h => by cases h) schoolKnown_row_tie rfl ⟨rfl, rfl⟩ (by kernel_rfl) rfl plain (by kernel_rfl)
end Go.Proofs.YtiiadbmmgpbmjaaGreatDoor.schoolKnown
namespace Go.Proofs.YtiiadbmmgpbmjaaGreatDoor
theorem schoolKnown_card : Rows.SchoolKnownCardSaid := schoolKnown.card
end Go.Proofs.YtiiadbmmgpbmjaaGreatDoor
