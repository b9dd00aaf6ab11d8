/-
  From the machine's answer to a row's.
-/
import Derived.Test.YtmiodddnokpdfaaGreatDoorAv19
import Derived.ChangeSame
import Derived.Lib.LaidTab
import Derived.Deep.DeepHandedRow
import Derived.WalkKit
import Derived.ProofKit
import Derived.OpenShut
namespace Go.Av
noncomputable section
set_option linter.unusedSectionVars false
variable [Toks]
open Go.ChangeShapes Go.WideShapes
set_option linter.unusedSimpArgs false
set_option linter.unusedVariables false

/-- All that was there is as it was. -/
structure Keeps (W W' : World) : Prop where
  os : W'.os = W.os
  out : W'.output = W.output
  size : W.heap.size ≤ W'.heap.size
  block : ∀ b, b < W.heap.size → W'.heap[b]? = W.heap[b]?

theorem Keeps.frame {W W' : World} (h : Keeps W W') (may : MemPlace → Prop) : W.keptBut W' may := by
  refine ⟨h.os, h.out, fun i hi => ?_⟩
  rw [h.block i hi]
  split <;> simp_all

theorem Keeps.frozen {W W' : World} (h : Keeps W W') {p : Addr} (hp : p.block < W.heap.size) : W'.frozen? p = W.frozen? p := World.frozen?_of_block (w := W) (h.block p.block hp)

theorem Goes.keeps {Z Y : Zed} {J : Inj} {h' : AH} {W W' : World} (hg : Goes noI Z emptyH W J Y h' W') : Keeps W W' :=
  ⟨hg.fr.os, hg.fr.out, hg.fr.size, fun b hb => hg.fr.other b hb (fun k B hk => (emptyH_live hk).elim)⟩

/-- Nobody writes what was there when the call began: a law that the machine calls true. -/
theorem calls_true {E : Env} (hE : EnvGood E) {n : Nat} {f : FuncId} {args : List AV} (e : saysTrue (run E n (.call f args emptyH)) = true) (W : World) (vs : List Value)
    (hG : Glob noI (Zed.all W) E) (hL : LRel noI (Zed.all W) args vs) : Calls E.P f vs.toArray W fun e W' => e = .returned (.bool true) ∧ Keeps W W' := by
  unfold saysTrue at e
  split at e
  · rename_i h' hr
    refine (call_ok hE hr noI (Zed.all W) W vs hG hL (empty_rel (.refl _))).mono ?_
    rintro e' W' ⟨J, Y, cv, rfl, hgo, hv⟩
    cases hv
    exact ⟨rfl, hgo.keeps⟩
  · cases e

theorem post_of_kept {H : Type} {enc : TypeId × Value → H} {P : Program} {f : Func} {s : ChangeSpec} {apart fresh handsOn again : Bool} {W W' : World} {args : Array Value} {v : Value} {ds gs : List (DataW H)} {before pa pv : List MemPlace}
    (hW : DataW.Whole enc P f.params.toList s.vars apart W args.toList ds gs before)
    (hres : ∀ (b : Nat) (sp : Nat → Bool) (hd : Bool), DataW.TrodAll enc P W' b sp hd f.resultTypes.toList (v.resultList f.resultTypes.size) (s.fn H (ds ++ gs)).results [])
    (hargs : ∀ sp : Nat → Bool, (∀ p ∈ before, sp p.block = true) → DataW.TrodAll enc P W' 0 sp true f.params.toList args.toList (s.fn H (ds ++ gs)).args pa)
    (hvars : ∀ sp : Nat → Bool, (∀ p ∈ before, sp p.block = true) → DataW.TrodVars enc P W' sp s.vars (s.fn H (ds ++ gs)).vars pv)
    (hps : before = pa ++ pv) (hk : Keeps W W')
    (hok : ∀ (j : Nat) (t : TypeId) (r : Value), f.resultTypes[j]? = some t → (v.resultList f.resultTypes.size)[j]? = some r → Value.okWide P W' .any 0 t r) :
    s.post enc P f apart fresh handsOn again W args v W' := by
  have hlt : ∀ p ∈ before, p.block < W.heap.size := fun p hp => hW.lt p hp
  have hold : ∀ p ∈ before, (fun b => decide (b < W.heap.size)) p.block = true := fun p hp => by simpa using hlt p hp
  refine ⟨ds, gs, before, [], pa, pv, hW, hres _ _ _, hargs _ hold, hvars _ hold, hk.frame _, fun _ => ?_⟩
  obtain ⟨_, _, _, _, _, hz, hn⟩ := hW
  refine ⟨hok, _, _, ([] ++ pa) ++ pv, ⟨[] ++ pa, pv, trodAll_append (hargs _ (fun _ _ => rfl)) (hres _ _ _), hvars _ (fun _ _ => rfl), rfl, fun b off hp => ?_, fun ha => ?_⟩, fun p hp _ => ?_⟩
  · have hp' : MemPlace.cell b off ∈ before := by rw [hps]; simpa using hp
    rw [hk.frozen (hlt _ hp')]
    exact hz b off hp'
  · have := hn ha
    rw [hps] at this
    simpa using this
  · rw [hps]; simpa using hp

/-- A package-level table of bytes. -/
theorem glob_tab {P : Program} {T : Tab} {W : World} {name : String} {g : Nat} {l : List Nat} (hT : T.glob = [(g, l)]) (hg : P.globalNamed name = some g) (h : Lib.TabIs P W name .u8 (l.map fun (n : Nat) => (n : Int))) :
    Glob noI (Zed.all W) (env P T) := by
  intro g' cs e
  simp only [env, hT, lookupL] at e
  split at e
  · rename_i hgg
    subst hgg
    simp only [Option.map_some, Option.some.injEq] at e
    subst e
    refine ⟨l.map fun (n : Nat) => .int .u8 (n : Int), ⟨by simp [bytesL], fun j a v e1 e2 => ?_⟩, fun j v e => ?_⟩
    · simp only [bytesL, List.getElem?_map, Option.map_eq_some_iff] at e1 e2
      obtain ⟨x, hx, rfl⟩ := e1
      obtain ⟨y, hy, rfl⟩ := e2
      rw [hx] at hy; cases hy
      exact .i _ _
    · simp only [List.getElem?_map, Option.map_eq_some_iff] at e
      obtain ⟨x, hx, rfl⟩ := e
      have hj : j < l.length := (List.getElem?_eq_some_iff.1 hx).1
      have := h.cell hg j (by simpa using hj)
      unfold Zed.all
      rw [this]
      simp [hx]
  · cases e

end
end Go.Av
