/-
  Bare surroundings: no tables of bytes, no functions without a body, all calls plain.
-/
import Derived.Test.YtgiphcfpopgchaaAv20
namespace Go.Av
set_option linter.unusedSimpArgs false
set_option linter.unusedVariables false

def env0 (P : Program) (win : List (FuncId × List (Nat × List (Nat × Nat × Nat)))) : Env where
  P := P
  glob := fun _ => none
  fun_ := fun f => P.funcs[f]?
  mode := fun _ => 0
  hook := fun _ => none
  phook := fun _ => none
  ext := fun _ => none
  ownLit := fun _ _ => false
  win := fun f id => (lookupL f win).bind (lookupL id)

theorem env0_good {P : Program} {win : List (FuncId × List (Nat × List (Nat × Nat × Nat)))} (hmix : P.follows .mixedOrders = true) (hd : ((win.map (·.1)).all fun f => drawCheck (env0 P win) f) = true) : EnvGood (env0 P win) where
  funs := fun f fn h => h
  exts := fun f g hg => by cases hg
  pures := fun g cs h => by cases h
  hookfree := fun _ _ => rfl
  mixed := hmix
  hooks := fun f g h => by cases h
  phooks := fun f g h => by cases h
  draws := fun f fn c hfn hc x hx W hW => by
    have hW' : (lookupL f win).bind (lookupL x.1) = some W := hW
    obtain ⟨l, h1, _⟩ := Option.bind_eq_some_iff.1 hW'
    have := List.all_eq_true.1 hd f (lookupL_mem h1)
    unfold drawCheck at this
    simp only [hfn, hc] at this
    have := List.all_eq_true.1 this x hx
    rw [hW] at this
    simpa using this

end Go.Av
