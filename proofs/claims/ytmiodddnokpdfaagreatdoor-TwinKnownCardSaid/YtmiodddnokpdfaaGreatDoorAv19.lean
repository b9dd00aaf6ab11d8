/-
  A seat's surroundings, out of tables.
-/
import Derived.Test.YtmiodddnokpdfaaGreatDoorAv18
namespace Go.Av
noncomputable section
set_option linter.unusedSectionVars false
variable [Toks]
set_option linter.unusedSimpArgs false
set_option linter.unusedVariables false

def isNan (x : Nat) : Bool := (FloatKind.f64.format.read x).isNaN

def bitsX : List AV → Option AV
  | [.f .f64 x] => some (if isNan x then .any else .i .u64 x)
  | _ => none
def fromBitsX : List AV → Option AV
  | [.i .u64 n] => if 0 ≤ n ∧ n < 2 ^ 64 then some (.f .f64 n.toNat) else none
  | _ => none

def ownBytes (P : Program) (t : TypeId) (c : Bool) : Bool :=
  match P.underlying t with
  | some (.slice e) => match P.underlying e with
    | some (.int .u8) => c
    | _ => false
  | _ => false

structure Tab where
  mode : List Nat
  glob : List (Nat × List Nat)
  bits : Nat
  fromBits : Nat
  win : List (FuncId × List (Nat × List (Nat × Nat × Nat)))

def bytesL (l : List Nat) : List AV := l.map fun (n : Nat) => .i .u8 (n : Int)

def env (P : Program) (T : Tab) : Env where
  P := P
  glob := fun g => (lookupL g T.glob).map bytesL
  fun_ := fun f => P.funcs[f]?
  mode := fun f => T.mode.getD f 0
  hook := fun _ => none
  phook := fun _ => none
  ext := fun f => if f = T.bits then some bitsX else if f = T.fromBits then some fromBitsX else none
  ownLit := ownBytes P
  jn := fun _ => none
  xh := fun _ => none
  tb := fun _ _ _ _ => none
  tu := fun _ _ => none
  tc := fun _ _ _ => none
  win := fun f id => (lookupL f T.win).bind (lookupL id)

/-- Is the answer 'true'? -/
def saysTrue (r : Option Res) : Bool :=
  match r with
  | some (.ret (.b true) _) => true
  | _ => false

def drawCheck (E : Env) (f : FuncId) : Bool :=
  match E.fun_ f with
  | none => true
  | some fn => match fn.body with
    | none => true
    | some c => (drawsIn c).all fun x => match E.win f x.1 with
      | none => true
      | some W => drawOk E x.2 && decide (W = windows E x.2)

theorem lookupL_mem {α : Type} {k : Nat} : ∀ {l : List (Nat × α)} {v : α}, lookupL k l = some v → k ∈ l.map (·.1)
  | (j, x) :: r, v, h => by
    simp only [lookupL] at h
    split at h
    · rename_i e; simp [e]
    · simp only [List.map_cons, List.mem_cons]; exact .inr (lookupL_mem h)

theorem bytesL_pure (l : List Nat) : pureL (bytesL l) = true := by
  induction l with
  | nil => rfl
  | cons n l ih => simp only [bytesL, List.map_cons, pureL, AV.pure, Bool.true_and]; exact ih

/-- 'math.Float64bits' and its other way have no body here. -/
structure ExtIs (P : Program) (f : FuncId) (e : Array Value → Sem Value) : Prop where
  is : ∃ fn, P.funcs[f]? = some fn ∧ (fn.name == "runtime.NumGoroutine") = false ∧ fn.body.isNone = true ∧ Extern.findNext fn = none ∧ Extern.find fn = some e

theorem ExtIs.run {P : Program} {f : FuncId} {e : Array Value → Sem Value} (h : ExtIs P f e) {w : World} {vs : Array Value} {cv : Value} (he : (e vs).run P w = .ok cv w) : (callFunc f vs).run P w = .ok (.value cv) w := by
  obtain ⟨fn, h1, h2, h3, h4, h5⟩ := h.is
  have h2' : ¬ fn.name = "runtime.NumGoroutine" := by simpa using h2
  have h3' : fn.body = none := by simpa using h3
  simp [callFunc, h1, h2', h3', h4, h5, he]

/-- Where the surroundings are in order. -/
theorem env_good {P : Program} {T : Tab} (hmix : P.follows .mixedOrders = true) (hb : ExtIs P T.bits Extern.MathFloatBits.float64bits) (hf : ExtIs P T.fromBits Extern.MathFloatBits.float64frombits)
    (hd : ((T.win.map (·.1)).all fun f => drawCheck (env P T) f) = true) : EnvGood (env P T) where
  funs := fun f fn h => h
  xhs := fun _ _ h => by cases h
  tbs := fun _ _ _ _ _ h => by cases h
  tus := fun _ _ _ h => by cases h
  jns := fun _ _ h => by cases h
  tcs := fun _ _ _ _ h => by cases h
  exts := fun f g hg args v hv I Z w vs hL => by
    simp only [env] at hg
    split at hg
    · rename_i hf'
      cases hg
      subst hf'
      unfold bitsX at hv
      split at hv
      · rename_i x
        obtain ⟨y, r, hy, hyr, hr⟩ := hL.inv_cons
        obtain rfl := hr.inv_nil
        subst hy
        cases hyr with
        | f k x y hxy =>
          refine ⟨.int .u64 y, hb.run rfl, ?_⟩
          cases hv
          split
          · exact .any _
          · rename_i hn
            rcases hxy with rfl | ⟨h1, _⟩
            · exact .i _ _
            · exact absurd h1 hn
      · cases hv
    · split at hg
      · rename_i hf'
        cases hg
        subst hf'
        unfold fromBitsX at hv
        split at hv
        · split at hv
          · rename_i n hn
            obtain ⟨y, r, hy, hyr, hr⟩ := hL.inv_cons
            obtain rfl := hr.inv_nil
            subst hy
            cases hyr
            cases hv
            exact ⟨.float .f64 n.toNat, hf.run rfl, .f _ _ _ (.inl rfl)⟩
          · cases hv
        · cases hv
      · cases hg
  pures := fun g cs h => by
    obtain ⟨l, _, rfl⟩ := Option.map_eq_some_iff.1 h
    exact bytesL_pure l
  hookfree := fun _ _ => rfl
  hookfree4 := fun _ _ => rfl
  mixed := hmix
  hooks := fun f g h => by cases h
  phooks := fun f g h => by cases h
  draws := fun f fn c hfn hc x hx W hW => by
    have hW' : (lookupL f T.win).bind (lookupL x.1) = some W := hW
    obtain ⟨l, h1, _⟩ := Option.bind_eq_some_iff.1 hW'
    have := List.all_eq_true.1 hd f (lookupL_mem h1)
    unfold drawCheck at this
    simp only [hfn, hc] at this
    have := List.all_eq_true.1 this x hx
    rw [hW] at this
    simpa using this

end
end Go.Av
