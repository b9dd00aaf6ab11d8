/-
  Surroundings with names, in order.
-/
import Derived.Test.YtjddbeecnnbebaaGreatDoorAvW
import Derived.Test.YtjddbeecnnbebaaGreatDoorAvF
namespace Go.Av
noncomputable section
set_option linter.unusedSimpArgs false
set_option linter.unusedVariables false
set_option linter.unusedSectionVars false
set_option maxRecDepth 20000

def bitsY (a : List AV) : Option AV := match bitsX a with | some r => some r | none => xbT a
def fromBitsY (neg : Nat → Bool) (a : List AV) : Option AV := match fromBitsX a with | some r => some r | none => xfT neg a

def envT (P : Program) (T : Tab) (neg : Nat → Bool) : Env where
  P := P
  glob := fun g => (lookupL g T.glob).map bytesL
  fun_ := fun f => P.funcs[f]?
  mode := fun f => T.mode.getD f 0
  hook := fun _ => none
  phook := fun _ => none
  ext := fun f => if f = T.bits then some bitsY else if f = T.fromBits then some (fromBitsY neg) else none
  ownLit := ownBytes P
  win := fun f id => (lookupL f T.win).bind (lookupL id)
  xh := fun _ => none
  tb := tbT neg
  tu := tuT neg
  tc := tcT P

theorem inv_one {I : Inj} {Z : Zed} [Toks] {a : AV} {vs : List Value} (hL : LRel I Z [a] vs) : ∃ v, vs = [v] ∧ VRel I Z a v := by
  obtain ⟨y, r, hy, hyr, hr⟩ := hL.inv_cons
  obtain rfl := hr.inv_nil
  exact ⟨y, hy, hyr⟩

theorem tcT_ok {P : Program} (fl : Nat → Fl) (hok : ∀ i, (fl i).Ok) {src dst : TypeId} {x r : AV} (e : tcT P src dst x = some r) (I : Inj) (Z : Zed) (w : World) (v : Value) (hv : @VRel (toks fl) I Z x v) :
    ∃ cv, (convert src dst v).run P w = .ok cv w ∧ @VRel (toks fl) I Z r cv := by
  letI := toks fl
  unfold tcT at e
  split at e
  · rename_i a
    have o := hok (a / 100)
    have hk := o.klt
    cases hv with
    | tok _ _ hv =>
    have hv' : flVal (fl (a / 100)) (a % 100) = v := hv
    split at e
    · rename_i d hs hd
      split at e
      · rename_i h
        cases e
        rw [flVal_s _ h] at hv'
        subst hv'
        refine ⟨U .u8 ((fl (a / 100)).K / 2 ^ (8 * (a % 100 - 10)) % 256), ?_, .tok _ _ ?_⟩
        · unfold U
          rw [← wrap_u8]
          simp [convert, run_underlying hs, run_underlying hd, Conv.intToInt]
        · show flVal (fl ((100 * (a / 100) + (a % 100 + 10)) / 100)) ((100 * (a / 100) + (a % 100 + 10)) % 100) = _
          rw [show (100 * (a / 100) + (a % 100 + 10)) / 100 = a / 100 by omega, show (100 * (a / 100) + (a % 100 + 10)) % 100 = a % 100 + 10 by omega, flVal_b _ (by omega), show a % 100 + 10 - 20 = a % 100 - 10 by omega]
      · cases e
    · rename_i d hs hd
      split at e
      · rename_i h
        cases e
        rw [flVal_b _ h] at hv'
        subst hv'
        have hb : (fl (a / 100)).K / 2 ^ (8 * (a % 100 - 20)) % 256 < 256 := Nat.mod_lt _ (by decide)
        refine ⟨U .u64 ((fl (a / 100)).K / 2 ^ (8 * (a % 100 - 20)) % 256), ?_, .tok _ _ ?_⟩
        · have hw : IntKind.wrap .u64 (((fl (a / 100)).K / 2 ^ (8 * (a % 100 - 20)) % 256 : Nat) : Int) = ((fl (a / 100)).K / 2 ^ (8 * (a % 100 - 20)) % 256 : Nat) := wrap_u64 (by omega)
          unfold U
          conv => rhs; rw [← hw]
          simp [convert, run_underlying hs, run_underlying hd, Conv.intToInt]
        · show flVal (fl ((100 * (a / 100) + (a % 100 + 10)) / 100)) ((100 * (a / 100) + (a % 100 + 10)) % 100) = _
          rw [show (100 * (a / 100) + (a % 100 + 10)) / 100 = a / 100 by omega, show (100 * (a / 100) + (a % 100 + 10)) % 100 = a % 100 + 10 by omega, flVal_w _ (by omega), show a % 100 + 10 - 30 = a % 100 - 20 by omega]
      · cases e
    · cases e
  · cases e

theorem envT_good {P : Program} {T : Tab} (fl : Nat → Fl) (hok : ∀ i, (fl i).Ok) (hmix : P.follows .mixedOrders = true) (hb : ExtIs P T.bits Extern.MathFloatBits.float64bits) (hf : ExtIs P T.fromBits Extern.MathFloatBits.float64frombits)
    (hd : ((T.win.map (·.1)).all fun f => drawCheck (envT P T fun i => (fl i).neg) f) = true) : @EnvGood (toks fl) (envT P T fun i => (fl i).neg) := by
  letI := toks fl
  exact {
    funs := fun f fn h => h
    xhs := fun _ _ h => by cases h
    tbs := fun op t x y r h I Z w v u ox oy hv hu => by
      obtain ⟨h1, h2⟩ := tbT_ok fl (P := P) hok h
      exact tb_ok h1 h2 I Z w v u ox oy hv hu
    tus := fun op x r h I Z w v hv => by
      obtain ⟨h1, h2⟩ := tuT_ok fl hok h
      have hx := conc_rel hv
      have key : ∃ cv, (Op.unary op v).run P w = .ok cv w ∧ VRel I Z (conc r) cv := by
        generalize conc x = x' at h1 hx
        generalize conc r = r' at h1
        unfold unA at h1
        split at h1
        · cases h1; cases hx; exact ⟨_, by simp [Op.unary, Op.intArith], .i _ _⟩
        · cases h1; cases hx; exact ⟨_, rfl, .i _ _⟩
        · cases h1; cases hx; exact ⟨_, rfl, .b _⟩
        · cases h1
      obtain ⟨cv, h3, h4⟩ := key
      exact ⟨cv, h3, conc_back h2 h4⟩
    tcs := fun src dst x r h I Z w v hv => tcT_ok fl hok h I Z w v hv
    exts := fun f g hg args v hv I Z w vs hL => by
      simp only [envT] at hg
      split at hg
      · rename_i hf'
        cases hg
        subst hf'
        unfold bitsY at hv
        split at hv
        · rename_i r0 hv0
          cases hv
          unfold bitsX at hv0
          split at hv0
          · rename_i x
            obtain ⟨y, rfl, hyr⟩ := inv_one hL
            cases hyr with
            | f k x y hxy =>
              refine ⟨.int .u64 y, hb.run rfl, ?_⟩
              cases hv0
              split
              · exact .any _
              · rename_i hn
                rcases hxy with rfl | ⟨h1, _⟩
                · exact .i _ _
                · exact absurd h1 hn
          · cases hv0
        · rename_i hnn; clear hnn
          unfold xbT at hv
          split at hv
          · rename_i a
            split at hv
            · rename_i ha
              cases hv
              obtain ⟨y, rfl, hyr⟩ := inv_one hL
              cases hyr with
              | tok _ _ hy =>
              have hy' : flVal (fl (a / 100)) (a % 100) = y := hy
              rw [ha] at hy'
              subst hy'
              refine ⟨U .u64 (fl (a / 100)).X, hb.run rfl, .tok _ _ ?_⟩
              show flVal (fl ((100 * (a / 100) + 1) / 100)) ((100 * (a / 100) + 1) % 100) = _
              rw [show (100 * (a / 100) + 1) / 100 = a / 100 by omega, show (100 * (a / 100) + 1) % 100 = 1 by omega]
              rfl
            · cases hv
          · cases hv
      · split at hg
        · rename_i hf'
          cases hg
          subst hf'
          unfold fromBitsY at hv
          split at hv
          · rename_i r0 hv0
            cases hv
            unfold fromBitsX at hv0
            split at hv0
            · split at hv0
              · rename_i n hn
                obtain ⟨y, rfl, hyr⟩ := inv_one hL
                cases hyr
                cases hv0
                exact ⟨.float .f64 n.toNat, hf.run rfl, .f _ _ _ (.inl rfl)⟩
              · cases hv0
            · cases hv0
          · rename_i hnn; clear hnn
            unfold xfT at hv
            split at hv
            · rename_i a
              split at hv
              · rename_i ha
                cases hv
                obtain ⟨y, rfl, hyr⟩ := inv_one hL
                cases hyr with
                | tok _ _ hy =>
                have o := hok (a / 100)
                have hlt := o.lt
                have hk := o.key
                have hy' : flVal (fl (a / 100)) (a % 100) = y := hy
                have hX : y = U .u64 (fl (a / 100)).X := by
                  rcases ha with ⟨h1, h2⟩ | ⟨h1, h2⟩
                  · rw [h1] at hy'; exact hy'.symm
                  · rw [h1] at hy'
                    have h2' : (fl (a / 100)).neg = true := h2
                    rw [h2'] at hk
                    have hk' : (fl (a / 100)).K = 2 ^ 64 - 1 - (fl (a / 100)).X := by simpa using hk
                    rw [← hy']
                    show U .u64 (2 ^ 64 - 1 - (fl (a / 100)).K) = _
                    rw [hk', show 2 ^ 64 - 1 - (2 ^ 64 - 1 - (fl (a / 100)).X) = (fl (a / 100)).X by omega]
                subst hX
                refine ⟨.float .f64 (fl (a / 100)).X, hf.run ?_, .tok _ _ ?_⟩
                · show Result.ok (Value.float .f64 ((((fl (a / 100)).X : Nat) : Int).toNat)) w = _
                  rfl
                · show flVal (fl ((100 * (a / 100)) / 100)) ((100 * (a / 100)) % 100) = _
                  rw [show (100 * (a / 100)) / 100 = a / 100 by omega, show (100 * (a / 100)) % 100 = 0 by omega]
                  rfl
              · cases hv
            · cases hv
        · cases hg
    pures := fun g cs h => by
      obtain ⟨l, _, rfl⟩ := Option.map_eq_some_iff.1 h
      exact bytesL_pure l
    hookfree := fun _ _ => rfl
    hookfree4 := fun _ _ => rfl
    mixed := hmix
    hooks := fun f g h => by cases h
    phooks := fun f g h => by cases h
    draws := fun f fn c hfn hc x hx W hW => by
      have hW' : (lookupL f T.win).bind (lookupL x.1) = some W := hW
      obtain ⟨l, h1, _⟩ := Option.bind_eq_some_iff.1 hW'
      have := List.all_eq_true.1 hd f (lookupL_mem h1)
      unfold drawCheck at this
      simp only [hfn, hc] at this
      have := List.all_eq_true.1 this x hx
      rw [hW] at this
      simpa using this }
end
end Go.Av
