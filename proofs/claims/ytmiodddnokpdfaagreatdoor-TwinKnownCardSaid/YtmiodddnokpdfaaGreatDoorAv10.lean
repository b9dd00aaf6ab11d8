/-
  Conversions, calls of builtins, methods: what the abstract machine says of an operation, the model does.
-/
import Derived.Test.YtmiodddnokpdfaaGreatDoorAv9
import Derived.Laws.BytesString
import Derived.Laws.IdiomStrings
namespace Go.Av
noncomputable section
set_option linter.unusedSectionVars false
variable [Toks]
set_option linter.unusedSimpArgs false
set_option linter.unusedVariables false

section run
variable {P : Program} {w : World}

theorem mapM_bytes {I : Inj} {Z : Zed} : ∀ (cs : List AV) (vs : List Value) (l : List Int), LRel I Z cs vs → cs.mapM byteA = some l → vs = l.map (Value.int .u8)
  | [], vs, l, hL, e => by rw [hL.inv_nil]; simp at e; subst e; rfl
  | c :: cs, vs, l, hL, e => by
    obtain ⟨v, r, rfl, hv, hr⟩ := hL.inv_cons
    simp only [List.mapM_cons, Option.bind_eq_bind, Option.pure_def] at e
    cases hb : byteA c with
    | none => simp [hb] at e
    | some n =>
      cases hm : cs.mapM byteA with
      | none => simp [hb, hm] at e
      | some l' =>
        simp [hb, hm] at e
        subst e
        rw [mapM_bytes cs r l' hr hm]
        unfold byteA at hb
        split at hb
        · cases hb; cases hv; rfl
        · cases hb

theorem convA_rel {I : Inj} {Z : Zed} {h h' : AH} (hr : Rel I Z h w) {src dst : TypeId} {x r : AV} {v : Value} (hv : VRel I Z x v) (e : convA P h src dst x = some (r, h')) :
    ∃ J cv w', (convert src dst v).run P w = .ok cv w' ∧ Goes I Z h w J Z h' w' ∧ VRel J Z r cv := by
  unfold convA at e
  split at e
  · rename_i d k kk n hs hd
    cases hv; cases e
    exact ⟨I, .int k (k.wrap n), w, by simp [convert, run_underlying hs, run_underlying hd, Conv.intToInt], .refl hr, .i _ _⟩
  · rename_i d k kk n hs hd
    cases hv; cases e
    exact ⟨I, .float k (k.nearest n), w, by simp [convert, run_underlying hs, run_underlying hd, Conv.intToFloat], .refl hr, .f _ _ _ (.inl rfl)⟩
  · rename_i d k kk a hs hd
    split at e
    · rename_i hk
      cases e
      subst hk
      cases hv with
      | f _ _ y hh => exact ⟨I, .float k y, w, by simp [convert, run_underlying hs, run_underlying hd, Conv.floatToFloat], .refl hr, .f _ _ _ hh⟩
    · cases e
  · rename_i d s hs hd
    cases hv; cases e
    exact ⟨I, .string s, w, by simp [convert, run_underlying hs, run_underlying hd], .refl hr, .s _⟩
  · rename_i el s hs hd
    split at e
    · rename_i he
      split at e
      · rename_i hc
        cases e
        cases hv
        have hrun := run_bytes_of_string (P := P) w src dst el s hs hd he
        have hdrew := Goes.drew hr (w.drawn + 1)
        have hsz : (bytesRow s (grownCap w s.size 0 el)).size = grownCap w s.size 0 el := by
          have hge : s.size ≤ grownCap w s.size 0 el := by unfold grownCap; simp only [Question.cut]; omega
          simp [bytesRow]
          omega
        have hge : s.size ≤ grownCap w s.size 0 el := by unfold grownCap; simp only [Question.cut]; omega
        have hal := Goes.alloc hdrew.rel (o := .cells 1 (s.data.toList.map fun c => .i .u8 c.toNat)) (ob := .cells (bytesRow s (grownCap w s.size 0 el)) el ((bytesRow s (grownCap w s.size 0 el)).size, (bytesRow s (grownCap w s.size 0 el)).size + 1))
          (w' := w.drew.alloc (.cells (bytesRow s (grownCap w s.size 0 el)) el ((bytesRow s (grownCap w s.size 0 el)).size, (bytesRow s (grownCap w s.size 0 el)).size + 1)))
          (B := ⟨w.heap.size, 0, 1, (bytesRow s (grownCap w s.size 0 el)).size⟩) rfl rfl rfl rfl (fun es cs e => by
            cases e
            refine ⟨rfl, bytesRow s (grownCap w s.size 0 el), el, ((bytesRow s (grownCap w s.size 0 el)).size, (bytesRow s (grownCap w s.size 0 el)).size + 1), by rw [show (w.drew.alloc (.cells (bytesRow s (grownCap w s.size 0 el)) el ((bytesRow s (grownCap w s.size 0 el)).size, (bytesRow s (grownCap w s.size 0 el)).size + 1))).heap = w.heap.push _ from rfl]; simp, rfl, ?_, fun j a hj => ?_, .inr ⟨rfl, rfl⟩, fun j v hv => ?_⟩
            · rw [hsz, List.length_map, Array.length_toList]; have : s.data.size = s.size := rfl; simp only [Nat.zero_add]; omega
            · obtain ⟨v, hv, hvr⟩ := (strCells_rel (I := I) (Z := Z) s).get hj
              refine ⟨?_, v, ?_, hvr⟩
              · rw [List.getElem?_map] at hj
                cases hx : s.data.toList[j]? with
                | none => simp [hx] at hj
                | some c => simp [hx] at hj; subst hj; rfl
              · rw [List.getElem?_map] at hv
                cases hx : s.data.toList[j]? with
                | none => simp [hx] at hv
                | some c =>
                  simp [hx] at hv; subst hv
                  have hjl : j < s.data.size := by have := (List.getElem?_eq_some_iff.1 hx).1; simpa using this
                  rw [Nat.zero_add]
                  unfold bytesRow
                  rw [Array.getElem?_append_left (by simpa using hjl)]
                  have hx' : s.data[j]? = some c := by simpa using hx
                  simp [hx']
            · unfold bytesRow at hv
              have hm := Array.mem_of_getElem? hv
              simp only [Array.mem_append, Array.mem_map, Array.mem_replicate] at hm
              rcases hm with ⟨c, _, rfl⟩ | ⟨_, rfl⟩ <;> rfl) (fun es e => by cases e)
        refine ⟨_, _, _, hrun, hdrew.trans hr hal, ?_⟩
        have : VRel (I.put h.next ⟨w.heap.size, 0, 1, (bytesRow s (grownCap w s.size 0 el)).size⟩) Z (.own h.next 0 s.size none) (.slice (some ⟨w.heap.size, 0 + 0, none⟩) s.size (grownCap w s.size 0 el)) :=
          VRel.own Inj.put_same hge (by simp [capOk, hsz])
        exact this
      · cases e
    · cases e
  · rename_i el0 el k o n cap hs hd
    split at e
    · rename_i es cs hg he
      split at e
      · rename_i hsd
        cases e
        obtain ⟨B, hB, hes, arr, elem, fr, a1, a2, a3, a4, a5⟩ := hr.cells k es cs hg
        have hbl : ∃ off len c, v = .slice (some ⟨B.blk, off, none⟩) len c := by
          cases hv with
          | @own _ _ _ capC _ B' hk hn hc => rw [hB] at hk; cases hk; exact ⟨_, _, _, rfl⟩
          | @own0 _ _ off _ B' hk hc => rw [hB] at hk; cases hk; exact ⟨_, _, _, rfl⟩
        obtain ⟨off, len, c, rfl⟩ := hbl
        refine ⟨I, _, w.freeze ⟨B.blk, arr.size, none⟩ 1, ?_, Goes.stringish hr hg hsd.2 hB a1, hv⟩
        have hsh : w.shape? B.blk = some (elem, arr.size) := by simp [World.shape?, a1]
        have hsd' : (src == dst) = true := by simpa using hsd.1
        simp only [convert, Sem.run_bind, run_underlying hs, run_underlying hd, Result.andThen_ok, run_underlying he, hsd', markStringish, run_shape, hsh, run_freeze, Sem.run_pure]
      · cases e
    · cases e
  · rename_i el hs hd _hno
    split at e
    · rename_i he
      obtain ⟨cs, hsc, e⟩ := Option.bind_eq_some_iff.1 e
      · cases hm : cs.mapM byteA with
        | none => simp [hm] at e
        | some l =>
          simp only [hm, Option.map_some, Option.some.injEq, Prod.mk.injEq] at e
          obtain ⟨rfl, rfl⟩ := e
          obtain ⟨n, vs, e1, e2, e3, e4, e5⟩ := sliceCells_rel (P := P) hr (es := 1) hv hsc
          have hvs := mapM_bytes cs vs l e3 hm
          refine ⟨I, .string _, w, ?_, .refl hr, .s _⟩
          have h4 := e4 w rfl
          have hn : n = cs.length := by omega
          cases v with
          | slice a len cap =>
            have hlen : len = n := by
              have : (pure len : Sem Nat).run P w = (pure n : Sem Nat).run P w := by rw [← e1]; rfl
              simpa using this
            subst hlen
            rw [run_convert_bytes_string w src dst el a len cap hs he hd]
            cases a with
            | none =>
              simp only [Builtin.firstCells, Sem.run_pure, Result.ok.injEq, and_true] at h4
              have : vs = [] := by have := congrArg Array.toList h4; simpa using this.symm
              rw [hvs] at this
              have hl0 : l = [] := by simpa using this
              subst hl0
              simp [Conv.bytesToString]
            | some a =>
              refine run_bytesToString w a len cap l ?_
              have h4' := h4
              simp only [Builtin.firstCells, Nat.mul_one] at h4'
              rw [h4', hvs]
          | _ => cases hv <;> simp [sliceCells] at hsc
    · cases e
  · cases e


/-- What the abstract machine is told of the program is so. -/
structure EnvOk (E : Env) : Prop where
  funs : ∀ f fn, E.fun_ f = some fn → E.P.funcs[f]? = some fn
  exts : ∀ f g, E.ext f = some g → ∀ args v, g args = some v → ∀ I Z (w : World) (vs : List Value), LRel I Z args vs → ∃ cv, (callFunc f vs.toArray).run E.P w = .ok (.value cv) w ∧ VRel I Z v cv
  xhs : ∀ f g, E.xh f = some g → ∀ args h v, g args h = some v → ∀ I Z (w : World) (vs : List Value), LRel I Z args vs → Rel I Z h w → ∃ cv d, (callFunc f vs.toArray).run E.P w = .ok (.value cv) { w with drawn := d } ∧ VRel I Z v cv
  tbs : ∀ op t x y r, E.tb op t x y = some r → ∀ I Z (w : World) v u ox oy, VRel I Z x v → VRel I Z y u →
    ∃ cv w', (do eqGuard op t ox oy v u; binOp op t v u : Sem Value).run E.P w = .ok cv w' ∧ VRel I Z r cv ∧ ∃ d, w' = { w with drawn := d }
  tus : ∀ op x r, E.tu op x = some r → ∀ I Z (w : World) v, VRel I Z x v → ∃ cv, (Op.unary op v).run E.P w = .ok cv w ∧ VRel I Z r cv
  jns : ∀ n f, E.jn n = some f → ∃ b, Toks.val n = .bool b ∧ ∀ x y r, f x y = some r → ∀ I Z v, (b = true → VRel I Z x v → VRel I Z r v) ∧ (b = false → VRel I Z y v → VRel I Z r v)
  tcs : ∀ src dst x r, E.tc src dst x = some r → ∀ I Z (w : World) v, VRel I Z x v → ∃ cv, (convert src dst v).run E.P w = .ok cv w ∧ VRel I Z r cv

theorem args_rel {I : Inj} {Z : Zed} {E : Env} (hg : Glob I Z E) {t : List AV} {a : Act} (ht : LRel I Z t a.tmps.toList) (l : List Operand) : LRel I Z (l.map (evA E t)) (l.map a.eval) := by
  induction l with
  | nil => exact .nil
  | cons o l ih => exact .cons (evA_rel hg ht o) ih

theorem parts_rel {I : Inj} {Z : Zed} {E : Env} (hg : Glob I Z E) {t : List AV} {a : Act} (ht : LRel I Z t a.tmps.toList) (l : List (Nat × Operand)) :
    PRel I Z (l.map fun x => (x.1, evA E t x.2)) (l.map fun x => (x.1, a.eval x.2)) := PRel.map l (evA_rel hg ht)

theorem opt_rel {I : Inj} {Z : Zed} {E : Env} (hg : Glob I Z E) {t : List AV} {a : Act} (ht : LRel I Z t a.tmps.toList) (o : Option Operand) : ORel I Z (o.map (evA E t)) (o.map a.eval) := ORel.map o (evA_rel hg ht)

theorem builtinA_rel {I : Inj} {Z : Zed} {h h' : AH} (hr : Rel I Z h w) {b : Builtin} {ts : Array TypeId} {ty : TypeId} {cs : Array Bool} {args : List AV} {vs : List Value} (hL : LRel I Z args vs) {r : AV}
    (e : builtinA P h b ts args = some (r, h')) : ∃ J cv w', (builtin b ts ty cs vs.toArray).run P w = .ok (.value cv) w' ∧ Goes I Z h w J Z h' w' ∧ VRel J Z r cv := by
  unfold builtinA at e
  split at e
  · obtain ⟨v1, l1, rfl, h1, hL1⟩ := hL.inv_cons
    obtain ⟨v2, l2, rfl, h2, hL2⟩ := hL1.inv_cons
    obtain rfl := hL2.inv_nil
    split at e
    · rename_i t0 t1 e0 e1
      obtain ⟨J, cv, w', s1, s2, s3⟩ := append_ret (P := P) (ty := ty) e0 e1 hr h1 h2 e
      exact ⟨J, cv, w', by simp [builtin, s1], s2, s3⟩
    · cases e
  · obtain ⟨v1, l1, rfl, h1, hL1⟩ := hL.inv_cons
    obtain ⟨v2, l2, rfl, h2, hL2⟩ := hL1.inv_cons
    obtain rfl := hL2.inv_nil
    split at e
    · rename_i t0 t1 e0 e1
      obtain ⟨cv, w', s1, s2, s3⟩ := copyA_rel (P := P) (ty := ty) hr e0 h1 h2 e
      exact ⟨I, cv, w', by simp [builtin, s1], s2, s3⟩
    · cases e
  · obtain ⟨v1, l1, rfl, h1, hL1⟩ := hL.inv_cons
    obtain rfl := hL1.inv_nil
    split at e
    · rename_i t0 e0
      obtain ⟨cv, w', s1, s2, s3⟩ := clearA_rel (P := P) (ty := ty) hr e0 h1 e
      exact ⟨I, cv, w', by simp [builtin, s1], s2, s3⟩
    · cases e
  · obtain ⟨v1, l1, rfl, h1, hL1⟩ := hL.inv_cons
    obtain rfl := hL1.inv_nil
    split at e
    · rename_i t0 e0
      obtain ⟨v, e1, e2⟩ := Option.map_eq_some_iff.1 e
      cases e2
      obtain ⟨cv, s1, s3⟩ := lenA_rel (P := P) (ty := ty) hr e0 h1 e1
      exact ⟨I, cv, w, by simp [builtin, s1], .refl hr, s3⟩
    · cases e
  · obtain ⟨v1, l1, rfl, h1, hL1⟩ := hL.inv_cons
    obtain ⟨v2, l2, rfl, h2, hL2⟩ := hL1.inv_cons
    obtain rfl := hL2.inv_nil
    split at e
    · rename_i t0 e0
      obtain ⟨cv, w', s1, s2, s3⟩ := deleteA_rel (P := P) (ty := ty) hr e0 h1 h2 e
      exact ⟨I, cv, w', by simp [builtin, s1], s2, s3⟩
    · cases e
  · obtain ⟨v1, l1, rfl, h1, hL1⟩ := hL.inv_cons
    obtain rfl := hL1.inv_nil
    split at e
    · rename_i t0 e0
      obtain ⟨v, e1, e2⟩ := Option.map_eq_some_iff.1 e
      cases e2
      unfold capA at e1
      split at e1
      · rename_i hu
        cases e1
        cases h1 with
        | own hk hn hc => exact ⟨I, _, w, by simp [builtin, Builtin.cap_, e0, run_underlying hu]; rfl, .refl hr, by have h5 := hc; simp only [capOk] at h5; subst h5; exact .i _ _⟩
        | own0 hk hc => exact ⟨I, _, w, by simp [builtin, Builtin.cap_, e0, run_underlying hu]; rfl, .refl hr, by have h5 := hc; simp only [capOk] at h5; subst h5; exact .i _ _⟩
      · rename_i hu
        split at e1
        · rename_i es cs hk
          cases e1
          obtain ⟨B, hB, hes, arr, elem, fr, a1, a2, a3, a4, a5⟩ := hr.cells _ _ _ hk
          have main : ∀ capC o, B.d + o + capC * B.es = B.N → (((cs.length - o) / es : Nat) : Int) ≤ (capC : Int) := fun capC o hc => by
            rcases Nat.eq_zero_or_pos es with he | he
            · subst he; simp
            · have : (cs.length - o) / es ≤ capC := by
                refine Nat.div_le_of_le_mul ?_
                rw [hes] at hc
                rw [Nat.mul_comm]; omega
              exact_mod_cast this
          cases h1 with
          | own hk' hn hc =>
            rw [hB] at hk'; cases hk'
            exact ⟨I, _, w, by simp [builtin, Builtin.cap_, e0, run_underlying hu]; rfl, .refl hr, .ig _ _ _ (main _ _ (by simpa only [capOk] using hc))⟩
          | own0 hk' hc =>
            rw [hB] at hk'; cases hk'
            exact ⟨I, _, w, by simp [builtin, Builtin.cap_, e0, run_underlying hu]; rfl, .refl hr, .ig _ _ _ (main 0 _ (by simpa only [capOk] using hc))⟩
        · cases e1
      · cases e1
    · cases e
  · obtain ⟨v1, l1, rfl, h1, hL1⟩ := hL.inv_cons
    obtain ⟨v, e1, e2⟩ := Option.map_eq_some_iff.1 e
    cases e2
    obtain ⟨cv, s1, s3⟩ := foldA_rel (P := P) (w := w) (fun x y r v u a b c => min2A_rel (P := P) (w := w) a b c) _ _ _ _ _ hL1 h1 e1
    exact ⟨I, cv, w, by simp [builtin, Builtin.min_, s1], .refl hr, s3⟩
  · obtain ⟨v1, l1, rfl, h1, hL1⟩ := hL.inv_cons
    obtain ⟨v, e1, e2⟩ := Option.map_eq_some_iff.1 e
    cases e2
    obtain ⟨cv, s1, s3⟩ := foldA_rel (P := P) (w := w) (fun x y r v u a b c => max2A_rel (P := P) (w := w) a b c) _ _ _ _ _ hL1 h1 e1
    exact ⟨I, cv, w, by simp [builtin, Builtin.max_, s1], .refl hr, s3⟩
  · cases e

theorem callFnA_rel {E : Env} (hE : EnvOk E) {h : AH} {f g : FuncId} {args as' : List AV} (e : callFnA E h f args = some (.enter g as')) : f = g ∧ args = as' ∧ ∀ (vs : Array Value) (w : World), (callFunc f vs).run E.P w = .ok (.enter f vs) w := by
  unfold callFnA at e
  split at e
  · obtain ⟨_, _, h⟩ := Option.map_eq_some_iff.1 e; cases h
  · split at e
    · split at e
      · obtain ⟨_, _, h⟩ := Option.map_eq_some_iff.1 e; cases h
      · cases e
    split at e
    · rename_i fn hf
      split at e
      · cases e
      · rename_i hc
        cases e
        refine ⟨rfl, rfl, fun vs w => ?_⟩
        have := hE.funs f fn hf
        have h1 : ¬ fn.name = "runtime.NumGoroutine" := fun h => hc (.inl h)
        cases hb : fn.body with
        | none => exact absurd (.inr (by simp [hb])) hc
        | some c => simp [callFunc, this, h1, hb]
    · cases e

theorem callFnA_val {E : Env} (hE : EnvOk E) {h h' : AH} {f : FuncId} {args : List AV} {v : AV} (e : callFnA E h f args = some (.val v h')) :
    h' = h ∧ ∀ I Z (w : World) (vs : List Value), LRel I Z args vs → Rel I Z h w → ∃ cv d, (callFunc f vs.toArray).run E.P w = .ok (.value cv) { w with drawn := d } ∧ VRel I Z v cv := by
  unfold callFnA at e
  split at e
  · rename_i g hg
    obtain ⟨v', h1, h2⟩ := Option.map_eq_some_iff.1 e
    cases h2
    refine ⟨rfl, fun I Z w vs hL _ => ?_⟩
    obtain ⟨cv, h3, h4⟩ := hE.exts f g hg args _ h1 I Z w vs hL
    exact ⟨cv, w.drawn, h3, h4⟩
  · split at e
    · split at e
      · rename_i g hg
        obtain ⟨v', h1, h2⟩ := Option.map_eq_some_iff.1 e
        cases h2
        exact ⟨rfl, hE.xhs f g hg args _ _ h1⟩
      · cases e
    split at e
    · split at e <;> cases e
    · cases e

theorem methodA_rel {t : TypeId} {name : String} {f : FuncId} (e : methodA P t name = some f) (v : Value) (n : Nat) : (method (n + 1) t v name).run P w = .ok (f, v) w := by
  unfold methodA at e
  split at e
  · rename_i i el hi hu
    split at e
    · rename_i m hm
      split at e
      · rename_i hp
        split at e
        · rename_i g hf
          cases e
          have hp' : m.path.toList = [] := by simpa using hp
          have hti : (typeInfo t).run P w = .ok i w := by simp [typeInfo, hi]
          simp only [method, Sem.run_bind, hti, Result.andThen_ok, hm, hp', follow, Sem.run_pure, hf]
          simp [receiverAt, run_underlying hu, Place.get]
        · cases e
      · cases e
    · cases e
  · cases e

/-- An operation that ends at once. -/
theorem execA_val {E : Env} (hE : EnvOk E) {I : Inj} {Z : Zed} (hg : Glob I Z E) {t : List AV} {a : Act} {h h' : AH} (ht : LRel I Z t a.tmps.toList) (hr : Rel I Z h w) {o : Oper} {r : AV} (e : execA E t h o = some (.val r h')) :
    ∃ J Y w' cv, Goes I Z h w J Y h' w' ∧ VRel J Y r cv ∧ ((execOp a.eval o).run E.P w = .ok (.value cv) w' ∨ ((execOp a.eval o).run E.P w = .ok .skip w' ∧ cv = undef)) := by
  have ev := fun x => evA_rel hg ht x
  have hund : ∀ J, VRel J Z undefA undef := fun J => .tup rfl (fun j a v h => by simp at h)
  have pure1 : ∀ {q : Option AV} {s : Sem Value}, q.map (fun x => ON.val x h) = some (.val r h') → (∀ x, q = some x → ∃ cv, s.run E.P w = .ok cv w ∧ VRel I Z x cv) →
      ∃ cv, Goes I Z h w I Z h' w ∧ VRel I Z r cv ∧ s.run E.P w = .ok cv w := by
    intro q s e1 hs
    obtain ⟨x, hx, hx2⟩ := Option.map_eq_some_iff.1 e1
    cases hx2
    obtain ⟨cv, h1, h2⟩ := hs _ hx
    exact ⟨cv, .refl hr, h2, h1⟩
  have V : ∀ {q : Option AV} {s : Sem Value}, (execOp a.eval o).run E.P w = (do pure (Next.value (← s)) : Sem Next).run E.P w → q.map (fun x => ON.val x h) = some (.val r h') → (∀ x, q = some x → ∃ cv, s.run E.P w = .ok cv w ∧ VRel I Z x cv) →
      ∃ J Y w' cv, Goes I Z h w J Y h' w' ∧ VRel J Y r cv ∧ ((execOp a.eval o).run E.P w = .ok (.value cv) w' ∨ ((execOp a.eval o).run E.P w = .ok .skip w' ∧ cv = undef)) := by
    intro q s e0 e1 hs
    obtain ⟨cv, h1, h2, h3⟩ := pure1 e1 hs
    exact ⟨I, Z, w, cv, h1, h2, .inl (by rw [e0]; simp [h3])⟩
  have VH : ∀ {q : Option (AV × AH)} {s : Sem Value}, (execOp a.eval o).run E.P w = (do pure (Next.value (← s)) : Sem Next).run E.P w → q.map (fun x => ON.val x.1 x.2) = some (.val r h') →
      (∀ x h2, q = some (x, h2) → ∃ J cv w', s.run E.P w = .ok cv w' ∧ Goes I Z h w J Z h2 w' ∧ VRel J Z x cv) →
      ∃ J Y w' cv, Goes I Z h w J Y h' w' ∧ VRel J Y r cv ∧ ((execOp a.eval o).run E.P w = .ok (.value cv) w' ∨ ((execOp a.eval o).run E.P w = .ok .skip w' ∧ cv = undef)) := by
    intro q s e0 e1 hs
    obtain ⟨⟨x, h2⟩, hx, hx2⟩ := Option.map_eq_some_iff.1 e1
    cases hx2
    obtain ⟨J, cv, w', h1, h2, h3⟩ := hs _ _ hx
    exact ⟨J, Z, w', cv, h2, h3, .inl (by rw [e0]; simp [h1])⟩
  have U : ∀ {q : Option AH} {s : Sem Unit}, (execOp a.eval o).run E.P w = (do s; pure Next.skip : Sem Next).run E.P w → q.map (fun x => ON.val undefA x) = some (.val r h') →
      (∀ h2, q = some h2 → ∃ w', s.run E.P w = .ok () w' ∧ Goes I Z h w I Z h2 w') →
      ∃ J Y w' cv, Goes I Z h w J Y h' w' ∧ VRel J Y r cv ∧ ((execOp a.eval o).run E.P w = .ok (.value cv) w' ∨ ((execOp a.eval o).run E.P w = .ok .skip w' ∧ cv = undef)) := by
    intro q s e0 e1 hs
    obtain ⟨h2, hx, hx2⟩ := Option.map_eq_some_iff.1 e1
    cases hx2
    obtain ⟨w', h1, h2⟩ := hs _ hx
    exact ⟨I, Z, w', undef, h2, hund I, .inr ⟨by rw [e0]; simp [h1], rfl⟩⟩
  unfold execA at e
  dsimp only at e
  split at e
  · rename_i x ho; cases e; exact ⟨I, Z, w, _, .refl hr, ev x, .inl (by simp only [execOp, ho, Sem.run_pure])⟩
  · rename_i x ho; cases e; exact ⟨I, Z, w, _, .refl hr, ev x, .inl (by simp only [execOp, ho, Sem.run_pure])⟩
  · -- pick
    rename_i c x y ho
    have hc := ev c
    split at e
    · rename_i h1; rw [h1] at hc; cases e
      cases hcv : a.eval c <;> rw [hcv] at hc <;> cases hc
      exact ⟨I, Z, w, _, .refl hr, ev x, .inl (by simp [execOp, ho, hcv, asBool])⟩
    · rename_i h1; rw [h1] at hc; cases e
      cases hcv : a.eval c <;> rw [hcv] at hc <;> cases hc
      exact ⟨I, Z, w, _, .refl hr, ev y, .inl (by simp [execOp, ho, hcv, asBool])⟩
    · cases e
  · -- alloc
    rename_i el ho
    split at e
    · rename_i z hz
      split at e
      · rename_i hc
        cases e
        simp only [Bool.and_eq_true] at hc
        obtain ⟨zv, hzr, hzrel⟩ := zero_rel (I := I) (Z := Z) (w := w) hz
        obtain ⟨J, w', h1, h2, h3⟩ := newVar_rel (P := E.P) hr (elem := el) hzrel hc.1 (es := z.cells.length)
        exact ⟨J, Z, w', _, h2, h3, .inl (by simp [execOp, ho, Instr.alloc, hzr, h1])⟩
      · cases e
    · cases e
  · -- box
    rename_i el x ho
    split at e
    · rename_i hc
      cases e
      simp only [Bool.and_eq_true] at hc
      obtain ⟨J, w', h1, h2, h3⟩ := newVar_rel (P := E.P) hr (elem := el) (ev x) hc.1 (es := (evA E t x).cells.length)
      exact ⟨J, Z, w', _, h2, h3, .inl (by simp [execOp, ho, Instr.box, h1])⟩
    · cases e
  · -- build
    rename_i ty parts ho
    refine V (s := Instr.build ty (parts.map fun (i, x) => (i, a.eval x))) (by simp only [execOp, ho]) e (fun x hx => ?_)
    have := buildA_rel (P := E.P) (w := w) hx (parts_rel hg ht parts.toList)
    rwa [show (parts.toList.map fun x => (x.1, a.eval x.2)).toArray = parts.map fun x => (x.1, a.eval x.2) by apply Array.ext'; simp] at this
  · -- buildSlice
    rename_i ty len parts ho
    have hpr := parts_rel hg ht parts.toList
    have hpe : (parts.toList.map fun x => (x.1, a.eval x.2)).toArray = parts.map fun x => (x.1, a.eval x.2) := by apply Array.ext'; simp
    split at e
    · refine VH (s := Instr.buildSlice ty len (parts.map fun (i, x) => (i, a.eval x))) (by simp only [execOp, ho]) e (fun x h2 hx => ?_)
      have := buildSliceA_rel (P := E.P) hr hx hpr
      rwa [hpe] at this
    · obtain ⟨x, hx, hx2⟩ := Option.map_eq_some_iff.1 e
      cases hx2
      obtain ⟨Y, cv, w', s1, s2, s3⟩ := litSliceA_rel (P := E.P) hr hx hpr
      rw [hpe] at s1
      exact ⟨I, Y, w', cv, s2, s3, .inl (by simp only [execOp, ho, Sem.run_bind, s1, Result.andThen_ok]; rfl)⟩
  · rename_i ty x ho
    exact V (s := Instr.loadAt ty (a.eval x)) (by simp only [execOp, ho]) e (fun y hy => loadA_rel hr (ev x) hy)
  · rename_i ty x y ho
    exact U (s := Instr.storeAt ty (a.eval x) (a.eval y)) (by simp only [execOp, ho]) e (fun h2 hy => storeA_rel hr hy (ev x) (ev y))
  · -- nilCheck
    rename_i x ho
    have hx := ev x
    split at e
    · rename_i ad h1
      cases e
      rw [h1] at hx
      cases hxv : a.eval x <;> rw [hxv] at hx <;> cases hx
      rename_i hk
      exact ⟨I, Z, w, _, .refl hr, .p hk, .inl (by simp [execOp, ho, hxv])⟩
    · rename_i cs off h1
      cases e
      rw [h1] at hx
      cases hxv : a.eval x <;> rw [hxv] at hx <;> cases hx
      rename_i hz hl hv
      exact ⟨I, Z, w, _, .refl hr, .ip hl hz hv, .inl (by simp [execOp, ho, hxv])⟩
    · cases e
  · -- binOp
    rename_i op ty x y ty' ho
    obtain ⟨v, hb, e2⟩ := Option.map_eq_some_iff.1 e
    cases e2
    have hbe : ∃ cv w', (do eqGuard op ty x y (a.eval x) (a.eval y); binOp op ty (a.eval x) (a.eval y) : Sem Value).run E.P w = .ok cv w' ∧ VRel I Z r cv ∧ ∃ d, w' = { w with drawn := d } := by
      unfold binE at hb
      split at hb
      · rename_i r0 ht; cases hb; exact hE.tbs _ _ _ _ _ ht I Z w _ _ x y (ev x) (ev y)
      · exact binA_rel (w := w) hb (ev x) (ev y) x y
    obtain ⟨cv, w', h1, h2, d, rfl⟩ := hbe
    refine ⟨I, Z, _, cv, .drew hr d, h2, .inl ?_⟩
    simp only [execOp, ho]
    rw [Sem.run_bind, h1]; rfl
  · -- unOp
    rename_i op ty x ho
    refine V (s := Op.unary op (a.eval x)) (by simp only [execOp, ho]) e (fun r' hx => ?_)
    have hxv := ev x
    unfold unE at hx
    split at hx
    · rename_i r0 ht; cases hx; exact hE.tus _ _ _ ht I Z w _ hxv
    rename_i htu; clear htu
    unfold unA at hx
    split at hx
    · rename_i h1; cases hx; rw [h1] at hxv
      cases hv : a.eval x <;> rw [hv] at hxv <;> cases hxv
      exact ⟨_, by simp [Op.unary, Op.intArith], .i _ _⟩
    · rename_i h1; cases hx; rw [h1] at hxv
      cases hv : a.eval x <;> rw [hv] at hxv <;> cases hxv
      exact ⟨_, rfl, .i _ _⟩
    · rename_i h1; cases hx; rw [h1] at hxv
      cases hv : a.eval x <;> rw [hv] at hxv <;> cases hxv
      exact ⟨_, rfl, .b _⟩
    · cases hx
  · rename_i src dst x ho
    refine VH (s := convert src dst (a.eval x)) (by simp only [execOp, ho]) e (fun y h2 hy => ?_)
    unfold convE at hy
    split at hy
    · rename_i r0 ht; cases hy
      obtain ⟨cv, h1, h2⟩ := hE.tcs _ _ _ _ ht I Z w _ (ev x)
      exact ⟨I, cv, w, h1, .refl hr, h2⟩
    · exact convA_rel hr (ev x) hy
  · -- makeInterface
    rename_i ty x ho
    split at e
    · cases e
    · cases e
    · rename_i d hni hu
      cases e
      refine ⟨I, Z, w, .iface ty (a.eval x), .refl hr, .ifc (ev x), .inl ?_⟩
      simp only [execOp, ho, Instr.makeInterface, Sem.run_bind, run_underlying hu, Result.andThen_ok]
      cases d <;> first | rfl | exact absurd rfl (hni _)
  · -- makeFunc
    rename_i g first captured ho
    cases e
    have h1 := args_rel hg ht first.toList
    have h2 := args_rel hg ht captured.toList
    refine ⟨I, Z, w, .func g (first.map a.eval) (captured.map a.eval), .refl hr, ?_, .inl (by simp [execOp, ho, Instr.makeFunc])⟩
    exact .fn (by simp) (fun j x v hx hv => h1.2 j x v hx (by simpa using hv)) (by simp) (fun j x v hx hv => h2.2 j x v hx (by simpa using hv))
  · -- makeMap
    rename_i ty ho
    cases e
    have hal := Goes.alloc hr (o := .map (.es [] [] 0)) (ob := .map #[] 0) (w' := w.alloc (.map #[] 0)) (B := ⟨w.heap.size, 0, 1, 0⟩) rfl rfl rfl rfl (fun es cs e => by cases e) (fun es e => by
      cases e
      exact ⟨#[], by rw [show (w.alloc (Obj.map #[] 0)).heap = w.heap.push (.map #[] 0) from rfl]; simp, rfl, rfl, fun j a c h => by simp at h⟩)
    refine ⟨_, Z, _, .map (some w.heap.size), hal, ?_, .inl (by simp [execOp, ho, Instr.makeMap])⟩
    have : VRel (I.put h.next ⟨w.heap.size, 0, 1, 0⟩) Z (.m (some h.next)) (.map (some (BI.blk ⟨w.heap.size, 0, 1, 0⟩))) := .m Inj.put_same
    exact this
  · rename_i ty l c ho
    exact VH (s := Instr.makeSlice ty (a.eval l) (a.eval c)) (by simp only [execOp, ho]) e (fun y h2 hy => makeSliceA_rel hr (ev l) (ev c) hy)
  · rename_i ty x lo hi mx ho
    exact V (s := Instr.sliceAt ty (a.eval x) (lo.map a.eval) (hi.map a.eval) (mx.map a.eval)) (by simp only [execOp, ho]) e (fun y hy => sliceA_rel hr (ev x) (opt_rel hg ht lo) (opt_rel hg ht hi) (opt_rel hg ht mx) hy)
  · rename_i ty x j ho
    exact V (s := Instr.fieldAt ty (a.eval x) j) (by simp only [execOp, ho]) e (fun y hy => fieldAddrA_rel (ev x) hy)
  · rename_i ty x j ho
    exact V (s := Instr.field ty (a.eval x) j) (by simp only [execOp, ho]) e (fun y hy => fieldA_rel (ev x) hy)
  · rename_i ty x ix ho
    exact V (s := Instr.indexAt ty (a.eval x) (a.eval ix)) (by simp only [execOp, ho]) e (fun y hy => indexAddrA_rel (ev x) (ev ix) hy)
  · rename_i ty x ix ho
    exact V (s := Instr.index ty (a.eval x) (a.eval ix)) (by simp only [execOp, ho]) e (fun y hy => indexA_rel (ev x) (ev ix) hy)
  · rename_i ty x ix ok ho
    exact V (s := Instr.lookup ty (a.eval x) (a.eval ix) ok) (by simp only [execOp, ho]) e (fun y hy => lookupA_rel hr (ev x) (ev ix) hy)
  · rename_i ty m k x ho
    exact U (s := Instr.mapUpdate ty (a.eval m) (a.eval k) (a.eval x)) (by simp only [execOp, ho]) e (fun h2 hy => mapUpdateA_rel hr (ev m) (ev k) (ev x) hy)
  · rename_i ty m k x ho
    exact U (s := Instr.mapUpdate ty (a.eval m) (a.eval k) (a.eval x)) (by simp only [execOp, ho]) e (fun h2 hy => mapUpdateA_rel hr (ev m) (ev k) (ev x) hy)
  · -- extract
    rename_i x j ho
    have hx := ev x
    split at e
    · rename_i vs h1
      rw [h1] at hx
      refine V (s := Instr.extract (a.eval x) j) (by simp only [execOp, ho]) e (fun y hy => ?_)
      obtain ⟨cvs, h2, h3⟩ := tup_iff.1 hx
      obtain ⟨cv, h4, h5⟩ := h3.get hy
      exact ⟨cv, by simp [h2, Instr.extract, h4], h5⟩
    · cases e
  · -- range
    rename_i ty x ho
    exact VH (s := Instr.range ty (a.eval x)) (by simp only [execOp, ho]) e (fun y h2 hy => rangeA_rel hr (ev x) hy)
  · -- entry
    rename_i it ho
    exact V (s := Instr.entry (a.eval it)) (by simp only [execOp, ho]) e (fun y hy => entryA_rel hr (ev it) hy)
  · -- next
    rename_i it isS ho
    split at e
    · rename_i r1 hn
      cases e
      obtain ⟨r2, hm, cv, w', s1, s2, s3⟩ := nextA_rel (P := E.P) hr (ev it) hn o.type
      have : r2 = r1 := by simpa using hm
      subst this
      exact ⟨I, Z, w', cv, s2, s3, .inl (by simp only [execOp, ho, Sem.run_bind, s1, Result.andThen_ok]; rfl)⟩
    · cases e
  · -- call
    rename_i c ho
    split at e
    · rename_i b hcal
      obtain ⟨⟨y, h2⟩, hy, hy2⟩ := Option.map_eq_some_iff.1 e
      cases hy2
      have hL := args_rel hg ht c.args.toList
      obtain ⟨cs, hcs⟩ : ∃ cs, (execOp a.eval o).run E.P w = (builtin b c.argTypes o.type cs (c.args.map a.eval)).run E.P w :=
        ⟨_, by simp only [execOp, ho, resolve, hcal, Sem.run_bind, Sem.run_pure, Result.andThen_ok, invoke]; rfl⟩
      obtain ⟨J, cv, w', s1, s2, s3⟩ := builtinA_rel (P := E.P) hr (ty := o.type) (cs := cs) hL hy
      refine ⟨J, Z, w', cv, s2, s3, .inl ?_⟩
      have hargs : (c.args.toList.map a.eval).toArray = c.args.map a.eval := by apply Array.ext'; simp
      rw [hargs] at s1
      rw [hcs, s1]
    · rename_i fo hcal
      have hf := ev fo
      have hL := args_rel hg ht c.args.toList
      split at e
      · rename_i g first captured hfv
        rw [hfv] at hf
        cases hv : a.eval fo <;> rw [hv] at hf <;> cases hf
        rename_i x' c' hxl hxv hcl hcv
        obtain ⟨rfl, hrun⟩ := callFnA_val hE e
        obtain ⟨cv, d, s1, s2⟩ := hrun I Z w (x'.toList ++ c.args.toList.map a.eval ++ c'.toList)
          ((LRel.append ⟨by simpa using hxl, fun j p q e1 e2 => hxv j p q e1 (by simpa using e2)⟩ hL).append ⟨by simpa using hcl, fun j p q e1 e2 => hcv j p q e1 (by simpa using e2)⟩) hr
        refine ⟨I, Z, _, cv, .drew hr d, s2, .inl ?_⟩
        have hargs : (x'.toList ++ c.args.toList.map a.eval ++ c'.toList).toArray = x' ++ c.args.map a.eval ++ c' := by apply Array.ext'; simp
        rw [hargs] at s1
        simp only [execOp, ho, resolve, hcal, hv, Deferred.ofValue, Sem.run_bind, Sem.run_pure, Result.andThen_ok, invoke, s1]
      · cases e
    · rename_i ro name hcal
      have hf := ev ro
      have hL := args_rel hg ht c.args.toList
      split at e
      · rename_i ty av hfv
        rw [hfv] at hf
        cases hv : a.eval ro <;> rw [hv] at hf <;> cases hf
        rename_i cv0 hcv
        split at e
        · rename_i g hmt
          obtain ⟨rfl, hrun⟩ := callFnA_val hE e
          obtain ⟨cv, d, s1, s2⟩ := hrun I Z w (cv0 :: c.args.toList.map a.eval) (.cons hcv hL) hr
          refine ⟨I, Z, _, cv, .drew hr d, s2, .inl ?_⟩
          have hmm := methodA_rel (P := E.P) (w := w) hmt cv0 (E.P.types.size + 99)
          have hd : E.P.types.size + Made.depth = E.P.types.size + 99 + 1 := rfl
          simp only [execOp, ho, resolve, hcal, hv, Sem.run_bind, Sem.run_pure, Result.andThen_ok, invoke]
          simp only [List.getElem?_toArray, Array.getElem?_append, List.size_toArray, List.length_cons, List.length_nil, Nat.zero_add, Nat.lt_one_iff, if_true, List.getElem?_cons_zero]
          simp only [callMethod, Sem.run_bind, run_program, Result.andThen_ok, hd, hmm]
          rw [← s1]
          congr 2
          apply Array.ext'; simp
          exact List.take_of_length_le (by simp)
        · cases e
      · cases e
  · cases e

/-- A call of a function of the program. -/
theorem execA_enter {E : Env} (hE : EnvOk E) {I : Inj} {Z : Zed} (hg : Glob I Z E) {t : List AV} {a : Act} {h : AH} (ht : LRel I Z t a.tmps.toList) {o : Oper} {f : FuncId} {args : List AV} (e : execA E t h o = some (.enter f args)) :
    ∃ vs : List Value, LRel I Z args vs ∧ (execOp a.eval o).run E.P w = .ok (.enter f vs.toArray) w := by
  have ev := fun x => evA_rel hg ht x
  have hm : ∀ {q : Option AV}, q.map (fun x => ON.val x h) ≠ some (.enter f args) := by intro q; cases q <;> simp
  have hm2 : ∀ {q : Option (AV × AH)}, q.map (fun x => ON.val x.1 x.2) ≠ some (.enter f args) := by intro q; cases q <;> simp
  have hm3 : ∀ {q : Option AH}, q.map (fun x => ON.val undefA x) ≠ some (.enter f args) := by intro q; cases q <;> simp
  unfold execA at e
  dsimp only at e
  split at e
  all_goals first
    | (cases e; done)
    | (exact absurd e hm)
    | (exact absurd e hm2)
    | (exact absurd e hm3)
    | ((repeat' split at e) <;> (first | (cases e; done) | (exact absurd e hm) | (exact absurd e hm2)); done)
    | skip
  -- the calls
  rename_i c ho
  have hL := args_rel hg ht c.args.toList
  split at e
  · exact absurd e hm2
  · rename_i fo hcal
    have hf := ev fo
    split at e
    · rename_i g first captured hfv
      rw [hfv] at hf
      cases hv : a.eval fo <;> rw [hv] at hf <;> cases hf
      rename_i x' c' hxl hxv hcl hcv
      obtain ⟨rfl, rfl, hrun⟩ := callFnA_rel hE e
      refine ⟨x'.toList ++ c.args.toList.map a.eval ++ c'.toList, ?_, ?_⟩
      · refine ((LRel.append ⟨by simpa using hxl, fun j p q e1 e2 => hxv j p q e1 (by simpa using e2)⟩ hL).append ⟨by simpa using hcl, fun j p q e1 e2 => hcv j p q e1 (by simpa using e2)⟩)
      · simp only [execOp, ho, resolve, hcal, hv, Deferred.ofValue, Sem.run_bind, Sem.run_pure, Result.andThen_ok, invoke, hrun]
        congr 2
        apply Array.ext'; simp
    · cases e
  · rename_i ro name hcal
    have hf := ev ro
    split at e
    · rename_i ty av hfv
      rw [hfv] at hf
      cases hv : a.eval ro <;> rw [hv] at hf <;> cases hf
      rename_i cv hcv
      split at e
      · rename_i g hmt
        obtain ⟨rfl, rfl, hrun⟩ := callFnA_rel hE e
        refine ⟨cv :: c.args.toList.map a.eval, .cons hcv hL, ?_⟩
        have hmm := methodA_rel (P := E.P) (w := w) hmt cv (E.P.types.size + 99)
        have hd : E.P.types.size + Made.depth = E.P.types.size + 99 + 1 := rfl
        simp only [execOp, ho, resolve, hcal, hv, Sem.run_bind, Sem.run_pure, Result.andThen_ok, invoke]
        simp only [List.getElem?_toArray, Array.getElem?_append, List.size_toArray, List.length_cons, List.length_nil, Nat.zero_add, Nat.lt_one_iff, if_true, List.getElem?_cons_zero]
        simp only [callMethod, Sem.run_bind, run_program, Result.andThen_ok, hd, hmm, hrun]
        congr 2
        apply Array.ext'; simp
        exact List.take_of_length_le (by simp)
      · cases e
    · cases e

end run
end
end Go.Av
