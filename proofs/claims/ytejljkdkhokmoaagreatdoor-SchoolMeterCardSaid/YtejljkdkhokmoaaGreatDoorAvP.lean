/-
  A meter: adding to it, whatever the number and whatever was added before. Surroundings in which ints and floats of a kind are added and compared; a block whose first cell is a slice of unknown capacity.
-/
import Derived.Test.YtejljkdkhokmoaaGreatDoorAvN
import Derived.Test.YtejljkdkhokmoaaGreatDoorAvE
import Derived.Test.YtejljkdkhokmoaaGreatDoorAvK
import Derived.Test.YtejljkdkhokmoaaGreatDoorAvZ
namespace Go.Av
noncomputable section
set_option linter.unusedSectionVars false
set_option linter.unusedSimpArgs false
set_option linter.unusedVariables false
set_option maxRecDepth 20000

/-- The functions by number. -/
structure MKit where
  key : FuncId
  mn : FuncId
  mx : FuncId
  bs : FuncId
  ov : FuncId
  bits : FuncId
  fromBits : FuncId
  win : List (FuncId × List (Nat × List (Nat × Nat × Nat)))

def tfG (n : Nat) : Bool := Nat.beq (n % 100) 0 || Nat.beq (n % 100) 6

def tbN (c : Nat) (op : BinOp) (x y : AV) : Option AV :=
  match x, y with
  | .tok a, .tok b => if a / 100 = b / 100 then fcG c op (a / 100) (a % 100) (b % 100) else none
  | .tok a, .i .i64 (.ofNat n) => if a % 100 = 99 then upG (a / 100) op n else none
  | _, _ => none

/-- Ints of which one is not known. -/
def tbV (op : BinOp) (x y : AV) : Option AV :=
  match x, y with
  | .i _ _, .i _ _ => none
  | _, _ => tbU op x y

def tbM (c : Nat) (op : BinOp) (_ : TypeId) (x y : AV) : Option AV :=
  match tbN c op x y with
  | some r => some r
  | none => match tbV op x y with
    | some r => some r
    | none => match tbF tfG op x y with
      | some r => some r
      | none => tbI op x y

def keyM : List AV → Option AV
  | [a] => if isF64 tfG a = true then some (.ui .u64) else none
  | _ => none
def mnM : List AV → Option AV
  | [.imm [a, b] 2] => if isF64 tfG a = true ∧ isF64 tfG b = true then some (.uf .f64) else none
  | _ => none

def envM (P : Program) (K : MKit) (c : Nat) (ph : Bool) : Env where
  P := P
  glob := fun _ => none
  fun_ := fun f => P.funcs[f]?
  mode := fun f => if f = K.ov then 5 else 0
  hook := fun _ => none
  phook := fun f => if ph = true then (if f = K.key then some keyM else if f = K.mn then some mnM else if f = K.mx then some mnM else none) else none
  ext := fun f => if f = K.bits then some (bitsM tfG) else if f = K.fromBits then some fromBitsM else none
  ownLit := fun _ _ => false
  jn := fun _ => none
  xh := fun f => if f = K.ov then some ovU else none
  tb := tbM c
  tu := tuM
  tc := fun _ _ _ => none
  win := fun f id => (lookupL f K.win).bind (lookupL id)

/-- What is walked with several outcomes. -/
def walksM (K : MKit) (ph : Bool) (f : FuncId) : Bool := !(ph && (Nat.beq f K.key || (Nat.beq f K.mn || Nat.beq f K.mx)))
def mRun (P : Program) (K : MKit) (c : Nat) (ph : Bool) (n : Nat) : RecM := runM (envM P K c ph) (walksM K ph) (fun f => Nat.beq f K.bs) 60 n

def retAll (p : AV → AH → Bool) (r : Option (List Res)) : Bool :=
  match r with
  | some l => l.all fun x => match x with
    | .ret v h => p v h
    | _ => false
  | none => false

theorem retAll_of {p : AV → AH → Bool} {r : Option (List Res)} (h : retAll p r = true) : ∃ l, r = some l ∧ ∀ v g, Res.ret v g ∈ l → p v g = true := by
  unfold retAll at h
  split at h
  · rename_i l
    exact ⟨l, rfl, fun v g hm => List.all_eq_true.1 h _ hm⟩
  · cases h

def uiP (v : AV) (_ : AH) : Bool := match numU v with | some .u64 => true | _ => false
def ufP (v : AV) (_ : AH) : Bool := isF64 tfG v

section good
variable (fl : Nat → Fl)

theorem tfG_ok : @IsTf (toks fl) tfG := by
  intro n h
  unfold tfG at h
  show ∃ b, flVal (fl (n / 100)) (n % 100) = .float .f64 b
  rcases Bool.or_eq_true_iff.1 h with h | h
  · rw [Nat.eq_of_beq_eq_true h]; exact ⟨_, rfl⟩
  · rw [Nat.eq_of_beq_eq_true h]; exact ⟨_, rfl⟩

theorem tbN_ok {P : Program} {c : Nat} (hq : ∀ i, QCls (fl i)) (hn : NanCls fl c) {op : BinOp} {t : TypeId} {x y r : AV} (e : tbN c op x y = some r) :
    binA P op t (@conc (toks fl) x) (@conc (toks fl) y) = some (@conc (toks fl) r) ∧ @Clear (toks fl) r := by
  unfold tbN at e
  split at e
  · rename_i a b
    split at e
    · rename_i h
      have := fcG_ok fl (P := P) (t := t) (hq (a / 100)) hn (Nat.mod_lt a (by decide)) (Nat.mod_lt b (by decide)) e
      rw [name_split, h, name_split] at this
      exact this
    · cases e
  · rename_i a n
    split at e
    · rename_i h99
      have := upG_ok fl (P := P) (t := t) (i := a / 100) e
      rw [conc_tok fl a, h99, flVal_v]
      exact this
    · cases e
  · cases e

theorem tbM_ok {P : Program} {c : Nat} (hq : ∀ i, QCls (fl i)) (hn : NanCls fl c) {op : BinOp} {t : TypeId} {x y r : AV} (e : tbM c op t x y = some r) (I : Inj) (Z : Zed) (w : World) (v u : Value) (ox oy : Operand) (hx : @VRel (toks fl) I Z x v) (hy : @VRel (toks fl) I Z y u) :
    ∃ cv w', (do eqGuard op t ox oy v u; binOp op t v u : Sem Value).run P w = .ok cv w' ∧ @VRel (toks fl) I Z r cv ∧ ∃ d, w' = { w with drawn := d } := by
  letI := toks fl
  unfold tbM at e
  split at e
  · rename_i h; cases e
    obtain ⟨h1, h2⟩ := tbN_ok fl (P := P) (t := t) hq hn h
    exact tb_ok h1 h2 I Z w v u ox oy hx hy
  · split at e
    · rename_i h; cases e
      unfold tbV at h
      split at h
      · cases h
      · exact tbU_ok h I Z w v u ox oy hx hy
    · split at e
      · rename_i h; cases e; exact tbF_ok (tfG_ok fl) h I Z w v u ox oy hx hy
      · exact tbI_ok e I Z w v u ox oy hx hy

theorem envM_good {P : Program} {K : MKit} {c : Nat} {ph : Bool} {es0 : Nat} {tS tR e : TypeId} (hq : ∀ i, QCls (fl i)) (hn : NanCls fl c)
    (ht : P.underlying tS = some (.slice e)) (hz : ∀ w : World, (Go.sizeOf e).run P w = .ok es0 w) (hx : ExtIs P K.ov (Extern.SlicesOverlaps.overlaps #[tS, tS] #[tR]))
    (hmix : P.follows .mixedOrders = true) (hb : ExtIs P K.bits Extern.MathFloatBits.float64bits) (hf : ExtIs P K.fromBits Extern.MathFloatBits.float64frombits)
    (hd : ((K.win.map (·.1)).all fun f => drawCheck (envM P K c ph) f) = true)
    (hph : ph = true → ∀ f g, (envM P K c ph).phook f = some g → ∀ args as h v, args.mapM (deepR emptyH deep) = some as → pureL as = true → g as = some v → v.pure = true → @CallOk (toks fl) (envM P K c ph) f args h v h) : @EnvGood (toks fl) (envM P K c ph) := by
  letI := toks fl
  exact {
    funs := fun f fn h => h
    xhs := fun f g hg args h v hv I Z w vs hL hr => by
      simp only [envM] at hg
      split at hg
      · rename_i hf
        cases hg; subst hf
        exact ovU_ok ht hz hx args h v hv I Z w vs hL hr
      · cases hg
    tbs := fun op t x y r h I Z w v u ox oy hv hu => tbM_ok fl hq hn h I Z w v u ox oy hv hu
    tus := fun op x r h I Z w v hv => tuM_ok h I Z w v hv
    jns := fun _ _ h => by cases h
    tcs := fun _ _ _ _ h => by cases h
    exts := fun f g hg args v hv I Z w vs hL => by
      simp only [envM] at hg
      split at hg
      · rename_i hf'
        cases hg; subst hf'
        exact bitsM_ok (tfG_ok fl) hb hv I Z w vs hL
      · split at hg
        · rename_i hf'
          cases hg; subst hf'
          exact fromBitsM_ok hf hv I Z w vs hL
        · cases hg
    pures := fun g cs h => by cases h
    hookfree := fun _ _ => rfl
    hookfree4 := fun _ _ => rfl
    mixed := hmix
    hooks := fun f g h => by cases h
    phooks := fun f g hg => by
      cases ph with
      | true => exact hph rfl f g hg
      | false => simp [envM] at hg
    draws := fun f fn c hfn hc x hx W hW => by
      have hW' : (lookupL f K.win).bind (lookupL x.1) = some W := hW
      obtain ⟨l, h1, _⟩ := Option.bind_eq_some_iff.1 hW'
      have := List.all_eq_true.1 hd f (lookupL_mem h1)
      unfold drawCheck at this
      simp only [hfn, hc] at this
      have := List.all_eq_true.1 this x hx
      rw [hW] at this
      simpa using this }

/-- The key of any number, the least and the greatest of any two: some number. -/
theorem phM_ok {P : Program} {K K0 : MKit} {c : Nat} (h0 : @EnvGood (toks fl) (envM P K0 0 false)) {n : Nat} (hkey : retAll uiP (mRun P K0 0 false n (.call K.key [.uf .f64] emptyH)) = true)
    (hmn : retAll ufP (mRun P K0 0 false n (.call K.mn [.imm [.uf .f64, .uf .f64] 2] emptyH)) = true) (hmx : retAll ufP (mRun P K0 0 false n (.call K.mx [.imm [.uf .f64, .uf .f64] 2] emptyH)) = true)
    (f : FuncId) (g : List AV → Option AV) (hg : (envM P K c true).phook f = some g) (args as : List AV) (h : AH) (v : AV) (ha : args.mapM (deepR emptyH deep) = some as) (hp : pureL as = true) (e : g as = some v) (hv : v.pure = true) : @CallOk (toks fl) (envM P K c true) f args h v h := by
  letI := toks fl
  have two : ∀ f, retAll ufP (mRun P K0 0 false n (.call f [.imm [.uf .f64, .uf .f64] 2] emptyH)) = true → mnM as = some v → CallOk (envM P K c true) f args h v h := fun f hr e => by
    obtain ⟨l, h1, h2⟩ := retAll_of hr
    unfold mnM at e
    split at e
    · rename_i a b _
      split at e
      · rename_i hab
        cases e
        refine CallOk.of (E := envM P K0 0 false) rfl rfl (callok_pureM h0 ((runM_ok h0 _ _ _ _).1 _ _ _ _ h1) (fun I Z vs hL => ?_) (fun v1 h1 hm I J Z Y cv hcv => ?_) h)
        · obtain ⟨y, r, rfl, hy, hr⟩ := (mapM_empty ha hL).inv_cons
          obtain rfl := hr.inv_nil
          cases hy with
          | @imm _ vs' _ blk base cap hl hz hvv hc =>
          refine .cons (.imm (by rw [hl]; rfl) hz (fun j x u e1 e2 => ?_) hc) .nil
          match j, e1 with
          | 0, e1 =>
            cases e1
            obtain ⟨m, rfl⟩ := isF64_rel (tfG_ok fl) hab.1 (hvv 0 a u rfl e2)
            exact .uf _ _
          | 1, e1 =>
            cases e1
            obtain ⟨m, rfl⟩ := isF64_rel (tfG_ok fl) hab.2 (hvv 1 b u rfl e2)
            exact .uf _ _
          | j + 2, e1 => simp at e1
        · obtain ⟨m, rfl⟩ := isF64_rel (tfG_ok fl) (h2 v1 h1 hm) hcv
          exact .uf _ _
      · cases e
    · cases e
  simp only [envM, if_true] at hg
  split at hg
  · rename_i hf
    cases hg; subst hf
    obtain ⟨l, h1, h2⟩ := retAll_of hkey
    unfold keyM at e
    split at e
    · rename_i a
      split at e
      · rename_i ha'
        cases e
        refine CallOk.of (E := envM P K0 0 false) rfl rfl (callok_pureM h0 ((runM_ok h0 _ _ _ _).1 _ _ _ _ h1) (fun I Z vs hL => ?_) (fun v1 h1 hm I J Z Y cv hcv => ?_) h)
        · obtain ⟨y, r, rfl, hy, hr⟩ := (mapM_empty ha hL).inv_cons
          obtain rfl := hr.inv_nil
          obtain ⟨m, rfl⟩ := isF64_rel (tfG_ok fl) ha' hy
          exact .cons (.uf _ _) .nil
        · have := h2 v1 h1 hm
          unfold uiP at this
          split at this
          · rename_i hk
            obtain ⟨m, rfl⟩ := numU_rel hk hcv
            exact .ui _ _
          · cases this
      · cases e
    · cases e
  · split at hg
    · rename_i hf
      cases hg; subst hf
      exact two K.mn hmn e
    · split at hg
      · rename_i hf
        cases hg; subst hf
        exact two K.mx hmx e
      · cases hg
end good

/-- The meter's cells. -/
def row (k : AV) (a : Nat) : List AV := [k, .tok a, .ui .i64, .uf .f64, .uf .f64, .uf .f64, .uf .f64]
def uis (n : Nat) : List AV := List.replicate n (.ui .u64)
def hp2 (k0 : AV) (a : Nat) (c1 : List AV) : AH := ((⟨2, .lf⟩ : AH).set 0 (.cells 7 (row k0 a))).set 1 (.cells 1 c1)
def gN (n a : Nat) : AH := hp2 (.own 1 0 n none) a (uis n)
def gA (n a : Nat) : AH := hp2 (.own 1 0 n (some n)) a (uis n)
def gB (n a : Nat) : AH := hp2 (.own 1 0 n none) a (uis n ++ [.junk])
def g0 (a : Nat) : AH := (⟨1, .lf⟩ : AH).set 0 (.cells 7 (row .nsl a))
def gOut (K m a : Nat) : AH := ((⟨K + 1, .lf⟩ : AH).set 0 (.cells 7 (row (.own K 0 m none) a))).set K (.cells 1 (uis m))

section meter
variable [Toks]

theorem hp2_get (k0 : AV) (a : Nat) (c1 : List AV) (k : Nat) : (hp2 k0 a c1).get k = if k = 1 then some (.cells 1 c1) else if k = 0 then some (.cells 7 (row k0 a)) else none := by
  unfold hp2
  rw [AH.get_set, AH.get_set]
  split
  · rfl
  · split
    · rfl
    · exact Tr.get_lf k

/-- The slice's capacity is its length, or greater. -/
theorem split_cap {I : Inj} {Z : Zed} {w : World} {n a : Nat} (hn : 0 < n) (hr : Rel I Z (gN n a) w) : Goes I Z (gN n a) w I Z (gA n a) w ∨ Goes I Z (gN n a) w I Z (gB n a) w := by
  have g0 : (gN n a).get 0 = some (.cells 7 (row (.own 1 0 n none) a)) := by unfold gN; rw [hp2_get]; rfl
  have g1 : (gN n a).get 1 = some (.cells 1 (uis n)) := by unfold gN; rw [hp2_get]; rfl
  obtain ⟨B, hB, hes, arr, el, fr, a1, a2, a3, a4, a5⟩ := hr.cells 0 _ _ g0
  obtain ⟨B1, hB1, hes1, hc1⟩ := hr.cells 1 _ _ g1
  obtain ⟨_, v0, hv0, hr0⟩ := a4 0 (.own 1 0 n none) rfl
  obtain ⟨B2, c, hB2, hnc, hBN, rfl, hv1⟩ := hr0.capOf hn
  rw [hB1] at hB2; cases hB2
  rw [hes1] at hBN
  rcases Nat.lt_or_ge n c with hlt | hge
  · have hp := Goes.pad hr g1 hB1 (m := 1) (by simp [uis]; omega)
    refine .inr (Goes.alike ?_ hp)
    refine ⟨rfl, fun k => ?_⟩
    rw [AH.get_set]
    unfold gN gB
    rw [hp2_get, hp2_get]
    by_cases hk : k = 1
    · rw [if_pos hk, if_pos hk]; rfl
    · rw [if_neg hk, if_neg hk, if_neg hk]
  · have hc : c = n := by omega
    subst hc
    have hw := Goes.write hr g0 hB rfl rfl rfl (fun _ _ => rfl) a1 a1 rfl (fun _ _ => rfl) (cs' := row (.own 1 0 c (some c)) a) a3 (fun j x hj => by
      cases j with
      | zero =>
        cases hj
        exact ⟨rfl, _, hv0, hv1⟩
      | succ j => exact a4 (j + 1) x hj) (fun _ _ h => .inl h)
    refine .inl (Goes.alike ?_ hw)
    refine ⟨rfl, fun k => ?_⟩
    rw [AH.get_set]
    unfold gN gA
    rw [hp2_get, hp2_get]
    by_cases hk : k = 0
    · subst hk; rfl
    · rw [if_neg hk, if_neg hk, if_neg hk]

/-- What is seen of an outcome. -/
def finM (p : AV → AV → Bool) (K m a : Nat) (v : AV) (h : AH) : Bool :=
  match v with
  | .tup [] => match h.get 0 with
    | some (.cells 7 (.own kk 0 m' none :: rest)) => Nat.beq m' m && (!(Nat.beq kk 0) && (Nat.ble h.next K && (covLP p [.tok a, .ui .i64, .uf .f64, .uf .f64, .uf .f64, .uf .f64] rest && match h.get kk with
      | some (.cells 1 cs) => Nat.ble m cs.length && covLP p (uis m) (cs.take m)
      | _ => false)))
    | _ => false
  | _ => false

theorem Goes.later {I : Inj} {Z : Zed} {h : AH} {w : World} (hr : Rel I Z h w) {K : Nat} (hK : h.next ≤ K) : Goes I Z h w I Z ⟨K, h.objs⟩ w :=
  ⟨.refl _, .refl _, fun _ _ _ h => .inl h, ⟨hr.cells, hr.map, hr.inj, hr.zed, fun k hk => Nat.lt_of_lt_of_le (hr.fresh k hk) hK, hr.size⟩, ⟨rfl, rfl, Nat.le_refl _, hK, fun _ _ _ => rfl, fun _ _ _ _ _ _ => rfl, fun k B h1 h2 _ => ⟨k, B, h1, h2, rfl, Nat.le_refl _⟩⟩⟩

theorem Goes.covG {I : Inj} {Z : Zed} {p : AV → AV → Bool} (hp : Less p) {g h : AH} {w : World} (hr : Rel I Z h w) (hn : h.next ≤ g.next) (hget : ∀ k o, g.get k = some o → ∃ es cs ds, o = .cells es cs ∧ h.get k = some (.cells es ds) ∧ covLP p cs ds = true) : Goes I Z h w I Z g w := by
  have hlive : ∀ k, g.live k → h.live k := fun k hl => by
    unfold AH.live at *
    cases e : g.get k with
    | none => exact absurd e hl
    | some o => obtain ⟨es, cs, ds, _, h1, _⟩ := hget k o e; rw [h1]; simp
  refine ⟨.refl _, .refl _, fun _ _ _ h => .inl h, ⟨fun k es cs e => ?_, fun k es e => ?_, fun k k' B B' h1 h2 => hr.inj k k' B B' (hlive k h1) (hlive k' h2), fun b o v hz => ⟨(hr.zed b o v hz).1, fun k B hl => (hr.zed b o v hz).2 k B (hlive k hl)⟩, fun k hk => Nat.lt_of_lt_of_le (hr.fresh k (hk.imp (hlive k) id)) hn, hr.size⟩,
    ⟨rfl, rfl, Nat.le_refl _, hn, fun _ _ _ => rfl, fun _ _ _ _ _ _ => rfl, fun k B hl hB _ => ⟨k, B, hlive k hl, hB, rfl, Nat.le_refl _⟩⟩⟩
  · obtain ⟨es', cs', ds, h0, h1, h2⟩ := hget k _ e
    cases h0
    obtain ⟨hl, hj⟩ := covLP_get cs ds h2
    obtain ⟨B, hB, he, arr, el, fr, a1, a2, a3, a4, a5, a6⟩ := hr.cells k es ds h1
    refine ⟨B, hB, he, arr, el, fr, a1, a2, by rw [hl]; exact a3, fun j a ha => ?_, a5, a6⟩
    obtain ⟨b, hb, hab⟩ := hj j a ha
    obtain ⟨o1, v, h3, h4⟩ := a4 j b hb
    rcases Bool.or_eq_true_iff.1 hab with hab | hab
    · exact ⟨covV_one hab o1, v, h3, covV_rel hab (a6 _ _ h3) h4⟩
    · obtain ⟨q1, q2⟩ := hp a b hab
      exact ⟨q1, v, h3, q2 _ _ _ h4⟩
  · obtain ⟨_, _, _, h0, _⟩ := hget k _ e; cases h0

theorem finM_ok {I : Inj} {Z : Zed} {p : AV → AV → Bool} (hp : Less p) {K m a : Nat} {v : AV} {h : AH} {w : World} (hm : 0 < m) (hK : K ≠ 0) (hf : finM p K m a v h = true) (hr : Rel I Z h w) : v = .tup [] ∧ ∃ J, Goes I Z h w J Z (gOut K m a) w := by
  unfold finM at hf
  split at hf
  · split at hf
    · rename_i kk m' rest hg0
      simp only [Bool.and_eq_true, Bool.not_eq_true'] at hf
      obtain ⟨e1, e2, e3, e4, e5⟩ := hf
      have e1 : m' = m := Nat.eq_of_beq_eq_true e1
      subst e1
      have hkk : kk ≠ 0 := fun e => by rw [e] at e2; cases e2
      have hnK : h.next ≤ K := Nat.le_of_ble_eq_true e3
      split at e5
      · rename_i cs hgk
        rw [Bool.and_eq_true] at e5
        have hml : m' ≤ cs.length := Nat.le_of_ble_eq_true e5.1
        refine ⟨rfl, ?_⟩
        have s0 := Goes.later hr hnK
        obtain ⟨B, hB, hes, hco⟩ := hr.cells kk 1 cs hgk
        have s1 := Goes.rename (h := ⟨K, h.objs⟩) (o := 0) (n := m') s0.rel hgk hB (by omega)
        have e0 : ((⟨K, h.objs⟩ : AH).del kk |>.new (.cells 1 ((cs.drop 0).take m'))).get 0 = some (.cells 7 (.own kk 0 m' none :: rest)) := by
          rw [AH.get_new, AH.get_del, if_neg (by show ¬ 0 = K; exact fun e => hK e.symm), if_neg (fun e => hkk e.symm)]
          exact hg0
        obtain ⟨B0, hB0, hes0, arr, el, fr, a1, a2, a3, a4, a5⟩ := s1.rel.cells 0 _ _ e0
        obtain ⟨_, v0, hv0, hr0⟩ := a4 0 _ rfl
        have hKn : (⟨K, h.objs⟩ : AH).next = K := rfl
        have hv1 : VRel (I.put K { B with d := B.d + 0 }) Z (.own K 0 m' none) v0 := by
          rw [hKn] at hr0
          cases hr0 with
          | @own _ _ _ capC _ B2 h3 h4 h5 =>
            have hIk : (I.put K { B with d := B.d + 0 }) kk = some B := by
              have : kk ≠ K := fun e => by
                have := hr.fresh kk (.inl (by simp [AH.live, hgk])); omega
              simp [Inj.put, this, hB]
            rw [hIk] at h3; cases h3
            exact VRel.own Inj.put_same h4 h5
          | own0 => omega
        have s2 := Goes.write s1.rel e0 hB0 rfl rfl rfl (fun _ _ => rfl) a1 a1 rfl (fun _ _ => rfl) (cs' := .own K 0 m' none :: rest) a3 (fun j x hj => by
          cases j with
          | zero =>
            cases hj
            exact ⟨rfl, v0, hv0, hv1⟩
          | succ j => exact a4 (j + 1) x hj) (fun _ _ h => .inl h)
        have s3 : Goes _ Z _ w _ Z (gOut K m' a) w := Goes.covG hp s2.rel (Nat.le_refl _) (fun k o ho => by
          unfold gOut at ho
          rw [AH.get_set, AH.get_set] at ho
          split at ho
          · rename_i hk
            cases ho
            rw [hk]
            refine ⟨1, _, _, rfl, ?_, e5.2⟩
            rw [AH.get_set, if_neg hK, AH.get_new, if_pos (by rfl), List.drop_zero]
          · split at ho
            · rename_i hk0
              cases ho
              subst hk0
              refine ⟨7, _, _, rfl, by rw [AH.get_set, if_pos rfl], ?_⟩
              simp only [row, covLP, Bool.and_eq_true]
              refine ⟨?_, by simpa [covLP, Bool.and_eq_true] using e4⟩
              rw [Bool.or_eq_true]
              exact .inl (by unfold covV; rw [Bool.or_eq_true]; exact .inl (by simp [AV.beq]))
            · rw [show (⟨K + 1, .lf⟩ : AH).get k = none from Tr.get_lf k] at ho; cases ho)
        exact ⟨_, s0.trans hr (s1.trans s0.rel (s2.trans s1.rel s3))⟩
      · cases e5
    · cases hf
  · cases hf

/-- Whatever the capacity. -/
theorem add_ok {E : Env} {p : AV → AV → Bool} (hp : Less p) {f : FuncId} {args : List AV} {n a a' : Nat} (hn : 0 < n) {lA lB : List Res} (hA : CallOkM E f args (gA n a) lA) (hB : CallOkM E f args (gB n a) lB)
    (cA : ∀ v g, Res.ret v g ∈ lA → finM p 3 (n + 1) a' v g = true) (cB : ∀ v g, Res.ret v g ∈ lB → finM p 3 (n + 1) a' v g = true) : CallOk E f args (gN n a) (.tup []) (gOut 3 (n + 1) a') := by
  intro I Z w vs hg hL hr
  have fin : ∀ (g1 : AH) (l : List Res), CallOkM E f args g1 l → (∀ v g, Res.ret v g ∈ l → finM p 3 (n + 1) a' v g = true) → Goes I Z (gN n a) w I Z g1 w →
      Calls E.P f vs.toArray w fun e w' => ∃ J Y cv, e = .returned cv ∧ Goes I Z (gN n a) w J Y (gOut 3 (n + 1) a') w' ∧ VRel J Y (.tup []) cv := fun g1 l hM hc h1 => by
    refine (hM I Z w vs hg hL h1.rel).mono ?_
    rintro e w' ⟨v, g, hm, J, Y, cv, rfl, hgo, hv⟩
    obtain ⟨rfl, J2, h2⟩ := finM_ok hp (Nat.succ_pos n) (by decide) (hc v g hm) hgo.rel
    exact ⟨J2, Y, cv, rfl, h1.trans hr (hgo.trans h1.rel h2), hv.mono h2.le h2.lez⟩
  rcases split_cap hn hr with h1 | h1
  · exact fin _ _ hA cA h1
  · exact fin _ _ hB cB h1

theorem add0_ok {E : Env} {p : AV → AV → Bool} (hp : Less p) {f : FuncId} {args : List AV} {a a' : Nat} {l : List Res} (hM : CallOkM E f args (g0 a) l)
    (hc : ∀ v g, Res.ret v g ∈ l → finM p 2 1 a' v g = true) : CallOk E f args (g0 a) (.tup []) (gOut 2 1 a') := by
  intro I Z w vs hg hL hr
  refine (hM I Z w vs hg hL hr).mono ?_
  rintro e w' ⟨v, g, hm, J, Y, cv, rfl, hgo, hv⟩
  obtain ⟨rfl, J2, h2⟩ := finM_ok hp (Nat.succ_pos 0) (by decide) (hc v g hm) hgo.rel
  exact ⟨J2, Y, cv, rfl, hgo.trans hr h2, hv.mono h2.le h2.lez⟩
end meter
end
end Go.Av
