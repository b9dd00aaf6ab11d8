/-
  What operations on ints and floats of a kind come to, where no more is known of them.
-/
import Derived.Test.YtejljkdkhokmoaaGreatDoorAv20
namespace Go.Av
noncomputable section
set_option linter.unusedSectionVars false
variable [Toks]
set_option linter.unusedSimpArgs false
set_option linter.unusedVariables false

def numU : AV → Option IntKind
  | .ui k => some k
  | .i k _ => some k
  | _ => none

def tbU (op : BinOp) (x y : AV) : Option AV :=
  match numU x with
  | none => none
  | some k => match numU y with
    | none => none
    | some j => if k = j then (match op with
      | .eql => some .unkb
      | .neq => some .unkb
      | .lss => some .unkb
      | .leq => some .unkb
      | .gtr => some .unkb
      | .geq => some .unkb
      | .add => some (.ui k)
      | .sub => some (.ui k)
      | .and => some (.ui k)
      | .or => some (.ui k)
      | .xor => some (.ui k)
      | .andNot => some (.ui k)
      | _ => none) else none

theorem numU_rel {I : Inj} {Z : Zed} {x : AV} {k : IntKind} {v : Value} (h : numU x = some k) (hv : VRel I Z x v) : ∃ n, v = .int k n := by
  unfold numU at h
  split at h
  · cases h; cases hv; exact ⟨_, rfl⟩
  · cases h; cases hv; exact ⟨_, rfl⟩
  · cases h

theorem tbU_ok {P : Program} {op : BinOp} {t : TypeId} {x y r : AV} (e : tbU op x y = some r) (I : Inj) (Z : Zed) (w : World) (v u : Value) (ox oy : Operand) (hx : VRel I Z x v) (hy : VRel I Z y u) :
    ∃ cv w', (do eqGuard op t ox oy v u; binOp op t v u : Sem Value).run P w = .ok cv w' ∧ VRel I Z r cv ∧ ∃ d, w' = { w with drawn := d } := by
  unfold tbU at e
  split at e
  · cases e
  · rename_i k hk
    split at e
    · cases e
    · rename_i j hj
      split at e
      · rename_i hkj
        subst hkj
        obtain ⟨n, rfl⟩ := numU_rel hk hx
        obtain ⟨m, rfl⟩ := numU_rel hj hy
        have go : ∀ r', binA P op t (.i k n) (.i k m) = some r' → (∀ cv, VRel I Z r' cv → VRel I Z r cv) → ∃ cv w', (do eqGuard op t ox oy (.int k n) (.int k m); binOp op t (.int k n) (.int k m) : Sem Value).run P w = .ok cv w' ∧ VRel I Z r cv ∧ ∃ d, w' = { w with drawn := d } := fun r' h hr => by
          obtain ⟨cv, w', h1, h2, h3⟩ := binA_rel (w := w) h (VRel.i (I := I) (Z := Z) k n) (VRel.i k m) ox oy
          exact ⟨cv, w', h1, hr cv h2, h3⟩
        have bb : ∀ (b : Bool) (cv : Value), VRel I Z (.b b) cv → VRel I Z .unkb cv := fun b cv h => by cases h; exact .unkb _
        split at e
        · cases e; exact go (.b (n == m)) (by simp [binA]) (bb _)
        · cases e; exact go (.b (n != m)) (by simp [binA]) (bb _)
        · cases e; exact go (.b (decide (n < m))) (by simp [binA]) (bb _)
        · cases e; exact go (.b (decide (n ≤ m))) (by simp [binA]) (bb _)
        · cases e; exact go (.b (decide (n > m))) (by simp [binA]) (bb _)
        · cases e; exact go (.b (decide (n ≥ m))) (by simp [binA]) (bb _)
        · cases e; exact go (.i k (k.wrap (n + m))) (by simp [binA]) (fun cv h => by cases h; exact .ui _ _)
        · cases e; exact go (.i k (k.wrap (n - m))) (by simp [binA]) (fun cv h => by cases h; exact .ui _ _)
        · cases e; exact go (.i k (k.wrap (BitVec.ofInt k.bits n &&& BitVec.ofInt k.bits m).toNat)) (by simp [binA]) (fun cv h => by cases h; exact .ui _ _)
        · cases e; exact go (.i k (k.wrap (BitVec.ofInt k.bits n ||| BitVec.ofInt k.bits m).toNat)) (by simp [binA]) (fun cv h => by cases h; exact .ui _ _)
        · cases e; exact go (.i k (k.wrap (BitVec.ofInt k.bits n ^^^ BitVec.ofInt k.bits m).toNat)) (by simp [binA]) (fun cv h => by cases h; exact .ui _ _)
        · cases e; exact go (.i k (k.wrap (BitVec.ofInt k.bits n &&& ~~~BitVec.ofInt k.bits m).toNat)) (by simp [binA]) (fun cv h => by cases h; exact .ui _ _)
        · cases e
      · cases e

/-- An int at least so great, beside one that is not greater. -/
def tbI (op : BinOp) (x y : AV) : Option AV :=
  match op, x, y with
  | .gtr, .i k a, .ig j m => if k = j ∧ a ≤ m then some (.b false) else none
  | _, _, _ => none

theorem tbI_ok {P : Program} {op : BinOp} {t : TypeId} {x y r : AV} (e : tbI op x y = some r) (I : Inj) (Z : Zed) (w : World) (v u : Value) (ox oy : Operand) (hx : VRel I Z x v) (hy : VRel I Z y u) :
    ∃ cv w', (do eqGuard op t ox oy v u; binOp op t v u : Sem Value).run P w = .ok cv w' ∧ VRel I Z r cv ∧ ∃ d, w' = { w with drawn := d } := by
  unfold tbI at e
  split at e
  · split at e
    · rename_i k a j m h
      obtain ⟨rfl, ham⟩ := h
      cases e
      cases hx
      cases hy with
      | ig _ _ n hn =>
        have hb : decide (n < a) = false := by simp; omega
        obtain ⟨cv, w', h1, h2, h3⟩ := binA_rel (P := P) (w := w) (t := t) (op := .gtr) (r := .b (decide (a > n))) (by simp [binA]) (VRel.i (I := I) (Z := Z) k a) (VRel.i k n) ox oy
        refine ⟨cv, w', h1, ?_, h3⟩
        have e2 : decide (a > n) = false := hb
        rw [e2] at h2
        exact h2
    · cases e
  · cases e

/-- Numbers with a point: of a kind, or known, or a name for one. -/
def isF64 (tf : Nat → Bool) (x : AV) : Bool := match x with
  | .uf .f64 => true
  | .f .f64 _ => true
  | .tok n => tf n
  | _ => false

def IsTf (tf : Nat → Bool) : Prop := ∀ n, tf n = true → ∃ b, Toks.val n = .float .f64 b

theorem isF64_rel {tf : Nat → Bool} (htf : IsTf tf) {I : Inj} {Z : Zed} {x : AV} {v : Value} (h : isF64 tf x = true) (hv : VRel I Z x v) : ∃ n, v = .float .f64 n := by
  unfold isF64 at h
  split at h
  · cases hv; exact ⟨_, rfl⟩
  · cases hv; exact ⟨_, rfl⟩
  · obtain ⟨b, hb⟩ := htf _ h
    cases hv with
    | tok _ _ e => exact ⟨b, by rw [← e, hb]⟩
  · cases h

def tbF (tf : Nat → Bool) (op : BinOp) (x y : AV) : Option AV :=
  if isF64 tf x = true ∧ isF64 tf y = true then (match op with
      | .eql => some .unkb
      | .neq => some .unkb
      | .lss => some .unkb
      | .leq => some .unkb
      | .gtr => some .unkb
      | .geq => some .unkb
      | .add => some (.uf .f64)
      | .sub => some (.uf .f64)
      | .mul => some (.uf .f64)
      | .quo => some (.uf .f64)
      | _ => none) else none

theorem tbF_ok {tf : Nat → Bool} (htf : IsTf tf) {P : Program} {op : BinOp} {t : TypeId} {x y r : AV} (e : tbF tf op x y = some r) (I : Inj) (Z : Zed) (w : World) (v u : Value) (ox oy : Operand) (hx : VRel I Z x v) (hy : VRel I Z y u) :
    ∃ cv w', (do eqGuard op t ox oy v u; binOp op t v u : Sem Value).run P w = .ok cv w' ∧ VRel I Z r cv ∧ ∃ d, w' = { w with drawn := d } := by
  unfold tbF at e
  split at e
  · rename_i hc
    obtain ⟨n, rfl⟩ := isF64_rel htf hc.1 hx
    obtain ⟨m, rfl⟩ := isF64_rel htf hc.2 hy
    have go : ∀ r', binA P op t (.f .f64 n) (.f .f64 m) = some r' → (∀ cv, VRel I Z r' cv → VRel I Z r cv) → ∃ cv w', (do eqGuard op t ox oy (.float .f64 n) (.float .f64 m); binOp op t (.float .f64 n) (.float .f64 m) : Sem Value).run P w = .ok cv w' ∧ VRel I Z r cv ∧ ∃ d, w' = { w with drawn := d } := fun r' h hr => by
      obtain ⟨cv, w', h1, h2, h3⟩ := binA_rel (w := w) h (VRel.f (I := I) (Z := Z) .f64 n n (.inl rfl)) (VRel.f .f64 m m (.inl rfl)) ox oy
      exact ⟨cv, w', h1, hr cv h2, h3⟩
    have bb : ∀ (b : Bool) (cv : Value), VRel I Z (.b b) cv → VRel I Z .unkb cv := fun b cv h => by cases h; exact .unkb _
    have ff : ∀ (a : Nat) (cv : Value), VRel I Z (.f .f64 a) cv → VRel I Z (.uf .f64) cv := fun b cv h => by cases h; exact .uf _ _
    split at e
    · cases e; exact go _ rfl (bb _)
    · cases e; exact go _ rfl (bb _)
    · cases e; exact go _ rfl (bb _)
    · cases e; exact go _ rfl (bb _)
    · cases e; exact go _ rfl (bb _)
    · cases e; exact go _ rfl (bb _)
    · cases e; exact go _ rfl (ff _)
    · cases e; exact go _ rfl (ff _)
    · cases e; exact go _ rfl (ff _)
    · cases e; exact go _ rfl (ff _)
    · cases e
  · cases e

def tuM (op : UnOp) (x : AV) : Option AV := match op, x with
  | .not, .unkb => some .unkb
  | .xor, .ui k => some (.ui k)
  | _, _ => none

theorem tuM_ok {P : Program} {op : UnOp} {x r : AV} (e : tuM op x = some r) (I : Inj) (Z : Zed) (w : World) (v : Value) (hv : VRel I Z x v) : ∃ cv, (Op.unary op v).run P w = .ok cv w ∧ VRel I Z r cv := by
  unfold tuM at e
  split at e
  · cases e
    cases hv with
    | unkb b => exact ⟨.bool !b, rfl, .unkb _⟩
  · cases e
    cases hv with
    | ui k n => exact ⟨_, rfl, .ui _ _⟩
  · cases e

def bitsM (tf : Nat → Bool) : List AV → Option AV
  | [a] => if isF64 tf a = true then some (.ui .u64) else none
  | _ => none
def fromBitsM : List AV → Option AV
  | [.ui .u64] => some (.uf .f64)
  | [.i .u64 _] => some (.uf .f64)
  | _ => none

theorem bitsM_ok {tf : Nat → Bool} (htf : IsTf tf) {P : Program} {f : FuncId} (hb : ExtIs P f Extern.MathFloatBits.float64bits) {args : List AV} {v : AV} (e : bitsM tf args = some v) (I : Inj) (Z : Zed) (w : World) (vs : List Value) (hL : LRel I Z args vs) :
    ∃ cv, (callFunc f vs.toArray).run P w = .ok (.value cv) w ∧ VRel I Z v cv := by
  unfold bitsM at e
  split at e
  · split at e
    · rename_i h
      cases e
      obtain ⟨y, r, rfl, hy, hr⟩ := hL.inv_cons
      obtain rfl := hr.inv_nil
      obtain ⟨n, rfl⟩ := isF64_rel htf h hy
      exact ⟨.int .u64 n, hb.run rfl, .ui _ _⟩
    · cases e
  · cases e
theorem fromBitsM_ok {P : Program} {f : FuncId} (hb : ExtIs P f Extern.MathFloatBits.float64frombits) {args : List AV} {v : AV} (e : fromBitsM args = some v) (I : Inj) (Z : Zed) (w : World) (vs : List Value) (hL : LRel I Z args vs) :
    ∃ cv, (callFunc f vs.toArray).run P w = .ok (.value cv) w ∧ VRel I Z v cv := by
  unfold fromBitsM at e
  split at e
  · cases e
    obtain ⟨y, r, rfl, hy, hr⟩ := hL.inv_cons
    obtain rfl := hr.inv_nil
    cases hy
    rename_i n
    exact ⟨.float .f64 n.toNat, hb.run rfl, .uf _ _⟩
  · cases e
    obtain ⟨y, r, rfl, hy, hr⟩ := hL.inv_cons
    obtain rfl := hr.inv_nil
    cases hy
    rename_i n
    exact ⟨.float .f64 n.toNat, hb.run rfl, .uf _ _⟩
  · cases e
end
end Go.Av
