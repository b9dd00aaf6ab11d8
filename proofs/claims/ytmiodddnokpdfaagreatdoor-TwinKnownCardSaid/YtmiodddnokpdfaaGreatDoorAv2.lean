/-
  What an abstract value, an abstract heap stand for in the model's world; how a step may change it.
-/
import Derived.Test.YtmiodddnokpdfaaGreatDoorAv1
import Derived.Laws.Sem
namespace Go.Av
noncomputable section
set_option linter.unusedSectionVars false
variable [Toks]

/-- Where an abstract block lies: the block, its first place, the size of an element, how many cells the block has. -/
structure BI where
  blk : Nat
  d : Nat
  es : Nat
  N : Nat

abbrev Inj := Nat → Option BI
abbrev Zed := Nat → Nat → Option Value

def nanF (k : FloatKind) (x : Nat) : Prop := (k.format.read x).isNaN = true

/-- The capacity of a slice that begins at cell o of its block. -/
def capOk (B : BI) (o capC : Nat) : Option Nat → Prop
  | some c => capC = c
  | none => o + capC * B.es = B.N

inductive VRel (I : Inj) (Z : Zed) : AV → Value → Prop where
  | any (v : Value) : VRel I Z .any v
  | b (x : Bool) : VRel I Z (.b x) (.bool x)
  | i (k : IntKind) (n : Int) : VRel I Z (.i k n) (.int k n)
  | f (k : FloatKind) (x y : Nat) (h : x = y ∨ (nanF k x ∧ nanF k y)) : VRel I Z (.f k x) (.float k y)
  | s (x : ByteArray) : VRel I Z (.s x) (.string x)
  | pn : VRel I Z (.p none) (.pointer none)
  | p {k o : Nat} {B : BI} (h : I k = some B) : VRel I Z (.p (some (k, o))) (.pointer (some ⟨B.blk, B.d + o, none⟩))
  | ip {cs : List AV} {vs : List Value} {o blk base : Nat} (hl : vs.length = cs.length)
      (hz : ∀ (j : Nat) v, vs[j]? = some v → Z blk (base + j) = some v) (hv : ∀ (j : Nat) a v, cs[j]? = some a → vs[j]? = some v → VRel I Z a v) :
      VRel I Z (.ip cs o) (.pointer (some ⟨blk, base + o, none⟩))
  | nsl : VRel I Z .nsl (.slice none 0 0)
  | emp0 : VRel I Z .emp (.slice none 0 0)
  | emp1 (b o : Nat) : VRel I Z .emp (.slice (some ⟨b, o, none⟩) 0 0)
  | imm {cs : List AV} {vs : List Value} {n blk base cap : Nat} (hl : vs.length = cs.length)
      (hz : ∀ (j : Nat) v, vs[j]? = some v → Z blk (base + j) = some v) (hv : ∀ (j : Nat) a v, cs[j]? = some a → vs[j]? = some v → VRel I Z a v) (hc : n ≤ cap) :
      VRel I Z (.imm cs n) (.slice (some ⟨blk, base, none⟩) n cap)
  | own {k o n capC : Nat} {cap : Option Nat} {B : BI} (h : I k = some B) (hn : n ≤ capC)
      (hc : capOk B (B.d + o) capC cap) :
      VRel I Z (.own k o n cap) (.slice (some ⟨B.blk, B.d + o, none⟩) n capC)
  | own0 {k o off : Nat} {cap : Option Nat} {B : BI} (h : I k = some B)
      (hc : capOk B (B.d + o) 0 cap) :
      VRel I Z (.own k o 0 cap) (.slice (some ⟨B.blk, off, none⟩) 0 0)
  | mn : VRel I Z (.m none) (.map none)
  | m {k : Nat} {B : BI} (h : I k = some B) : VRel I Z (.m (some k)) (.map (some B.blk))
  | fn {g : Fn} {x c : List AV} {x' c' : Array Value} (hx : x.length = x'.size) (hxv : ∀ (j : Nat) a v, x[j]? = some a → x'[j]? = some v → VRel I Z a v)
      (hc : c.length = c'.size) (hcv : ∀ (j : Nat) a v, c[j]? = some a → c'[j]? = some v → VRel I Z a v) : VRel I Z (.fn g x c) (.func g x' c')
  | nfn : VRel I Z .nfn .nilFunc
  | ifc {t : TypeId} {a : AV} {v : Value} (h : VRel I Z a v) : VRel I Z (.ifc t a) (.iface t v)
  | nif : VRel I Z .nif .nilIface
  | agg {cs : List AV} {vs : Array Value} (hl : cs.length = vs.size) (hv : ∀ (j : Nat) a v, cs[j]? = some a → vs[j]? = some v → VRel I Z a v) : VRel I Z (.agg cs) (.agg vs)
  | tup {cs : List AV} {vs : Array Value} (hl : cs.length = vs.size) (hv : ∀ (j : Nat) a v, cs[j]? = some a → vs[j]? = some v → VRel I Z a v) : VRel I Z (.tup cs) (.tuple vs)
  | tok (n : Nat) (v : Value) (h : Toks.val n = v) : VRel I Z (.tok n) v
  | junk (v : Value) (h : v.oneCell' = true) : VRel I Z .junk v
  | unkb (b : Bool) : VRel I Z .unkb (.bool b)
  | ui (k : IntKind) (n : Int) : VRel I Z (.ui k) (.int k n)
  | uf (k : FloatKind) (n : Nat) : VRel I Z (.uf k) (.float k n)
  | ig (k : IntKind) (m n : Int) (h : m ≤ n) : VRel I Z (.ig k m) (.int k n)

def Inj.le (I J : Inj) : Prop := ∀ k B, I k = some B → J k = some B
def Zed.le (Z Y : Zed) : Prop := ∀ b o v, Z b o = some v → Y b o = some v

theorem VRel.mono {I J : Inj} {Z Y : Zed} (hI : I.le J) (hZ : Z.le Y) {a : AV} {v : Value} (h : VRel I Z a v) : VRel J Y a v := by
  induction h with
  | any v => exact .any v
  | b x => exact .b x
  | i k n => exact .i k n
  | f k x y h => exact .f k x y h
  | s x => exact .s x
  | pn => exact .pn
  | p h => exact .p (hI _ _ h)
  | ip hl hz _ ih => exact .ip hl (fun j v e => hZ _ _ _ (hz j v e)) ih
  | nsl => exact .nsl
  | emp0 => exact .emp0
  | emp1 b o => exact .emp1 b o
  | imm hl hz _ hc ih => exact .imm hl (fun j v e => hZ _ _ _ (hz j v e)) ih hc
  | own h hn hc => exact .own (hI _ _ h) hn hc
  | own0 h hc => exact .own0 (hI _ _ h) hc
  | mn => exact .mn
  | m h => exact .m (hI _ _ h)
  | fn hx _ hc _ ih1 ih2 => exact .fn hx ih1 hc ih2
  | nfn => exact .nfn
  | ifc _ ih => exact .ifc ih
  | nif => exact .nif
  | agg hl _ ih => exact .agg hl ih
  | tup hl _ ih => exact .tup hl ih
  | tok n v h => exact .tok n v h
  | junk v h => exact .junk v h
  | unkb b => exact .unkb b
  | ui k n => exact .ui k n
  | uf k n => exact .uf k n
  | ig k m n h => exact .ig k m n h

/-- Lists of values, one by one. -/
def LRel (I : Inj) (Z : Zed) (as : List AV) (vs : List Value) : Prop :=
  as.length = vs.length ∧ ∀ (j : Nat) a v, as[j]? = some a → vs[j]? = some v → VRel I Z a v

theorem LRel.mono {I J : Inj} {Z Y : Zed} (hI : I.le J) (hZ : Z.le Y) {a : List AV} {v : List Value} (h : LRel I Z a v) : LRel J Y a v :=
  ⟨h.1, fun j x y e1 e2 => (h.2 j x y e1 e2).mono hI hZ⟩

theorem LRel.nil {I : Inj} {Z : Zed} : LRel I Z [] [] := ⟨rfl, fun j a v h => by simp at h⟩

theorem LRel.cons {I : Inj} {Z : Zed} {a : AV} {v : Value} {as : List AV} {vs : List Value} (h : VRel I Z a v) (r : LRel I Z as vs) : LRel I Z (a :: as) (v :: vs) :=
  ⟨by simp [r.1], fun j x y e1 e2 => by
    cases j with
    | zero => simp at e1 e2; subst e1; subst e2; exact h
    | succ j => simp at e1 e2; exact r.2 j x y e1 e2⟩

theorem LRel.inv_nil {I : Inj} {Z : Zed} {vs : List Value} (h : LRel I Z [] vs) : vs = [] := by
  have := h.1; simp at this; exact (List.length_eq_zero_iff.1 this.symm)

theorem LRel.inv_cons {I : Inj} {Z : Zed} {a : AV} {as : List AV} {vs : List Value} (h : LRel I Z (a :: as) vs) :
    ∃ v r, vs = v :: r ∧ VRel I Z a v ∧ LRel I Z as r := by
  cases vs with
  | nil => have := h.1; simp at this
  | cons v r => exact ⟨v, r, rfl, h.2 0 a v rfl rfl, by have := h.1; simp at this; exact this, fun j x y e1 e2 => h.2 (j + 1) x y (by simpa using e1) (by simpa using e2)⟩

theorem LRel.append {I : Inj} {Z : Zed} {a b : List AV} {v w : List Value} (h : LRel I Z a v) (h' : LRel I Z b w) : LRel I Z (a ++ b) (v ++ w) := by
  induction a generalizing v with
  | nil => rw [h.inv_nil]; exact h'
  | cons x a ih => obtain ⟨y, r, rfl, hy, hr⟩ := h.inv_cons; exact .cons hy (ih hr)

theorem LRel.take {I : Inj} {Z : Zed} {a : List AV} {v : List Value} (h : LRel I Z a v) (n : Nat) : LRel I Z (a.take n) (v.take n) := by
  induction a generalizing v n with
  | nil => rw [h.inv_nil]; simp [LRel.nil]
  | cons x a ih =>
    obtain ⟨y, r, rfl, hy, hr⟩ := h.inv_cons
    cases n with
    | zero => simp [LRel.nil]
    | succ n => simpa using LRel.cons hy (ih hr n)

theorem LRel.drop {I : Inj} {Z : Zed} {a : List AV} {v : List Value} (h : LRel I Z a v) (n : Nat) : LRel I Z (a.drop n) (v.drop n) := by
  induction a generalizing v n with
  | nil => rw [h.inv_nil]; simp [LRel.nil]
  | cons x a ih =>
    obtain ⟨y, r, rfl, hy, hr⟩ := h.inv_cons
    cases n with
    | zero => simpa using LRel.cons hy hr
    | succ n => simpa using ih hr n

theorem LRel.get {I : Inj} {Z : Zed} {a : List AV} {v : List Value} (h : LRel I Z a v) {j : Nat} {x : AV} (e : a[j]? = some x) : ∃ y, v[j]? = some y ∧ VRel I Z x y := by
  have hj : j < a.length := (List.getElem?_eq_some_iff.1 e).1
  have hj' : j < v.length := h.1 ▸ hj
  exact ⟨v[j], List.getElem?_eq_getElem hj', h.2 j x _ e (List.getElem?_eq_getElem hj')⟩

theorem LRel.set {I : Inj} {Z : Zed} {a : List AV} {v : List Value} (h : LRel I Z a v) (j : Nat) {x : AV} {y : Value} (hx : VRel I Z x y) : LRel I Z (a.set j x) (v.set j y) := by
  refine ⟨by simp [h.1], fun i p q e1 e2 => ?_⟩
  rw [List.getElem?_set] at e1 e2
  by_cases hj : j = i
  · subst hj
    simp only [if_true] at e1 e2
    split at e1 <;> split at e2 <;> simp_all
  · rw [if_neg hj] at e1 e2; exact h.2 i p q e1 e2

theorem agg_iff {I : Inj} {Z : Zed} {cs : List AV} {v : Value} : VRel I Z (.agg cs) v ↔ ∃ vs : List Value, v = .agg vs.toArray ∧ LRel I Z cs vs := by
  constructor
  · intro h
    cases h with
    | agg hl hv => rename_i vs; exact ⟨vs.toList, by simp, by simpa using hl, fun j a v e1 e2 => hv j a v e1 (by simpa using e2)⟩
  · rintro ⟨vs, rfl, h⟩
    exact .agg (by simpa using h.1) fun j a v e1 e2 => h.2 j a v e1 (by simpa using e2)

theorem tup_iff {I : Inj} {Z : Zed} {cs : List AV} {v : Value} : VRel I Z (.tup cs) v ↔ ∃ vs : List Value, v = .tuple vs.toArray ∧ LRel I Z cs vs := by
  constructor
  · intro h
    cases h with
    | tup hl hv => rename_i vs; exact ⟨vs.toList, by simp, by simpa using hl, fun j a v e1 e2 => hv j a v e1 (by simpa using e2)⟩
  · rintro ⟨vs, rfl, h⟩
    exact .tup (by simpa using h.1) fun j a v e1 e2 => h.2 j a v e1 (by simpa using e2)

/-- Is there such a block? -/
def AH.live (h : AH) (k : Nat) : Prop := h.get k ≠ none

theorem AH.get_set (h : AH) (k j : Nat) (o : AO) : (h.set k o).get j = if j = k then some o else h.get j := Tr.get_set _ _ _ _
theorem AH.get_del (h : AH) (k j : Nat) : (h.del k).get j = if j = k then none else h.get j := Tr.get_set _ _ _ _
theorem AH.get_new (h : AH) (j : Nat) (o : AO) : (h.new o).get j = if j = h.next then some o else h.get j := Tr.get_set _ _ _ _
@[simp] theorem AH.next_set (h : AH) (k : Nat) (o : AO) : (h.set k o).next = h.next := rfl
@[simp] theorem AH.next_del (h : AH) (k : Nat) : (h.del k).next = h.next := rfl
@[simp] theorem AH.next_new (h : AH) (o : AO) : (h.new o).next = h.next + 1 := rfl

/-- A block of cells, as the abstract one says. -/
def CellsOk (I : Inj) (Z : Zed) (w : World) (B : BI) (cs : List AV) : Prop :=
  ∃ (arr : Array Value) (elem : TypeId) (fr : Nat × Nat), w.heap[B.blk]? = some (.cells arr elem fr) ∧ arr.size = B.N ∧ B.d + cs.length ≤ B.N ∧
    (∀ (j : Nat) a, cs[j]? = some a → a.one = true ∧ ∃ v, arr[B.d + j]? = some v ∧ VRel I Z a v) ∧ (fr = (0, 0) ∨ (fr = (B.N, B.N + 1) ∧ B.es = 1)) ∧
    ∀ (j : Nat) v, arr[j]? = some v → v.oneCell' = true

theorem free_of {fr : Nat × Nat} {N x : Nat} {q : Prop} (h : fr = (0, 0) ∨ (fr = (N, N + 1) ∧ q)) (hx : x < N) : ¬(fr.1 ≤ x ∧ x < fr.2) := by
  rcases h with rfl | ⟨rfl, _⟩
  · simp
  · simp; omega

def MapOk (I : Inj) (Z : Zed) (w : World) (B : BI) : MO → Prop
  | .es es bs c => ∃ (ces : Array MapEntry), w.heap[B.blk]? = some (.map ces c) ∧ es.length = ces.size ∧ bs = ces.toList.map (·.born) ∧
    ∀ (j : Nat) a c, es[j]? = some a → ces[j]? = some c → VRel I Z a.1 c.key ∧ VRel I Z a.2 c.val
  | .it none _ _ _ => B.d = 0 ∧ ∃ x y z, w.heap[B.blk]? = some (.mapIter none x y z)
  | .it (some m) since seen last => B.d = 0 ∧ ∃ Bm, I m = some Bm ∧ w.heap[B.blk]? = some (.mapIter (some Bm.blk) since seen.toArray last)

structure Rel (I : Inj) (Z : Zed) (h : AH) (w : World) : Prop where
  cells : ∀ k es cs, h.get k = some (.cells es cs) → ∃ B, I k = some B ∧ B.es = es ∧ CellsOk I Z w B cs
  map : ∀ k es, h.get k = some (.map es) → ∃ B, I k = some B ∧ MapOk I Z w B es
  inj : ∀ k k' B B', h.live k → h.live k' → I k = some B → I k' = some B' → B.blk = B'.blk → k = k'
  zed : ∀ b o v, Z b o = some v → w.cell? ⟨b, o, none⟩ = some v ∧ ∀ k B, h.live k → I k = some B → B.blk = b → o < B.d
  fresh : ∀ k, (h.live k ∨ I k ≠ none) → k < h.next
  size : ∀ k B, I k = some B → B.blk < w.heap.size

/-- What a piece of a run leaves as it was: all that no live abstract block holds. -/
structure Fr (I : Inj) (h : AH) (w : World) (J : Inj) (h' : AH) (w' : World) : Prop where
  os : w'.os = w.os
  out : w'.output = w.output
  size : w.heap.size ≤ w'.heap.size
  next : h.next ≤ h'.next
  other : ∀ b, b < w.heap.size → (∀ k B, h.live k → I k = some B → B.blk ≠ b) → w'.heap[b]? = w.heap[b]?
  below : ∀ k B, h.live k → I k = some B → ∀ o, o < B.d → w'.cell? ⟨B.blk, o, none⟩ = w.cell? ⟨B.blk, o, none⟩
  live : ∀ k' B', h'.live k' → J k' = some B' → B'.blk < w.heap.size → ∃ k B, h.live k ∧ I k = some B ∧ B.blk = B'.blk ∧ B.d ≤ B'.d

structure Goes (I : Inj) (Z : Zed) (h : AH) (w : World) (J : Inj) (Y : Zed) (h' : AH) (w' : World) : Prop where
  le : I.le J
  lez : Z.le Y
  newz : ∀ b o v, Y b o = some v → Z b o = some v ∨ w.heap.size ≤ b ∨ ∃ k B, h.live k ∧ I k = some B ∧ B.blk = b ∧ B.d ≤ o
  rel : Rel J Y h' w'
  fr : Fr I h w J h' w'

theorem Inj.le.refl (I : Inj) : I.le I := fun _ _ h => h
theorem Zed.le.refl (Z : Zed) : Z.le Z := fun _ _ _ h => h
theorem Inj.le.trans {I J K : Inj} (h : I.le J) (h' : J.le K) : I.le K := fun k B e => h' k B (h k B e)
theorem Zed.le.trans {I J K : Zed} (h : I.le J) (h' : J.le K) : I.le K := fun k o B e => h' k o B (h k o B e)

theorem MapOk.mono {I J : Inj} {Z Y : Zed} {w w' : World} {B : BI} {es : MO} (hI : I.le J) (hZ : Z.le Y) (e : w'.heap[B.blk]? = w.heap[B.blk]?) (hc : MapOk I Z w B es) : MapOk J Y w' B es := by
  cases es with
  | es es bs c =>
    obtain ⟨ces, h1, h2, hb, h3⟩ := hc
    refine ⟨ces, by rw [e, h1], h2, hb, fun j a c ha hcc => ?_⟩
    obtain ⟨p, q⟩ := h3 j a c ha hcc
    exact ⟨p.mono hI hZ, q.mono hI hZ⟩
  | it m since seen last =>
    cases m with
    | none => obtain ⟨h0, x, y, z, h1⟩ := hc; exact ⟨h0, x, y, z, by rw [e, h1]⟩
    | some m => obtain ⟨h0, Bm, h1, h2⟩ := hc; exact ⟨h0, Bm, hI _ _ h1, by rw [e, h2]⟩

theorem Fr.refl (I : Inj) (h : AH) (w : World) : Fr I h w I h w :=
  ⟨rfl, rfl, Nat.le_refl _, Nat.le_refl _, fun _ _ _ => rfl, fun _ _ _ _ _ _ => rfl, fun k B hk hB _ => ⟨k, B, hk, hB, rfl, Nat.le_refl _⟩⟩

theorem Fr.trans {I J K : Inj} {Z : Zed} {h h1 h2 : AH} {w w1 w2 : World} (hr : Rel I Z h w) (a : Fr I h w J h1 w1) (b : Fr J h1 w1 K h2 w2) : Fr I h w K h2 w2 where
  os := by rw [b.os, a.os]
  out := by rw [b.out, a.out]
  size := Nat.le_trans a.size b.size
  next := Nat.le_trans a.next b.next
  other := fun x hx hn => by
    rw [b.other x (Nat.lt_of_lt_of_le hx a.size) fun k' B' hk' hB' e => ?_, a.other x hx hn]
    obtain ⟨k, B, hk, hB, e1, _⟩ := a.live k' B' hk' hB' (by omega)
    exact hn k B hk hB (by omega)
  below := fun k B hk hB o ho => by
    have hlt := hr.size k B hB
    by_cases hl : ∃ k' B', h1.live k' ∧ J k' = some B' ∧ B'.blk = B.blk
    · obtain ⟨k', B', hk', hB', e⟩ := hl
      obtain ⟨k2, B2, hk2, hB2, e2, hd⟩ := a.live k' B' hk' hB' (by omega)
      have : k2 = k := hr.inj k2 k B2 B hk2 hk hB2 hB (by omega)
      subst this
      rw [hB] at hB2; cases hB2
      rw [← a.below k2 B hk hB o ho, ← e, b.below k' B' hk' hB' o (by omega), e]
    · rw [← a.below k B hk hB o ho]
      have := b.other B.blk (Nat.lt_of_lt_of_le hlt a.size) fun k' B' hk' hB' e => hl ⟨k', B', hk', hB', e⟩
      simp only [World.cell?, this]
  live := fun k' B' hk' hB' hlt => by
    obtain ⟨k1, B1, hk1, hB1, e1, d1⟩ := b.live k' B' hk' hB' (Nat.lt_of_lt_of_le hlt a.size)
    obtain ⟨k, B, hk, hB, e, d⟩ := a.live k1 B1 hk1 hB1 (by omega)
    exact ⟨k, B, hk, hB, by omega, by omega⟩

theorem Goes.refl {I : Inj} {Z : Zed} {h : AH} {w : World} (hr : Rel I Z h w)   : Goes I Z h w I Z h w := ⟨.refl _, .refl _, fun _ _ _ h => .inl h, hr, .refl _ _ _⟩

theorem Goes.trans {I J K : Inj} {Z Y X : Zed} {h h1 h2 : AH} {w w1 w2 : World} (hr : Rel I Z h w) (a : Goes I Z h w J Y h1 w1) (b : Goes J Y h1 w1 K X h2 w2) : Goes I Z h w K X h2 w2 :=
  ⟨a.le.trans b.le, a.lez.trans b.lez, fun x o v hx => by
    rcases b.newz x o v hx with h | h | ⟨k, B, h1, h2, h3, h4⟩
    · exact a.newz x o v h
    · exact .inr (.inl (Nat.le_trans a.fr.size h))
    · rcases Nat.lt_or_ge x w.heap.size with hlt | hge
      · obtain ⟨k', B', g1, g2, g3, g4⟩ := a.fr.live k B h1 h2 (by omega)
        exact .inr (.inr ⟨k', B', g1, g2, by omega, by omega⟩)
      · exact .inr (.inl hge), b.rel, a.fr.trans hr b.fr⟩

/-- A world with the same memory. -/
theorem Goes.same {I : Inj} {Z : Zed} {h : AH} {w w' : World} (hr : Rel I Z h w) (e : w'.heap = w.heap) (eo : w'.os = w.os) (eu : w'.output = w.output) : Goes I Z h w I Z h w' := by
  have hc : ∀ a, w'.cell? a = w.cell? a := fun a => by simp only [World.cell?, e]
  refine ⟨.refl _, .refl _, fun _ _ _ h => .inl h, ⟨fun k es cs hk => ?_, fun k es hk => ?_, hr.inj, fun b o v hz => ?_, hr.fresh, fun k B hB => by rw [e]; exact hr.size k B hB⟩, ⟨eo, eu, by rw [e]; exact Nat.le_refl _, Nat.le_refl _, fun _ _ _ => by rw [e], fun _ _ _ _ _ _ => hc _, (Fr.refl I h w).live⟩⟩
  · obtain ⟨B, hB, he, a, t, fr, x⟩ := hr.cells k es cs hk; exact ⟨B, hB, he, a, t, fr, by rw [e]; exact x⟩
  · obtain ⟨B, hB, hc⟩ := hr.map k es hk; exact ⟨B, hB, hc.mono (.refl _) (.refl _) (by rw [e])⟩
  · rw [hc]; exact hr.zed b o v hz

theorem Goes.drew {I : Inj} {Z : Zed} {h : AH} {w : World} (hr : Rel I Z h w) (n : Nat) : Goes I Z h w I Z h { w with drawn := n } := .same hr rfl rfl rfl

end
end Go.Av
