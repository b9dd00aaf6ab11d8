/-
  The lane's Send, on the abstract machine.
-/
import Derived.Test.YtgiphcfpopgchaaLaneB
namespace Go.Proofs.Ytgiphcfpopgchaa
open Go.Av
set_option maxRecDepth 100000
set_option maxHeartbeats 4000000
set_option linter.unusedSimpArgs false
set_option linter.unusedVariables false

theorem cells_i (k : IntKind) (n : Int) : (AV.i k n).cells = [.i k n] := rfl
theorem cells_own (k o n : Nat) (c : Option Nat) : (AV.own k o n c).cells = [.own k o n c] := rfl
theorem cells_one {v : AV} (h : v.one = true) : v.cells = [v] := by cases v <;> simp_all [AV.one, AV.cells]

/-- A slice's content; the block that it lies in. -/
inductive Sl (h : AH) : Option Nat → AV → List AV → Prop
  | nil0 : Sl h none .nsl []
  | own0 {q : Nat} {cs L : List AV} (hq : h.get q = some (.cells 1 cs)) (ht : cs.take L.length = L) (hl : L.length ≤ cs.length) (hc : cs.all AV.one = true) (hn : q < h.next) : Sl h (some q) (.own q 0 L.length none) L

structure Cnt where
  s : Int
  t : Int
  d : Int
  m : Int

def Cnt.ok (c : Cnt) (k : Int) : Prop := (0 ≤ c.s ∧ c.s < k) ∧ (0 ≤ c.t ∧ c.t < k) ∧ (0 ≤ c.d ∧ c.d < k) ∧ (0 ≤ c.m ∧ c.m < k)

def obj (S : AV) (c : Cnt) : List AV := [S, .i .i64 c.s, .i .i64 c.t, .i .i64 c.d, .i .i64 c.m]

/-- A lane that stands at p. -/
structure Lane (h : AH) (p : Nat) (Q : Option Nat) (L : List AV) (c : Cnt) : Prop where
  obj : ∃ S, h.get p = some (.cells 5 (obj S c)) ∧ Sl h Q S L
  lt : p < h.next
  ne : Q ≠ some p

/-- What a call leaves of the rest. -/
structure Fm (h h' : AH) (p : Nat) (Q Q' : Option Nat) : Prop where
  next : h.next ≤ h'.next
  own : Q' = Q ∨ ∃ q', Q' = some q' ∧ h.next ≤ q'
  keep : ∀ j, j < h.next → j ≠ p → Q ≠ some j → h'.get j = h.get j

theorem app_one0 {h : AH} {v : AV} (ho : v.one = true) : appendA Try.prog h 22 22 .nsl (.imm [v] 1) = some (.own h.next 0 1 none, h.new (.cells 1 [v])) := by
  unfold appendA
  simp only [el22, es3, z3, by3, AV.cells, List.length_singleton]
  rw [if_pos (by decide)]
  have : moreA Try.prog h 1 22 [.i .i64 0] (.imm [v] 1) = some ([v], 1) := by simp [moreA, Try.underlying22]
  rw [this]
  simp [ho, room, newSlice]

theorem app_one {h : AH} {q : Nat} {cs L : List AV} {v : AV} (hq : h.get q = some (.cells 1 cs)) (ht : cs.take L.length = L) (hl : L.length ≤ cs.length) (hc : cs.all AV.one = true) (hn : q < h.next) (ho : v.one = true) (hb : L.length ≤ 5000) :
    ∃ q' h', appendA Try.prog h 22 22 (.own q 0 L.length none) (.imm [v] 1) = some (.own q' 0 (L.length + 1) none, h') ∧ Sl h' (some q') (.own q' 0 (L ++ [v]).length none) (L ++ [v]) ∧ (q' = q ∨ q' = h.next) ∧ h.next ≤ h'.next ∧
      ∀ j, j ≠ q → j ≠ h.next → h'.get j = h.get j := by
  have hm : moreA Try.prog h 1 22 [.i .i64 0] (.imm [v] 1) = some ([v], 1) := by simp [moreA, Try.underlying22]
  by_cases hr : L.length + 1 ≤ cs.length
  · refine ⟨q, h.set q (.cells 1 (splice cs L.length [v])), ?_, ?_, .inl rfl, Nat.le_refl _, fun j h1 h2 => by rw [AH.get_set, if_neg h1]⟩
    · unfold appendA
      simp only [el22, es3, z3, by3, AV.cells, List.length_singleton]
      rw [if_pos (by decide), hm]
      simp only
      rw [if_pos (by simp [ho, room]), hq]
      simp only
      rw [if_pos ⟨trivial, by simp only [room]; omega, by omega⟩, if_pos (by omega)]
      unfold putCells
      simp only [hq]
      rw [if_pos (by simp [ho]; omega)]
      simp
    · refine .own0 (cs := splice cs L.length [v]) (by rw [AH.get_set, if_pos rfl]) ?_ (by rw [splice_length _ _ _ (by simp; omega)]; simp; omega) ?_ hn
      · rw [show splice cs L.length [v] = (L ++ [v]) ++ cs.drop (L.length + 1) by simp [splice, ht]]
        exact List.take_left' rfl
      · simp only [splice, List.all_append, Bool.and_eq_true]
        simp only [List.all_eq_true] at hc ⊢
        exact ⟨⟨fun x hx => hc x (List.mem_of_mem_take hx), by simpa using ho⟩, fun x hx => hc x (List.mem_of_mem_drop hx)⟩
  · refine ⟨h.next, (h.del q).new (.cells 1 (L ++ [v])), ?_, ?_, .inr rfl, by simp, fun j h1 h2 => by rw [AH.get_new, AH.next_del, if_neg h2, AH.get_del, if_neg h1]⟩
    · unfold appendA
      simp only [el22, es3, z3, by3, AV.cells, List.length_singleton]
      rw [if_pos (by decide), hm]
      simp only
      rw [if_pos (by simp [ho, room]), hq]
      simp only
      rw [if_pos ⟨trivial, by simp only [room]; omega, by omega⟩, if_neg (by omega)]
      simp [ht]
    · have hLL : L = cs := by rw [← ht]; exact List.take_of_length_le (by omega)
      refine .own0 (cs := L ++ [v]) (by rw [AH.get_new]; simp) (List.take_of_length_le (Nat.le_refl _)) (by simp) ?_ (by simp)
      simp only [List.all_append, Bool.and_eq_true]
      exact ⟨by rw [hLL]; exact hc, by simpa using ho⟩

/-- What putting one cell of an object does. -/
theorem put_obj {h : AH} {p : Nat} {S a b c d : AV} (hp : h.get p = some (.cells 5 [S, a, b, c, d])) {x : AV} (hx : x.one = true) :
    putCells h p 0 [x] = some (h.set p (.cells 5 [x, a, b, c, d])) ∧ putCells h p 1 [x] = some (h.set p (.cells 5 [S, x, b, c, d])) ∧ putCells h p 2 [x] = some (h.set p (.cells 5 [S, a, x, c, d])) ∧
    putCells h p 3 [x] = some (h.set p (.cells 5 [S, a, b, x, d])) ∧ putCells h p 4 [x] = some (h.set p (.cells 5 [S, a, b, c, x])) := by
  refine ⟨?_, ?_, ?_, ?_, ?_⟩ <;> · unfold putCells; simp [hp, hx, splice]

theorem Sl.one {h : AH} {Q : Option Nat} {S : AV} {L : List AV} (hs : Sl h Q S L) : S.one = true := by cases hs <;> rfl

theorem Sl.put {h : AH} {p : Nat} {Q : Option Nat} {S : AV} {L : List AV} (hs : Sl h Q S L) (hp : Q ≠ some p) (o : AO) : Sl (h.set p o) Q S L := by
  cases hs with
  | nil0 => exact .nil0
  | own0 hq ht hl hc hn => exact .own0 (by rw [AH.get_set, if_neg (fun e => hp (by rw [e]))]; exact hq) ht hl hc hn

theorem lit_one (v : AV) (ho : v.one = true) : litSliceA Try.prog 22 1 [(0, v)] = some (.imm [v] 1) := by
  have hcell : v.cells = [v] := by cases v <;> simp_all [AV.one, AV.cells]
  unfold litSliceA
  simp only [el22, es3, z3]
  have hz : (AV.i .i64 0).cells = [AV.i .i64 0] := rfl
  have hz1 : (AV.i .i64 0).one = true := rfl
  rw [if_pos (by simp [hz, hz1, hcell, ho])]
  simp [fillA, hcell, repZ, hz, splice]

/-- append of one. -/
theorem app_lane {h : AH} {Q : Option Nat} {S : AV} {L : List AV} (hs : Sl h Q S L) {v : AV} (ho : v.one = true) (hb : L.length < 5000) :
    ∃ Q' S' h1, appendA Try.prog h 22 22 S (.imm [v] 1) = some (S', h1) ∧ Sl h1 Q' S' (L ++ [v]) ∧ (Q' = Q ∨ Q' = some h.next) ∧ h.next ≤ h1.next ∧ ∀ j, Q ≠ some j → j ≠ h.next → h1.get j = h.get j := by
  cases hs with
  | nil0 => exact ⟨some h.next, _, _, app_one0 ho, .own0 (L := [v]) (cs := [v]) (by rw [AH.get_new]; simp) (by simp) (by simp) (by simp [ho]) (by simp), .inr rfl, by simp, fun j h1 h2 => by rw [AH.get_new, if_neg h2]⟩
  | @own0 q cs _ hq ht hl hc hn =>
    obtain ⟨q', h', b1, b2, b3, b4, b5⟩ := app_one hq ht hl hc hn ho (by omega)
    refine ⟨some q', _, h', b1, by simpa using b2, ?_, b4, fun j h1 h2 => b5 j (fun e => h1 (by rw [e])) h2⟩
    rcases b3 with rfl | rfl
    · exact .inl rfl
    · exact .inr rfl

theorem send_run {h : AH} {p : Nat} {Q : Option Nat} {L : List AV} {c : Cnt} (hl : Lane h p Q L c) (hb : L.length < 4096) (hc : c.ok 1000000) {v : AV} (ho : v.one = true) (n : Nat) :
    ∃ Q' h', run E (n + 2) (.call 10 [.p (some (p, 0)), v] h) = some (.ret (.b true) h') ∧ Lane h' p Q' (L ++ [v]) { c with s := c.s + 1 } ∧ Fm h h' p Q Q' := by
  obtain ⟨⟨S, hp, hs⟩, hlt, hne⟩ := hl
  have hfull : run E (n + 1) (.call 33 [.p (some (p, 0))] h) = some (.ret (.b false) h) := by
    cases hs with
    | nil0 => exact full_run0 hp n
    | own0 hq ht hl hc hn => rw [full_run hp n]; congr 3; simp; omega
  obtain ⟨Q', S', h1, a1, hs1, hown, hnx, hkeep⟩ := app_lane hs ho (by omega)
  have hne' : Q' ≠ some p := by
    rcases hown with rfl | rfl
    · exact hne
    · intro e; cases e; omega
  have hS1 : S'.one = true := hs1.one
  have hp1 : h1.get p = some (.cells 5 (obj S c)) := by rw [hkeep p hne (by omega)]; exact hp
  have p0 := (put_obj hp1 hS1).1
  have hp2 : (h1.set p (.cells 5 (obj S' c))).get p = some (.cells 5 (obj S' c)) := by rw [AH.get_set, if_pos rfl]
  have p1 := (put_obj hp2 (x := .i .i64 (c.s + 1)) rfl).2.1
  have w1 : IntKind.wrap .i64 (c.s + 1) = c.s + 1 := wrap_int (by have := hc.1; omega)
  unfold obj at hp hp1 hp2 p0 p1
  refine ⟨Q', (h1.set p (.cells 5 (obj S' c))).set p (.cells 5 [S', .i .i64 (c.s + 1), .i .i64 c.t, .i .i64 c.d, .i .i64 c.m]), ?_, ⟨⟨S', by rw [AH.get_set, if_pos rfl]; rfl, ((hs1.put hne' _).put hne' _)⟩, by simp; omega, hne'⟩, ⟨by simpa using hnx, ?_, fun j h2 h3 h4 => by rw [AH.get_set, if_neg h3, AH.get_set, if_neg h3, hkeep j h4 (by omega)]⟩⟩
  · rw [show n + 2 = (n + 1) + 1 from rfl]
    generalize hr : run E (n + 1) = R at hfull
    rw [run, hr]
    have l1 := lit_one v ho
    have cS := cells_one hS1
    simp [Try.func10, Try.f10, Try.func33, Try.f33, stepTask, stepCall, bodyA, stepCode, stepOps, List.range_succ, step1, wantedA, stepOp, execA, evA, putA, ofV, builtinA, lenA, binA, unA, resultsA, resA, indexAddrA, fieldAddrA, storeA, cells_i, cells_own, callFnA, E_P, E_fun, E_mode, E_hook, E_phook, E_ext, E_own, E_glob, Try.underlying2, Try.underlying22, Try.underlying3, Try.underlying50, sz2, sz22, sz3, agg2, agg22, agg3, intA, loadA, cellsAt, tk0, tk1, tk2, tk3, tk4, undefA, hp, hfull, cS, l1, a1, hp1, p0, hp2, p1, w1, obj]
  · rcases hown with rfl | rfl
    · exact .inl rfl
    · exact .inr ⟨_, rfl, Nat.le_refl _⟩
end Go.Proofs.Ytgiphcfpopgchaa
