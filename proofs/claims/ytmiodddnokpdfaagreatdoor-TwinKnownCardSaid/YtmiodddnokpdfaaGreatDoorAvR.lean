/-
  A range over a function that yields nothing.
-/
import Derived.Test.YtmiodddnokpdfaaGreatDoorAv20
import Derived.RangeFuncLeaves
import Derived.RangeFuncRecord
import Derived.RangeFuncIn
namespace Go.Av
noncomputable section
set_option linter.unusedSectionVars false
variable [Toks]
set_option linter.unusedSimpArgs false
set_option linter.unusedVariables false

/-- Objects that are no cells, laid since the start and named by no abstract block, may turn. -/
theorem Goes.patch {I J : Inj} {Z Y : Zed} {h h' : AH} {w0 w w' : World} (hr : Rel I Z h w0) (g : Goes I Z h w0 J Y h' w) (hs : w.heap.size ≤ w'.heap.size) (ho : w'.os = w.os) (hu : w'.output = w.output)
    (hb : ∀ b, w'.heap[b]? = w.heap[b]? ∨ (w0.heap.size ≤ b ∧ (∀ k B, h'.live k → J k = some B → B.blk ≠ b) ∧ ∀ o, w.cell? ⟨b, o, none⟩ = none)) : Goes I Z h w0 J Y h' w' := by
  have hlive : ∀ k B, h'.live k → J k = some B → w'.heap[B.blk]? = w.heap[B.blk]? := fun k B hl hB => by
    rcases hb B.blk with e | ⟨_, e, _⟩
    · exact e
    · exact absurd rfl (e k B hl hB)
  have hlow : ∀ b, b < w0.heap.size → w'.heap[b]? = w.heap[b]? := fun b hlt => by
    rcases hb b with e | ⟨e, _⟩
    · exact e
    · omega
  refine ⟨g.le, g.lez, g.newz, ⟨fun k es cs hk => ?_, fun k es hk => ?_, g.rel.inj, fun b o v hz => ?_, g.rel.fresh, fun k B hB => Nat.lt_of_lt_of_le (g.rel.size k B hB) hs⟩,
    ⟨ho.trans g.fr.os, hu.trans g.fr.out, Nat.le_trans g.fr.size hs, g.fr.next, fun b hlt hn => (hlow b hlt).trans (g.fr.other b hlt hn), fun k B hl hB o hlt => ?_, g.fr.live⟩⟩
  · obtain ⟨B, hB, he, hc⟩ := g.rel.cells k es cs hk
    exact ⟨B, hB, he, hc.mono (.refl _) (.refl _) (hlive k B (by simp [AH.live, hk]) hB)⟩
  · obtain ⟨B, hB, hc⟩ := g.rel.map k es hk
    exact ⟨B, hB, hc.mono (.refl _) (.refl _) (hlive k B (by simp [AH.live, hk]) hB)⟩
  · obtain ⟨h1, h2⟩ := g.rel.zed b o v hz
    refine ⟨?_, h2⟩
    rcases hb b with e | ⟨_, _, e⟩
    · simp only [World.cell?, e]; simpa only [World.cell?] using h1
    · rw [e o] at h1; cases h1
  · rw [← g.fr.below k B hl hB o hlt]
    have : w'.heap[B.blk]? = w.heap[B.blk]? := hlow _ (hr.size k B hB)
    simp only [World.cell?, this]

theorem cell_none {w : World} {b o : Nat} {ob : Obj} (h : w.heap[b]? = some ob) (hc : ∀ a e f, ob ≠ .cells a e f) : w.cell? ⟨b, o, none⟩ = none := by
  unfold World.cell?
  rw [h]
  split
  · rename_i a e f he; cases he; exact absurd rfl (hc _ _ _)
  · rfl
theorem cell_out {w : World} {b o : Nat} (h : w.heap.size ≤ b) : w.cell? ⟨b, o, none⟩ = none := by
  unfold World.cell?
  rw [Array.getElem?_eq_none h]

/-- A function whose body ranges over a function that yields nothing. -/
theorem callok_range {E : Env} (hE : EnvGood E) {n : Nat} {f fq : FuncId} {fn fnq : Func} {cq A A1 B assign body : Code} {id : Nat} {g : Operand} {ps : Array Tmp} {args c : List AV} {h h2 : AH} {s0 s1 s3 : S} {v r : AV}
    (hf : E.fun_ f = some fn) (hb : fn.body = some (.seq A (.seq (.seq A1 (.block id (.rangeFunc g ps assign body))) B)))
    (hfq : E.fun_ fq = some fnq) (hbq : fnq.body = some cq) (hnq : ¬ fnq.name = "runtime.NumGoroutine")
    (h1 : stepCode E (run E n) f A ⟨args ++ List.replicate (fn.ntmps - args.length) undefA, h⟩ = some (.normal, s0)) (h1b : stepCode E (run E n) f A1 s0 = some (.normal, s1)) (hev : evA E s1.t g = .fn (.func fq) [] c)
    (hq : run E n (.call fq (.any :: c) s1.h) = some (.ret v h2)) (h3 : stepCode E (run E n) f B ⟨s1.t, h2⟩ = some (.ret, s3)) (h4 : resultsA E.P fn s3 = some r) : CallOk E f args h r s3.h := by
  have hrec := (run_ok hE n).1
  have hdg := hE.draws f fn _ hf hb
  intro I Z w vs hg hL hr
  refine callsIn_wide (n := 6).1 (callsIn_of_wp_marks (hE.funs f fn hf) hb trivial (wpIn_wide.2 ?_))
  have ht : LRel I Z (args ++ List.replicate (fn.ntmps - args.length) undefA) (vs.toArray ++ Array.replicate (fn.ntmps - vs.toArray.size) undef).toList := by
    have := hL.append (rep_rel (I := I) (Z := Z) (fn.ntmps - args.length))
    rw [hL.1] at this
    simpa using (hL.1 ▸ this)
  refine wp_seq ?_
  refine @stepCode_ok _ ⟨[]⟩ _ hE.toEnvOk _ hrec (@(run_ok hE n).2 ⟨[]⟩) (@draws_ok _ ⟨[]⟩ _ hE _ hrec) f A _ .normal s0 (fun x hx => hdg x (by simp [drawsIn, hx])) h1 I Z w _ hg ht rfl hr _ (fun J0 Y0 w00 a0 hgo0 ht0 hd0 => ?_)
  refine wp_seq (wp_seq ?_)
  refine @stepCode_ok _ ⟨[]⟩ _ hE.toEnvOk _ hrec (@(run_ok hE n).2 ⟨[]⟩) (@draws_ok _ ⟨[]⟩ _ hE _ hrec) f A1 _ .normal s1 (fun x hx => hdg x (by simp [drawsIn, hx])) h1b J0 Y0 w00 a0 (hg.mono hgo0.le hgo0.lez) ht0 hd0 hgo0.rel _ (fun J Y w1 a1 hgo1 ht1 hd1 => ?_)
  have hgo := hgo0.trans hr hgo1
  have hd1' : a1.defers = [] := hd1
  refine (wp_block (wpIn_wide.1 (wpIn_rangeFunc (F := Fence.wide) (n := 6) fun fnid _ => ?_)))
  obtain ⟨rec, hrecd⟩ : ∃ rec : Loop, rec = { state := .ready, pending := none, fn := fnid, tmps := a1.tmps, params := ps, assign, body, defers := w1.heap.size } := ⟨_, rfl⟩
  obtain ⟨W1, hW1⟩ : ∃ W1, (w1.alloc (.deferred (some []))).alloc (.loop rec) = W1 := ⟨_, rfl⟩
  have hsz : W1.heap.size = w1.heap.size + 2 := by rw [← hW1]; simp
  have hL1 : W1.heap[w1.heap.size + 1]? = some (.loop rec) := by
    rw [← hW1]; have := World.alloc_heap_new (w1.alloc (.deferred (some []))) (.loop rec); rwa [World.size_alloc] at this
  have hold : ∀ b, b < w1.heap.size → W1.heap[b]? = w1.heap[b]? := fun b hb => by
    rw [← hW1]
    show ((w1.heap.push _).push _)[b]? = _
    rw [Array.getElem?_push, if_neg (by simp; omega), Array.getElem?_push, if_neg (by omega)]
  have hK1 : W1.heap[w1.heap.size]? = some (.deferred (some [])) := by
    rw [← hW1]
    show ((w1.heap.push _).push _)[w1.heap.size]? = _
    rw [Array.getElem?_push, if_neg (by simp), Array.getElem?_push, if_pos rfl]
  have hge := hgo.fr.size
  have g1 : Goes I Z h w J Y s1.h W1 := Goes.patch hr hgo (by omega) (by rw [← hW1]; rfl) (by rw [← hW1]; rfl) (fun b => by
    rcases Nat.lt_or_ge b w1.heap.size with hlt | hgeb
    · exact .inl (hold b hlt)
    · exact .inr ⟨by omega, fun k B hl hB e => by have := hgo.rel.size k B hB; omega, fun o => cell_out hgeb⟩)
  have hvq := evA_rel (hg.mono hgo.le hgo.lez) ht1 g
  rw [hev] at hvq
  obtain ⟨c', hval, hcl, hcv⟩ : ∃ c' : Array Value, a1.eval g = .func (.func fq) #[] c' ∧ c.length = c'.size ∧ ∀ (j : Nat) a v, c[j]? = some a → c'[j]? = some v → VRel J Y a v := by
    cases hv : a1.eval g <;> rw [hv] at hvq <;> cases hvq
    rename_i x' c' hx hxv hc hcv
    exact ⟨c', by rw [show x' = #[] by simpa using hx.symm], hc, hcv⟩
  have hPq := hE.funs fq fnq hfq
  refine ⟨w1.heap.size + 1, [{ target := .collected w1.heap.size, args := #[] }], W1, { target := .fn (.func fq) c', args := #[.func (.yield (w1.heap.size + 1)) #[] #[]] }, W1, fq,
    #[.func (.yield (w1.heap.size + 1)) #[] #[]] ++ c', W1, ?_, ?_, fun _ _ => trivial, ?_, fun _ => by omega, ?_⟩
  · rw [← hW1, hrecd]; exact run_enterLoop_outer _ _ _ _ _
  · simp only [resolve, hval]
    simp [go_sem, hval]
  · simp [invoke, callFunc, hPq, hbq, hnq]
  have hLq : LRel J Y (.any :: c) (.func (.yield (w1.heap.size + 1)) #[] #[] :: c'.toList) := .cons (.any _) ⟨by simpa using hcl, fun j a v e1 e2 => hcv j a v e1 (by simpa using e2)⟩
  have hcall := call_ok hE hq J Y W1 _ (hg.mono hgo.le hgo.lez) hLq g1.rel
  rw [show (Value.func (.yield (w1.heap.size + 1)) #[] #[] :: c'.toList).toArray = #[.func (.yield (w1.heap.size + 1)) #[] #[]] ++ c' by apply Array.ext'; simp] at hcall
  refine callsIn_wide.2 (hcall.mono ?_)
  rintro e w3 ⟨K, X, cv, rfl, g3, hv3⟩
  have nl : ∀ b, w1.heap.size ≤ b → b < W1.heap.size → ∀ k B, h2.live k → K k = some B → B.blk ≠ b := fun b hb1 hb2 k B hl hB e => by
    obtain ⟨k0, B0, q1, q2, q3, _⟩ := g3.fr.live k B hl hB (by omega)
    have := hgo.rel.size k0 B0 q2
    omega
  have hL3 : w3.heap[w1.heap.size + 1]? = some (.loop rec) := (g3.fr.other _ (by omega) (fun k B hl hB => by have := hgo.rel.size k B hB; omega)).trans hL1
  have hK3 : w3.heap[w1.heap.size]? = some (.deferred (some [])) := (g3.fr.other _ (by omega) (fun k B hl hB => by have := hgo.rel.size k B hB; omega)).trans hK1
  have hs3 := g3.fr.size
  have hend := run_endLoop (P := E.P) hL3 (by rw [hrecd]; simp)
  obtain ⟨w4, hw4⟩ : ∃ w4, w3.putObj (w1.heap.size + 1) (.loop { rec with state := .exhausted }) = w4 := ⟨_, rfl⟩
  rw [hw4] at hend
  have g4 : Goes I Z h w K X h2 w4 := Goes.patch hr (g1.trans hr g3) (by rw [← hw4]; simp) (by rw [← hw4]; rfl) (by rw [← hw4]; rfl) (fun b => by
    by_cases hbe : b = w1.heap.size + 1
    · subst hbe
      exact .inr ⟨by omega, nl _ (by omega) (by omega), fun o => cell_none hL3 (fun _ _ _ e => by cases e)⟩
    · exact .inl (by rw [← hw4]; exact World.putObj_heap_other hbe))
  have hK4 : w4.heap[w1.heap.size]? = some (.deferred (some [])) := by rw [← hw4]; exact (World.putObj_heap_other (by omega)).trans hK3
  have hs4 : w4.heap.size = w3.heap.size := by rw [← hw4]; simp
  refine ⟨none, w4, by rw [hend, hrecd], ?_⟩
  refine @stepCode_ok _ ⟨[{ target := .collected w1.heap.size, args := #[] }]⟩ _ hE.toEnvOk _ hrec (@(run_ok hE n).2 ⟨_⟩) (@draws_ok _ ⟨_⟩ _ hE _ hrec) f B ⟨s1.t, h2⟩ .ret s3 (fun x hx => hdg x (by simp [drawsIn, hx])) h3 K X w4 { a1 with defers := [{ target := .collected w1.heap.size, args := #[] }] ++ a1.defers }
    (hg.mono (hgo.le.trans g3.le) (hgo.lez.trans g3.lez)) (ht1.mono g3.le g3.lez) (by show [({ target := .collected w1.heap.size, args := #[] } : Deferred)] ++ a1.defers = [{ target := .collected w1.heap.size, args := #[] }]; rw [hd1']; rfl) g4.rel _ (fun K2 X2 w5 a5 g5 ht5 hd5 => ?_)
  have hd5' : a5.defers = [{ target := .collected w1.heap.size, args := #[] }] := hd5
  have hK5 : w5.heap[w1.heap.size]? = some (.deferred (some [])) := (g5.fr.other _ (by omega) (nl _ (by omega) (by omega))).trans hK4
  have hs5 := g5.fr.size
  show LeavesInM Fence.wide 6 E.P fn a5.tmps _ a5.defers .returning w5
  rw [hd5']
  have htake := run_takeDeferred (P := E.P) hK5
  obtain ⟨w6, hw6⟩ : ∃ w6, w5.putObj w1.heap.size (.deferred none) = w6 := ⟨_, rfl⟩
  rw [hw6] at htake
  have g6 : Goes I Z h w K2 X2 s3.h w6 := Goes.patch hr (g4.trans hr g5) (by rw [← hw6]; simp) (by rw [← hw6]; rfl) (by rw [← hw6]; rfl) (fun b => by
    by_cases hbe : b = w1.heap.size
    · subst hbe
      refine .inr ⟨by omega, fun k B hl hB e => ?_, fun o => cell_none hK5 (fun _ _ _ e => by cases e)⟩
      obtain ⟨k0, B0, q1, q2, q3, _⟩ := g5.fr.live k B hl hB (by omega)
      exact nl w1.heap.size (by omega) (by omega) k0 B0 q1 q2 (q3.trans e)
    · exact .inl (by rw [← hw6]; exact World.putObj_heap_other hbe))
  obtain ⟨cv6, h5, h6⟩ := results_ok h4 ht5 g6.rel
  exact ⟨by simp, .inl ⟨w1.heap.size, w6, rfl, htake, cv6, h5, K2, X2, cv6, rfl, g6, h6⟩⟩

end
end Go.Av
