/-
  The steps that memory may take, abstract and concrete side by side: a new block, a block struck, a block written, a block under a new name, a block that stays as it is from now on.
-/
import Derived.Test.YtmiodddnokpdfaaGreatDoorAv2
namespace Go.Av
noncomputable section
set_option linter.unusedSectionVars false
variable [Toks]

def Inj.put (I : Inj) (k : Nat) (B : BI) : Inj := fun j => if j = k then some B else I j

theorem Inj.le_put {I : Inj} {k : Nat} {B : BI} (h : I k = none) : I.le (I.put k B) := fun j B' e => by
  unfold Inj.put
  by_cases hj : j = k
  · subst hj; rw [h] at e; cases e
  · rw [if_neg hj]; exact e

theorem Inj.put_same {I : Inj} {k : Nat} {B : BI} : (I.put k B) k = some B := by simp [Inj.put]

theorem Rel.next_none {I : Inj} {Z : Zed} {h : AH} {w : World} (hr : Rel I Z h w) : I h.next = none ∧ ¬ h.live h.next := by
  constructor
  · cases e : I h.next with
    | none => rfl
    | some B => exact absurd (hr.fresh h.next (.inr (by simp [e]))) (Nat.lt_irrefl _)
  · intro hl; exact absurd (hr.fresh h.next (.inl hl)) (Nat.lt_irrefl _)

theorem CellsOk.mono {I J : Inj} {Z Y : Zed} {w w' : World} {B : BI} {cs : List AV} (hI : I.le J) (hZ : Z.le Y) (e : w'.heap[B.blk]? = w.heap[B.blk]?) (hc : CellsOk I Z w B cs) : CellsOk J Y w' B cs := by
  obtain ⟨arr, t, fr, h1, h2, h3, h4, h5⟩ := hc
  refine ⟨arr, t, fr, by rw [e, h1], h2, h3, fun j a ha => ?_, h5⟩
  obtain ⟨ho, v, hv, hr⟩ := h4 j a ha
  exact ⟨ho, v, hv, hr.mono hI hZ⟩

theorem AH.live_new {h : AH} {o : AO} {k : Nat} : (h.new o).live k ↔ k = h.next ∨ h.live k := by
  unfold AH.live; rw [AH.get_new]; split <;> simp_all

theorem AH.live_set {h : AH} {o : AO} {j k : Nat} (hj : h.live j) : (h.set j o).live k ↔ h.live k := by
  unfold AH.live at *; rw [AH.get_set]; split <;> simp_all

theorem AH.live_del {h : AH} {j k : Nat} : (h.del j).live k ↔ k ≠ j ∧ h.live k := by
  unfold AH.live at *; rw [AH.get_del]; split <;> simp_all

/-- A new block. -/
theorem Goes.alloc {I : Inj} {Z : Zed} {h : AH} {w w' : World} (hr : Rel I Z h w) {o : AO} {ob : Obj} {B : BI} (e : w'.heap = w.heap.push ob) (eo : w'.os = w.os) (eu : w'.output = w.output)
    (hb : B.blk = w.heap.size)
    (hc : ∀ es cs, o = .cells es cs → B.es = es ∧ CellsOk I Z w' B cs) (hm : ∀ es, o = .map es → MapOk I Z w' B es) :
    Goes I Z h w (I.put h.next B) Z (h.new o) w' := by
  obtain ⟨hn, hnl⟩ := hr.next_none
  have hle := Inj.le_put (B := B) hn
  have hold : ∀ b, b < w.heap.size → w'.heap[b]? = w.heap[b]? := fun b hb => by rw [e, Array.getElem?_push]; rw [if_neg (by omega)]
  have hget : ∀ k, k ≠ h.next → (I.put h.next B) k = I k := fun k hk => by simp [Inj.put, hk]
  refine ⟨hle, .refl _, fun _ _ _ h => .inl h, ⟨?_, ?_, ?_, ?_, ?_, ?_⟩, ⟨eo, eu, by rw [e]; simp, by simp, fun b hb _ => hold b hb, fun k B' hk hB' o ho => ?_, fun k' B' hk' hB' hlt => ?_⟩⟩
  · intro k es cs hk
    rw [AH.get_new] at hk
    by_cases hkn : k = h.next
    · rw [if_pos hkn] at hk
      obtain ⟨h1, h2⟩ := hc es cs (by simpa using hk)
      exact ⟨B, by rw [hkn]; exact Inj.put_same, h1, h2.mono hle (.refl _) rfl⟩
    · rw [if_neg hkn] at hk
      obtain ⟨B', hB', he, hc'⟩ := hr.cells k es cs hk
      exact ⟨B', by rw [hget k hkn]; exact hB', he, hc'.mono hle (.refl _) (hold _ (hr.size k B' hB'))⟩
  · intro k es hk
    rw [AH.get_new] at hk
    by_cases hkn : k = h.next
    · rw [if_pos hkn] at hk
      exact ⟨B, by rw [hkn]; exact Inj.put_same, (hm es (by simpa using hk)).mono hle (.refl _) rfl⟩
    · rw [if_neg hkn] at hk
      obtain ⟨B', hB', hc'⟩ := hr.map k es hk
      exact ⟨B', by rw [hget k hkn]; exact hB', hc'.mono hle (.refl _) (hold _ (hr.size k B' hB'))⟩
  · intro k k' B1 B2 hk hk' h1 h2 hbb
    rw [AH.live_new] at hk hk'
    by_cases e1 : k = h.next <;> by_cases e2 : k' = h.next
    · rw [e1, e2]
    · subst e1; rw [Inj.put_same] at h1; cases h1; rw [hget _ e2] at h2
      have := hr.size _ _ h2; omega
    · subst e2; rw [Inj.put_same] at h2; cases h2; rw [hget _ e1] at h1
      have := hr.size _ _ h1; omega
    · rw [hget _ e1] at h1; rw [hget _ e2] at h2
      exact hr.inj k k' B1 B2 (hk.resolve_left e1) (hk'.resolve_left e2) h1 h2 hbb
  · intro b o' v hz
    obtain ⟨h1, h2⟩ := hr.zed b o' v hz
    have hbl : b < w.heap.size := by
      rcases Nat.lt_or_ge b w.heap.size with h | h
      · exact h
      · simp [World.cell?, Array.getElem?_eq_none h] at h1
    refine ⟨?_, fun k B' hk hB' hbb => ?_⟩
    · simp only [World.cell?, hold b hbl]; simpa [World.cell?] using h1
    · rw [AH.live_new] at hk
      by_cases e1 : k = h.next
      · subst e1; rw [Inj.put_same] at hB'; cases hB'; omega
      · rw [hget _ e1] at hB'; exact h2 k B' (hk.resolve_left e1) hB' hbb
  · intro k hk
    simp only [AH.next_new]
    rw [AH.live_new] at hk
    by_cases e1 : k = h.next
    · omega
    · rw [hget _ e1] at hk
      have := hr.fresh k (hk.imp (fun h => h.resolve_left e1) id); omega
  · intro k B' hB'
    rw [e]; simp only [Array.size_push]
    by_cases e1 : k = h.next
    · subst e1; rw [Inj.put_same] at hB'; cases hB'; omega
    · rw [hget _ e1] at hB'; have := hr.size k B' hB'; omega
  · simp only [World.cell?, hold _ (hr.size k B' hB')]
  · rw [AH.live_new] at hk'
    by_cases e1 : k' = h.next
    · subst e1; rw [Inj.put_same] at hB'; cases hB'; omega
    · rw [hget _ e1] at hB'; exact ⟨k', B', hk'.resolve_left e1, hB', rfl, Nat.le_refl _⟩

/-- A block is forgotten. -/
theorem Goes.del {I : Inj} {Z : Zed} {h : AH} {w : World} (hr : Rel I Z h w) (k : Nat) : Goes I Z h w I Z (h.del k) w := by
  refine ⟨.refl _, .refl _, fun _ _ _ h => .inl h, ⟨fun j es cs hj => ?_, fun j es hj => ?_, fun j j' B B' hj hj' => hr.inj j j' B B' (AH.live_del.1 hj).2 (AH.live_del.1 hj').2, fun b o v hz => ?_, fun j hj => hr.fresh j (hj.imp (fun x => (AH.live_del.1 x).2) id), hr.size⟩, ⟨rfl, rfl, Nat.le_refl _, Nat.le_refl _, fun _ _ _ => rfl, fun _ _ _ _ _ _ => rfl, fun j B hj hB _ => ⟨j, B, (AH.live_del.1 hj).2, hB, rfl, Nat.le_refl _⟩⟩⟩
  · rw [AH.get_del] at hj; split at hj; · cases hj
    exact hr.cells j es cs hj
  · rw [AH.get_del] at hj; split at hj; · cases hj
    exact hr.map j es hj
  · exact ⟨(hr.zed b o v hz).1, fun j B hj => (hr.zed b o v hz).2 j B (AH.live_del.1 hj).2⟩

/-- One block is written, above its first place. -/
theorem Goes.write {I : Inj} {Z : Zed} {h : AH} {w w' : World} (hr : Rel I Z h w) {k es : Nat} {cs cs' : List AV} {B : BI} (hk : h.get k = some (.cells es cs)) (hB : I k = some B)
    (eo : w'.os = w.os) (eu : w'.output = w.output) (hs : w'.heap.size = w.heap.size) (hoth : ∀ b, b ≠ B.blk → w'.heap[b]? = w.heap[b]?)
    {arr arr' : Array Value} {elem : TypeId} {fr : Nat × Nat} (h0 : w.heap[B.blk]? = some (.cells arr elem fr)) (h1 : w'.heap[B.blk]? = some (.cells arr' elem fr))
    (hsz : arr'.size = arr.size) (hlow : ∀ o, o < B.d → arr'[o]? = arr[o]?) (hlen : B.d + cs'.length ≤ B.N)
    (hcs : ∀ (j : Nat) a, cs'[j]? = some a → a.one = true ∧ ∃ v, arr'[B.d + j]? = some v ∧ VRel I Z a v)
    (h1c : ∀ (o : Nat) v, arr'[o]? = some v → arr[o]? = some v ∨ v.oneCell' = true) :
    Goes I Z h w I Z (h.set k (.cells es cs')) w' := by
  have hlk : h.live k := by simp [AH.live, hk]
  have hblk : ∀ j B', h.live j → I j = some B' → j ≠ k → B'.blk ≠ B.blk := fun j B' hj hB' hne e => hne (hr.inj j k B' B hj hlk hB' hB e)
  obtain ⟨Bx, hBx, hes, arr0, t0, fr0, a1, a2, a3, a4, a5⟩ := hr.cells k es cs hk
  rw [hB] at hBx; cases hBx
  rw [h0] at a1; cases a1
  have hcell : ∀ b o, (b ≠ B.blk ∨ o < B.d) → w'.cell? ⟨b, o, none⟩ = w.cell? ⟨b, o, none⟩ := fun b o ho => by
    by_cases hb : b = B.blk
    · subst hb
      have := hlow o (ho.resolve_left (by simp))
      simp [World.cell?, h0, h1, this]
    · simp only [World.cell?, hoth b hb]
  refine ⟨.refl _, .refl _, fun _ _ _ h => .inl h, ⟨fun j es' cs'' hj => ?_, fun j es' hj => ?_, fun j j' B1 B2 hj hj' => hr.inj j j' B1 B2 ((AH.live_set hlk).1 hj) ((AH.live_set hlk).1 hj'), fun b o v hz => ?_, fun j hj => hr.fresh j (hj.imp (AH.live_set hlk).1 id), fun j B' hB' => by rw [hs]; exact hr.size j B' hB'⟩,
    ⟨eo, eu, Nat.le_of_eq hs.symm, Nat.le_refl _, fun b _ hn => hoth b fun e => hn k B hlk hB e.symm, fun j B' hj hB' o ho => ?_, fun j B' hj hB' _ => ⟨j, B', (AH.live_set hlk).1 hj, hB', rfl, Nat.le_refl _⟩⟩⟩
  · rw [AH.get_set] at hj
    by_cases e : j = k
    · rw [if_pos e] at hj; cases hj; subst e
      exact ⟨B, hB, hes, arr', elem, fr, h1, by rw [hsz, a2], hlen, hcs, a5.1, fun o v hv => (h1c o v hv).elim (a5.2 o v) id⟩
    · rw [if_neg e] at hj
      obtain ⟨B', hB', he, hc⟩ := hr.cells j es' cs'' hj
      exact ⟨B', hB', he, hc.mono (.refl _) (.refl _) (hoth _ (hblk j B' (by simp [AH.live, hj]) hB' e))⟩
  · rw [AH.get_set] at hj
    by_cases e : j = k
    · rw [if_pos e] at hj; cases hj
    · rw [if_neg e] at hj
      obtain ⟨B', hB', hc⟩ := hr.map j es' hj
      exact ⟨B', hB', hc.mono (.refl _) (.refl _) (hoth _ (hblk j B' (by simp [AH.live, hj]) hB' e))⟩
  · obtain ⟨z1, z2⟩ := hr.zed b o v hz
    refine ⟨?_, fun j B' hj => z2 j B' ((AH.live_set hlk).1 hj)⟩
    rw [hcell b o (by by_cases hb : b = B.blk; · exact .inr (z2 k B hlk hB hb.symm)
                      · exact .inl hb)]
    exact z1
  · by_cases e : j = k
    · subst e; rw [hB] at hB'; cases hB'; exact hcell _ _ (.inr ho)
    · exact hcell _ _ (.inl (hblk j B' hj hB' e))

theorem AH.set_new (h : AH) (o o' : AO) : (h.new o).set h.next o' = h.new o' := by
  simp [AH.new, AH.set, Tr.set_set]

/-- A block goes on under a new name, from a later place on. -/
theorem Goes.rename {I : Inj} {Z : Zed} {h : AH} {w : World} (hr : Rel I Z h w) {k es o n : Nat} {cs : List AV} {B : BI} (hk : h.get k = some (.cells es cs)) (hB : I k = some B) (ho : o + n ≤ cs.length) :
    Goes I Z h w (I.put h.next { B with d := B.d + o }) Z ((h.del k).new (.cells es ((cs.drop o).take n))) w := by
  obtain ⟨hn, hnl⟩ := hr.next_none
  have hlk : h.live k := by simp [AH.live, hk]
  have hle := Inj.le_put (B := { B with d := B.d + o }) hn
  have hkn : k ≠ h.next := fun e => hnl (e ▸ hlk)
  have hget : ∀ j, j ≠ h.next → (I.put h.next { B with d := B.d + o }) j = I j := fun j hj => by simp [Inj.put, hj]
  obtain ⟨Bx, hBx, hes, arr, t, fr, a1, a2, a3, a4, a5⟩ := hr.cells k es cs hk
  rw [hB] at hBx; cases hBx
  have hlv : ∀ j, ((h.del k).new (.cells es ((cs.drop o).take n))).live j ↔ j = h.next ∨ (j ≠ k ∧ h.live j) := fun j => by
    rw [AH.live_new, AH.live_del]; rfl
  have hgn : ∀ j, ((h.del k).new (.cells es ((cs.drop o).take n))).get j = if j = h.next then some (.cells es ((cs.drop o).take n)) else if j = k then none else h.get j := fun j => by
    rw [AH.get_new, AH.get_del]; rfl
  have hblk : ∀ j B', h.live j → I j = some B' → j ≠ k → B'.blk ≠ B.blk := fun j B' hj hB' hne e => hne (hr.inj j k B' B hj hlk hB' hB e)
  refine ⟨hle, .refl _, fun _ _ _ h => .inl h, ⟨fun j es' cs' hj => ?_, fun j es' hj => ?_, fun j j' B1 B2 hj hj' e1 e2 hbb => ?_, fun b o' v hz => ?_, fun j hj => ?_, fun j B' hB' => ?_⟩, ⟨rfl, rfl, Nat.le_refl _, by simp, fun _ _ _ => rfl, fun _ _ _ _ _ _ => rfl, fun j B' hj hB' hlt => ?_⟩⟩
  · rw [hgn] at hj
    by_cases e : j = h.next
    · rw [if_pos e] at hj; cases hj; subst e
      refine ⟨_, Inj.put_same, hes, arr, t, fr, a1, a2, ?_, fun i a ha => ?_, a5⟩
      · simp; omega
      · have ha' : cs[o + i]? = some a := by
          rw [List.getElem?_take] at ha
          split at ha
          · rwa [List.getElem?_drop] at ha
          · cases ha
        obtain ⟨h1, v, h2, h3⟩ := a4 (o + i) a ha'
        exact ⟨h1, v, by simpa [Nat.add_assoc] using h2, h3.mono hle (.refl _)⟩
    · rw [if_neg e] at hj
      split at hj
      · cases hj
      · obtain ⟨B', hB', he, hc⟩ := hr.cells j es' cs' hj
        exact ⟨B', by rw [hget j e]; exact hB', he, hc.mono hle (.refl _) rfl⟩
  · rw [hgn] at hj
    by_cases e : j = h.next
    · rw [if_pos e] at hj; cases hj
    · rw [if_neg e] at hj
      split at hj
      · cases hj
      · obtain ⟨B', hB', hc⟩ := hr.map j es' hj
        exact ⟨B', by rw [hget j e]; exact hB', hc.mono hle (.refl _) rfl⟩
  · rw [hlv] at hj hj'
    by_cases x1 : j = h.next <;> by_cases x2 : j' = h.next
    · rw [x1, x2]
    · subst x1; rw [Inj.put_same] at e1; cases e1; rw [hget _ x2] at e2
      have := hj'.resolve_left x2
      exact absurd hbb.symm (hblk j' B2 this.2 e2 this.1)
    · subst x2; rw [Inj.put_same] at e2; cases e2; rw [hget _ x1] at e1
      have := hj.resolve_left x1
      exact absurd hbb (hblk j B1 this.2 e1 this.1)
    · rw [hget _ x1] at e1; rw [hget _ x2] at e2
      exact hr.inj j j' B1 B2 (hj.resolve_left x1).2 (hj'.resolve_left x2).2 e1 e2 hbb
  · refine ⟨(hr.zed b o' v hz).1, fun j B' hj hB' hbb => ?_⟩
    rw [hlv] at hj
    by_cases x1 : j = h.next
    · subst x1; rw [Inj.put_same] at hB'; cases hB'
      have := (hr.zed b o' v hz).2 k B hlk hB hbb
      simp; omega
    · rw [hget _ x1] at hB'; exact (hr.zed b o' v hz).2 j B' (hj.resolve_left x1).2 hB' hbb
  · rw [hlv] at hj
    by_cases x1 : j = h.next
    · simp; omega
    · rw [hget _ x1] at hj
      have := hr.fresh j (hj.imp (fun x => (x.resolve_left x1).2) id)
      simp; omega
  · by_cases x1 : j = h.next
    · subst x1; rw [Inj.put_same] at hB'; cases hB'; exact hr.size k B hB
    · rw [hget _ x1] at hB'; exact hr.size j B' hB'
  · rw [hlv] at hj
    by_cases x1 : j = h.next
    · subst x1; rw [Inj.put_same] at hB'; cases hB'; exact ⟨k, B, hlk, hB, rfl, by simp⟩
    · rw [hget _ x1] at hB'; exact ⟨j, B', (hj.resolve_left x1).2, hB', rfl, Nat.le_refl _⟩

/-- Neither a map nor an iterator has cells. -/
theorem MapOk.nocell {I : Inj} {Z : Zed} {w : World} {B : BI} {mo : MO} (h : MapOk I Z w B mo) {o : Nat} : w.cell? ⟨B.blk, o, none⟩ = none := by
  cases mo with
  | es es bs c => obtain ⟨ces, h1, _⟩ := h; simp [World.cell?, h1]
  | it m since seen last =>
    cases m with
    | none => obtain ⟨_, x, y, z, h1⟩ := h; simp [World.cell?, h1]
    | some m => obtain ⟨_, Bm, _, h1⟩ := h; simp [World.cell?, h1]

theorem Goes.writeMap {I : Inj} {Z : Zed} {h : AH} {w w' : World} (hr : Rel I Z h w) {k : Nat} {es es' : MO} {B : BI} (hk : h.get k = some (.map es)) (hB : I k = some B)
    (eo : w'.os = w.os) (eu : w'.output = w.output) (hs : w'.heap.size = w.heap.size) (hoth : ∀ b, b ≠ B.blk → w'.heap[b]? = w.heap[b]?)
    (h1 : MapOk I Z w' B es') : Goes I Z h w I Z (h.set k (.map es')) w' := by
  have hlk : h.live k := by simp [AH.live, hk]
  have hblk : ∀ j B', h.live j → I j = some B' → j ≠ k → B'.blk ≠ B.blk := fun j B' hj hB' hne e => hne (hr.inj j k B' B hj hlk hB' hB e)
  obtain ⟨Bx, hBx, a1⟩ := hr.map k es hk
  rw [hB] at hBx; cases hBx
  have hcell : ∀ b o, w'.cell? ⟨b, o, none⟩ = w.cell? ⟨b, o, none⟩ := fun b o => by
    by_cases hb : b = B.blk
    · subst hb; rw [a1.nocell, h1.nocell]
    · simp only [World.cell?, hoth b hb]
  refine ⟨.refl _, .refl _, fun _ _ _ h => .inl h, ⟨fun j e cs hj => ?_, fun j e hj => ?_, fun j j' B1 B2 hj hj' => hr.inj j j' B1 B2 ((AH.live_set hlk).1 hj) ((AH.live_set hlk).1 hj'), fun b o v hz => ?_, fun j hj => hr.fresh j (hj.imp (AH.live_set hlk).1 id), fun j B' hB' => by rw [hs]; exact hr.size j B' hB'⟩,
    ⟨eo, eu, Nat.le_of_eq hs.symm, Nat.le_refl _, fun b _ hn => hoth b fun e => hn k B hlk hB e.symm, fun _ _ _ _ _ _ => hcell _ _, fun j B' hj hB' _ => ⟨j, B', (AH.live_set hlk).1 hj, hB', rfl, Nat.le_refl _⟩⟩⟩
  · rw [AH.get_set] at hj
    by_cases x : j = k
    · rw [if_pos x] at hj; cases hj
    · rw [if_neg x] at hj
      obtain ⟨B', hB', he, hc⟩ := hr.cells j e cs hj
      exact ⟨B', hB', he, hc.mono (.refl _) (.refl _) (hoth _ (hblk j B' (by simp [AH.live, hj]) hB' x))⟩
  · rw [AH.get_set] at hj
    by_cases x : j = k
    · rw [if_pos x] at hj; cases hj; subst x
      exact ⟨B, hB, h1⟩
    · rw [if_neg x] at hj
      obtain ⟨B', hB', hc⟩ := hr.map j e hj
      exact ⟨B', hB', hc.mono (.refl _) (.refl _) (hoth _ (hblk j B' (by simp [AH.live, hj]) hB' x))⟩
  · rw [hcell]
    exact ⟨(hr.zed b o v hz).1, fun j B' hj => (hr.zed b o v hz).2 j B' ((AH.live_set hlk).1 hj)⟩

def Zed.put (Z : Zed) (b lo hi : Nat) (arr : Array Value) : Zed := fun b' o => if b' = b ∧ lo ≤ o ∧ o < hi then arr[o]? else Z b' o

/-- A block stays as it is from now on. -/
theorem Goes.freeze {I : Inj} {Z : Zed} {h : AH} {w : World} (hr : Rel I Z h w) {k es : Nat} {cs : List AV} {B : BI} (hk : h.get k = some (.cells es cs)) (hB : I k = some B)
    {arr : Array Value} {elem : TypeId} {fr : Nat × Nat} (h0 : w.heap[B.blk]? = some (.cells arr elem fr)) :
    Goes I Z h w I (Z.put B.blk B.d B.N arr) (h.del k) w := by
  have hlk : h.live k := by simp [AH.live, hk]
  obtain ⟨Bx, hBx, hes, arr0, t, fr0, a1, a2, a3, a4, a5⟩ := hr.cells k es cs hk
  rw [hB] at hBx; cases hBx
  rw [h0] at a1; cases a1
  have hle : Z.le (Z.put B.blk B.d B.N arr) := fun b o v hz => by
    unfold Zed.put
    split
    · rename_i hc
      obtain ⟨rfl, h1, h2⟩ := hc
      have := (hr.zed _ o v hz).2 k B hlk hB rfl
      omega
    · exact hz
  have hg := (Goes.del hr k).rel
  refine ⟨.refl _, hle, fun b o v hz => by
    unfold Zed.put at hz
    split at hz
    · rename_i hc; exact .inr (.inr ⟨k, B, hlk, hB, hc.1.symm, hc.2.1⟩)
    · exact .inl hz, ⟨fun j es' cs' hj => ?_, fun j es' hj => ?_, hg.inj, fun b o v hz => ?_, hg.fresh, hg.size⟩, (Goes.del hr k).fr⟩
  · obtain ⟨B', hB', he, hc⟩ := hg.cells j es' cs' hj
    exact ⟨B', hB', he, hc.mono (.refl _) hle rfl⟩
  · obtain ⟨B', hB', hc⟩ := hg.map j es' hj
    exact ⟨B', hB', hc.mono (.refl _) hle rfl⟩
  · unfold Zed.put at hz
    split at hz
    · rename_i hc
      obtain ⟨rfl, h1, h2⟩ := hc
      refine ⟨by simp [World.cell?, h0, hz], fun j B' hj hB' e => ?_⟩
      rw [AH.live_del] at hj
      exact absurd (hr.inj j k B' B hj.2 hlk hB' hB e) hj.1
    · exact hg.zed b o v hz

/-- A new block that the abstract heap doesn't hold, and that nobody will write. -/
theorem Goes.fix {I : Inj} {Z : Zed} {h : AH} {w w' : World} (hr : Rel I Z h w) {arr : Array Value} {elem : TypeId} {fr : Nat × Nat} (e : w'.heap = w.heap.push (.cells arr elem fr)) (eo : w'.os = w.os) (eu : w'.output = w.output) :
    Goes I Z h w I (Z.put w.heap.size 0 arr.size arr) h w' := by
  have hold : ∀ b, b < w.heap.size → w'.heap[b]? = w.heap[b]? := fun b hb => by rw [e, Array.getElem?_push]; rw [if_neg (by omega)]
  have hin : ∀ b o v, w.cell? ⟨b, o, none⟩ = some v → b < w.heap.size := fun b o v h1 => by
    rcases Nat.lt_or_ge b w.heap.size with h | h
    · exact h
    · simp [World.cell?, Array.getElem?_eq_none h] at h1
  have hle : Z.le (Z.put w.heap.size 0 arr.size arr) := fun b o v hz => by
    unfold Zed.put
    have := hin b o v (hr.zed b o v hz).1
    rw [if_neg (by omega)]; exact hz
  refine ⟨.refl _, hle, fun b o v hz => by
    unfold Zed.put at hz
    split at hz
    · rename_i hc; exact .inr (.inl (by omega))
    · exact .inl hz, ⟨fun k es cs hk => ?_, fun k es hk => ?_, hr.inj, fun b o v hz => ?_, hr.fresh, fun k B hB => ?_⟩, ⟨eo, eu, by rw [e]; simp, Nat.le_refl _, fun b hb _ => hold b hb, fun k B hk hB o ho => ?_, fun k B hk hB _ => ⟨k, B, hk, hB, rfl, Nat.le_refl _⟩⟩⟩
  · obtain ⟨B, hB, he, hc⟩ := hr.cells k es cs hk
    exact ⟨B, hB, he, hc.mono (.refl _) hle (hold _ (hr.size k B hB))⟩
  · obtain ⟨B, hB, hc⟩ := hr.map k es hk
    exact ⟨B, hB, hc.mono (.refl _) hle (hold _ (hr.size k B hB))⟩
  · unfold Zed.put at hz
    split at hz
    · rename_i hc
      obtain ⟨rfl, _, _⟩ := hc
      refine ⟨?_, fun k B hk hB hbb => ?_⟩
      · simp [World.cell?, e, hz]
      · have := hr.size k B hB; omega
    · have hz' := hr.zed b o v hz
      have hbl := hin b o v hz'.1
      refine ⟨?_, hz'.2⟩
      simp only [World.cell?, hold b hbl]; simpa [World.cell?] using hz'.1
  · rw [e]; have := hr.size k B hB; simp; omega
  · simp only [World.cell?, hold _ (hr.size k B hB)]

/-- The mark behind the bytes of a constant. -/
theorem Goes.stringish {I : Inj} {Z : Zed} {h : AH} {w : World} (hr : Rel I Z h w) {k es : Nat} {cs : List AV} {B : BI} (hk : h.get k = some (.cells es cs)) (h1 : es = 1) (hB : I k = some B)
    {arr : Array Value} {elem : TypeId} {fr : Nat × Nat} (h0 : w.heap[B.blk]? = some (.cells arr elem fr)) : Goes I Z h w I Z h (w.freeze ⟨B.blk, arr.size, none⟩ 1) := by
  have hlk : h.live k := by simp [AH.live, hk]
  have hblk : ∀ j B', h.live j → I j = some B' → j ≠ k → B'.blk ≠ B.blk := fun j B' hj hB' hne e => hne (hr.inj j k B' B hj hlk hB' hB e)
  obtain ⟨Bx, hBx, hes, arr0, t0, fr0, a1, a2, a3, a4, a5⟩ := hr.cells k es cs hk
  rw [hB] at hBx; cases hBx
  rw [h0] at a1; cases a1
  have hheap : (w.freeze ⟨B.blk, arr.size, none⟩ 1).heap = w.heap.modify B.blk fun
      | .cells c elem (lo, hi) => .cells c elem (if lo == hi then (arr.size, arr.size + 1) else (min lo arr.size, max hi (arr.size + 1)))
      | o => o := by
    unfold World.freeze; rw [if_neg (by decide)]; rfl
  have hoth : ∀ b, b ≠ B.blk → (w.freeze ⟨B.blk, arr.size, none⟩ 1).heap[b]? = w.heap[b]? := fun b hb => by
    rw [hheap, Array.getElem?_modify, if_neg (fun e => hb e.symm)]
  have hthis : (w.freeze ⟨B.blk, arr.size, none⟩ 1).heap[B.blk]? = some (.cells arr elem (arr.size, arr.size + 1)) := by
    rw [hheap, Array.getElem?_modify, if_pos rfl, h0]
    rcases a5.1 with rfl | ⟨rfl, _⟩
    · simp
    · simp [a2]
  have hcell : ∀ b o, (w.freeze ⟨B.blk, arr.size, none⟩ 1).cell? ⟨b, o, none⟩ = w.cell? ⟨b, o, none⟩ := fun b o => by
    by_cases hb : b = B.blk
    · subst hb; simp [World.cell?, h0, hthis]
    · simp only [World.cell?, hoth b hb]
  have hsz : (w.freeze ⟨B.blk, arr.size, none⟩ 1).heap.size = w.heap.size := by rw [hheap]; simp
  have hos : (w.freeze ⟨B.blk, arr.size, none⟩ 1).os = w.os := by unfold World.freeze; rw [if_neg (by decide)]
  have hou : (w.freeze ⟨B.blk, arr.size, none⟩ 1).output = w.output := by unfold World.freeze; rw [if_neg (by decide)]
  refine ⟨.refl _, .refl _, fun _ _ _ h => .inl h, ⟨fun j es' cs' hj => ?_, fun j es' hj => ?_, hr.inj, fun b o v hz => ?_, hr.fresh, fun j B' hB' => by rw [hsz]; exact hr.size j B' hB'⟩,
    ⟨hos, hou, Nat.le_of_eq hsz.symm, Nat.le_refl _, fun b _ hn => hoth b fun e => hn k B hlk hB e.symm, fun _ _ _ _ _ _ => hcell _ _, fun j B' hj hB' _ => ⟨j, B', hj, hB', rfl, Nat.le_refl _⟩⟩⟩
  · by_cases e : j = k
    · subst e
      rw [hk] at hj; cases hj
      exact ⟨B, hB, hes, arr, elem, _, hthis, a2, a3, a4, .inr ⟨by rw [a2], by rw [hes, h1]⟩, a5.2⟩
    · obtain ⟨B', hB', he, hc⟩ := hr.cells j es' cs' hj
      exact ⟨B', hB', he, hc.mono (.refl _) (.refl _) (hoth _ (hblk j B' (by simp [AH.live, hj]) hB' e))⟩
  · by_cases e : j = k
    · subst e; rw [hk] at hj; cases hj
    · obtain ⟨B', hB', hc⟩ := hr.map j es' hj
      exact ⟨B', hB', hc.mono (.refl _) (.refl _) (hoth _ (hblk j B' (by simp [AH.live, hj]) hB' e))⟩
  · rw [hcell]; exact hr.zed b o v hz

end
end Go.Av
