/-
  Arguments: a slice of records of numbers that nobody writes.
-/
import Derived.Test.YtgiphcfpopgchaaAv22
namespace Go.Av
open Go.ChangeShapes Go.WideShapes
set_option linter.unusedSimpArgs false
set_option linter.unusedVariables false

theorem list_of {Q : Nat → Int → Prop} : ∀ m, (∀ j, j < m → ∃ n, Q j n) → ∃ zs : List Int, zs.length = m ∧ ∀ j n, zs[j]? = some n → Q j n
  | 0, _ => ⟨[], rfl, fun j n e => by simp at e⟩
  | m + 1, h => by
    obtain ⟨zs, hl, hz⟩ := list_of m (fun j hj => h j (by omega))
    obtain ⟨n, hn⟩ := h m (by omega)
    refine ⟨zs ++ [n], by simp [hl], fun j x e => ?_⟩
    by_cases hj : j < m
    · rw [List.getElem?_append_left (by omega)] at e; exact hz j x e
    · have : j = m := by
        have := (List.getElem?_eq_some_iff.1 e).1
        simp at this; omega
      subst this
      rw [List.getElem?_append_right (by omega), hl] at e
      simp at e; subst e; exact hn

/-- Records of w fields, a number each. -/
theorem rows_rel {H : Type} {enc : TypeId × Value → H} {P : Program} {t e : TypeId} {k : IntKind} {fs : Array Field} {w : Nat} {W : World} {base : Nat} {v : Value} {d : DataW H} {ps : List MemPlace} (ht : P.underlying t = some (.slice e)) (he : P.underlying e = some (.struct fs)) (hc : P.cellsOf e = w)
    (hw : 0 < w) (hfs : ∀ r, r < w → ∃ f, fs[r]? = some f ∧ f.offset = r ∧ P.underlying f.type = some (.int k) ∧ P.cellsOf f.type = 1)
    (hval : Value.okWide P W .any base t v) (h : DataW.Trod enc P W 0 (fun _ => true) true t v d ps) :
    v = .slice none 0 0 ∨ ∃ (zs : List Int) (len : Nat), zs.length = len * w ∧ (∀ n ∈ zs, (Lit.int k n).wf = true) ∧ VRel noI (Zed.all W) (.imm (zs.map fun n => .i k n) len) v := by
  obtain ⟨a0, len0, cap0, hv⟩ := okWide_slice ht hval
  obtain ⟨fuel, hf⟩ := h
  have hcells : v.cells.toList = [v] := by subst hv; rfl
  rcases DataW.trod_slice ht hf with ⟨h1, _⟩ | ⟨a, len, cap, elems, rest, n, _, h1, _, hb, hl, hm, hlen, hel, _, _⟩
  · left; rw [hcells] at h1; simpa using h1
  · right
    rw [hcells] at h1
    have hv1 : v = .slice (some a) len cap := by simpa using h1
    subst hv1
    have hspot : a.spot = none := by
      simp only [Value.okWide, ht, Cell.okWide, Cell.ok] at hval
      exact hval.2.2.2.1
    obtain ⟨blk, off, spot⟩ := a
    dsimp only at hspot
    subst hspot
    have hadd : ∀ (o j : Nat), Addr.add ⟨blk, o, none⟩ j = ⟨blk, o + j, none⟩ := fun o j => by unfold Addr.add; split <;> simp_all
    have one : ∀ j, j < len * w → ∃ m, (Lit.int k m).wf = true ∧ W.cell? ⟨blk, off + j, none⟩ = some (.int k m) := by
      intro j hj
      have hi : j / w < len := (Nat.div_lt_iff_lt_mul hw).2 hj
      have hr : j % w < w := Nat.mod_lt _ hw
      have hq := hel (j / w) hi
      rw [hc, List.getElem?_eq_getElem (by omega), Option.bind_eq_some_iff] at hq
      obtain ⟨cs', hcs, hy⟩ := hq
      obtain ⟨xs, n', _, _, hcl, hxl, hx⟩ := DataW.trod_struct he hy
      obtain ⟨f, hf1, hf2, hf3, hf4⟩ := hfs _ hr
      have hx1 := hx _ f hf1
      have hlt : j % w < xs.length := by rw [hxl]; exact (Array.getElem?_eq_some_iff.1 hf1).1
      rw [List.getElem?_eq_getElem hlt, hf2, hf4] at hx1
      obtain ⟨m, hm1, _, hm2⟩ := DataW.trod_int hf3 hx1
      refine ⟨m, hm2, ?_⟩
      have hg : cs'[j % w]? = some (.int k m) := by
        have : ((cs'.drop (j % w)).take 1)[0]? = some (.int k m) := by rw [hm1]; rfl
        rw [List.getElem?_take, if_pos (by omega), List.getElem?_drop] at this
        simpa using this
      have hcc := (World.cells?_some hcs).2.2 (j % w) hr
      rw [hadd, hadd, hg] at hcc
      rw [← hcc]
      congr 2
      have := Nat.div_add_mod j w
      rw [Nat.mul_comm] at this
      omega
    obtain ⟨zs, hzl, hz⟩ := list_of (Q := fun j m => (Lit.int k m).wf = true ∧ W.cell? ⟨blk, off + j, none⟩ = some (.int k m)) (len * w) one
    refine ⟨zs, len, hzl, fun m hm' => ?_, ?_⟩
    · obtain ⟨j, hj⟩ := List.getElem?_of_mem hm'
      exact (hz j m hj).1
    · refine .imm (vs := zs.map fun m => .int k m) (by simp) (fun j x hx => ?_) (fun j x y hx hy => ?_) hl
      · simp only [List.getElem?_map, Option.map_eq_some_iff] at hx
        obtain ⟨m, hm', rfl⟩ := hx
        have := (hz j m hm').2
        unfold Zed.all
        rw [this]
      · simp only [List.getElem?_map, Option.map_eq_some_iff] at hx hy
        obtain ⟨m, hm', rfl⟩ := hx
        obtain ⟨m', hm'', rfl⟩ := hy
        rw [hm'] at hm''; cases hm''
        exact .i _ _
end Go.Av
