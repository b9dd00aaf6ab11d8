/-
  Arguments: a slice of numbers that nobody writes; what was read reads the same behind the call.
-/
import Derived.Test.YtgiphcfpopgchaaAv21
import Derived.WideKeyArgs
namespace Go.Av
open Go.ChangeShapes Go.WideShapes
set_option linter.unusedSimpArgs false
set_option linter.unusedVariables false

theorem Keeps.same {W W' : World} (h : Keeps W W') {p : MemPlace} (hp : p.block < W.heap.size) : W.sameAt W' p := by
  cases p with
  | cell b o => exact World.cell?_of_block (w := W) (h.block b hp)
  | map b => exact h.block b hp

theorem Keeps.trod {H : Type} {enc : TypeId × Value → H} {P : Program} {t : TypeId} (hl : laidOutB P = true) (hr : P.readableRec t = true) (hrow : t < P.types.size) {W W' : World} {v : Value} {d : DataW H} {ps : List MemPlace} {sp : Nat → Bool}
    (h : DataW.Trod enc P W 0 (fun _ => true) true t v d ps) (hb : Keeps W W') (hlt : ∀ x ∈ ps, x.block < W.heap.size) (hs : ∀ p ∈ ps, sp p.block = true) :
    DataW.Trod enc P W' 0 sp true t v d ps :=
  WideElems.Trod_stays hl hr hrow h (fun x hx => hb.same (hlt x hx)) hs

theorem ints_rel {H : Type} {enc : TypeId × Value → H} {P : Program} {t e : TypeId} {k : IntKind} {W : World} {base : Nat} {v : Value} {d : DataW H} {ps : List MemPlace} (ht : P.underlying t = some (.slice e)) (he : P.underlying e = some (.int k)) (hc : P.cellsOf e = 1)
    (hval : Value.okWide P W .any base t v) (h : DataW.Trod enc P W 0 (fun _ => true) true t v d ps) :
    v = .slice none 0 0 ∨ ∃ zs : List Int, (∀ n ∈ zs, (Lit.int k n).wf = true) ∧ VRel noI (Zed.all W) (.imm (zs.map fun n => .i k n) zs.length) v := by
  obtain ⟨a0, len0, cap0, hv⟩ := okWide_slice ht hval
  obtain ⟨fuel, hf⟩ := h
  have hcells : v.cells.toList = [v] := by subst hv; rfl
  rcases open_ints ht he hc hf with ⟨h1, _⟩ | ⟨a, len, cap, zs, h1, _, hl, _, hz, _, hcell, hwf⟩
  · left; rw [hcells] at h1; simpa using h1
  · right
    rw [hcells] at h1
    have hv1 : v = .slice (some a) len cap := by simpa using h1
    subst hv1
    have hspot : a.spot = none := by
      simp only [Value.okWide, ht, Cell.okWide, Cell.ok] at hval
      exact hval.2.2.2.1
    simp at hz
    obtain ⟨blk, off, spot⟩ := a
    dsimp only at hspot
    subst hspot
    refine ⟨zs.take len, fun n hn => hwf n (List.mem_of_mem_take hn), ?_⟩
    have hlen : (zs.take len).length = len := by simp; omega
    rw [hlen]
    refine .imm (vs := (zs.take len).map fun n => .int k n) (by simp) (fun j x hx => ?_) (fun j x y hx hy => ?_) hl
    · simp only [List.getElem?_map, Option.map_eq_some_iff] at hx
      obtain ⟨n, hn, rfl⟩ := hx
      rw [List.getElem?_take] at hn
      split at hn
      · rename_i hj
        have hjz := (List.getElem?_eq_some_iff.1 hn).1
        have := hcell j hjz
        have hadd : Addr.add ⟨blk, off, none⟩ j = ⟨blk, off + j, none⟩ := by unfold Addr.add; split <;> simp_all
        rw [hadd] at this
        unfold Zed.all
        rw [this]
        simp [List.getD_eq_getElem?_getD, hn]
      · cases hn
    · simp only [List.getElem?_map, Option.map_eq_some_iff] at hx hy
      obtain ⟨n, hn, rfl⟩ := hx
      obtain ⟨m, hm, rfl⟩ := hy
      rw [hn] at hm; cases hm
      exact .i _ _

end Go.Av
