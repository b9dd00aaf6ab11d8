/-
  A block's cells beyond those that are known; heaps that read alike; a slice whose capacity is known.
-/
import Derived.Test.YtmiodddnokpdfaaGreatDoorAv20
namespace Go.Av
noncomputable section
set_option linter.unusedSectionVars false
variable [Toks]
set_option linter.unusedSimpArgs false
set_option linter.unusedVariables false

/-- The cells behind those that are known bear some value each. -/
theorem Goes.pad {I : Inj} {Z : Zed} {h : AH} {w : World} (hr : Rel I Z h w) {k es m : Nat} {cs : List AV} {B : BI} (hk : h.get k = some (.cells es cs)) (hB : I k = some B) (hm : B.d + (cs.length + m) ≤ B.N) :
    Goes I Z h w I Z (h.set k (.cells es (cs ++ List.replicate m .junk))) w := by
  obtain ⟨B', hB', hes, arr, elem, fr, a1, a2, a3, a4, a5⟩ := hr.cells k es cs hk
  rw [hB] at hB'; cases hB'
  refine Goes.write hr hk hB rfl rfl rfl (fun _ _ => rfl) a1 a1 rfl (fun _ _ => rfl) (by simpa using hm) (fun j a hj => ?_) (fun _ _ h => .inl h)
  by_cases h : j < cs.length
  · rw [List.getElem?_append_left h] at hj
    exact a4 j a hj
  · rw [List.getElem?_append_right (by omega), List.getElem?_replicate] at hj
    split at hj
    · rename_i hlt
      cases hj
      have hlt' : B.d + j < arr.size := by omega
      exact ⟨rfl, arr[B.d + j], Array.getElem?_eq_getElem hlt', .junk _ (a5.2 (B.d + j) _ (Array.getElem?_eq_getElem hlt'))⟩
    · cases hj

/-- Two heaps that read alike. -/
structure AH.Alike (h g : AH) : Prop where
  next : h.next = g.next
  get : ∀ k, h.get k = g.get k

theorem AH.Alike.live {h g : AH} (a : h.Alike g) {k : Nat} : h.live k ↔ g.live k := by unfold AH.live; rw [a.get]

theorem Rel.alike {I : Inj} {Z : Zed} {h g : AH} {w : World} (a : h.Alike g) (hr : Rel I Z h w) : Rel I Z g w where
  cells := fun k es cs e => hr.cells k es cs (by rw [a.get]; exact e)
  map := fun k es e => hr.map k es (by rw [a.get]; exact e)
  inj := fun k k' B B' h1 h2 => hr.inj k k' B B' (a.live.2 h1) (a.live.2 h2)
  zed := fun b o v e => ⟨(hr.zed b o v e).1, fun k B h1 => (hr.zed b o v e).2 k B (a.live.2 h1)⟩
  fresh := fun k h => by rw [← a.next]; exact hr.fresh k (h.imp a.live.2 id)
  size := hr.size

theorem Goes.alike {I J : Inj} {Z Y : Zed} {h h' g : AH} {w w' : World} (a : h'.Alike g) (hg : Goes I Z h w J Y h' w') : Goes I Z h w J Y g w' :=
  ⟨hg.le, hg.lez, hg.newz, hg.rel.alike a, ⟨hg.fr.os, hg.fr.out, hg.fr.size, by rw [← a.next]; exact hg.fr.next, hg.fr.other, hg.fr.below, fun k B h1 h2 h3 => hg.fr.live k B (a.live.2 h1) h2 h3⟩⟩

/-- Two blocks, whichever was laid down first. -/
theorem AH.alike_set {h g : AH} (a : h.Alike g) (k : Nat) (o : AO) : (h.set k o).Alike (g.set k o) := ⟨a.next, fun j => by rw [AH.get_set, AH.get_set, a.get]⟩

/-- A slice of which the capacity is not known has one. -/
theorem VRel.capOf {I : Inj} {Z : Zed} {k n : Nat} {v : Value} (hn : 0 < n) (h : VRel I Z (.own k 0 n none) v) : ∃ B c, I k = some B ∧ n ≤ c ∧ B.d + c * B.es = B.N ∧ v = .slice (some ⟨B.blk, B.d + 0, none⟩) n c ∧ VRel I Z (.own k 0 n (some c)) v := by
  cases h with
  | @own _ _ _ capC _ B h1 h2 h3 => exact ⟨B, capC, h1, h2, by simpa [capOk] using h3, rfl, .own h1 h2 rfl⟩
  | own0 h1 h2 => omega
end
end Go.Av
