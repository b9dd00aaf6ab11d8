/-
  The surroundings of this law, in order; the calls that are taken as known.
-/
import Derived.Test.YtmiodddnokpdfaaGreatDoorTK0
import Derived.Test.YtmiodddnokpdfaaGreatDoorTK1
namespace Go.Proofs.YtmiodddnokpdfaaGreatDoor
open Go.Av
set_option maxRecDepth 1000000
theorem draws_L : ((tabL.win.map (·.1)).all fun f => drawCheck EL f) = true := by kernel_rfl
theorem draws_T : ((tabG.win.map (·.1)).all fun f => drawCheck ET f) = true := by kernel_rfl
theorem EL_good [Toks] : EnvGood EL := envL_good good_mixed good_bits good_fromBits draws_L
theorem ET_good [Toks] : EnvGood ET := by
  refine envP_good (m := mF) (wk := fun _ => false) (d := 60) (n := 200) EL_good rfl (fun f t ht x hx => ?_) good_mixed good_bits good_fromBits draws_T
  unfold tabs at ht
  simp only [lookupL] at ht
  split at ht
  · rename_i hf
    cases ht; subst hf
    unfold causalT at hx
    simp only [List.mem_cons, List.not_mem_nil, or_false] at hx
    rcases hx with rfl | rfl | rfl | rfl | rfl | rfl | rfl
    · exact fact0
    · exact fact2
    · exact fact3
    · exact fact4
    · exact fact5
    · exact fact6
    · exact fact7
  · split at ht
    · rename_i hf
      cases ht; subst hf
      unfold memoryT at hx
      simp only [List.mem_cons, List.not_mem_nil, or_false] at hx
      rcases hx with rfl | rfl | rfl | rfl | rfl | rfl | rfl | rfl
      · exact fact1
      · exact fact8
      · exact fact9
      · exact fact10
      · exact fact11
      · exact fact12
      · exact fact13
      · exact fact14
    · cases ht
theorem ET2_good [Toks] : EnvGood ET2 := hookE_good ET_good (fun args h v h' e => free_ok (E := EQ) (E' := ET) rfl EI_glob (seqH_ok args h v h' e)) (by decide) (by decide) rfl
theorem mainT_good [Toks] : ∀ e ∈ mainT, e.good ET2 := (List.forall_mem_cons.2 ⟨Entry.good_of ET2_good okT0, (List.forall_mem_cons.2 ⟨Entry.good_of ET2_good okT1, (List.forall_mem_cons.2 ⟨Entry.good_of ET2_good okT2, (List.forall_mem_cons.2 ⟨Entry.good_of ET2_good okT3, (List.forall_mem_cons.2 ⟨Entry.good_of ET2_good okT4, (List.forall_mem_cons.2 ⟨Entry.good_of ET2_good okT5, (List.forall_mem_cons.2 ⟨Entry.good_of ET2_good okT6, (List.forall_mem_cons.2 ⟨Entry.good_of ET2_good okT7, (List.forall_mem_cons.2 ⟨Entry.good_of ET2_good okT8, (List.forall_mem_cons.2 ⟨Entry.good_of ET2_good okT9, (List.forall_mem_nil _)⟩)⟩)⟩)⟩)⟩)⟩)⟩)⟩)⟩)⟩)
theorem EW_good [Toks] : EnvGood EW := withE_good ET2_good mainT_good (by kernel_rfl)
end Go.Proofs.YtmiodddnokpdfaaGreatDoor
