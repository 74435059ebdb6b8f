/- The program's CountTriangled returns what the reference's returns, for all arguments: outside of 3..20 both fail, and inside both give the same eighteen numbers. -/
import Derived.Test.YtijhoifcpijeiaaPFnExactCountTriangledx1
namespace Go.Proofs.Ytijhoifcpijeiaa.Pure
open Go.RowKit Go.Proofs.Ytijhoifcpijeiaa.PFnExactCountTriangled Go.Proofs.YtijhoifcpijeiaaW.PrintWords Go.Proofs.YtijhoifcpijeiaaW.PrintLast

theorem countTriangled_in : ∀ n : Fin 18, laws_FnExactCountTriangled.f 400 ((n.val : Int) + 3) = some true := by
  decide +kernel

theorem FnExactCountTriangled : laws_FnExactCountTriangled.Pure := by
  intro a0 _
  by_cases h : 3 ≤ a0 ∧ a0 ≤ 20
  · have e := countTriangled_in ⟨(a0 - 3).toNat, by omega⟩
    have : (((a0 - 3).toNat : Int) + 3) = a0 := by omega
    simp only [this] at e
    exact ⟨400, e⟩
  · refine ⟨0, ?_⟩
    have h1 : spec_l1In.f a0 3 20 = some false := by
      unfold spec_l1In.f
      by_cases h3 : a0 ≥ 3
      · rw [if_pos h3]
        simp
        omega
      · rw [if_neg h3]
    have h2 : impl_within.f a0 3 20 = some false := h1
    unfold laws_FnExactCountTriangled.f spec_CountTriangled.f impl_CountTriangled.f
    rw [h1, h2]
    simp

end Go.Proofs.Ytijhoifcpijeiaa.Pure
