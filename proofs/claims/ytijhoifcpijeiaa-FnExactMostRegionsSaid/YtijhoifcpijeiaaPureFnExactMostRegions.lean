/- The program's MostRegions returns what the reference's returns, for all arguments: both count the same sums behind the same guard. -/
import Derived.Test.YtijhoifcpijeiaaPFnExactMostRegionsx1
namespace Go.Proofs.Ytijhoifcpijeiaa.Pure
open Go.RowKit Go.Proofs.Ytijhoifcpijeiaa.PFnExactMostRegions Go.Proofs.YtijhoifcpijeiaaW.PrintWords Go.Proofs.YtijhoifcpijeiaaW.PrintLast

theorem FnExactMostRegions : laws_FnExactMostRegions.Pure := by
  intro a0 _
  have e : impl_MostRegions.f a0 = spec_MostRegions.f a0 := rfl
  have hs : ∃ p, spec_MostRegions.f a0 = some p := by
    unfold spec_MostRegions.f spec_l1In.f
    by_cases h : a0 ≥ 3
    · rw [if_pos h]
      simp only [Option.bind_some]
      split
      · exact ⟨_, rfl⟩
      · exact ⟨_, rfl⟩
    · rw [if_neg h]
      exact ⟨_, rfl⟩
  obtain ⟨p, hp⟩ := hs
  unfold laws_FnExactMostRegions.f
  rw [e, hp]
  simp

end Go.Proofs.Ytijhoifcpijeiaa.Pure
