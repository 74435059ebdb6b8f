import Derived.Test.YtipmlpldlifcdaaPFnExactFirstDeskx1
namespace Go.Proofs.Ytipmlpldlifcdaa.Pure
open Go.RowKit Go.Proofs.Ytipmlpldlifcdaa.PFnExactFirstDesk Go.Proofs.YtipmlpldlifcdaaW.PrintWords Go.Proofs.YtipmlpldlifcdaaW.PrintLast

/-- YOURS: laws_FnExactFirstDesk.f  = some true
What it reaches (each with k first where it has rounds; `.mono`: more rounds tell the same; `.l0`, ..: its loops, with `.mono_l`): spec_FirstDesk.f, impl_FirstDesk.f, laws_eqStar.f, laws_eqDesk.f, laws_FnExactFirstDesk.f -/
theorem FnExactFirstDesk : laws_FnExactFirstDesk.Pure := by
  show laws_FnExactFirstDesk.f = some true
  kernel_rfl

end Go.Proofs.Ytipmlpldlifcdaa.Pure
