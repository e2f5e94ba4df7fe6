/- New links have nothing on their way: FnNewLink returns true for every list of bytes. Conditions: none. -/
import Derived.Test.YtidjdekokibkiaaPFnNewLinkx2
namespace Go.Proofs.Ytidjdekokibkiaa.Pure
open Go.RowKit Go.Proofs.Ytidjdekokibkiaa.PFnNewLink Go.Proofs.YtidjdekokibkiaaW.PrintWords Go.Proofs.YtidjdekokibkiaaW.PrintLast
open Go
set_option linter.unusedVariables false
set_option linter.unusedSimpArgs false

theorem FnNewLink : laws_FnNewLink.Pure := by
  intro l0 _ _ _
  unfold laws_FnNewLink.f
  by_cases hc : (l0.length : Int) > 1048576
  · rw [if_pos hc]
  · rw [if_neg hc]; rfl

end Go.Proofs.Ytidjdekokibkiaa.Pure
