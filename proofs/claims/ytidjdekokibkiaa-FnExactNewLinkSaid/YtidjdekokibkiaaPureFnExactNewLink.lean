/- The program's NewLink returns what the reference's returns: FnExactNewLink returns true. Conditions: none. -/
import Derived.Test.YtidjdekokibkiaaPFnExactNewLinkx1
namespace Go.Proofs.Ytidjdekokibkiaa.Pure
open Go.RowKit Go.Proofs.Ytidjdekokibkiaa.PFnExactNewLink Go.Proofs.YtidjdekokibkiaaW.PrintWords Go.Proofs.YtidjdekokibkiaaW.PrintLast
open Go
set_option linter.unusedVariables false
set_option linter.unusedSimpArgs false

theorem FnExactNewLink : laws_FnExactNewLink.Pure := rfl

end Go.Proofs.Ytidjdekokibkiaa.Pure
