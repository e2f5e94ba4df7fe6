/- The exported constants have the values of the document: FnExactConstants returns true. Conditions: none. -/
import Derived.Test.YtidjdekokibkiaaPFnExactConstantsx1
namespace Go.Proofs.Ytidjdekokibkiaa.Pure
open Go.RowKit Go.Proofs.Ytidjdekokibkiaa.PFnExactConstants Go.Proofs.YtidjdekokibkiaaW.PrintWords Go.Proofs.YtidjdekokibkiaaW.PrintLast
open Go
set_option linter.unusedVariables false
set_option linter.unusedSimpArgs false

theorem FnExactConstants : laws_FnExactConstants.Pure := rfl

end Go.Proofs.Ytidjdekokibkiaa.Pure
