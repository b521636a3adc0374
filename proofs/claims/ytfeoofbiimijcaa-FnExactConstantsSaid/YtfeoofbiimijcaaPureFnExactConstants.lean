/- every constant has its value. Under no condition. -/
import Derived.Test.YtfeoofbiimijcaaPFnExactConstantsx1
set_option linter.unusedVariables false
set_option linter.unusedSimpArgs false
namespace Go.Proofs.Ytfeoofbiimijcaa.Pure
open Go.RowKit Go.Proofs.Ytfeoofbiimijcaa.PFnExactConstants Go.Proofs.YtfeoofbiimijcaaW.PrintWords Go.Proofs.YtfeoofbiimijcaaW.PrintLast

theorem FnExactConstants : laws_FnExactConstants.Pure := by
  unfold laws_FnExactConstants.Pure laws_FnExactConstants.f
  rfl

end Go.Proofs.Ytfeoofbiimijcaa.Pure
