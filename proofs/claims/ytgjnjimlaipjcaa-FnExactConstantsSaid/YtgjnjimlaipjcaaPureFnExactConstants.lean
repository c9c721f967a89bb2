/- The program's constants are the document's: the law answers true. -/
import Derived.Test.YtgjnjimlaipjcaaPFnExactConstantsx1
namespace Go.Proofs.Ytgjnjimlaipjcaa.Pure
open Go.RowKit Go.Proofs.Ytgjnjimlaipjcaa.PFnExactConstants Go.Proofs.YtgjnjimlaipjcaaW.PrintWords Go.Proofs.YtgjnjimlaipjcaaW.PrintLast
namespace AFnExactConstants
end AFnExactConstants
open AFnExactConstants

theorem FnExactConstants : laws_FnExactConstants.Pure := rfl

end Go.Proofs.Ytgjnjimlaipjcaa.Pure
