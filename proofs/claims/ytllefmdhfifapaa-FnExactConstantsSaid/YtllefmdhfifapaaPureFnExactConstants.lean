/- The law on the constants of the package answers true: nothing is computed. Conditions: none. -/
import Derived.Test.YtllefmdhfifapaaPFnExactConstantsx1
namespace Go.Proofs.Ytllefmdhfifapaa.Pure
open Go.RowKit Go.Proofs.Ytllefmdhfifapaa.PFnExactConstants Go.Proofs.YtllefmdhfifapaaW.PrintWords Go.Proofs.YtllefmdhfifapaaW.PrintLast

theorem FnExactConstants : laws_FnExactConstants.Pure := by
  unfold laws_FnExactConstants.Pure
  rfl

end Go.Proofs.Ytllefmdhfifapaa.Pure
