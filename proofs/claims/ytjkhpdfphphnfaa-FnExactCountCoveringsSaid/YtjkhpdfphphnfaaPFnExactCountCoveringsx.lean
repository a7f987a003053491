-- Printed by this session's eprint.py over the kit's print (with this session's own texts for some functions)
import Derived.Test.YtjkhpdfphphnfaaPFnExactCountCoveringsx0
import Derived.Test.YtjkhpdfphphnfaaPFnExactCountCoveringsx1
import Derived.Test.YtjkhpdfphphnfaaPFnExactCountCoveringsx2
import Derived.Test.YtjkhpdfphphnfaaPFnExactCountCoveringsx3
import Derived.Test.YtjkhpdfphphnfaaPFnExactCountCoveringsx4
namespace Go.Proofs.Ytjkhpdfphphnfaa.PFnExactCountCoverings
open Go.RowKit Go.Proofs.YtjkhpdfphphnfaaW.PrintWords Go.Proofs.YtjkhpdfphphnfaaW.PrintLast Go.Proofs.YtjkhpdfphphnfaaW.PrintMore
attribute [local go_sem] max2_int min2_int max_two min_two max_three min_three max_four min_four   -- for this text's walks alone
set_option linter.unusedVariables false
set_option linter.unusedSimpArgs false

end Go.Proofs.Ytjkhpdfphphnfaa.PFnExactCountCoverings
