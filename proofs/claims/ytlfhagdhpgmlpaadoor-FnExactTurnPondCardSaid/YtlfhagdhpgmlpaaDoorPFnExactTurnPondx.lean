-- Printed by this session's eprint.py over the kit's print (with this session's own texts for some functions)
import Derived.Test.YtlfhagdhpgmlpaaDoorPFnExactTurnPondx0
import Derived.Test.YtlfhagdhpgmlpaaDoorPFnExactTurnPondx1
import Derived.Test.YtlfhagdhpgmlpaaDoorPFnExactTurnPondx2
namespace Go.Proofs.YtlfhagdhpgmlpaaDoor.PFnExactTurnPond
open Go.RowKit Go.Proofs.YtlfhagdhpgmlpaaDoorW.PrintWords Go.Proofs.YtlfhagdhpgmlpaaDoorW.PrintLast Go.Proofs.YtlfhagdhpgmlpaaDoorW.PrintMore
attribute [local go_sem] max2_int min2_int max_two min_two max_three min_three max_four min_four   -- for this text's walks alone
set_option linter.unusedVariables false
set_option linter.unusedSimpArgs false

end Go.Proofs.YtlfhagdhpgmlpaaDoor.PFnExactTurnPond
