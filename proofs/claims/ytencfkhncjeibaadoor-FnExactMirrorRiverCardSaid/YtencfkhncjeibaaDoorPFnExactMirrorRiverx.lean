-- Printed by this session's eprint.py over the kit's print (with this session's own texts for some functions)
import Derived.Test.YtencfkhncjeibaaDoorPFnExactMirrorRiverx0
import Derived.Test.YtencfkhncjeibaaDoorPFnExactMirrorRiverx1
namespace Go.Proofs.YtencfkhncjeibaaDoor.PFnExactMirrorRiver
open Go.RowKit Go.Proofs.YtencfkhncjeibaaDoorW.PrintWords Go.Proofs.YtencfkhncjeibaaDoorW.PrintLast Go.Proofs.YtencfkhncjeibaaDoorW.PrintMore
attribute [local go_sem] max2_int min2_int max_two min_two max_three min_three max_four min_four   -- for this text's walks alone
set_option linter.unusedVariables false
set_option linter.unusedSimpArgs false

end Go.Proofs.YtencfkhncjeibaaDoor.PFnExactMirrorRiver
