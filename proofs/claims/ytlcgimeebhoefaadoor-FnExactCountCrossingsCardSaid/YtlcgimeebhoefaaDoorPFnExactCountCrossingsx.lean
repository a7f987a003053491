-- Printed by this session's eprint.py over the kit's print (with this session's own texts for some functions)
import Derived.Test.YtlcgimeebhoefaaDoorPFnExactCountCrossingsx0
import Derived.Test.YtlcgimeebhoefaaDoorPFnExactCountCrossingsx1
import Derived.Test.YtlcgimeebhoefaaDoorPFnExactCountCrossingsx2
import Derived.Test.YtlcgimeebhoefaaDoorPFnExactCountCrossingsx3
namespace Go.Proofs.YtlcgimeebhoefaaDoor.PFnExactCountCrossings
open Go.RowKit Go.Proofs.YtlcgimeebhoefaaDoorW.PrintWords Go.Proofs.YtlcgimeebhoefaaDoorW.PrintLast Go.Proofs.YtlcgimeebhoefaaDoorW.PrintMore
attribute [local go_sem] max2_int min2_int max_two min_two max_three min_three max_four min_four   -- for this text's walks alone
set_option linter.unusedVariables false
set_option linter.unusedSimpArgs false

end Go.Proofs.YtlcgimeebhoefaaDoor.PFnExactCountCrossings
