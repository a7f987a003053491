-- Printed by this session's eprint.py over the kit's print (with this session's own texts for some functions)
import Derived.Test.YtlcgimeebhoefaaDoorPFnExactIdleStonesx0
import Derived.Test.YtlcgimeebhoefaaDoorPFnExactIdleStonesx1
import Derived.Test.YtlcgimeebhoefaaDoorPFnExactIdleStonesx2
import Derived.Test.YtlcgimeebhoefaaDoorPFnExactIdleStonesx3
import Derived.Test.YtlcgimeebhoefaaDoorPFnExactIdleStonesx4
import Derived.Test.YtlcgimeebhoefaaDoorPFnExactIdleStonesx5
import Derived.Test.YtlcgimeebhoefaaDoorPFnExactIdleStonesx6
namespace Go.Proofs.YtlcgimeebhoefaaDoor.PFnExactIdleStones
open Go.RowKit Go.Proofs.YtlcgimeebhoefaaDoorW.PrintWords Go.Proofs.YtlcgimeebhoefaaDoorW.PrintLast Go.Proofs.YtlcgimeebhoefaaDoorW.PrintMore
attribute [local go_sem] max2_int min2_int max_two min_two max_three min_three max_four min_four   -- for this text's walks alone
set_option linter.unusedVariables false
set_option linter.unusedSimpArgs false

end Go.Proofs.YtlcgimeebhoefaaDoor.PFnExactIdleStones
