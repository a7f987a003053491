-- Printed by this session's eprint.py over the kit's print (with this session's own texts for some functions)
import Derived.Test.YtfmbcfbbhokbaaaDoorPFnExactPondsReachedx0
import Derived.Test.YtfmbcfbbhokbaaaDoorPFnExactPondsReachedx1
import Derived.Test.YtfmbcfbbhokbaaaDoorPFnExactPondsReachedx2
import Derived.Test.YtfmbcfbbhokbaaaDoorPFnExactPondsReachedx3
import Derived.Test.YtfmbcfbbhokbaaaDoorPFnExactPondsReachedx4
namespace Go.Proofs.YtfmbcfbbhokbaaaDoor.PFnExactPondsReached
open Go.RowKit Go.Proofs.YtfmbcfbbhokbaaaDoorW.PrintWords Go.Proofs.YtfmbcfbbhokbaaaDoorW.PrintLast Go.Proofs.YtfmbcfbbhokbaaaDoorW.PrintMore
attribute [local go_sem] max2_int min2_int max_two min_two max_three min_three max_four min_four   -- for this text's walks alone
set_option linter.unusedVariables false
set_option linter.unusedSimpArgs false

end Go.Proofs.YtfmbcfbbhokbaaaDoor.PFnExactPondsReached
