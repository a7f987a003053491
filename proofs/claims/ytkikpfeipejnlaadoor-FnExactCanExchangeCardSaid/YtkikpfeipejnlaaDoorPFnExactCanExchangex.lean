-- Printed by this session's eprint.py over the kit's print (with this session's own texts for some functions)
import Derived.Test.YtkikpfeipejnlaaDoorPFnExactCanExchangex0
import Derived.Test.YtkikpfeipejnlaaDoorPFnExactCanExchangex1
import Derived.Test.YtkikpfeipejnlaaDoorPFnExactCanExchangex2
import Derived.Test.YtkikpfeipejnlaaDoorPFnExactCanExchangex3
import Derived.Test.YtkikpfeipejnlaaDoorPFnExactCanExchangex4
import Derived.Test.YtkikpfeipejnlaaDoorPFnExactCanExchangex5
import Derived.Test.YtkikpfeipejnlaaDoorPFnExactCanExchangex6
import Derived.Test.YtkikpfeipejnlaaDoorPFnExactCanExchangex7
namespace Go.Proofs.YtkikpfeipejnlaaDoor.PFnExactCanExchange
open Go.RowKit Go.Proofs.YtkikpfeipejnlaaDoorW.PrintWords Go.Proofs.YtkikpfeipejnlaaDoorW.PrintLast Go.Proofs.YtkikpfeipejnlaaDoorW.PrintMore
attribute [local go_sem] max2_int min2_int max_two min_two max_three min_three max_four min_four   -- for this text's walks alone
set_option linter.unusedVariables false
set_option linter.unusedSimpArgs false

end Go.Proofs.YtkikpfeipejnlaaDoor.PFnExactCanExchange
