-- Printed by this session's eprint.py over the kit's print (with this session's own texts for some functions)
import Derived.Test.YtkikpfeipejnlaaDoorPFnExactStuckPondsx0
import Derived.Test.YtkikpfeipejnlaaDoorPFnExactStuckPondsx1
import Derived.Test.YtkikpfeipejnlaaDoorPFnExactStuckPondsx2
import Derived.Test.YtkikpfeipejnlaaDoorPFnExactStuckPondsx3
import Derived.Test.YtkikpfeipejnlaaDoorPFnExactStuckPondsx4
import Derived.Test.YtkikpfeipejnlaaDoorPFnExactStuckPondsx5
import Derived.Test.YtkikpfeipejnlaaDoorPFnExactStuckPondsx6
namespace Go.Proofs.YtkikpfeipejnlaaDoor.PFnExactStuckPonds
open Go.RowKit Go.Proofs.YtkikpfeipejnlaaDoorW.PrintWords Go.Proofs.YtkikpfeipejnlaaDoorW.PrintLast Go.Proofs.YtkikpfeipejnlaaDoorW.PrintMore
attribute [local go_sem] max2_int min2_int max_two min_two max_three min_three max_four min_four   -- for this text's walks alone
set_option linter.unusedVariables false
set_option linter.unusedSimpArgs false

end Go.Proofs.YtkikpfeipejnlaaDoor.PFnExactStuckPonds
