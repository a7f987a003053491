-- Printed by this session's eprint.py over the kit's print (with this session's own texts for some functions)
import Derived.Test.YtkikpfeipejnlaaDoorPFnExactFirstFrogMovesx0
import Derived.Test.YtkikpfeipejnlaaDoorPFnExactFirstFrogMovesx1
import Derived.Test.YtkikpfeipejnlaaDoorPFnExactFirstFrogMovesx2
import Derived.Test.YtkikpfeipejnlaaDoorPFnExactFirstFrogMovesx3
import Derived.Test.YtkikpfeipejnlaaDoorPFnExactFirstFrogMovesx4
import Derived.Test.YtkikpfeipejnlaaDoorPFnExactFirstFrogMovesx5
import Derived.Test.YtkikpfeipejnlaaDoorPFnExactFirstFrogMovesx6
import Derived.Test.YtkikpfeipejnlaaDoorPFnExactFirstFrogMovesx7
import Derived.Test.YtkikpfeipejnlaaDoorPFnExactFirstFrogMovesx8
import Derived.Test.YtkikpfeipejnlaaDoorPFnExactFirstFrogMovesx9
namespace Go.Proofs.YtkikpfeipejnlaaDoor.PFnExactFirstFrogMoves
open Go.RowKit Go.Proofs.YtkikpfeipejnlaaDoorW.PrintWords Go.Proofs.YtkikpfeipejnlaaDoorW.PrintLast Go.Proofs.YtkikpfeipejnlaaDoorW.PrintMore
attribute [local go_sem] max2_int min2_int max_two min_two max_three min_three max_four min_four   -- for this text's walks alone
set_option linter.unusedVariables false
set_option linter.unusedSimpArgs false

end Go.Proofs.YtkikpfeipejnlaaDoor.PFnExactFirstFrogMoves
