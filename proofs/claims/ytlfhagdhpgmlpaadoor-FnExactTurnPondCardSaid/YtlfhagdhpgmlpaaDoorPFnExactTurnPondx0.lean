-- Printed by this session's eprint.py over the kit's print (with this session's own texts for some functions)
import Derived.Test.YtlfhagdhpgmlpaaDoorProg
import Derived.Below
import Derived.Deep.Draws
import Derived.Deep.AppendLies
import Derived.Maps.AppendAt
import Derived.OwnWalk
import Derived.Laws.BytesArg
import Derived.Laws.MakeOwn
import Derived.Laws.OwnMore
import Derived.Deep.OwnRows
import Derived.Tactics
import Derived.Lib.ConvBytes
import Derived.Laws.Slices
import Derived.WalkKit
import Derived.KernelRfl
import Derived.RowKit3
import Derived.Deep.LoopGhost
import Derived.Deep.QuietTactic
import Derived.BigQuiet
import Derived.WideLaws
import Derived.Deep.DeepCutAuto
import Derived.Deep.CutBlock
import Derived.Deep.RegionHeld3
import Derived.Laws.Rows
import Derived.Lib.AppendStr
import Derived.ArgAppend
import Derived.Laws.IdiomCopy
import Derived.OrdersHeld
import Derived.Laws.BitsLemmas
import Derived.RowKit
import Derived.Test.YtlfhagdhpgmlpaaDoorShelf
import Derived.Shelf.Strings.SlTrimAscii
import Derived.Test.YtlfhagdhpgmlpaaDoorShelfRev
import Derived.Shelf.SlicesE.Reverse
import Derived.Laws.IdiomStrings
import Derived.Tactics2
import Derived.Defers
import Derived.Laws.Pointers
import Derived.Laws.LoneSync
import Derived.RegionTactic
import Derived.RegionCalls
import Derived.ChangeAlike
import Derived.WalkSpells
import Derived.Test.YtlfhagdhpgmlpaaDoorWWords
import Derived.Test.YtlfhagdhpgmlpaaDoorWLast
import Derived.Test.YtlfhagdhpgmlpaaDoorWTab
import Derived.Test.YtlfhagdhpgmlpaaDoorWFour
import Derived.Test.YtlfhagdhpgmlpaaDoorWQPut
import Derived.Test.YtlfhagdhpgmlpaaDoorWApart
import Derived.Test.YtlfhagdhpgmlpaaDoorWArr
import Derived.Test.YtlfhagdhpgmlpaaDoorWZeros
import Derived.Test.YtlfhagdhpgmlpaaDoorWFoot
import Derived.Test.YtlfhagdhpgmlpaaDoorWKept
import Derived.Test.YtlfhagdhpgmlpaaDoorWShare
import Derived.Test.YtlfhagdhpgmlpaaDoorWN
import Derived.Test.YtlfhagdhpgmlpaaDoorWFootNe
import Derived.Test.YtlfhagdhpgmlpaaDoorWAt
import Derived.Test.YtlfhagdhpgmlpaaDoorWEqStruct
import Derived.Test.YtlfhagdhpgmlpaaDoorWRepsOne
import Derived.Test.YtlfhagdhpgmlpaaDoorWInv
import Derived.Test.YtlfhagdhpgmlpaaDoorWInvWords
import Derived.Test.YtlfhagdhpgmlpaaDoorWGuard
import Derived.Test.YtlfhagdhpgmlpaaDoorWNEv
import Derived.Test.YtlfhagdhpgmlpaaDoorWMore
namespace Go.Proofs.YtlfhagdhpgmlpaaDoor.PFnExactTurnPond
open Go.RowKit Go.Proofs.YtlfhagdhpgmlpaaDoorW.PrintWords Go.Proofs.YtlfhagdhpgmlpaaDoorW.PrintLast Go.Proofs.YtlfhagdhpgmlpaaDoorW.PrintMore
attribute [local go_sem] max2_int min2_int max_two min_two max_three min_three max_four min_four   -- for this text's walks alone
set_option linter.unusedVariables false
set_option linter.unusedSimpArgs false



def errW : Option Int → Value
  | none => .nilIface
  | some c => .iface 0 (.int .i64 c)
theorem errW_none : errW none = .nilIface := rfl
theorem errW_some (c : Int) : errW (some c) = .iface 0 (.int .i64 c) := rfl

-- the values' own types

end Go.Proofs.YtlfhagdhpgmlpaaDoor.PFnExactTurnPond
