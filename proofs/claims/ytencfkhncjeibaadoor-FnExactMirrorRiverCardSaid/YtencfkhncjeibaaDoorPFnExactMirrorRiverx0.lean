-- Printed by this session's eprint.py over the kit's print (with this session's own texts for some functions)
import Derived.Test.YtencfkhncjeibaaDoorProg
import Derived.Below
import Derived.Deep.Draws
import Derived.Deep.AppendLies
import Derived.Maps.AppendAt
import Derived.OwnWalk
import Derived.Laws.BytesArg
import Derived.Laws.MakeOwn
import Derived.Laws.OwnMore
import Derived.Deep.OwnRows
import Derived.Tactics
import Derived.Lib.ConvBytes
import Derived.Laws.Slices
import Derived.WalkKit
import Derived.KernelRfl
import Derived.RowKit3
import Derived.Deep.LoopGhost
import Derived.Deep.QuietTactic
import Derived.BigQuiet
import Derived.WideLaws
import Derived.Deep.DeepCutAuto
import Derived.Deep.CutBlock
import Derived.Deep.RegionHeld3
import Derived.Laws.Rows
import Derived.Lib.AppendStr
import Derived.ArgAppend
import Derived.Laws.IdiomCopy
import Derived.OrdersHeld
import Derived.Laws.BitsLemmas
import Derived.RowKit
import Derived.Test.YtencfkhncjeibaaDoorShelf
import Derived.Shelf.Strings.SlTrimAscii
import Derived.Test.YtencfkhncjeibaaDoorShelfRev
import Derived.Shelf.SlicesE.Reverse
import Derived.Laws.IdiomStrings
import Derived.Test.YtencfkhncjeibaaDoorWWords
import Derived.Test.YtencfkhncjeibaaDoorWLast
import Derived.Test.YtencfkhncjeibaaDoorWTab
import Derived.Test.YtencfkhncjeibaaDoorWFour
import Derived.Test.YtencfkhncjeibaaDoorWQPut
import Derived.Test.YtencfkhncjeibaaDoorWApart
import Derived.Test.YtencfkhncjeibaaDoorWArr
import Derived.Test.YtencfkhncjeibaaDoorWZeros
import Derived.Test.YtencfkhncjeibaaDoorWFoot
import Derived.Test.YtencfkhncjeibaaDoorWKept
import Derived.Test.YtencfkhncjeibaaDoorWShare
import Derived.Test.YtencfkhncjeibaaDoorWN
import Derived.Test.YtencfkhncjeibaaDoorWFootNe
import Derived.Test.YtencfkhncjeibaaDoorWAt
import Derived.Test.YtencfkhncjeibaaDoorWEqStruct
import Derived.Test.YtencfkhncjeibaaDoorWRepsOne
import Derived.Test.YtencfkhncjeibaaDoorWInv
import Derived.Test.YtencfkhncjeibaaDoorWInvWords
import Derived.Test.YtencfkhncjeibaaDoorWGuard
import Derived.Test.YtencfkhncjeibaaDoorWNEv
import Derived.Test.YtencfkhncjeibaaDoorWMore
namespace Go.Proofs.YtencfkhncjeibaaDoor.PFnExactMirrorRiver
open Go.RowKit Go.Proofs.YtencfkhncjeibaaDoorW.PrintWords Go.Proofs.YtencfkhncjeibaaDoorW.PrintLast Go.Proofs.YtencfkhncjeibaaDoorW.PrintMore
attribute [local go_sem] max2_int min2_int max_two min_two max_three min_three max_four min_four   -- for this text's walks alone
set_option linter.unusedVariables false
set_option linter.unusedSimpArgs false



def errW : Option Int → Value
  | none => .nilIface
  | some c => .iface 0 (.int .i64 c)
theorem errW_none : errW none = .nilIface := rfl
theorem errW_some (c : Int) : errW (some c) = .iface 0 (.int .i64 c) := rfl

-- the values' own types

end Go.Proofs.YtencfkhncjeibaaDoor.PFnExactMirrorRiver
