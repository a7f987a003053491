-- Printed by this session's eprint.py over the kit's print (with this session's own texts for some functions)
import Derived.Test.YtlcgimeebhoefaaDoorProg
import Derived.Below
import Derived.Deep.Draws
import Derived.Deep.AppendLies
import Derived.Maps.AppendAt
import Derived.OwnWalk
import Derived.Laws.BytesArg
import Derived.Laws.MakeOwn
import Derived.Laws.OwnMore
import Derived.Deep.OwnRows
import Derived.Tactics
import Derived.Lib.ConvBytes
import Derived.Laws.Slices
import Derived.WalkKit
import Derived.KernelRfl
import Derived.RowKit3
import Derived.Deep.LoopGhost
import Derived.Deep.QuietTactic
import Derived.BigQuiet
import Derived.WideLaws
import Derived.Deep.DeepCutAuto
import Derived.Deep.CutBlock
import Derived.Deep.RegionHeld3
import Derived.Laws.Rows
import Derived.Lib.AppendStr
import Derived.ArgAppend
import Derived.Laws.IdiomCopy
import Derived.OrdersHeld
import Derived.Laws.BitsLemmas
import Derived.RowKit
import Derived.Test.YtlcgimeebhoefaaDoorShelf
import Derived.Shelf.Strings.SlTrimAscii
import Derived.RangeFuncBox
import Derived.RangeFuncNested
import Derived.RangeFuncBound
import Derived.RangeFuncCalls
import Derived.RangeFuncLeaves
import Derived.RangeFuncFrom
import Derived.Shelf.Abstract
import Derived.Shelf.RegionOpen
import Derived.OwnWalkIn
import Derived.TacticsInMore
import Derived.LoopNIn
import Derived.LoopIn
import Derived.Test.YtlcgimeebhoefaaDoorShelfRev
import Derived.Shelf.SlicesE.Reverse
import Derived.Laws.IdiomStrings
import Derived.Test.YtlcgimeebhoefaaDoorWWords
import Derived.Test.YtlcgimeebhoefaaDoorWLast
import Derived.Test.YtlcgimeebhoefaaDoorWTab
import Derived.Test.YtlcgimeebhoefaaDoorWFour
import Derived.Test.YtlcgimeebhoefaaDoorWQPut
import Derived.Test.YtlcgimeebhoefaaDoorWApart
import Derived.Test.YtlcgimeebhoefaaDoorWArr
import Derived.Test.YtlcgimeebhoefaaDoorWZeros
import Derived.Test.YtlcgimeebhoefaaDoorWFoot
import Derived.Test.YtlcgimeebhoefaaDoorWKept
import Derived.Test.YtlcgimeebhoefaaDoorWShare
import Derived.Test.YtlcgimeebhoefaaDoorWN
import Derived.Test.YtlcgimeebhoefaaDoorWFootNe
import Derived.Test.YtlcgimeebhoefaaDoorWAt
import Derived.Test.YtlcgimeebhoefaaDoorWEqStruct
import Derived.Test.YtlcgimeebhoefaaDoorWRepsOne
import Derived.Test.YtlcgimeebhoefaaDoorWInv
import Derived.Test.YtlcgimeebhoefaaDoorWInvWords
import Derived.Test.YtlcgimeebhoefaaDoorWGuard
import Derived.Test.YtlcgimeebhoefaaDoorWNEv
import Derived.Test.YtlcgimeebhoefaaDoorWMore
namespace Go.Proofs.YtlcgimeebhoefaaDoor.PFnExactIdleStones
open Go.RowKit Go.Proofs.YtlcgimeebhoefaaDoorW.PrintWords Go.Proofs.YtlcgimeebhoefaaDoorW.PrintLast Go.Proofs.YtlcgimeebhoefaaDoorW.PrintMore
attribute [local go_sem] max2_int min2_int max_two min_two max_three min_three max_four min_four   -- for this text's walks alone
set_option linter.unusedVariables false
set_option linter.unusedSimpArgs false



def errW : Option Int → Value
  | none => .nilIface
  | some c => .iface 0 (.int .i64 c)
theorem errW_none : errW none = .nilIface := rfl
theorem errW_some (c : Int) : errW (some c) = .iface 0 (.int .i64 c) := rfl

theorem info3 : (Tryd.prog.info? 3).map (fun i => (i.zero, i.size, i.bytes)) = some (some (.int .i64 0), 1, 8) := by kernel_rfl
theorem info4 : (Tryd.prog.info? 4).map (fun i => (i.zero, i.size, i.bytes)) = some (some (.bool false), 1, 1) := by kernel_rfl
-- the values' own types

end Go.Proofs.YtlcgimeebhoefaaDoor.PFnExactIdleStones
