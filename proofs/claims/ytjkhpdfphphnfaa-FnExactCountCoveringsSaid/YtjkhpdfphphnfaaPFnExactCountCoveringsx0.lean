-- Printed by this session's eprint.py over the kit's print (with this session's own texts for some functions)
import Derived.Test.YtjkhpdfphphnfaaProg
import Derived.Below
import Derived.Deep.Draws
import Derived.Deep.AppendLies
import Derived.Maps.AppendAt
import Derived.OwnWalk
import Derived.Laws.BytesArg
import Derived.Laws.MakeOwn
import Derived.Laws.OwnMore
import Derived.Deep.OwnRows
import Derived.Tactics
import Derived.Lib.ConvBytes
import Derived.Laws.Slices
import Derived.WalkKit
import Derived.KernelRfl
import Derived.RowKit3
import Derived.Deep.LoopGhost
import Derived.Deep.QuietTactic
import Derived.BigQuiet
import Derived.WideLaws
import Derived.Deep.DeepCutAuto
import Derived.Deep.CutBlock
import Derived.Deep.RegionHeld3
import Derived.Laws.Rows
import Derived.Lib.AppendStr
import Derived.ArgAppend
import Derived.Laws.IdiomCopy
import Derived.OrdersHeld
import Derived.Laws.BitsLemmas
import Derived.RowKit
import Derived.RangeFuncBox
import Derived.RangeFuncNested
import Derived.OneCell
import Derived.Test.YtjkhpdfphphnfaaShelfClone
import Derived.Shelf.SlicesE.Clone
import Derived.Lib.SliceRun
import Derived.Laws.EntriesVeiled
import Derived.WalkSpells
import Derived.Test.YtjkhpdfphphnfaaWWords
import Derived.Test.YtjkhpdfphphnfaaWLast
import Derived.Test.YtjkhpdfphphnfaaWTab
import Derived.Test.YtjkhpdfphphnfaaWFour
import Derived.Test.YtjkhpdfphphnfaaWQPut
import Derived.Test.YtjkhpdfphphnfaaWApart
import Derived.Test.YtjkhpdfphphnfaaWArr
import Derived.Test.YtjkhpdfphphnfaaWZeros
import Derived.Test.YtjkhpdfphphnfaaWFoot
import Derived.Test.YtjkhpdfphphnfaaWKept
import Derived.Test.YtjkhpdfphphnfaaWShare
import Derived.Test.YtjkhpdfphphnfaaWN
import Derived.Test.YtjkhpdfphphnfaaWFootNe
import Derived.Test.YtjkhpdfphphnfaaWAt
import Derived.Test.YtjkhpdfphphnfaaWEqStruct
import Derived.Test.YtjkhpdfphphnfaaWRepsOne
import Derived.Test.YtjkhpdfphphnfaaWInv
import Derived.Test.YtjkhpdfphphnfaaWInvWords
import Derived.Test.YtjkhpdfphphnfaaWGuard
import Derived.Test.YtjkhpdfphphnfaaWNEv
import Derived.Test.YtjkhpdfphphnfaaWMore
namespace Go.Proofs.Ytjkhpdfphphnfaa.PFnExactCountCoverings
open Go.RowKit Go.Proofs.YtjkhpdfphphnfaaW.PrintWords Go.Proofs.YtjkhpdfphphnfaaW.PrintLast Go.Proofs.YtjkhpdfphphnfaaW.PrintMore
attribute [local go_sem] max2_int min2_int max_two min_two max_three min_three max_four min_four   -- for this text's walks alone
set_option linter.unusedVariables false
set_option linter.unusedSimpArgs false



def errW : Option Int → Value
  | none => .nilIface
  | some c => .iface 0 (.int .i64 c)
theorem errW_none : errW none = .nilIface := rfl
theorem errW_some (c : Int) : errW (some c) = .iface 0 (.int .i64 c) := rfl

theorem info3 : (Try.prog.info? 3).map (fun i => (i.zero, i.size, i.bytes)) = some (some (.int .i64 0), 1, 8) := by kernel_rfl
-- the values' own types

end Go.Proofs.Ytjkhpdfphphnfaa.PFnExactCountCoverings
