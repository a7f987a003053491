-- PRINTED BY print.sh 35421559b90ae4d0a3588c463048766b98c2df88dd9212a6774a882060cdf62d: not written by this session
import Derived.Test.YtllefmdhfifapaaProg
import Derived.Below
import Derived.Deep.Draws
import Derived.Deep.AppendLies
import Derived.Maps.AppendAt
import Derived.OwnWalk
import Derived.Laws.BytesArg
import Derived.Laws.MakeOwn
import Derived.Laws.OwnMore
import Derived.Deep.OwnRows
import Derived.Tactics
import Derived.Lib.ConvBytes
import Derived.Laws.Slices
import Derived.WalkKit
import Derived.KernelRfl
import Derived.RowKit3
import Derived.Deep.LoopGhost
import Derived.Deep.QuietTactic
import Derived.BigQuiet
import Derived.WideLaws
import Derived.Deep.DeepCutAuto
import Derived.Deep.CutBlock
import Derived.Deep.RegionHeld3
import Derived.Laws.Rows
import Derived.Lib.AppendStr
import Derived.ArgAppend
import Derived.Laws.IdiomCopy
import Derived.OrdersHeld
import Derived.Laws.BitsLemmas
import Derived.RowKit
import Derived.Test.YtllefmdhfifapaaWWords
import Derived.Test.YtllefmdhfifapaaWLast
import Derived.Test.YtllefmdhfifapaaWTab
import Derived.Test.YtllefmdhfifapaaWFour
import Derived.Test.YtllefmdhfifapaaWQPut
import Derived.Test.YtllefmdhfifapaaWApart
import Derived.Test.YtllefmdhfifapaaWArr
import Derived.Test.YtllefmdhfifapaaWZeros
import Derived.Test.YtllefmdhfifapaaWFoot
import Derived.Test.YtllefmdhfifapaaWKept
import Derived.Test.YtllefmdhfifapaaWShare
import Derived.Test.YtllefmdhfifapaaWN
import Derived.Test.YtllefmdhfifapaaWFootNe
import Derived.Test.YtllefmdhfifapaaWAt
import Derived.Test.YtllefmdhfifapaaWEqStruct
import Derived.Test.YtllefmdhfifapaaWRepsOne
import Derived.Test.YtllefmdhfifapaaWInv
import Derived.Test.YtllefmdhfifapaaWInvWords
import Derived.Test.YtllefmdhfifapaaWGuard
import Derived.Test.YtllefmdhfifapaaWNEv
import Derived.Test.YtllefmdhfifapaaWMore
namespace Go.Proofs.Ytllefmdhfifapaa.PFnExactCanSpan
open Go.RowKit Go.Proofs.YtllefmdhfifapaaW.PrintWords Go.Proofs.YtllefmdhfifapaaW.PrintLast Go.Proofs.YtllefmdhfifapaaW.PrintMore
attribute [local go_sem] max2_int min2_int max_two min_two max_three min_three max_four min_four   -- for this text's walks alone
set_option linter.unusedVariables false
set_option linter.unusedSimpArgs false



def errW : Option Int → Value
  | none => .nilIface
  | some c => .iface 0 (.int .i64 c)
theorem errW_none : errW none = .nilIface := rfl
theorem errW_some (c : Int) : errW (some c) = .iface 0 (.int .i64 c) := rfl

-- the values' own types

end Go.Proofs.Ytllefmdhfifapaa.PFnExactCanSpan
