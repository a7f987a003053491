-- Printed by this session's eprint.py over the kit's print (with this session's own texts for some functions)
import Derived.Test.YthekpfnijkhgjaaProg
import Derived.Below
import Derived.Deep.Draws
import Derived.Deep.AppendLies
import Derived.Maps.AppendAt
import Derived.OwnWalk
import Derived.Laws.BytesArg
import Derived.Laws.MakeOwn
import Derived.Laws.OwnMore
import Derived.Deep.OwnRows
import Derived.Tactics
import Derived.Lib.ConvBytes
import Derived.Laws.Slices
import Derived.WalkKit
import Derived.KernelRfl
import Derived.RowKit3
import Derived.Deep.LoopGhost
import Derived.Deep.QuietTactic
import Derived.BigQuiet
import Derived.WideLaws
import Derived.Deep.DeepCutAuto
import Derived.Deep.CutBlock
import Derived.Deep.RegionHeld3
import Derived.Laws.Rows
import Derived.Lib.AppendStr
import Derived.ArgAppend
import Derived.Laws.IdiomCopy
import Derived.OrdersHeld
import Derived.Laws.BitsLemmas
import Derived.RowKit
import Derived.OneCell
import Derived.Test.YthekpfnijkhgjaaWWords
import Derived.Test.YthekpfnijkhgjaaWLast
import Derived.Test.YthekpfnijkhgjaaWTab
import Derived.Test.YthekpfnijkhgjaaWFour
import Derived.Test.YthekpfnijkhgjaaWQPut
import Derived.Test.YthekpfnijkhgjaaWApart
import Derived.Test.YthekpfnijkhgjaaWArr
import Derived.Test.YthekpfnijkhgjaaWZeros
import Derived.Test.YthekpfnijkhgjaaWFoot
import Derived.Test.YthekpfnijkhgjaaWKept
import Derived.Test.YthekpfnijkhgjaaWShare
import Derived.Test.YthekpfnijkhgjaaWN
import Derived.Test.YthekpfnijkhgjaaWFootNe
import Derived.Test.YthekpfnijkhgjaaWAt
import Derived.Test.YthekpfnijkhgjaaWEqStruct
import Derived.Test.YthekpfnijkhgjaaWRepsOne
import Derived.Test.YthekpfnijkhgjaaWInv
import Derived.Test.YthekpfnijkhgjaaWInvWords
import Derived.Test.YthekpfnijkhgjaaWGuard
import Derived.Test.YthekpfnijkhgjaaWNEv
import Derived.Test.YthekpfnijkhgjaaWMore
namespace Go.Proofs.Ythekpfnijkhgjaa.PFnExactArePlanks
open Go.RowKit Go.Proofs.YthekpfnijkhgjaaW.PrintWords Go.Proofs.YthekpfnijkhgjaaW.PrintLast Go.Proofs.YthekpfnijkhgjaaW.PrintMore
attribute [local go_sem] max2_int min2_int max_two min_two max_three min_three max_four min_four   -- for this text's walks alone
set_option linter.unusedVariables false
set_option linter.unusedSimpArgs false



def errW : Option Int → Value
  | none => .nilIface
  | some c => .iface 0 (.int .i64 c)
theorem errW_none : errW none = .nilIface := rfl
theorem errW_some (c : Int) : errW (some c) = .iface 0 (.int .i64 c) := rfl

theorem info3 : (Try.prog.info? 3).map (fun i => (i.zero, i.size, i.bytes)) = some (some (.int .i64 0), 1, 8) := by kernel_rfl
-- the values' own types

end Go.Proofs.Ythekpfnijkhgjaa.PFnExactArePlanks
