-- Printed by this session's eprint.py over the kit's print (with this session's own texts for some functions)
import Derived.Test.YtkikpfeipejnlaaDoorProg
import Derived.Below
import Derived.Deep.Draws
import Derived.Deep.AppendLies
import Derived.Maps.AppendAt
import Derived.OwnWalk
import Derived.Laws.BytesArg
import Derived.Laws.MakeOwn
import Derived.Laws.OwnMore
import Derived.Deep.OwnRows
import Derived.Tactics
import Derived.Lib.ConvBytes
import Derived.Laws.Slices
import Derived.WalkKit
import Derived.KernelRfl
import Derived.RowKit3
import Derived.Deep.LoopGhost
import Derived.Deep.QuietTactic
import Derived.BigQuiet
import Derived.WideLaws
import Derived.Deep.DeepCutAuto
import Derived.Deep.CutBlock
import Derived.Deep.RegionHeld3
import Derived.Laws.Rows
import Derived.Lib.AppendStr
import Derived.ArgAppend
import Derived.Laws.IdiomCopy
import Derived.OrdersHeld
import Derived.Laws.BitsLemmas
import Derived.RowKit
import Derived.Test.YtkikpfeipejnlaaDoorShelf
import Derived.Shelf.Strings.SlTrimAscii
import Derived.Deep.RegionWith
import Derived.Laws.IdiomStrings
import Derived.Sort.Row
import Derived.Test.YtkikpfeipejnlaaDoorShelfSort
import Derived.Shelf.Sort.Plain
import Derived.Sort.OwnSorted
import Derived.Lib.SliceRun
import Derived.Laws.RangeString
import Derived.Test.YtkikpfeipejnlaaDoorWWords
import Derived.Test.YtkikpfeipejnlaaDoorWLast
import Derived.Test.YtkikpfeipejnlaaDoorWTab
import Derived.Test.YtkikpfeipejnlaaDoorWFour
import Derived.Test.YtkikpfeipejnlaaDoorWQPut
import Derived.Test.YtkikpfeipejnlaaDoorWApart
import Derived.Test.YtkikpfeipejnlaaDoorWArr
import Derived.Test.YtkikpfeipejnlaaDoorWZeros
import Derived.Test.YtkikpfeipejnlaaDoorWFoot
import Derived.Test.YtkikpfeipejnlaaDoorWKept
import Derived.Test.YtkikpfeipejnlaaDoorWShare
import Derived.Test.YtkikpfeipejnlaaDoorWN
import Derived.Test.YtkikpfeipejnlaaDoorWFootNe
import Derived.Test.YtkikpfeipejnlaaDoorWAt
import Derived.Test.YtkikpfeipejnlaaDoorWEqStruct
import Derived.Test.YtkikpfeipejnlaaDoorWRepsOne
import Derived.Test.YtkikpfeipejnlaaDoorWInv
import Derived.Test.YtkikpfeipejnlaaDoorWInvWords
import Derived.Test.YtkikpfeipejnlaaDoorWGuard
import Derived.Test.YtkikpfeipejnlaaDoorWNEv
import Derived.Test.YtkikpfeipejnlaaDoorWMore
namespace Go.Proofs.YtkikpfeipejnlaaDoor.PFnExactStuckPonds
open Go.RowKit Go.Proofs.YtkikpfeipejnlaaDoorW.PrintWords Go.Proofs.YtkikpfeipejnlaaDoorW.PrintLast Go.Proofs.YtkikpfeipejnlaaDoorW.PrintMore
attribute [local go_sem] max2_int min2_int max_two min_two max_three min_three max_four min_four   -- for this text's walks alone
set_option linter.unusedVariables false
set_option linter.unusedSimpArgs false



def errW : Option Int → Value
  | none => .nilIface
  | some c => .iface 0 (.int .i64 c)
theorem errW_none : errW none = .nilIface := rfl
theorem errW_some (c : Int) : errW (some c) = .iface 0 (.int .i64 c) := rfl

theorem info3 : (Tryd.prog.info? 3).map (fun i => (i.zero, i.size, i.bytes)) = some (some (.int .i64 0), 1, 8) := by kernel_rfl
theorem info5 : (Tryd.prog.info? 5).map (fun i => (i.zero, i.size, i.bytes)) = some (some (.int .u8 0), 1, 1) := by kernel_rfl
theorem info9 : (Tryd.prog.info? 9).map (fun i => (i.zero, i.size, i.bytes)) = some (some (.string ⟨#[]⟩), 1, 16) := by kernel_rfl
-- the values' own types

end Go.Proofs.YtkikpfeipejnlaaDoor.PFnExactStuckPonds
