/-
  NARROWER THAN 'FOR EVERY INPUT', by the rows' own cells (each row's printed sentence says how): FnExactIsPond: laid · FnExactIsStuck: laid · FnExactMoveFrog: laid · FnExactFrogMoves: laid · FnExactLeapsIn: laid · FnExactPlayFrogs: laid · FnExactExchangeOf: laid · FnExactDoesRightWin: laid · FnExactWinningMove: laid · FnExactPondsReached: laid · FnExactStuckPonds: laid.
  DERIVED. THE GIVEN ROWS OF THIS SEAT. 11 by the template 'for every input the law returns true; each argument reads behind the call as it read before'; 0 by the template 'total and deterministic' (their statements: YtfmbcfbbhokbaaaDoorTotals.lean).
  GIVEN WITH THE SEED: the statements are not yours to turn. If you find one false, say at which input.
  Laid BY PROGRAM, IN A SANDBOX (cutbox-rows.mjs): the forced cells as the released guide's own fill.sh prints them over the translation 5a782b5414c5e18f… (all of the seat's roots in one cut). By AI agents, Wed Nov 11 2026. No macro, syntax, notation, axiom, sorry.
-/
import Derived.Test.YtfmbcfbbhokbaaaDoorChecked
import GoSem.PinnedTables
import GoSem.Claim
import GoSem.ClaimJoined
import GoSem.ClaimMapViews
import Derived.JoinedTies
import Derived.KernelRfl
namespace Go.Proofs.YtfmbcfbbhokbaaaDoor
/- THE CELL 'sum', in the pinned program and in every row, IS THE sha256 OF THE DUMP (.gsa) THAT YtfmbcfbbhokbaaaDoorProg.lean LOADS. Nothing in Lean hashes anything: it is a label: what it is worth is what the hold of that sum in a sandbox is worth. -/
noncomputable def Tryd.pinned : Pinned := { name := "ytfmbcfbbhokbaaadoor", sum := "5a782b5414c5e18fed2eb5327ec733712a964caac5378b9a61e35d238d2024b6", checked := Tryd.checked }
namespace Rows
def none {H : Type} : Left H := { results := [], args := [] }

/- WHAT THE LISTED PACKAGE-LEVEL VARIABLES READ AS WHEN THE CALL BEGINS. Each datum BY PROGRAM (the guide's laid-datum.mjs) off the statement by which the dump's own 'gosem.cut.vars' lays the variable. In a bare row this is a premise. The card (YtfmbcfbbhokbaaaDoorCards.lean) ties it to the program's text. -/
def laid_unicode_utf8_acceptRanges {H : Type} : DataW H := .agg [.agg [.lit (.int .u8 128), .lit (.int .u8 191)], .agg [.lit (.int .u8 160), .lit (.int .u8 191)], .agg [.lit (.int .u8 128), .lit (.int .u8 159)], .agg [.lit (.int .u8 144), .lit (.int .u8 191)], .agg [.lit (.int .u8 128), .lit (.int .u8 143)], .agg [.lit (.int .u8 0), .lit (.int .u8 0)], .agg [.lit (.int .u8 0), .lit (.int .u8 0)], .agg [.lit (.int .u8 0), .lit (.int .u8 0)], .agg [.lit (.int .u8 0), .lit (.int .u8 0)], .agg [.lit (.int .u8 0), .lit (.int .u8 0)], .agg [.lit (.int .u8 0), .lit (.int .u8 0)], .agg [.lit (.int .u8 0), .lit (.int .u8 0)], .agg [.lit (.int .u8 0), .lit (.int .u8 0)], .agg [.lit (.int .u8 0), .lit (.int .u8 0)], .agg [.lit (.int .u8 0), .lit (.int .u8 0)], .agg [.lit (.int .u8 0), .lit (.int .u8 0)]]
/-- One of Go's own tables, pinned by name: the form's constant. -/
def laid_unicode_utf8_first : DataW Unit := Go.Pinned.utf8First

/-- 'laws.FnExactIsPond': WHATEVER THE INPUT: true; the input reads as it did. -/
def fnExactIsPondSpec : ChangeSpec := { name := "fnExactIsPond", fn := fun _ => fun
  | [d] => { results := [.lit (.bool true)], args := [d] }
  | _ => none }
def fnExactIsPondRow : OpenClaim := { program := "ytfmbcfbbhokbaaadoor", sum := "5a782b5414c5e18fed2eb5327ec733712a964caac5378b9a61e35d238d2024b6", func := "loop.example/g01352/laws.FnExactIsPond", spec := "fnExactIsPond", inPlace := ["internal/bytealg.IndexByteString", "internal/bytealg.IndexString"], named := ["unicode/utf8.first", "unicode/utf8.acceptRanges", "internal/bytealg.MaxLen"], apart := false, laid := [("unicode/utf8.acceptRanges", laid_unicode_utf8_acceptRanges), ("unicode/utf8.first", laid_unicode_utf8_first)] }
def FnExactIsPondSaid : Prop := fnExactIsPondRow.holds Tryd.pinned (OpenSpec.ofChange fnExactIsPondSpec)

/-- ITS FALSE NEIGHBOUR: 'it returns false'. Refute it at one input. -/
def fnExactIsPondWrong : ChangeSpec := { name := "fnExactIsPond", fn := fun _ => fun
  | [d] => { results := [.lit (.bool false)], args := [d] }
  | _ => none }
def FnExactIsPondWrongFalsely : Prop := fnExactIsPondRow.holds Tryd.pinned (OpenSpec.ofChange fnExactIsPondWrong)

/-- 'laws.FnExactIsStuck': WHATEVER THE INPUT: true; the input reads as it did. -/
def fnExactIsStuckSpec : ChangeSpec := { name := "fnExactIsStuck", fn := fun _ => fun
  | [d] => { results := [.lit (.bool true)], args := [d] }
  | _ => none }
def fnExactIsStuckRow : OpenClaim := { program := "ytfmbcfbbhokbaaadoor", sum := "5a782b5414c5e18fed2eb5327ec733712a964caac5378b9a61e35d238d2024b6", func := "loop.example/g01352/laws.FnExactIsStuck", spec := "fnExactIsStuck", inPlace := ["internal/bytealg.IndexByteString", "internal/bytealg.IndexString"], unfollowed := true, recurses := true, named := ["unicode/utf8.first", "unicode/utf8.acceptRanges", "internal/bytealg.MaxLen"], apart := false, laid := [("unicode/utf8.acceptRanges", laid_unicode_utf8_acceptRanges), ("unicode/utf8.first", laid_unicode_utf8_first)] }
def FnExactIsStuckSaid : Prop := fnExactIsStuckRow.holds Tryd.pinned (OpenSpec.ofChange fnExactIsStuckSpec)

/-- ITS FALSE NEIGHBOUR: 'it returns false'. Refute it at one input. -/
def fnExactIsStuckWrong : ChangeSpec := { name := "fnExactIsStuck", fn := fun _ => fun
  | [d] => { results := [.lit (.bool false)], args := [d] }
  | _ => none }
def FnExactIsStuckWrongFalsely : Prop := fnExactIsStuckRow.holds Tryd.pinned (OpenSpec.ofChange fnExactIsStuckWrong)

/-- 'laws.FnExactMoveFrog': WHATEVER THE INPUT: true; the input reads as it did. -/
def fnExactMoveFrogSpec : ChangeSpec := { name := "fnExactMoveFrog", fn := fun _ => fun
  | [d1, d2] => { results := [.lit (.bool true)], args := [d1, d2] }
  | _ => none }
def fnExactMoveFrogRow : OpenClaim := { program := "ytfmbcfbbhokbaaadoor", sum := "5a782b5414c5e18fed2eb5327ec733712a964caac5378b9a61e35d238d2024b6", func := "loop.example/g01352/laws.FnExactMoveFrog", spec := "fnExactMoveFrog", inPlace := ["internal/bytealg.IndexByteString", "internal/bytealg.IndexString"], unfollowed := true, recurses := true, named := ["unicode/utf8.first", "unicode/utf8.acceptRanges", "internal/bytealg.MaxLen"], apart := false, laid := [("unicode/utf8.acceptRanges", laid_unicode_utf8_acceptRanges), ("unicode/utf8.first", laid_unicode_utf8_first)] }
def FnExactMoveFrogSaid : Prop := fnExactMoveFrogRow.holds Tryd.pinned (OpenSpec.ofChange fnExactMoveFrogSpec)

/-- ITS FALSE NEIGHBOUR: 'it returns false'. Refute it at one input. -/
def fnExactMoveFrogWrong : ChangeSpec := { name := "fnExactMoveFrog", fn := fun _ => fun
  | [d1, d2] => { results := [.lit (.bool false)], args := [d1, d2] }
  | _ => none }
def FnExactMoveFrogWrongFalsely : Prop := fnExactMoveFrogRow.holds Tryd.pinned (OpenSpec.ofChange fnExactMoveFrogWrong)

/-- 'laws.FnExactFrogMoves': WHATEVER THE INPUT: true; the input reads as it did. -/
def fnExactFrogMovesSpec : ChangeSpec := { name := "fnExactFrogMoves", fn := fun _ => fun
  | [d] => { results := [.lit (.bool true)], args := [d] }
  | _ => none }
def fnExactFrogMovesRow : OpenClaim := { program := "ytfmbcfbbhokbaaadoor", sum := "5a782b5414c5e18fed2eb5327ec733712a964caac5378b9a61e35d238d2024b6", func := "loop.example/g01352/laws.FnExactFrogMoves", spec := "fnExactFrogMoves", inPlace := ["internal/bytealg.IndexByteString", "internal/bytealg.IndexString"], unfollowed := true, recurses := true, named := ["unicode/utf8.first", "unicode/utf8.acceptRanges", "internal/bytealg.MaxLen"], apart := false, laid := [("unicode/utf8.acceptRanges", laid_unicode_utf8_acceptRanges), ("unicode/utf8.first", laid_unicode_utf8_first)] }
def FnExactFrogMovesSaid : Prop := fnExactFrogMovesRow.holds Tryd.pinned (OpenSpec.ofChange fnExactFrogMovesSpec)

/-- ITS FALSE NEIGHBOUR: 'it returns false'. Refute it at one input. -/
def fnExactFrogMovesWrong : ChangeSpec := { name := "fnExactFrogMoves", fn := fun _ => fun
  | [d] => { results := [.lit (.bool false)], args := [d] }
  | _ => none }
def FnExactFrogMovesWrongFalsely : Prop := fnExactFrogMovesRow.holds Tryd.pinned (OpenSpec.ofChange fnExactFrogMovesWrong)

/-- 'laws.FnExactLeapsIn': WHATEVER THE INPUT: true; the input reads as it did. -/
def fnExactLeapsInSpec : ChangeSpec := { name := "fnExactLeapsIn", fn := fun _ => fun
  | [d1, d2] => { results := [.lit (.bool true)], args := [d1, d2] }
  | _ => none }
def fnExactLeapsInRow : OpenClaim := { program := "ytfmbcfbbhokbaaadoor", sum := "5a782b5414c5e18fed2eb5327ec733712a964caac5378b9a61e35d238d2024b6", func := "loop.example/g01352/laws.FnExactLeapsIn", spec := "fnExactLeapsIn", inPlace := ["internal/bytealg.IndexByteString", "internal/bytealg.IndexString"], unfollowed := true, recurses := true, named := ["unicode/utf8.first", "unicode/utf8.acceptRanges", "internal/bytealg.MaxLen"], apart := false, laid := [("unicode/utf8.acceptRanges", laid_unicode_utf8_acceptRanges), ("unicode/utf8.first", laid_unicode_utf8_first)] }
def FnExactLeapsInSaid : Prop := fnExactLeapsInRow.holds Tryd.pinned (OpenSpec.ofChange fnExactLeapsInSpec)

/-- ITS FALSE NEIGHBOUR: 'it returns false'. Refute it at one input. -/
def fnExactLeapsInWrong : ChangeSpec := { name := "fnExactLeapsIn", fn := fun _ => fun
  | [d1, d2] => { results := [.lit (.bool false)], args := [d1, d2] }
  | _ => none }
def FnExactLeapsInWrongFalsely : Prop := fnExactLeapsInRow.holds Tryd.pinned (OpenSpec.ofChange fnExactLeapsInWrong)

/-- 'laws.FnExactPlayFrogs': WHATEVER THE INPUT: true; the input reads as it did. -/
def fnExactPlayFrogsSpec : ChangeSpec := { name := "fnExactPlayFrogs", fn := fun _ => fun
  | [d1, d2] => { results := [.lit (.bool true)], args := [d1, d2] }
  | _ => none }
def fnExactPlayFrogsRow : OpenClaim := { program := "ytfmbcfbbhokbaaadoor", sum := "5a782b5414c5e18fed2eb5327ec733712a964caac5378b9a61e35d238d2024b6", func := "loop.example/g01352/laws.FnExactPlayFrogs", spec := "fnExactPlayFrogs", inPlace := ["internal/bytealg.IndexByteString", "internal/bytealg.IndexString"], unfollowed := true, recurses := true, named := ["unicode/utf8.first", "unicode/utf8.acceptRanges", "internal/bytealg.MaxLen"], apart := false, laid := [("unicode/utf8.acceptRanges", laid_unicode_utf8_acceptRanges), ("unicode/utf8.first", laid_unicode_utf8_first)] }
def FnExactPlayFrogsSaid : Prop := fnExactPlayFrogsRow.holds Tryd.pinned (OpenSpec.ofChange fnExactPlayFrogsSpec)

/-- ITS FALSE NEIGHBOUR: 'it returns false'. Refute it at one input. -/
def fnExactPlayFrogsWrong : ChangeSpec := { name := "fnExactPlayFrogs", fn := fun _ => fun
  | [d1, d2] => { results := [.lit (.bool false)], args := [d1, d2] }
  | _ => none }
def FnExactPlayFrogsWrongFalsely : Prop := fnExactPlayFrogsRow.holds Tryd.pinned (OpenSpec.ofChange fnExactPlayFrogsWrong)

/-- 'laws.FnExactExchangeOf': WHATEVER THE INPUT: true; the input reads as it did. -/
def fnExactExchangeOfSpec : ChangeSpec := { name := "fnExactExchangeOf", fn := fun _ => fun
  | [d] => { results := [.lit (.bool true)], args := [d] }
  | _ => none }
def fnExactExchangeOfRow : OpenClaim := { program := "ytfmbcfbbhokbaaadoor", sum := "5a782b5414c5e18fed2eb5327ec733712a964caac5378b9a61e35d238d2024b6", func := "loop.example/g01352/laws.FnExactExchangeOf", spec := "fnExactExchangeOf", inPlace := ["internal/bytealg.IndexByteString", "internal/bytealg.IndexString", "internal/bytealg.CountString", "internal/abi.NoEscape", "internal/bytealg.MakeNoZero"], named := ["unicode/utf8.first", "unicode/utf8.acceptRanges", "internal/bytealg.MaxLen"], apart := false, laid := [("unicode/utf8.acceptRanges", laid_unicode_utf8_acceptRanges), ("unicode/utf8.first", laid_unicode_utf8_first)] }
def FnExactExchangeOfSaid : Prop := fnExactExchangeOfRow.holds Tryd.pinned (OpenSpec.ofChange fnExactExchangeOfSpec)

/-- ITS FALSE NEIGHBOUR: 'it returns false'. Refute it at one input. -/
def fnExactExchangeOfWrong : ChangeSpec := { name := "fnExactExchangeOf", fn := fun _ => fun
  | [d] => { results := [.lit (.bool false)], args := [d] }
  | _ => none }
def FnExactExchangeOfWrongFalsely : Prop := fnExactExchangeOfRow.holds Tryd.pinned (OpenSpec.ofChange fnExactExchangeOfWrong)

/-- 'laws.FnExactDoesRightWin': WHATEVER THE INPUT: true; the input reads as it did. -/
def fnExactDoesRightWinSpec : ChangeSpec := { name := "fnExactDoesRightWin", fn := fun _ => fun
  | [d1, d2] => { results := [.lit (.bool true)], args := [d1, d2] }
  | _ => none }
def fnExactDoesRightWinRow : OpenClaim := { program := "ytfmbcfbbhokbaaadoor", sum := "5a782b5414c5e18fed2eb5327ec733712a964caac5378b9a61e35d238d2024b6", func := "loop.example/g01352/laws.FnExactDoesRightWin", spec := "fnExactDoesRightWin", inPlace := ["internal/bytealg.IndexByteString", "internal/bytealg.IndexString"], unfollowed := true, recurses := true, named := ["unicode/utf8.first", "unicode/utf8.acceptRanges", "internal/bytealg.MaxLen"], apart := false, laid := [("unicode/utf8.acceptRanges", laid_unicode_utf8_acceptRanges), ("unicode/utf8.first", laid_unicode_utf8_first)] }
def FnExactDoesRightWinSaid : Prop := fnExactDoesRightWinRow.holds Tryd.pinned (OpenSpec.ofChange fnExactDoesRightWinSpec)

/-- ITS FALSE NEIGHBOUR: 'it returns false'. Refute it at one input. -/
def fnExactDoesRightWinWrong : ChangeSpec := { name := "fnExactDoesRightWin", fn := fun _ => fun
  | [d1, d2] => { results := [.lit (.bool false)], args := [d1, d2] }
  | _ => none }
def FnExactDoesRightWinWrongFalsely : Prop := fnExactDoesRightWinRow.holds Tryd.pinned (OpenSpec.ofChange fnExactDoesRightWinWrong)

/-- 'laws.FnExactWinningMove': WHATEVER THE INPUT: true; the input reads as it did. -/
def fnExactWinningMoveSpec : ChangeSpec := { name := "fnExactWinningMove", fn := fun _ => fun
  | [d1, d2] => { results := [.lit (.bool true)], args := [d1, d2] }
  | _ => none }
def fnExactWinningMoveRow : OpenClaim := { program := "ytfmbcfbbhokbaaadoor", sum := "5a782b5414c5e18fed2eb5327ec733712a964caac5378b9a61e35d238d2024b6", func := "loop.example/g01352/laws.FnExactWinningMove", spec := "fnExactWinningMove", inPlace := ["internal/bytealg.IndexByteString", "internal/bytealg.IndexString"], unfollowed := true, recurses := true, named := ["unicode/utf8.first", "unicode/utf8.acceptRanges", "internal/bytealg.MaxLen"], apart := false, laid := [("unicode/utf8.acceptRanges", laid_unicode_utf8_acceptRanges), ("unicode/utf8.first", laid_unicode_utf8_first)] }
def FnExactWinningMoveSaid : Prop := fnExactWinningMoveRow.holds Tryd.pinned (OpenSpec.ofChange fnExactWinningMoveSpec)

/-- ITS FALSE NEIGHBOUR: 'it returns false'. Refute it at one input. -/
def fnExactWinningMoveWrong : ChangeSpec := { name := "fnExactWinningMove", fn := fun _ => fun
  | [d1, d2] => { results := [.lit (.bool false)], args := [d1, d2] }
  | _ => none }
def FnExactWinningMoveWrongFalsely : Prop := fnExactWinningMoveRow.holds Tryd.pinned (OpenSpec.ofChange fnExactWinningMoveWrong)

/-- 'laws.FnExactPondsReached': WHATEVER THE INPUT: true; the input reads as it did. -/
def fnExactPondsReachedSpec : ChangeSpec := { name := "fnExactPondsReached", fn := fun _ => fun
  | [d] => { results := [.lit (.bool true)], args := [d] }
  | _ => none }
def fnExactPondsReachedRow : OpenClaim := { program := "ytfmbcfbbhokbaaadoor", sum := "5a782b5414c5e18fed2eb5327ec733712a964caac5378b9a61e35d238d2024b6", func := "loop.example/g01352/laws.FnExactPondsReached", spec := "fnExactPondsReached", inPlace := ["internal/bytealg.IndexByteString", "internal/bytealg.IndexString"], unfollowed := true, recurses := true, named := ["unicode/utf8.first", "unicode/utf8.acceptRanges", "internal/bytealg.MaxLen"], apart := false, laid := [("unicode/utf8.acceptRanges", laid_unicode_utf8_acceptRanges), ("unicode/utf8.first", laid_unicode_utf8_first)] }
def FnExactPondsReachedSaid : Prop := fnExactPondsReachedRow.holds Tryd.pinned (OpenSpec.ofChange fnExactPondsReachedSpec)

/-- ITS FALSE NEIGHBOUR: 'it returns false'. Refute it at one input. -/
def fnExactPondsReachedWrong : ChangeSpec := { name := "fnExactPondsReached", fn := fun _ => fun
  | [d] => { results := [.lit (.bool false)], args := [d] }
  | _ => none }
def FnExactPondsReachedWrongFalsely : Prop := fnExactPondsReachedRow.holds Tryd.pinned (OpenSpec.ofChange fnExactPondsReachedWrong)

/-- 'laws.FnExactStuckPonds': WHATEVER THE INPUT: true; the input reads as it did. -/
def fnExactStuckPondsSpec : ChangeSpec := { name := "fnExactStuckPonds", fn := fun _ => fun
  | [d] => { results := [.lit (.bool true)], args := [d] }
  | _ => none }
def fnExactStuckPondsRow : OpenClaim := { program := "ytfmbcfbbhokbaaadoor", sum := "5a782b5414c5e18fed2eb5327ec733712a964caac5378b9a61e35d238d2024b6", func := "loop.example/g01352/laws.FnExactStuckPonds", spec := "fnExactStuckPonds", inPlace := ["internal/bytealg.IndexByteString", "internal/bytealg.IndexString"], unfollowed := true, recurses := true, named := ["unicode/utf8.first", "unicode/utf8.acceptRanges", "internal/bytealg.MaxLen"], apart := false, laid := [("unicode/utf8.acceptRanges", laid_unicode_utf8_acceptRanges), ("unicode/utf8.first", laid_unicode_utf8_first)] }
def FnExactStuckPondsSaid : Prop := fnExactStuckPondsRow.holds Tryd.pinned (OpenSpec.ofChange fnExactStuckPondsSpec)

/-- ITS FALSE NEIGHBOUR: 'it returns false'. Refute it at one input. -/
def fnExactStuckPondsWrong : ChangeSpec := { name := "fnExactStuckPonds", fn := fun _ => fun
  | [d] => { results := [.lit (.bool false)], args := [d] }
  | _ => none }
def FnExactStuckPondsWrongFalsely : Prop := fnExactStuckPondsRow.holds Tryd.pinned (OpenSpec.ofChange fnExactStuckPondsWrong)

/- THE SECOND FORM. 'bulk': how many values and letters a reading holds, each counted each time it is reached (what is shared counts as often as it is met; a slice's spare places count too). A statement '..UptoSaid' is the law's where the arguments, and the package variables that the reading takes, are together of bulk at most 1048576: NARROWER than '..Said'. Prove '..Said' where nothing that the law and all that it calls make is longer than what came in: it says more and counts as full. Else prove '..UptoSaid'. A law counts once. -/
mutual
def uptoBulk {H : Type} : DataW H → Nat
  | .lit (.string bytes) => bytes.length + 1
  | .lit _ => 1
  | .nil => 1
  | .ptr d => uptoBulk d + 1
  | .slice elems spare => uptoBulkAll elems + uptoBulkAll spare + 1
  | .agg parts => uptoBulkAll parts + 1
  | .iface _ d => uptoBulk d + 1
  | .map entries => uptoBulkEntries entries + 1
  | .held _ => 1
def uptoBulkAll {H : Type} : List (DataW H) → Nat
  | [] => 0
  | d :: r => uptoBulk d + uptoBulkAll r
def uptoBulkEntries {H : Type} : List (Lit × DataW H) → Nat
  | [] => 0
  | x :: r => uptoBulkEntry x + uptoBulkEntries r
def uptoBulkEntry {H : Type} : Lit × DataW H → Nat
  | (.string bytes, d) => bytes.length + uptoBulk d + 1
  | (_, d) => uptoBulk d + 1
 end
def uptoSmall : (H : Type) → List (DataW H) → Bool := fun _ ds => decide (uptoBulkAll ds ≤ 1048576)
def OpenSpec.upto (s : _root_.Go.ChangeSpec) : _root_.Go.OpenSpec := { _root_.Go.OpenSpec.ofChange s with cond := some uptoSmall }

/-- 'laws.FnExactIsPond', WHERE WHAT IT READS IS OF BULK AT MOST 1048576: true; the input reads as it did. -/
def fnExactIsPondUptoRow : OpenClaim := { program := "ytfmbcfbbhokbaaadoor", sum := "5a782b5414c5e18fed2eb5327ec733712a964caac5378b9a61e35d238d2024b6", func := "loop.example/g01352/laws.FnExactIsPond", spec := "fnExactIsPond", inPlace := ["internal/bytealg.IndexByteString", "internal/bytealg.IndexString"], named := ["unicode/utf8.first", "unicode/utf8.acceptRanges", "internal/bytealg.MaxLen"], apart := false, laid := [("unicode/utf8.acceptRanges", laid_unicode_utf8_acceptRanges), ("unicode/utf8.first", laid_unicode_utf8_first)], narrowed := true }
def FnExactIsPondUptoSaid : Prop := fnExactIsPondUptoRow.holds Tryd.pinned (OpenSpec.upto fnExactIsPondSpec)

/-- 'laws.FnExactIsStuck', WHERE WHAT IT READS IS OF BULK AT MOST 1048576: true; the input reads as it did. -/
def fnExactIsStuckUptoRow : OpenClaim := { program := "ytfmbcfbbhokbaaadoor", sum := "5a782b5414c5e18fed2eb5327ec733712a964caac5378b9a61e35d238d2024b6", func := "loop.example/g01352/laws.FnExactIsStuck", spec := "fnExactIsStuck", inPlace := ["internal/bytealg.IndexByteString", "internal/bytealg.IndexString"], unfollowed := true, recurses := true, named := ["unicode/utf8.first", "unicode/utf8.acceptRanges", "internal/bytealg.MaxLen"], apart := false, laid := [("unicode/utf8.acceptRanges", laid_unicode_utf8_acceptRanges), ("unicode/utf8.first", laid_unicode_utf8_first)], narrowed := true }
def FnExactIsStuckUptoSaid : Prop := fnExactIsStuckUptoRow.holds Tryd.pinned (OpenSpec.upto fnExactIsStuckSpec)

/-- 'laws.FnExactMoveFrog', WHERE WHAT IT READS IS OF BULK AT MOST 1048576: true; the input reads as it did. -/
def fnExactMoveFrogUptoRow : OpenClaim := { program := "ytfmbcfbbhokbaaadoor", sum := "5a782b5414c5e18fed2eb5327ec733712a964caac5378b9a61e35d238d2024b6", func := "loop.example/g01352/laws.FnExactMoveFrog", spec := "fnExactMoveFrog", inPlace := ["internal/bytealg.IndexByteString", "internal/bytealg.IndexString"], unfollowed := true, recurses := true, named := ["unicode/utf8.first", "unicode/utf8.acceptRanges", "internal/bytealg.MaxLen"], apart := false, laid := [("unicode/utf8.acceptRanges", laid_unicode_utf8_acceptRanges), ("unicode/utf8.first", laid_unicode_utf8_first)], narrowed := true }
def FnExactMoveFrogUptoSaid : Prop := fnExactMoveFrogUptoRow.holds Tryd.pinned (OpenSpec.upto fnExactMoveFrogSpec)

/-- 'laws.FnExactFrogMoves', WHERE WHAT IT READS IS OF BULK AT MOST 1048576: true; the input reads as it did. -/
def fnExactFrogMovesUptoRow : OpenClaim := { program := "ytfmbcfbbhokbaaadoor", sum := "5a782b5414c5e18fed2eb5327ec733712a964caac5378b9a61e35d238d2024b6", func := "loop.example/g01352/laws.FnExactFrogMoves", spec := "fnExactFrogMoves", inPlace := ["internal/bytealg.IndexByteString", "internal/bytealg.IndexString"], unfollowed := true, recurses := true, named := ["unicode/utf8.first", "unicode/utf8.acceptRanges", "internal/bytealg.MaxLen"], apart := false, laid := [("unicode/utf8.acceptRanges", laid_unicode_utf8_acceptRanges), ("unicode/utf8.first", laid_unicode_utf8_first)], narrowed := true }
def FnExactFrogMovesUptoSaid : Prop := fnExactFrogMovesUptoRow.holds Tryd.pinned (OpenSpec.upto fnExactFrogMovesSpec)

/-- 'laws.FnExactLeapsIn', WHERE WHAT IT READS IS OF BULK AT MOST 1048576: true; the input reads as it did. -/
def fnExactLeapsInUptoRow : OpenClaim := { program := "ytfmbcfbbhokbaaadoor", sum := "5a782b5414c5e18fed2eb5327ec733712a964caac5378b9a61e35d238d2024b6", func := "loop.example/g01352/laws.FnExactLeapsIn", spec := "fnExactLeapsIn", inPlace := ["internal/bytealg.IndexByteString", "internal/bytealg.IndexString"], unfollowed := true, recurses := true, named := ["unicode/utf8.first", "unicode/utf8.acceptRanges", "internal/bytealg.MaxLen"], apart := false, laid := [("unicode/utf8.acceptRanges", laid_unicode_utf8_acceptRanges), ("unicode/utf8.first", laid_unicode_utf8_first)], narrowed := true }
def FnExactLeapsInUptoSaid : Prop := fnExactLeapsInUptoRow.holds Tryd.pinned (OpenSpec.upto fnExactLeapsInSpec)

/-- 'laws.FnExactPlayFrogs', WHERE WHAT IT READS IS OF BULK AT MOST 1048576: true; the input reads as it did. -/
def fnExactPlayFrogsUptoRow : OpenClaim := { program := "ytfmbcfbbhokbaaadoor", sum := "5a782b5414c5e18fed2eb5327ec733712a964caac5378b9a61e35d238d2024b6", func := "loop.example/g01352/laws.FnExactPlayFrogs", spec := "fnExactPlayFrogs", inPlace := ["internal/bytealg.IndexByteString", "internal/bytealg.IndexString"], unfollowed := true, recurses := true, named := ["unicode/utf8.first", "unicode/utf8.acceptRanges", "internal/bytealg.MaxLen"], apart := false, laid := [("unicode/utf8.acceptRanges", laid_unicode_utf8_acceptRanges), ("unicode/utf8.first", laid_unicode_utf8_first)], narrowed := true }
def FnExactPlayFrogsUptoSaid : Prop := fnExactPlayFrogsUptoRow.holds Tryd.pinned (OpenSpec.upto fnExactPlayFrogsSpec)

/-- 'laws.FnExactExchangeOf', WHERE WHAT IT READS IS OF BULK AT MOST 1048576: true; the input reads as it did. -/
def fnExactExchangeOfUptoRow : OpenClaim := { program := "ytfmbcfbbhokbaaadoor", sum := "5a782b5414c5e18fed2eb5327ec733712a964caac5378b9a61e35d238d2024b6", func := "loop.example/g01352/laws.FnExactExchangeOf", spec := "fnExactExchangeOf", inPlace := ["internal/bytealg.IndexByteString", "internal/bytealg.IndexString", "internal/bytealg.CountString", "internal/abi.NoEscape", "internal/bytealg.MakeNoZero"], named := ["unicode/utf8.first", "unicode/utf8.acceptRanges", "internal/bytealg.MaxLen"], apart := false, laid := [("unicode/utf8.acceptRanges", laid_unicode_utf8_acceptRanges), ("unicode/utf8.first", laid_unicode_utf8_first)], narrowed := true }
def FnExactExchangeOfUptoSaid : Prop := fnExactExchangeOfUptoRow.holds Tryd.pinned (OpenSpec.upto fnExactExchangeOfSpec)

/-- 'laws.FnExactDoesRightWin', WHERE WHAT IT READS IS OF BULK AT MOST 1048576: true; the input reads as it did. -/
def fnExactDoesRightWinUptoRow : OpenClaim := { program := "ytfmbcfbbhokbaaadoor", sum := "5a782b5414c5e18fed2eb5327ec733712a964caac5378b9a61e35d238d2024b6", func := "loop.example/g01352/laws.FnExactDoesRightWin", spec := "fnExactDoesRightWin", inPlace := ["internal/bytealg.IndexByteString", "internal/bytealg.IndexString"], unfollowed := true, recurses := true, named := ["unicode/utf8.first", "unicode/utf8.acceptRanges", "internal/bytealg.MaxLen"], apart := false, laid := [("unicode/utf8.acceptRanges", laid_unicode_utf8_acceptRanges), ("unicode/utf8.first", laid_unicode_utf8_first)], narrowed := true }
def FnExactDoesRightWinUptoSaid : Prop := fnExactDoesRightWinUptoRow.holds Tryd.pinned (OpenSpec.upto fnExactDoesRightWinSpec)

/-- 'laws.FnExactWinningMove', WHERE WHAT IT READS IS OF BULK AT MOST 1048576: true; the input reads as it did. -/
def fnExactWinningMoveUptoRow : OpenClaim := { program := "ytfmbcfbbhokbaaadoor", sum := "5a782b5414c5e18fed2eb5327ec733712a964caac5378b9a61e35d238d2024b6", func := "loop.example/g01352/laws.FnExactWinningMove", spec := "fnExactWinningMove", inPlace := ["internal/bytealg.IndexByteString", "internal/bytealg.IndexString"], unfollowed := true, recurses := true, named := ["unicode/utf8.first", "unicode/utf8.acceptRanges", "internal/bytealg.MaxLen"], apart := false, laid := [("unicode/utf8.acceptRanges", laid_unicode_utf8_acceptRanges), ("unicode/utf8.first", laid_unicode_utf8_first)], narrowed := true }
def FnExactWinningMoveUptoSaid : Prop := fnExactWinningMoveUptoRow.holds Tryd.pinned (OpenSpec.upto fnExactWinningMoveSpec)

/-- 'laws.FnExactPondsReached', WHERE WHAT IT READS IS OF BULK AT MOST 1048576: true; the input reads as it did. -/
def fnExactPondsReachedUptoRow : OpenClaim := { program := "ytfmbcfbbhokbaaadoor", sum := "5a782b5414c5e18fed2eb5327ec733712a964caac5378b9a61e35d238d2024b6", func := "loop.example/g01352/laws.FnExactPondsReached", spec := "fnExactPondsReached", inPlace := ["internal/bytealg.IndexByteString", "internal/bytealg.IndexString"], unfollowed := true, recurses := true, named := ["unicode/utf8.first", "unicode/utf8.acceptRanges", "internal/bytealg.MaxLen"], apart := false, laid := [("unicode/utf8.acceptRanges", laid_unicode_utf8_acceptRanges), ("unicode/utf8.first", laid_unicode_utf8_first)], narrowed := true }
def FnExactPondsReachedUptoSaid : Prop := fnExactPondsReachedUptoRow.holds Tryd.pinned (OpenSpec.upto fnExactPondsReachedSpec)

/-- 'laws.FnExactStuckPonds', WHERE WHAT IT READS IS OF BULK AT MOST 1048576: true; the input reads as it did. -/
def fnExactStuckPondsUptoRow : OpenClaim := { program := "ytfmbcfbbhokbaaadoor", sum := "5a782b5414c5e18fed2eb5327ec733712a964caac5378b9a61e35d238d2024b6", func := "loop.example/g01352/laws.FnExactStuckPonds", spec := "fnExactStuckPonds", inPlace := ["internal/bytealg.IndexByteString", "internal/bytealg.IndexString"], unfollowed := true, recurses := true, named := ["unicode/utf8.first", "unicode/utf8.acceptRanges", "internal/bytealg.MaxLen"], apart := false, laid := [("unicode/utf8.acceptRanges", laid_unicode_utf8_acceptRanges), ("unicode/utf8.first", laid_unicode_utf8_first)], narrowed := true }
def FnExactStuckPondsUptoSaid : Prop := fnExactStuckPondsUptoRow.holds Tryd.pinned (OpenSpec.upto fnExactStuckPondsSpec)

end Rows
end Go.Proofs.YtfmbcfbbhokbaaaDoor
