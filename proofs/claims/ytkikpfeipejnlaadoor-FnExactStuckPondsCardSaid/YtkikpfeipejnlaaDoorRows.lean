/-
  NARROWER THAN 'FOR EVERY INPUT', by the rows' own cells (each row's printed sentence says how): FnExactStuckPonds: laid · FnExactPondsReached: laid · FnExactCanExchange: laid · FnExactCountFrogWays: laid · FnExactFewestFrogMoves: laid · FnExactLongestFrogPlay: laid · FnExactShortestStuck: laid · FnExactFirstFrogMoves: laid.
  DERIVED. THE GIVEN ROWS OF THIS SEAT. 8 by the template 'for every input the law returns true; each argument reads behind the call as it read before'; 0 by the template 'total and deterministic' (their statements: YtkikpfeipejnlaaDoorTotals.lean).
  GIVEN WITH THE SEED: the statements are not yours to turn. If you find one false, say at which input.
  Laid BY PROGRAM, IN A SANDBOX (cutbox-rows.mjs): the forced cells as the released guide's own fill.sh prints them over the translation d32ba3d71e9c186d… (all of the seat's roots in one cut). By AI agents, Wed Nov 11 2026. No macro, syntax, notation, axiom, sorry.
-/
import Derived.Test.YtkikpfeipejnlaaDoorChecked
import GoSem.PinnedTables
import GoSem.Claim
import GoSem.ClaimJoined
import GoSem.ClaimMapViews
import Derived.JoinedTies
import Derived.KernelRfl
namespace Go.Proofs.YtkikpfeipejnlaaDoor
/- THE CELL 'sum', in the pinned program and in every row, IS THE sha256 OF THE DUMP (.gsa) THAT YtkikpfeipejnlaaDoorProg.lean LOADS. Nothing in Lean hashes anything: it is a label: what it is worth is what the hold of that sum in a sandbox is worth. -/
noncomputable def Tryd.pinned : Pinned := { name := "ytkikpfeipejnlaadoor", sum := "d32ba3d71e9c186d28e2e0ad58b22bb053cb4d78f324ffd7283f0dbdc2656b8a", checked := Tryd.checked }
namespace Rows
def none {H : Type} : Left H := { results := [], args := [] }

/- WHAT THE LISTED PACKAGE-LEVEL VARIABLES READ AS WHEN THE CALL BEGINS. Each datum BY PROGRAM (the guide's laid-datum.mjs) off the statement by which the dump's own 'gosem.cut.vars' lays the variable. In a bare row this is a premise. The card (YtkikpfeipejnlaaDoorCards.lean) ties it to the program's text. -/
def laid_unicode_utf8_acceptRanges {H : Type} : DataW H := .agg [.agg [.lit (.int .u8 128), .lit (.int .u8 191)], .agg [.lit (.int .u8 160), .lit (.int .u8 191)], .agg [.lit (.int .u8 128), .lit (.int .u8 159)], .agg [.lit (.int .u8 144), .lit (.int .u8 191)], .agg [.lit (.int .u8 128), .lit (.int .u8 143)], .agg [.lit (.int .u8 0), .lit (.int .u8 0)], .agg [.lit (.int .u8 0), .lit (.int .u8 0)], .agg [.lit (.int .u8 0), .lit (.int .u8 0)], .agg [.lit (.int .u8 0), .lit (.int .u8 0)], .agg [.lit (.int .u8 0), .lit (.int .u8 0)], .agg [.lit (.int .u8 0), .lit (.int .u8 0)], .agg [.lit (.int .u8 0), .lit (.int .u8 0)], .agg [.lit (.int .u8 0), .lit (.int .u8 0)], .agg [.lit (.int .u8 0), .lit (.int .u8 0)], .agg [.lit (.int .u8 0), .lit (.int .u8 0)], .agg [.lit (.int .u8 0), .lit (.int .u8 0)]]
/-- One of Go's own tables, pinned by name: the form's constant. -/
def laid_unicode_utf8_first : DataW Unit := Go.Pinned.utf8First

/-- 'laws.FnExactStuckPonds': WHATEVER THE INPUT: true; the input reads as it did. -/
def fnExactStuckPondsSpec : ChangeSpec := { name := "fnExactStuckPonds", fn := fun _ => fun
  | [d] => { results := [.lit (.bool true)], args := [d] }
  | _ => none }
def fnExactStuckPondsRow : OpenClaim := { program := "ytkikpfeipejnlaadoor", sum := "d32ba3d71e9c186d28e2e0ad58b22bb053cb4d78f324ffd7283f0dbdc2656b8a", func := "loop.example/g01352/laws.FnExactStuckPonds", spec := "fnExactStuckPonds", inPlace := ["internal/bytealg.IndexByteString", "internal/bytealg.IndexString"], unfollowed := true, recurses := true, named := ["unicode/utf8.first", "unicode/utf8.acceptRanges", "internal/bytealg.MaxLen"], apart := false, laid := [("unicode/utf8.acceptRanges", laid_unicode_utf8_acceptRanges), ("unicode/utf8.first", laid_unicode_utf8_first)] }
def FnExactStuckPondsSaid : Prop := fnExactStuckPondsRow.holds Tryd.pinned (OpenSpec.ofChange fnExactStuckPondsSpec)

/-- ITS FALSE NEIGHBOUR: 'it returns false'. Refute it at one input. -/
def fnExactStuckPondsWrong : ChangeSpec := { name := "fnExactStuckPonds", fn := fun _ => fun
  | [d] => { results := [.lit (.bool false)], args := [d] }
  | _ => none }
def FnExactStuckPondsWrongFalsely : Prop := fnExactStuckPondsRow.holds Tryd.pinned (OpenSpec.ofChange fnExactStuckPondsWrong)

/-- 'laws.FnExactPondsReached': WHATEVER THE INPUT: true; the input reads as it did. -/
def fnExactPondsReachedSpec : ChangeSpec := { name := "fnExactPondsReached", fn := fun _ => fun
  | [d] => { results := [.lit (.bool true)], args := [d] }
  | _ => none }
def fnExactPondsReachedRow : OpenClaim := { program := "ytkikpfeipejnlaadoor", sum := "d32ba3d71e9c186d28e2e0ad58b22bb053cb4d78f324ffd7283f0dbdc2656b8a", func := "loop.example/g01352/laws.FnExactPondsReached", spec := "fnExactPondsReached", inPlace := ["internal/bytealg.IndexByteString", "internal/bytealg.IndexString"], unfollowed := true, recurses := true, named := ["unicode/utf8.first", "unicode/utf8.acceptRanges", "internal/bytealg.MaxLen"], apart := false, laid := [("unicode/utf8.acceptRanges", laid_unicode_utf8_acceptRanges), ("unicode/utf8.first", laid_unicode_utf8_first)] }
def FnExactPondsReachedSaid : Prop := fnExactPondsReachedRow.holds Tryd.pinned (OpenSpec.ofChange fnExactPondsReachedSpec)

/-- ITS FALSE NEIGHBOUR: 'it returns false'. Refute it at one input. -/
def fnExactPondsReachedWrong : ChangeSpec := { name := "fnExactPondsReached", fn := fun _ => fun
  | [d] => { results := [.lit (.bool false)], args := [d] }
  | _ => none }
def FnExactPondsReachedWrongFalsely : Prop := fnExactPondsReachedRow.holds Tryd.pinned (OpenSpec.ofChange fnExactPondsReachedWrong)

/-- 'laws.FnExactCanExchange': WHATEVER THE INPUT: true; the input reads as it did. -/
def fnExactCanExchangeSpec : ChangeSpec := { name := "fnExactCanExchange", fn := fun _ => fun
  | [d] => { results := [.lit (.bool true)], args := [d] }
  | _ => none }
def fnExactCanExchangeRow : OpenClaim := { program := "ytkikpfeipejnlaadoor", sum := "d32ba3d71e9c186d28e2e0ad58b22bb053cb4d78f324ffd7283f0dbdc2656b8a", func := "loop.example/g01352/laws.FnExactCanExchange", spec := "fnExactCanExchange", inPlace := ["internal/bytealg.IndexByteString", "internal/bytealg.IndexString", "internal/bytealg.CountString", "internal/abi.NoEscape", "internal/bytealg.MakeNoZero"], unfollowed := true, recurses := true, named := ["unicode/utf8.first", "unicode/utf8.acceptRanges", "internal/bytealg.MaxLen"], apart := false, laid := [("unicode/utf8.acceptRanges", laid_unicode_utf8_acceptRanges), ("unicode/utf8.first", laid_unicode_utf8_first)] }
def FnExactCanExchangeSaid : Prop := fnExactCanExchangeRow.holds Tryd.pinned (OpenSpec.ofChange fnExactCanExchangeSpec)

/-- ITS FALSE NEIGHBOUR: 'it returns false'. Refute it at one input. -/
def fnExactCanExchangeWrong : ChangeSpec := { name := "fnExactCanExchange", fn := fun _ => fun
  | [d] => { results := [.lit (.bool false)], args := [d] }
  | _ => none }
def FnExactCanExchangeWrongFalsely : Prop := fnExactCanExchangeRow.holds Tryd.pinned (OpenSpec.ofChange fnExactCanExchangeWrong)

/-- 'laws.FnExactCountFrogWays': WHATEVER THE INPUT: true; the input reads as it did. -/
def fnExactCountFrogWaysSpec : ChangeSpec := { name := "fnExactCountFrogWays", fn := fun _ => fun
  | [d1, d2] => { results := [.lit (.bool true)], args := [d1, d2] }
  | _ => none }
def fnExactCountFrogWaysRow : OpenClaim := { program := "ytkikpfeipejnlaadoor", sum := "d32ba3d71e9c186d28e2e0ad58b22bb053cb4d78f324ffd7283f0dbdc2656b8a", func := "loop.example/g01352/laws.FnExactCountFrogWays", spec := "fnExactCountFrogWays", inPlace := ["internal/bytealg.IndexByteString", "internal/bytealg.IndexString"], unfollowed := true, recurses := true, named := ["unicode/utf8.first", "unicode/utf8.acceptRanges", "internal/bytealg.MaxLen"], apart := false, laid := [("unicode/utf8.acceptRanges", laid_unicode_utf8_acceptRanges), ("unicode/utf8.first", laid_unicode_utf8_first)] }
def FnExactCountFrogWaysSaid : Prop := fnExactCountFrogWaysRow.holds Tryd.pinned (OpenSpec.ofChange fnExactCountFrogWaysSpec)

/-- ITS FALSE NEIGHBOUR: 'it returns false'. Refute it at one input. -/
def fnExactCountFrogWaysWrong : ChangeSpec := { name := "fnExactCountFrogWays", fn := fun _ => fun
  | [d1, d2] => { results := [.lit (.bool false)], args := [d1, d2] }
  | _ => none }
def FnExactCountFrogWaysWrongFalsely : Prop := fnExactCountFrogWaysRow.holds Tryd.pinned (OpenSpec.ofChange fnExactCountFrogWaysWrong)

/-- 'laws.FnExactFewestFrogMoves': WHATEVER THE INPUT: true; the input reads as it did. -/
def fnExactFewestFrogMovesSpec : ChangeSpec := { name := "fnExactFewestFrogMoves", fn := fun _ => fun
  | [d1, d2] => { results := [.lit (.bool true)], args := [d1, d2] }
  | _ => none }
def fnExactFewestFrogMovesRow : OpenClaim := { program := "ytkikpfeipejnlaadoor", sum := "d32ba3d71e9c186d28e2e0ad58b22bb053cb4d78f324ffd7283f0dbdc2656b8a", func := "loop.example/g01352/laws.FnExactFewestFrogMoves", spec := "fnExactFewestFrogMoves", inPlace := ["internal/bytealg.IndexByteString", "internal/bytealg.IndexString"], unfollowed := true, recurses := true, named := ["unicode/utf8.first", "unicode/utf8.acceptRanges", "internal/bytealg.MaxLen"], apart := false, laid := [("unicode/utf8.acceptRanges", laid_unicode_utf8_acceptRanges), ("unicode/utf8.first", laid_unicode_utf8_first)] }
def FnExactFewestFrogMovesSaid : Prop := fnExactFewestFrogMovesRow.holds Tryd.pinned (OpenSpec.ofChange fnExactFewestFrogMovesSpec)

/-- ITS FALSE NEIGHBOUR: 'it returns false'. Refute it at one input. -/
def fnExactFewestFrogMovesWrong : ChangeSpec := { name := "fnExactFewestFrogMoves", fn := fun _ => fun
  | [d1, d2] => { results := [.lit (.bool false)], args := [d1, d2] }
  | _ => none }
def FnExactFewestFrogMovesWrongFalsely : Prop := fnExactFewestFrogMovesRow.holds Tryd.pinned (OpenSpec.ofChange fnExactFewestFrogMovesWrong)

/-- 'laws.FnExactLongestFrogPlay': WHATEVER THE INPUT: true; the input reads as it did. -/
def fnExactLongestFrogPlaySpec : ChangeSpec := { name := "fnExactLongestFrogPlay", fn := fun _ => fun
  | [d] => { results := [.lit (.bool true)], args := [d] }
  | _ => none }
def fnExactLongestFrogPlayRow : OpenClaim := { program := "ytkikpfeipejnlaadoor", sum := "d32ba3d71e9c186d28e2e0ad58b22bb053cb4d78f324ffd7283f0dbdc2656b8a", func := "loop.example/g01352/laws.FnExactLongestFrogPlay", spec := "fnExactLongestFrogPlay", inPlace := ["internal/bytealg.IndexByteString", "internal/bytealg.IndexString"], unfollowed := true, recurses := true, named := ["unicode/utf8.first", "unicode/utf8.acceptRanges", "internal/bytealg.MaxLen"], apart := false, laid := [("unicode/utf8.acceptRanges", laid_unicode_utf8_acceptRanges), ("unicode/utf8.first", laid_unicode_utf8_first)] }
def FnExactLongestFrogPlaySaid : Prop := fnExactLongestFrogPlayRow.holds Tryd.pinned (OpenSpec.ofChange fnExactLongestFrogPlaySpec)

/-- ITS FALSE NEIGHBOUR: 'it returns false'. Refute it at one input. -/
def fnExactLongestFrogPlayWrong : ChangeSpec := { name := "fnExactLongestFrogPlay", fn := fun _ => fun
  | [d] => { results := [.lit (.bool false)], args := [d] }
  | _ => none }
def FnExactLongestFrogPlayWrongFalsely : Prop := fnExactLongestFrogPlayRow.holds Tryd.pinned (OpenSpec.ofChange fnExactLongestFrogPlayWrong)

/-- 'laws.FnExactShortestStuck': WHATEVER THE INPUT: true; the input reads as it did. -/
def fnExactShortestStuckSpec : ChangeSpec := { name := "fnExactShortestStuck", fn := fun _ => fun
  | [d] => { results := [.lit (.bool true)], args := [d] }
  | _ => none }
def fnExactShortestStuckRow : OpenClaim := { program := "ytkikpfeipejnlaadoor", sum := "d32ba3d71e9c186d28e2e0ad58b22bb053cb4d78f324ffd7283f0dbdc2656b8a", func := "loop.example/g01352/laws.FnExactShortestStuck", spec := "fnExactShortestStuck", inPlace := ["internal/bytealg.IndexByteString", "internal/bytealg.IndexString"], unfollowed := true, recurses := true, named := ["unicode/utf8.first", "unicode/utf8.acceptRanges", "internal/bytealg.MaxLen"], apart := false, laid := [("unicode/utf8.acceptRanges", laid_unicode_utf8_acceptRanges), ("unicode/utf8.first", laid_unicode_utf8_first)] }
def FnExactShortestStuckSaid : Prop := fnExactShortestStuckRow.holds Tryd.pinned (OpenSpec.ofChange fnExactShortestStuckSpec)

/-- ITS FALSE NEIGHBOUR: 'it returns false'. Refute it at one input. -/
def fnExactShortestStuckWrong : ChangeSpec := { name := "fnExactShortestStuck", fn := fun _ => fun
  | [d] => { results := [.lit (.bool false)], args := [d] }
  | _ => none }
def FnExactShortestStuckWrongFalsely : Prop := fnExactShortestStuckRow.holds Tryd.pinned (OpenSpec.ofChange fnExactShortestStuckWrong)

/-- 'laws.FnExactFirstFrogMoves': WHATEVER THE INPUT: true; the input reads as it did. -/
def fnExactFirstFrogMovesSpec : ChangeSpec := { name := "fnExactFirstFrogMoves", fn := fun _ => fun
  | [d1, d2] => { results := [.lit (.bool true)], args := [d1, d2] }
  | _ => none }
def fnExactFirstFrogMovesRow : OpenClaim := { program := "ytkikpfeipejnlaadoor", sum := "d32ba3d71e9c186d28e2e0ad58b22bb053cb4d78f324ffd7283f0dbdc2656b8a", func := "loop.example/g01352/laws.FnExactFirstFrogMoves", spec := "fnExactFirstFrogMoves", inPlace := ["internal/bytealg.IndexByteString", "internal/bytealg.IndexString"], unfollowed := true, recurses := true, named := ["unicode/utf8.first", "unicode/utf8.acceptRanges", "internal/bytealg.MaxLen"], apart := false, laid := [("unicode/utf8.acceptRanges", laid_unicode_utf8_acceptRanges), ("unicode/utf8.first", laid_unicode_utf8_first)] }
def FnExactFirstFrogMovesSaid : Prop := fnExactFirstFrogMovesRow.holds Tryd.pinned (OpenSpec.ofChange fnExactFirstFrogMovesSpec)

/-- ITS FALSE NEIGHBOUR: 'it returns false'. Refute it at one input. -/
def fnExactFirstFrogMovesWrong : ChangeSpec := { name := "fnExactFirstFrogMoves", fn := fun _ => fun
  | [d1, d2] => { results := [.lit (.bool false)], args := [d1, d2] }
  | _ => none }
def FnExactFirstFrogMovesWrongFalsely : Prop := fnExactFirstFrogMovesRow.holds Tryd.pinned (OpenSpec.ofChange fnExactFirstFrogMovesWrong)

/- THE SECOND FORM. 'bulk': how many values and letters a reading holds, each counted each time it is reached (what is shared counts as often as it is met; a slice's spare places count too). A statement '..UptoSaid' is the law's where the arguments, and the package variables that the reading takes, are together of bulk at most 1048576: NARROWER than '..Said'. Prove '..Said' where nothing that the law and all that it calls make is longer than what came in: it says more and counts as full. Else prove '..UptoSaid'. A law counts once. -/
mutual
def uptoBulk {H : Type} : DataW H → Nat
  | .lit (.string bytes) => bytes.length + 1
  | .lit _ => 1
  | .nil => 1
  | .ptr d => uptoBulk d + 1
  | .slice elems spare => uptoBulkAll elems + uptoBulkAll spare + 1
  | .agg parts => uptoBulkAll parts + 1
  | .iface _ d => uptoBulk d + 1
  | .map entries => uptoBulkEntries entries + 1
  | .held _ => 1
def uptoBulkAll {H : Type} : List (DataW H) → Nat
  | [] => 0
  | d :: r => uptoBulk d + uptoBulkAll r
def uptoBulkEntries {H : Type} : List (Lit × DataW H) → Nat
  | [] => 0
  | x :: r => uptoBulkEntry x + uptoBulkEntries r
def uptoBulkEntry {H : Type} : Lit × DataW H → Nat
  | (.string bytes, d) => bytes.length + uptoBulk d + 1
  | (_, d) => uptoBulk d + 1
 end
def uptoSmall : (H : Type) → List (DataW H) → Bool := fun _ ds => decide (uptoBulkAll ds ≤ 1048576)
def OpenSpec.upto (s : _root_.Go.ChangeSpec) : _root_.Go.OpenSpec := { _root_.Go.OpenSpec.ofChange s with cond := some uptoSmall }

/-- 'laws.FnExactStuckPonds', WHERE WHAT IT READS IS OF BULK AT MOST 1048576: true; the input reads as it did. -/
def fnExactStuckPondsUptoRow : OpenClaim := { program := "ytkikpfeipejnlaadoor", sum := "d32ba3d71e9c186d28e2e0ad58b22bb053cb4d78f324ffd7283f0dbdc2656b8a", func := "loop.example/g01352/laws.FnExactStuckPonds", spec := "fnExactStuckPonds", inPlace := ["internal/bytealg.IndexByteString", "internal/bytealg.IndexString"], unfollowed := true, recurses := true, named := ["unicode/utf8.first", "unicode/utf8.acceptRanges", "internal/bytealg.MaxLen"], apart := false, laid := [("unicode/utf8.acceptRanges", laid_unicode_utf8_acceptRanges), ("unicode/utf8.first", laid_unicode_utf8_first)], narrowed := true }
def FnExactStuckPondsUptoSaid : Prop := fnExactStuckPondsUptoRow.holds Tryd.pinned (OpenSpec.upto fnExactStuckPondsSpec)

/-- 'laws.FnExactPondsReached', WHERE WHAT IT READS IS OF BULK AT MOST 1048576: true; the input reads as it did. -/
def fnExactPondsReachedUptoRow : OpenClaim := { program := "ytkikpfeipejnlaadoor", sum := "d32ba3d71e9c186d28e2e0ad58b22bb053cb4d78f324ffd7283f0dbdc2656b8a", func := "loop.example/g01352/laws.FnExactPondsReached", spec := "fnExactPondsReached", inPlace := ["internal/bytealg.IndexByteString", "internal/bytealg.IndexString"], unfollowed := true, recurses := true, named := ["unicode/utf8.first", "unicode/utf8.acceptRanges", "internal/bytealg.MaxLen"], apart := false, laid := [("unicode/utf8.acceptRanges", laid_unicode_utf8_acceptRanges), ("unicode/utf8.first", laid_unicode_utf8_first)], narrowed := true }
def FnExactPondsReachedUptoSaid : Prop := fnExactPondsReachedUptoRow.holds Tryd.pinned (OpenSpec.upto fnExactPondsReachedSpec)

/-- 'laws.FnExactCanExchange', WHERE WHAT IT READS IS OF BULK AT MOST 1048576: true; the input reads as it did. -/
def fnExactCanExchangeUptoRow : OpenClaim := { program := "ytkikpfeipejnlaadoor", sum := "d32ba3d71e9c186d28e2e0ad58b22bb053cb4d78f324ffd7283f0dbdc2656b8a", func := "loop.example/g01352/laws.FnExactCanExchange", spec := "fnExactCanExchange", inPlace := ["internal/bytealg.IndexByteString", "internal/bytealg.IndexString", "internal/bytealg.CountString", "internal/abi.NoEscape", "internal/bytealg.MakeNoZero"], unfollowed := true, recurses := true, named := ["unicode/utf8.first", "unicode/utf8.acceptRanges", "internal/bytealg.MaxLen"], apart := false, laid := [("unicode/utf8.acceptRanges", laid_unicode_utf8_acceptRanges), ("unicode/utf8.first", laid_unicode_utf8_first)], narrowed := true }
def FnExactCanExchangeUptoSaid : Prop := fnExactCanExchangeUptoRow.holds Tryd.pinned (OpenSpec.upto fnExactCanExchangeSpec)

/-- 'laws.FnExactCountFrogWays', WHERE WHAT IT READS IS OF BULK AT MOST 1048576: true; the input reads as it did. -/
def fnExactCountFrogWaysUptoRow : OpenClaim := { program := "ytkikpfeipejnlaadoor", sum := "d32ba3d71e9c186d28e2e0ad58b22bb053cb4d78f324ffd7283f0dbdc2656b8a", func := "loop.example/g01352/laws.FnExactCountFrogWays", spec := "fnExactCountFrogWays", inPlace := ["internal/bytealg.IndexByteString", "internal/bytealg.IndexString"], unfollowed := true, recurses := true, named := ["unicode/utf8.first", "unicode/utf8.acceptRanges", "internal/bytealg.MaxLen"], apart := false, laid := [("unicode/utf8.acceptRanges", laid_unicode_utf8_acceptRanges), ("unicode/utf8.first", laid_unicode_utf8_first)], narrowed := true }
def FnExactCountFrogWaysUptoSaid : Prop := fnExactCountFrogWaysUptoRow.holds Tryd.pinned (OpenSpec.upto fnExactCountFrogWaysSpec)

/-- 'laws.FnExactFewestFrogMoves', WHERE WHAT IT READS IS OF BULK AT MOST 1048576: true; the input reads as it did. -/
def fnExactFewestFrogMovesUptoRow : OpenClaim := { program := "ytkikpfeipejnlaadoor", sum := "d32ba3d71e9c186d28e2e0ad58b22bb053cb4d78f324ffd7283f0dbdc2656b8a", func := "loop.example/g01352/laws.FnExactFewestFrogMoves", spec := "fnExactFewestFrogMoves", inPlace := ["internal/bytealg.IndexByteString", "internal/bytealg.IndexString"], unfollowed := true, recurses := true, named := ["unicode/utf8.first", "unicode/utf8.acceptRanges", "internal/bytealg.MaxLen"], apart := false, laid := [("unicode/utf8.acceptRanges", laid_unicode_utf8_acceptRanges), ("unicode/utf8.first", laid_unicode_utf8_first)], narrowed := true }
def FnExactFewestFrogMovesUptoSaid : Prop := fnExactFewestFrogMovesUptoRow.holds Tryd.pinned (OpenSpec.upto fnExactFewestFrogMovesSpec)

/-- 'laws.FnExactLongestFrogPlay', WHERE WHAT IT READS IS OF BULK AT MOST 1048576: true; the input reads as it did. -/
def fnExactLongestFrogPlayUptoRow : OpenClaim := { program := "ytkikpfeipejnlaadoor", sum := "d32ba3d71e9c186d28e2e0ad58b22bb053cb4d78f324ffd7283f0dbdc2656b8a", func := "loop.example/g01352/laws.FnExactLongestFrogPlay", spec := "fnExactLongestFrogPlay", inPlace := ["internal/bytealg.IndexByteString", "internal/bytealg.IndexString"], unfollowed := true, recurses := true, named := ["unicode/utf8.first", "unicode/utf8.acceptRanges", "internal/bytealg.MaxLen"], apart := false, laid := [("unicode/utf8.acceptRanges", laid_unicode_utf8_acceptRanges), ("unicode/utf8.first", laid_unicode_utf8_first)], narrowed := true }
def FnExactLongestFrogPlayUptoSaid : Prop := fnExactLongestFrogPlayUptoRow.holds Tryd.pinned (OpenSpec.upto fnExactLongestFrogPlaySpec)

/-- 'laws.FnExactShortestStuck', WHERE WHAT IT READS IS OF BULK AT MOST 1048576: true; the input reads as it did. -/
def fnExactShortestStuckUptoRow : OpenClaim := { program := "ytkikpfeipejnlaadoor", sum := "d32ba3d71e9c186d28e2e0ad58b22bb053cb4d78f324ffd7283f0dbdc2656b8a", func := "loop.example/g01352/laws.FnExactShortestStuck", spec := "fnExactShortestStuck", inPlace := ["internal/bytealg.IndexByteString", "internal/bytealg.IndexString"], unfollowed := true, recurses := true, named := ["unicode/utf8.first", "unicode/utf8.acceptRanges", "internal/bytealg.MaxLen"], apart := false, laid := [("unicode/utf8.acceptRanges", laid_unicode_utf8_acceptRanges), ("unicode/utf8.first", laid_unicode_utf8_first)], narrowed := true }
def FnExactShortestStuckUptoSaid : Prop := fnExactShortestStuckUptoRow.holds Tryd.pinned (OpenSpec.upto fnExactShortestStuckSpec)

/-- 'laws.FnExactFirstFrogMoves', WHERE WHAT IT READS IS OF BULK AT MOST 1048576: true; the input reads as it did. -/
def fnExactFirstFrogMovesUptoRow : OpenClaim := { program := "ytkikpfeipejnlaadoor", sum := "d32ba3d71e9c186d28e2e0ad58b22bb053cb4d78f324ffd7283f0dbdc2656b8a", func := "loop.example/g01352/laws.FnExactFirstFrogMoves", spec := "fnExactFirstFrogMoves", inPlace := ["internal/bytealg.IndexByteString", "internal/bytealg.IndexString"], unfollowed := true, recurses := true, named := ["unicode/utf8.first", "unicode/utf8.acceptRanges", "internal/bytealg.MaxLen"], apart := false, laid := [("unicode/utf8.acceptRanges", laid_unicode_utf8_acceptRanges), ("unicode/utf8.first", laid_unicode_utf8_first)], narrowed := true }
def FnExactFirstFrogMovesUptoSaid : Prop := fnExactFirstFrogMovesUptoRow.holds Tryd.pinned (OpenSpec.upto fnExactFirstFrogMovesSpec)

end Rows
end Go.Proofs.YtkikpfeipejnlaaDoor
