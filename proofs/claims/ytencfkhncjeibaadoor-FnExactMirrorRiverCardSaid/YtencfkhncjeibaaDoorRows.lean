/-
  NARROWER THAN 'FOR EVERY INPUT', by the rows' own cells (each row's printed sentence says how): FnExactIsRiver: laid · FnExactJoinRivers: laid · FnExactPutStone: laid · FnExactTakeStone: laid · FnExactMirrorRiver: laid · FnExactStonesOf: laid · FnExactLongestGap: laid · FnExactLeastLeap: laid · FnExactLeapAlong: laid · FnExactReachOf: laid · FnExactFewestToAdd: laid · FnExactStonesToAdd: laid.
  DERIVED. THE GIVEN ROWS OF THIS SEAT. 12 by the template 'for every input the law returns true; each argument reads behind the call as it read before'; 0 by the template 'total and deterministic' (their statements: YtencfkhncjeibaaDoorTotals.lean).
  GIVEN WITH THE SEED: the statements are not yours to turn. If you find one false, say at which input.
  Laid BY PROGRAM, IN A SANDBOX (cutbox-rows.mjs): the forced cells as the released guide's own fill.sh prints them over the translation 1fe350502ba71e5e… (all of the seat's roots in one cut). By AI agents, Wed Nov 11 2026. No macro, syntax, notation, axiom, sorry.
-/
import Derived.Test.YtencfkhncjeibaaDoorChecked
import GoSem.PinnedTables
import GoSem.Claim
import GoSem.ClaimJoined
import GoSem.ClaimMapViews
import Derived.JoinedTies
import Derived.KernelRfl
namespace Go.Proofs.YtencfkhncjeibaaDoor
/- THE CELL 'sum', in the pinned program and in every row, IS THE sha256 OF THE DUMP (.gsa) THAT YtencfkhncjeibaaDoorProg.lean LOADS. Nothing in Lean hashes anything: it is a label: what it is worth is what the hold of that sum in a sandbox is worth. -/
noncomputable def Tryd.pinned : Pinned := { name := "ytencfkhncjeibaadoor", sum := "1fe350502ba71e5e5ee00e22cd78deaf50c660f6cde2ac2ab2e368231927aa2b", checked := Tryd.checked }
namespace Rows
def none {H : Type} : Left H := { results := [], args := [] }

/- WHAT THE LISTED PACKAGE-LEVEL VARIABLES READ AS WHEN THE CALL BEGINS. Each datum BY PROGRAM (the guide's laid-datum.mjs) off the statement by which the dump's own 'gosem.cut.vars' lays the variable. In a bare row this is a premise. The card (YtencfkhncjeibaaDoorCards.lean) ties it to the program's text. -/
def laid_unicode_utf8_acceptRanges {H : Type} : DataW H := .agg [.agg [.lit (.int .u8 128), .lit (.int .u8 191)], .agg [.lit (.int .u8 160), .lit (.int .u8 191)], .agg [.lit (.int .u8 128), .lit (.int .u8 159)], .agg [.lit (.int .u8 144), .lit (.int .u8 191)], .agg [.lit (.int .u8 128), .lit (.int .u8 143)], .agg [.lit (.int .u8 0), .lit (.int .u8 0)], .agg [.lit (.int .u8 0), .lit (.int .u8 0)], .agg [.lit (.int .u8 0), .lit (.int .u8 0)], .agg [.lit (.int .u8 0), .lit (.int .u8 0)], .agg [.lit (.int .u8 0), .lit (.int .u8 0)], .agg [.lit (.int .u8 0), .lit (.int .u8 0)], .agg [.lit (.int .u8 0), .lit (.int .u8 0)], .agg [.lit (.int .u8 0), .lit (.int .u8 0)], .agg [.lit (.int .u8 0), .lit (.int .u8 0)], .agg [.lit (.int .u8 0), .lit (.int .u8 0)], .agg [.lit (.int .u8 0), .lit (.int .u8 0)]]
/-- One of Go's own tables, pinned by name: the form's constant. -/
def laid_unicode_utf8_first : DataW Unit := Go.Pinned.utf8First

/-- 'laws.FnExactIsRiver': WHATEVER THE INPUT: true; the input reads as it did. -/
def fnExactIsRiverSpec : ChangeSpec := { name := "fnExactIsRiver", fn := fun _ => fun
  | [d] => { results := [.lit (.bool true)], args := [d] }
  | _ => none }
def fnExactIsRiverRow : OpenClaim := { program := "ytencfkhncjeibaadoor", sum := "1fe350502ba71e5e5ee00e22cd78deaf50c660f6cde2ac2ab2e368231927aa2b", func := "loop.example/g01352/laws.FnExactIsRiver", spec := "fnExactIsRiver", inPlace := ["internal/bytealg.IndexByteString", "internal/bytealg.IndexString"], named := ["unicode/utf8.first", "unicode/utf8.acceptRanges", "internal/bytealg.MaxLen"], apart := false, laid := [("unicode/utf8.acceptRanges", laid_unicode_utf8_acceptRanges), ("unicode/utf8.first", laid_unicode_utf8_first)] }
def FnExactIsRiverSaid : Prop := fnExactIsRiverRow.holds Tryd.pinned (OpenSpec.ofChange fnExactIsRiverSpec)

/-- ITS FALSE NEIGHBOUR: 'it returns false'. Refute it at one input. -/
def fnExactIsRiverWrong : ChangeSpec := { name := "fnExactIsRiver", fn := fun _ => fun
  | [d] => { results := [.lit (.bool false)], args := [d] }
  | _ => none }
def FnExactIsRiverWrongFalsely : Prop := fnExactIsRiverRow.holds Tryd.pinned (OpenSpec.ofChange fnExactIsRiverWrong)

/-- 'laws.FnExactJoinRivers': WHATEVER THE INPUT: true; the input reads as it did. -/
def fnExactJoinRiversSpec : ChangeSpec := { name := "fnExactJoinRivers", fn := fun _ => fun
  | [d1, d2] => { results := [.lit (.bool true)], args := [d1, d2] }
  | _ => none }
def fnExactJoinRiversRow : OpenClaim := { program := "ytencfkhncjeibaadoor", sum := "1fe350502ba71e5e5ee00e22cd78deaf50c660f6cde2ac2ab2e368231927aa2b", func := "loop.example/g01352/laws.FnExactJoinRivers", spec := "fnExactJoinRivers", inPlace := ["internal/bytealg.IndexByteString", "internal/bytealg.IndexString"], named := ["unicode/utf8.first", "unicode/utf8.acceptRanges", "internal/bytealg.MaxLen"], apart := false, laid := [("unicode/utf8.acceptRanges", laid_unicode_utf8_acceptRanges), ("unicode/utf8.first", laid_unicode_utf8_first)] }
def FnExactJoinRiversSaid : Prop := fnExactJoinRiversRow.holds Tryd.pinned (OpenSpec.ofChange fnExactJoinRiversSpec)

/-- ITS FALSE NEIGHBOUR: 'it returns false'. Refute it at one input. -/
def fnExactJoinRiversWrong : ChangeSpec := { name := "fnExactJoinRivers", fn := fun _ => fun
  | [d1, d2] => { results := [.lit (.bool false)], args := [d1, d2] }
  | _ => none }
def FnExactJoinRiversWrongFalsely : Prop := fnExactJoinRiversRow.holds Tryd.pinned (OpenSpec.ofChange fnExactJoinRiversWrong)

/-- 'laws.FnExactPutStone': WHATEVER THE INPUT: true; the input reads as it did. -/
def fnExactPutStoneSpec : ChangeSpec := { name := "fnExactPutStone", fn := fun _ => fun
  | [d1, d2] => { results := [.lit (.bool true)], args := [d1, d2] }
  | _ => none }
def fnExactPutStoneRow : OpenClaim := { program := "ytencfkhncjeibaadoor", sum := "1fe350502ba71e5e5ee00e22cd78deaf50c660f6cde2ac2ab2e368231927aa2b", func := "loop.example/g01352/laws.FnExactPutStone", spec := "fnExactPutStone", inPlace := ["internal/bytealg.IndexByteString", "internal/bytealg.IndexString"], named := ["unicode/utf8.first", "unicode/utf8.acceptRanges", "internal/bytealg.MaxLen"], apart := false, laid := [("unicode/utf8.acceptRanges", laid_unicode_utf8_acceptRanges), ("unicode/utf8.first", laid_unicode_utf8_first)] }
def FnExactPutStoneSaid : Prop := fnExactPutStoneRow.holds Tryd.pinned (OpenSpec.ofChange fnExactPutStoneSpec)

/-- ITS FALSE NEIGHBOUR: 'it returns false'. Refute it at one input. -/
def fnExactPutStoneWrong : ChangeSpec := { name := "fnExactPutStone", fn := fun _ => fun
  | [d1, d2] => { results := [.lit (.bool false)], args := [d1, d2] }
  | _ => none }
def FnExactPutStoneWrongFalsely : Prop := fnExactPutStoneRow.holds Tryd.pinned (OpenSpec.ofChange fnExactPutStoneWrong)

/-- 'laws.FnExactTakeStone': WHATEVER THE INPUT: true; the input reads as it did. -/
def fnExactTakeStoneSpec : ChangeSpec := { name := "fnExactTakeStone", fn := fun _ => fun
  | [d1, d2] => { results := [.lit (.bool true)], args := [d1, d2] }
  | _ => none }
def fnExactTakeStoneRow : OpenClaim := { program := "ytencfkhncjeibaadoor", sum := "1fe350502ba71e5e5ee00e22cd78deaf50c660f6cde2ac2ab2e368231927aa2b", func := "loop.example/g01352/laws.FnExactTakeStone", spec := "fnExactTakeStone", inPlace := ["internal/bytealg.IndexByteString", "internal/bytealg.IndexString"], named := ["unicode/utf8.first", "unicode/utf8.acceptRanges", "internal/bytealg.MaxLen"], apart := false, laid := [("unicode/utf8.acceptRanges", laid_unicode_utf8_acceptRanges), ("unicode/utf8.first", laid_unicode_utf8_first)] }
def FnExactTakeStoneSaid : Prop := fnExactTakeStoneRow.holds Tryd.pinned (OpenSpec.ofChange fnExactTakeStoneSpec)

/-- ITS FALSE NEIGHBOUR: 'it returns false'. Refute it at one input. -/
def fnExactTakeStoneWrong : ChangeSpec := { name := "fnExactTakeStone", fn := fun _ => fun
  | [d1, d2] => { results := [.lit (.bool false)], args := [d1, d2] }
  | _ => none }
def FnExactTakeStoneWrongFalsely : Prop := fnExactTakeStoneRow.holds Tryd.pinned (OpenSpec.ofChange fnExactTakeStoneWrong)

/-- 'laws.FnExactMirrorRiver': WHATEVER THE INPUT: true; the input reads as it did. -/
def fnExactMirrorRiverSpec : ChangeSpec := { name := "fnExactMirrorRiver", fn := fun _ => fun
  | [d] => { results := [.lit (.bool true)], args := [d] }
  | _ => none }
def fnExactMirrorRiverRow : OpenClaim := { program := "ytencfkhncjeibaadoor", sum := "1fe350502ba71e5e5ee00e22cd78deaf50c660f6cde2ac2ab2e368231927aa2b", func := "loop.example/g01352/laws.FnExactMirrorRiver", spec := "fnExactMirrorRiver", inPlace := ["internal/bytealg.IndexByteString", "internal/bytealg.IndexString"], named := ["unicode/utf8.first", "unicode/utf8.acceptRanges", "internal/bytealg.MaxLen"], apart := false, laid := [("unicode/utf8.acceptRanges", laid_unicode_utf8_acceptRanges), ("unicode/utf8.first", laid_unicode_utf8_first)] }
def FnExactMirrorRiverSaid : Prop := fnExactMirrorRiverRow.holds Tryd.pinned (OpenSpec.ofChange fnExactMirrorRiverSpec)

/-- ITS FALSE NEIGHBOUR: 'it returns false'. Refute it at one input. -/
def fnExactMirrorRiverWrong : ChangeSpec := { name := "fnExactMirrorRiver", fn := fun _ => fun
  | [d] => { results := [.lit (.bool false)], args := [d] }
  | _ => none }
def FnExactMirrorRiverWrongFalsely : Prop := fnExactMirrorRiverRow.holds Tryd.pinned (OpenSpec.ofChange fnExactMirrorRiverWrong)

/-- 'laws.FnExactStonesOf': WHATEVER THE INPUT: true; the input reads as it did. -/
def fnExactStonesOfSpec : ChangeSpec := { name := "fnExactStonesOf", fn := fun _ => fun
  | [d] => { results := [.lit (.bool true)], args := [d] }
  | _ => none }
def fnExactStonesOfRow : OpenClaim := { program := "ytencfkhncjeibaadoor", sum := "1fe350502ba71e5e5ee00e22cd78deaf50c660f6cde2ac2ab2e368231927aa2b", func := "loop.example/g01352/laws.FnExactStonesOf", spec := "fnExactStonesOf", inPlace := ["internal/bytealg.IndexByteString", "internal/bytealg.IndexString"], named := ["unicode/utf8.first", "unicode/utf8.acceptRanges", "internal/bytealg.MaxLen"], apart := false, laid := [("unicode/utf8.acceptRanges", laid_unicode_utf8_acceptRanges), ("unicode/utf8.first", laid_unicode_utf8_first)] }
def FnExactStonesOfSaid : Prop := fnExactStonesOfRow.holds Tryd.pinned (OpenSpec.ofChange fnExactStonesOfSpec)

/-- ITS FALSE NEIGHBOUR: 'it returns false'. Refute it at one input. -/
def fnExactStonesOfWrong : ChangeSpec := { name := "fnExactStonesOf", fn := fun _ => fun
  | [d] => { results := [.lit (.bool false)], args := [d] }
  | _ => none }
def FnExactStonesOfWrongFalsely : Prop := fnExactStonesOfRow.holds Tryd.pinned (OpenSpec.ofChange fnExactStonesOfWrong)

/-- 'laws.FnExactLongestGap': WHATEVER THE INPUT: true; the input reads as it did. -/
def fnExactLongestGapSpec : ChangeSpec := { name := "fnExactLongestGap", fn := fun _ => fun
  | [d] => { results := [.lit (.bool true)], args := [d] }
  | _ => none }
def fnExactLongestGapRow : OpenClaim := { program := "ytencfkhncjeibaadoor", sum := "1fe350502ba71e5e5ee00e22cd78deaf50c660f6cde2ac2ab2e368231927aa2b", func := "loop.example/g01352/laws.FnExactLongestGap", spec := "fnExactLongestGap", inPlace := ["internal/bytealg.IndexByteString", "internal/bytealg.IndexString"], named := ["unicode/utf8.first", "unicode/utf8.acceptRanges", "internal/bytealg.MaxLen"], apart := false, laid := [("unicode/utf8.acceptRanges", laid_unicode_utf8_acceptRanges), ("unicode/utf8.first", laid_unicode_utf8_first)] }
def FnExactLongestGapSaid : Prop := fnExactLongestGapRow.holds Tryd.pinned (OpenSpec.ofChange fnExactLongestGapSpec)

/-- ITS FALSE NEIGHBOUR: 'it returns false'. Refute it at one input. -/
def fnExactLongestGapWrong : ChangeSpec := { name := "fnExactLongestGap", fn := fun _ => fun
  | [d] => { results := [.lit (.bool false)], args := [d] }
  | _ => none }
def FnExactLongestGapWrongFalsely : Prop := fnExactLongestGapRow.holds Tryd.pinned (OpenSpec.ofChange fnExactLongestGapWrong)

/-- 'laws.FnExactLeastLeap': WHATEVER THE INPUT: true; the input reads as it did. -/
def fnExactLeastLeapSpec : ChangeSpec := { name := "fnExactLeastLeap", fn := fun _ => fun
  | [d] => { results := [.lit (.bool true)], args := [d] }
  | _ => none }
def fnExactLeastLeapRow : OpenClaim := { program := "ytencfkhncjeibaadoor", sum := "1fe350502ba71e5e5ee00e22cd78deaf50c660f6cde2ac2ab2e368231927aa2b", func := "loop.example/g01352/laws.FnExactLeastLeap", spec := "fnExactLeastLeap", inPlace := ["internal/bytealg.IndexByteString", "internal/bytealg.IndexString"], named := ["unicode/utf8.first", "unicode/utf8.acceptRanges", "internal/bytealg.MaxLen"], apart := false, laid := [("unicode/utf8.acceptRanges", laid_unicode_utf8_acceptRanges), ("unicode/utf8.first", laid_unicode_utf8_first)] }
def FnExactLeastLeapSaid : Prop := fnExactLeastLeapRow.holds Tryd.pinned (OpenSpec.ofChange fnExactLeastLeapSpec)

/-- ITS FALSE NEIGHBOUR: 'it returns false'. Refute it at one input. -/
def fnExactLeastLeapWrong : ChangeSpec := { name := "fnExactLeastLeap", fn := fun _ => fun
  | [d] => { results := [.lit (.bool false)], args := [d] }
  | _ => none }
def FnExactLeastLeapWrongFalsely : Prop := fnExactLeastLeapRow.holds Tryd.pinned (OpenSpec.ofChange fnExactLeastLeapWrong)

/-- 'laws.FnExactLeapAlong': WHATEVER THE INPUT: true; the input reads as it did. -/
def fnExactLeapAlongSpec : ChangeSpec := { name := "fnExactLeapAlong", fn := fun _ => fun
  | [d1, d2] => { results := [.lit (.bool true)], args := [d1, d2] }
  | _ => none }
def fnExactLeapAlongRow : OpenClaim := { program := "ytencfkhncjeibaadoor", sum := "1fe350502ba71e5e5ee00e22cd78deaf50c660f6cde2ac2ab2e368231927aa2b", func := "loop.example/g01352/laws.FnExactLeapAlong", spec := "fnExactLeapAlong", inPlace := ["internal/bytealg.IndexByteString", "internal/bytealg.IndexString"], named := ["unicode/utf8.first", "unicode/utf8.acceptRanges", "internal/bytealg.MaxLen"], apart := false, laid := [("unicode/utf8.acceptRanges", laid_unicode_utf8_acceptRanges), ("unicode/utf8.first", laid_unicode_utf8_first)] }
def FnExactLeapAlongSaid : Prop := fnExactLeapAlongRow.holds Tryd.pinned (OpenSpec.ofChange fnExactLeapAlongSpec)

/-- ITS FALSE NEIGHBOUR: 'it returns false'. Refute it at one input. -/
def fnExactLeapAlongWrong : ChangeSpec := { name := "fnExactLeapAlong", fn := fun _ => fun
  | [d1, d2] => { results := [.lit (.bool false)], args := [d1, d2] }
  | _ => none }
def FnExactLeapAlongWrongFalsely : Prop := fnExactLeapAlongRow.holds Tryd.pinned (OpenSpec.ofChange fnExactLeapAlongWrong)

/-- 'laws.FnExactReachOf': WHATEVER THE INPUT: true; the input reads as it did. -/
def fnExactReachOfSpec : ChangeSpec := { name := "fnExactReachOf", fn := fun _ => fun
  | [d1, d2] => { results := [.lit (.bool true)], args := [d1, d2] }
  | _ => none }
def fnExactReachOfRow : OpenClaim := { program := "ytencfkhncjeibaadoor", sum := "1fe350502ba71e5e5ee00e22cd78deaf50c660f6cde2ac2ab2e368231927aa2b", func := "loop.example/g01352/laws.FnExactReachOf", spec := "fnExactReachOf", inPlace := ["internal/bytealg.IndexByteString", "internal/bytealg.IndexString"], named := ["unicode/utf8.first", "unicode/utf8.acceptRanges", "internal/bytealg.MaxLen"], apart := false, laid := [("unicode/utf8.acceptRanges", laid_unicode_utf8_acceptRanges), ("unicode/utf8.first", laid_unicode_utf8_first)] }
def FnExactReachOfSaid : Prop := fnExactReachOfRow.holds Tryd.pinned (OpenSpec.ofChange fnExactReachOfSpec)

/-- ITS FALSE NEIGHBOUR: 'it returns false'. Refute it at one input. -/
def fnExactReachOfWrong : ChangeSpec := { name := "fnExactReachOf", fn := fun _ => fun
  | [d1, d2] => { results := [.lit (.bool false)], args := [d1, d2] }
  | _ => none }
def FnExactReachOfWrongFalsely : Prop := fnExactReachOfRow.holds Tryd.pinned (OpenSpec.ofChange fnExactReachOfWrong)

/-- 'laws.FnExactFewestToAdd': WHATEVER THE INPUT: true; the input reads as it did. -/
def fnExactFewestToAddSpec : ChangeSpec := { name := "fnExactFewestToAdd", fn := fun _ => fun
  | [d1, d2] => { results := [.lit (.bool true)], args := [d1, d2] }
  | _ => none }
def fnExactFewestToAddRow : OpenClaim := { program := "ytencfkhncjeibaadoor", sum := "1fe350502ba71e5e5ee00e22cd78deaf50c660f6cde2ac2ab2e368231927aa2b", func := "loop.example/g01352/laws.FnExactFewestToAdd", spec := "fnExactFewestToAdd", inPlace := ["internal/bytealg.IndexByteString", "internal/bytealg.IndexString"], named := ["unicode/utf8.first", "unicode/utf8.acceptRanges", "internal/bytealg.MaxLen"], apart := false, laid := [("unicode/utf8.acceptRanges", laid_unicode_utf8_acceptRanges), ("unicode/utf8.first", laid_unicode_utf8_first)] }
def FnExactFewestToAddSaid : Prop := fnExactFewestToAddRow.holds Tryd.pinned (OpenSpec.ofChange fnExactFewestToAddSpec)

/-- ITS FALSE NEIGHBOUR: 'it returns false'. Refute it at one input. -/
def fnExactFewestToAddWrong : ChangeSpec := { name := "fnExactFewestToAdd", fn := fun _ => fun
  | [d1, d2] => { results := [.lit (.bool false)], args := [d1, d2] }
  | _ => none }
def FnExactFewestToAddWrongFalsely : Prop := fnExactFewestToAddRow.holds Tryd.pinned (OpenSpec.ofChange fnExactFewestToAddWrong)

/-- 'laws.FnExactStonesToAdd': WHATEVER THE INPUT: true; the input reads as it did. -/
def fnExactStonesToAddSpec : ChangeSpec := { name := "fnExactStonesToAdd", fn := fun _ => fun
  | [d1, d2] => { results := [.lit (.bool true)], args := [d1, d2] }
  | _ => none }
def fnExactStonesToAddRow : OpenClaim := { program := "ytencfkhncjeibaadoor", sum := "1fe350502ba71e5e5ee00e22cd78deaf50c660f6cde2ac2ab2e368231927aa2b", func := "loop.example/g01352/laws.FnExactStonesToAdd", spec := "fnExactStonesToAdd", inPlace := ["internal/bytealg.IndexByteString", "internal/bytealg.IndexString"], named := ["unicode/utf8.first", "unicode/utf8.acceptRanges", "internal/bytealg.MaxLen"], apart := false, laid := [("unicode/utf8.acceptRanges", laid_unicode_utf8_acceptRanges), ("unicode/utf8.first", laid_unicode_utf8_first)] }
def FnExactStonesToAddSaid : Prop := fnExactStonesToAddRow.holds Tryd.pinned (OpenSpec.ofChange fnExactStonesToAddSpec)

/-- ITS FALSE NEIGHBOUR: 'it returns false'. Refute it at one input. -/
def fnExactStonesToAddWrong : ChangeSpec := { name := "fnExactStonesToAdd", fn := fun _ => fun
  | [d1, d2] => { results := [.lit (.bool false)], args := [d1, d2] }
  | _ => none }
def FnExactStonesToAddWrongFalsely : Prop := fnExactStonesToAddRow.holds Tryd.pinned (OpenSpec.ofChange fnExactStonesToAddWrong)

/- THE SECOND FORM. 'bulk': how many values and letters a reading holds, each counted each time it is reached (what is shared counts as often as it is met; a slice's spare places count too). A statement '..UptoSaid' is the law's where the arguments, and the package variables that the reading takes, are together of bulk at most 1048576: NARROWER than '..Said'. Prove '..Said' where nothing that the law and all that it calls make is longer than what came in: it says more and counts as full. Else prove '..UptoSaid'. A law counts once. -/
mutual
def uptoBulk {H : Type} : DataW H → Nat
  | .lit (.string bytes) => bytes.length + 1
  | .lit _ => 1
  | .nil => 1
  | .ptr d => uptoBulk d + 1
  | .slice elems spare => uptoBulkAll elems + uptoBulkAll spare + 1
  | .agg parts => uptoBulkAll parts + 1
  | .iface _ d => uptoBulk d + 1
  | .map entries => uptoBulkEntries entries + 1
  | .held _ => 1
def uptoBulkAll {H : Type} : List (DataW H) → Nat
  | [] => 0
  | d :: r => uptoBulk d + uptoBulkAll r
def uptoBulkEntries {H : Type} : List (Lit × DataW H) → Nat
  | [] => 0
  | x :: r => uptoBulkEntry x + uptoBulkEntries r
def uptoBulkEntry {H : Type} : Lit × DataW H → Nat
  | (.string bytes, d) => bytes.length + uptoBulk d + 1
  | (_, d) => uptoBulk d + 1
 end
def uptoSmall : (H : Type) → List (DataW H) → Bool := fun _ ds => decide (uptoBulkAll ds ≤ 1048576)
def OpenSpec.upto (s : _root_.Go.ChangeSpec) : _root_.Go.OpenSpec := { _root_.Go.OpenSpec.ofChange s with cond := some uptoSmall }

/-- 'laws.FnExactIsRiver', WHERE WHAT IT READS IS OF BULK AT MOST 1048576: true; the input reads as it did. -/
def fnExactIsRiverUptoRow : OpenClaim := { program := "ytencfkhncjeibaadoor", sum := "1fe350502ba71e5e5ee00e22cd78deaf50c660f6cde2ac2ab2e368231927aa2b", func := "loop.example/g01352/laws.FnExactIsRiver", spec := "fnExactIsRiver", inPlace := ["internal/bytealg.IndexByteString", "internal/bytealg.IndexString"], named := ["unicode/utf8.first", "unicode/utf8.acceptRanges", "internal/bytealg.MaxLen"], apart := false, laid := [("unicode/utf8.acceptRanges", laid_unicode_utf8_acceptRanges), ("unicode/utf8.first", laid_unicode_utf8_first)], narrowed := true }
def FnExactIsRiverUptoSaid : Prop := fnExactIsRiverUptoRow.holds Tryd.pinned (OpenSpec.upto fnExactIsRiverSpec)

/-- 'laws.FnExactJoinRivers', WHERE WHAT IT READS IS OF BULK AT MOST 1048576: true; the input reads as it did. -/
def fnExactJoinRiversUptoRow : OpenClaim := { program := "ytencfkhncjeibaadoor", sum := "1fe350502ba71e5e5ee00e22cd78deaf50c660f6cde2ac2ab2e368231927aa2b", func := "loop.example/g01352/laws.FnExactJoinRivers", spec := "fnExactJoinRivers", inPlace := ["internal/bytealg.IndexByteString", "internal/bytealg.IndexString"], named := ["unicode/utf8.first", "unicode/utf8.acceptRanges", "internal/bytealg.MaxLen"], apart := false, laid := [("unicode/utf8.acceptRanges", laid_unicode_utf8_acceptRanges), ("unicode/utf8.first", laid_unicode_utf8_first)], narrowed := true }
def FnExactJoinRiversUptoSaid : Prop := fnExactJoinRiversUptoRow.holds Tryd.pinned (OpenSpec.upto fnExactJoinRiversSpec)

/-- 'laws.FnExactPutStone', WHERE WHAT IT READS IS OF BULK AT MOST 1048576: true; the input reads as it did. -/
def fnExactPutStoneUptoRow : OpenClaim := { program := "ytencfkhncjeibaadoor", sum := "1fe350502ba71e5e5ee00e22cd78deaf50c660f6cde2ac2ab2e368231927aa2b", func := "loop.example/g01352/laws.FnExactPutStone", spec := "fnExactPutStone", inPlace := ["internal/bytealg.IndexByteString", "internal/bytealg.IndexString"], named := ["unicode/utf8.first", "unicode/utf8.acceptRanges", "internal/bytealg.MaxLen"], apart := false, laid := [("unicode/utf8.acceptRanges", laid_unicode_utf8_acceptRanges), ("unicode/utf8.first", laid_unicode_utf8_first)], narrowed := true }
def FnExactPutStoneUptoSaid : Prop := fnExactPutStoneUptoRow.holds Tryd.pinned (OpenSpec.upto fnExactPutStoneSpec)

/-- 'laws.FnExactTakeStone', WHERE WHAT IT READS IS OF BULK AT MOST 1048576: true; the input reads as it did. -/
def fnExactTakeStoneUptoRow : OpenClaim := { program := "ytencfkhncjeibaadoor", sum := "1fe350502ba71e5e5ee00e22cd78deaf50c660f6cde2ac2ab2e368231927aa2b", func := "loop.example/g01352/laws.FnExactTakeStone", spec := "fnExactTakeStone", inPlace := ["internal/bytealg.IndexByteString", "internal/bytealg.IndexString"], named := ["unicode/utf8.first", "unicode/utf8.acceptRanges", "internal/bytealg.MaxLen"], apart := false, laid := [("unicode/utf8.acceptRanges", laid_unicode_utf8_acceptRanges), ("unicode/utf8.first", laid_unicode_utf8_first)], narrowed := true }
def FnExactTakeStoneUptoSaid : Prop := fnExactTakeStoneUptoRow.holds Tryd.pinned (OpenSpec.upto fnExactTakeStoneSpec)

/-- 'laws.FnExactMirrorRiver', WHERE WHAT IT READS IS OF BULK AT MOST 1048576: true; the input reads as it did. -/
def fnExactMirrorRiverUptoRow : OpenClaim := { program := "ytencfkhncjeibaadoor", sum := "1fe350502ba71e5e5ee00e22cd78deaf50c660f6cde2ac2ab2e368231927aa2b", func := "loop.example/g01352/laws.FnExactMirrorRiver", spec := "fnExactMirrorRiver", inPlace := ["internal/bytealg.IndexByteString", "internal/bytealg.IndexString"], named := ["unicode/utf8.first", "unicode/utf8.acceptRanges", "internal/bytealg.MaxLen"], apart := false, laid := [("unicode/utf8.acceptRanges", laid_unicode_utf8_acceptRanges), ("unicode/utf8.first", laid_unicode_utf8_first)], narrowed := true }
def FnExactMirrorRiverUptoSaid : Prop := fnExactMirrorRiverUptoRow.holds Tryd.pinned (OpenSpec.upto fnExactMirrorRiverSpec)

/-- 'laws.FnExactStonesOf', WHERE WHAT IT READS IS OF BULK AT MOST 1048576: true; the input reads as it did. -/
def fnExactStonesOfUptoRow : OpenClaim := { program := "ytencfkhncjeibaadoor", sum := "1fe350502ba71e5e5ee00e22cd78deaf50c660f6cde2ac2ab2e368231927aa2b", func := "loop.example/g01352/laws.FnExactStonesOf", spec := "fnExactStonesOf", inPlace := ["internal/bytealg.IndexByteString", "internal/bytealg.IndexString"], named := ["unicode/utf8.first", "unicode/utf8.acceptRanges", "internal/bytealg.MaxLen"], apart := false, laid := [("unicode/utf8.acceptRanges", laid_unicode_utf8_acceptRanges), ("unicode/utf8.first", laid_unicode_utf8_first)], narrowed := true }
def FnExactStonesOfUptoSaid : Prop := fnExactStonesOfUptoRow.holds Tryd.pinned (OpenSpec.upto fnExactStonesOfSpec)

/-- 'laws.FnExactLongestGap', WHERE WHAT IT READS IS OF BULK AT MOST 1048576: true; the input reads as it did. -/
def fnExactLongestGapUptoRow : OpenClaim := { program := "ytencfkhncjeibaadoor", sum := "1fe350502ba71e5e5ee00e22cd78deaf50c660f6cde2ac2ab2e368231927aa2b", func := "loop.example/g01352/laws.FnExactLongestGap", spec := "fnExactLongestGap", inPlace := ["internal/bytealg.IndexByteString", "internal/bytealg.IndexString"], named := ["unicode/utf8.first", "unicode/utf8.acceptRanges", "internal/bytealg.MaxLen"], apart := false, laid := [("unicode/utf8.acceptRanges", laid_unicode_utf8_acceptRanges), ("unicode/utf8.first", laid_unicode_utf8_first)], narrowed := true }
def FnExactLongestGapUptoSaid : Prop := fnExactLongestGapUptoRow.holds Tryd.pinned (OpenSpec.upto fnExactLongestGapSpec)

/-- 'laws.FnExactLeastLeap', WHERE WHAT IT READS IS OF BULK AT MOST 1048576: true; the input reads as it did. -/
def fnExactLeastLeapUptoRow : OpenClaim := { program := "ytencfkhncjeibaadoor", sum := "1fe350502ba71e5e5ee00e22cd78deaf50c660f6cde2ac2ab2e368231927aa2b", func := "loop.example/g01352/laws.FnExactLeastLeap", spec := "fnExactLeastLeap", inPlace := ["internal/bytealg.IndexByteString", "internal/bytealg.IndexString"], named := ["unicode/utf8.first", "unicode/utf8.acceptRanges", "internal/bytealg.MaxLen"], apart := false, laid := [("unicode/utf8.acceptRanges", laid_unicode_utf8_acceptRanges), ("unicode/utf8.first", laid_unicode_utf8_first)], narrowed := true }
def FnExactLeastLeapUptoSaid : Prop := fnExactLeastLeapUptoRow.holds Tryd.pinned (OpenSpec.upto fnExactLeastLeapSpec)

/-- 'laws.FnExactLeapAlong', WHERE WHAT IT READS IS OF BULK AT MOST 1048576: true; the input reads as it did. -/
def fnExactLeapAlongUptoRow : OpenClaim := { program := "ytencfkhncjeibaadoor", sum := "1fe350502ba71e5e5ee00e22cd78deaf50c660f6cde2ac2ab2e368231927aa2b", func := "loop.example/g01352/laws.FnExactLeapAlong", spec := "fnExactLeapAlong", inPlace := ["internal/bytealg.IndexByteString", "internal/bytealg.IndexString"], named := ["unicode/utf8.first", "unicode/utf8.acceptRanges", "internal/bytealg.MaxLen"], apart := false, laid := [("unicode/utf8.acceptRanges", laid_unicode_utf8_acceptRanges), ("unicode/utf8.first", laid_unicode_utf8_first)], narrowed := true }
def FnExactLeapAlongUptoSaid : Prop := fnExactLeapAlongUptoRow.holds Tryd.pinned (OpenSpec.upto fnExactLeapAlongSpec)

/-- 'laws.FnExactReachOf', WHERE WHAT IT READS IS OF BULK AT MOST 1048576: true; the input reads as it did. -/
def fnExactReachOfUptoRow : OpenClaim := { program := "ytencfkhncjeibaadoor", sum := "1fe350502ba71e5e5ee00e22cd78deaf50c660f6cde2ac2ab2e368231927aa2b", func := "loop.example/g01352/laws.FnExactReachOf", spec := "fnExactReachOf", inPlace := ["internal/bytealg.IndexByteString", "internal/bytealg.IndexString"], named := ["unicode/utf8.first", "unicode/utf8.acceptRanges", "internal/bytealg.MaxLen"], apart := false, laid := [("unicode/utf8.acceptRanges", laid_unicode_utf8_acceptRanges), ("unicode/utf8.first", laid_unicode_utf8_first)], narrowed := true }
def FnExactReachOfUptoSaid : Prop := fnExactReachOfUptoRow.holds Tryd.pinned (OpenSpec.upto fnExactReachOfSpec)

/-- 'laws.FnExactFewestToAdd', WHERE WHAT IT READS IS OF BULK AT MOST 1048576: true; the input reads as it did. -/
def fnExactFewestToAddUptoRow : OpenClaim := { program := "ytencfkhncjeibaadoor", sum := "1fe350502ba71e5e5ee00e22cd78deaf50c660f6cde2ac2ab2e368231927aa2b", func := "loop.example/g01352/laws.FnExactFewestToAdd", spec := "fnExactFewestToAdd", inPlace := ["internal/bytealg.IndexByteString", "internal/bytealg.IndexString"], named := ["unicode/utf8.first", "unicode/utf8.acceptRanges", "internal/bytealg.MaxLen"], apart := false, laid := [("unicode/utf8.acceptRanges", laid_unicode_utf8_acceptRanges), ("unicode/utf8.first", laid_unicode_utf8_first)], narrowed := true }
def FnExactFewestToAddUptoSaid : Prop := fnExactFewestToAddUptoRow.holds Tryd.pinned (OpenSpec.upto fnExactFewestToAddSpec)

/-- 'laws.FnExactStonesToAdd', WHERE WHAT IT READS IS OF BULK AT MOST 1048576: true; the input reads as it did. -/
def fnExactStonesToAddUptoRow : OpenClaim := { program := "ytencfkhncjeibaadoor", sum := "1fe350502ba71e5e5ee00e22cd78deaf50c660f6cde2ac2ab2e368231927aa2b", func := "loop.example/g01352/laws.FnExactStonesToAdd", spec := "fnExactStonesToAdd", inPlace := ["internal/bytealg.IndexByteString", "internal/bytealg.IndexString"], named := ["unicode/utf8.first", "unicode/utf8.acceptRanges", "internal/bytealg.MaxLen"], apart := false, laid := [("unicode/utf8.acceptRanges", laid_unicode_utf8_acceptRanges), ("unicode/utf8.first", laid_unicode_utf8_first)], narrowed := true }
def FnExactStonesToAddUptoSaid : Prop := fnExactStonesToAddUptoRow.holds Tryd.pinned (OpenSpec.upto fnExactStonesToAddSpec)

end Rows
end Go.Proofs.YtencfkhncjeibaaDoor
