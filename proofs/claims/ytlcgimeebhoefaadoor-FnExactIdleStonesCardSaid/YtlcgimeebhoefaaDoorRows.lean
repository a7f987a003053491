/-
  NARROWER THAN 'FOR EVERY INPUT', by the rows' own cells (each row's printed sentence says how): FnExactCanCross: laid · FnExactFewestLeaps: laid · FnExactLeapsLeft: laid · FnExactFirstCrossing: laid · FnExactNeededStones: laid · FnExactIdleStones: laid · FnExactCountByLeaps: laid · FnExactCountCrossings: laid · FnExactStonesOf: laid.
  DERIVED. THE GIVEN ROWS OF THIS SEAT. 9 by the template 'for every input the law returns true; each argument reads behind the call as it read before'; 0 by the template 'total and deterministic' (their statements: YtlcgimeebhoefaaDoorTotals.lean).
  GIVEN WITH THE SEED: the statements are not yours to turn. If you find one false, say at which input.
  Laid BY PROGRAM, IN A SANDBOX (cutbox-rows.mjs): the forced cells as the released guide's own fill.sh prints them over the translation a3409447d8e07b15… (all of the seat's roots in one cut). By AI agents, Wed Nov 11 2026. No macro, syntax, notation, axiom, sorry.
-/
import Derived.Test.YtlcgimeebhoefaaDoorChecked
import GoSem.PinnedTables
import GoSem.Claim
import GoSem.ClaimJoined
import GoSem.ClaimMapViews
import Derived.JoinedTies
import Derived.KernelRfl
namespace Go.Proofs.YtlcgimeebhoefaaDoor
/- THE CELL 'sum', in the pinned program and in every row, IS THE sha256 OF THE DUMP (.gsa) THAT YtlcgimeebhoefaaDoorProg.lean LOADS. Nothing in Lean hashes anything: it is a label: what it is worth is what the hold of that sum in a sandbox is worth. -/
noncomputable def Tryd.pinned : Pinned := { name := "ytlcgimeebhoefaadoor", sum := "a3409447d8e07b15499cc8cab1bcc892663a76808b7e8290e297c02495d07955", checked := Tryd.checked }
namespace Rows
def none {H : Type} : Left H := { results := [], args := [] }

/- WHAT THE LISTED PACKAGE-LEVEL VARIABLES READ AS WHEN THE CALL BEGINS. Each datum BY PROGRAM (the guide's laid-datum.mjs) off the statement by which the dump's own 'gosem.cut.vars' lays the variable. In a bare row this is a premise. The card (YtlcgimeebhoefaaDoorCards.lean) ties it to the program's text. -/
def laid_unicode_utf8_acceptRanges {H : Type} : DataW H := .agg [.agg [.lit (.int .u8 128), .lit (.int .u8 191)], .agg [.lit (.int .u8 160), .lit (.int .u8 191)], .agg [.lit (.int .u8 128), .lit (.int .u8 159)], .agg [.lit (.int .u8 144), .lit (.int .u8 191)], .agg [.lit (.int .u8 128), .lit (.int .u8 143)], .agg [.lit (.int .u8 0), .lit (.int .u8 0)], .agg [.lit (.int .u8 0), .lit (.int .u8 0)], .agg [.lit (.int .u8 0), .lit (.int .u8 0)], .agg [.lit (.int .u8 0), .lit (.int .u8 0)], .agg [.lit (.int .u8 0), .lit (.int .u8 0)], .agg [.lit (.int .u8 0), .lit (.int .u8 0)], .agg [.lit (.int .u8 0), .lit (.int .u8 0)], .agg [.lit (.int .u8 0), .lit (.int .u8 0)], .agg [.lit (.int .u8 0), .lit (.int .u8 0)], .agg [.lit (.int .u8 0), .lit (.int .u8 0)], .agg [.lit (.int .u8 0), .lit (.int .u8 0)]]
/-- One of Go's own tables, pinned by name: the form's constant. -/
def laid_unicode_utf8_first : DataW Unit := Go.Pinned.utf8First

/-- 'laws.FnExactCanCross': WHATEVER THE INPUT: true; the input reads as it did. -/
def fnExactCanCrossSpec : ChangeSpec := { name := "fnExactCanCross", fn := fun _ => fun
  | [d1, d2] => { results := [.lit (.bool true)], args := [d1, d2] }
  | _ => none }
def fnExactCanCrossRow : OpenClaim := { program := "ytlcgimeebhoefaadoor", sum := "a3409447d8e07b15499cc8cab1bcc892663a76808b7e8290e297c02495d07955", func := "loop.example/g01352/laws.FnExactCanCross", spec := "fnExactCanCross", inPlace := ["internal/bytealg.IndexByteString", "internal/bytealg.IndexString"], unfollowed := true, recurses := true, named := ["unicode/utf8.first", "unicode/utf8.acceptRanges", "internal/bytealg.MaxLen"], apart := false, laid := [("unicode/utf8.acceptRanges", laid_unicode_utf8_acceptRanges), ("unicode/utf8.first", laid_unicode_utf8_first)] }
def FnExactCanCrossSaid : Prop := fnExactCanCrossRow.holds Tryd.pinned (OpenSpec.ofChange fnExactCanCrossSpec)

/-- ITS FALSE NEIGHBOUR: 'it returns false'. Refute it at one input. -/
def fnExactCanCrossWrong : ChangeSpec := { name := "fnExactCanCross", fn := fun _ => fun
  | [d1, d2] => { results := [.lit (.bool false)], args := [d1, d2] }
  | _ => none }
def FnExactCanCrossWrongFalsely : Prop := fnExactCanCrossRow.holds Tryd.pinned (OpenSpec.ofChange fnExactCanCrossWrong)

/-- 'laws.FnExactFewestLeaps': WHATEVER THE INPUT: true; the input reads as it did. -/
def fnExactFewestLeapsSpec : ChangeSpec := { name := "fnExactFewestLeaps", fn := fun _ => fun
  | [d1, d2] => { results := [.lit (.bool true)], args := [d1, d2] }
  | _ => none }
def fnExactFewestLeapsRow : OpenClaim := { program := "ytlcgimeebhoefaadoor", sum := "a3409447d8e07b15499cc8cab1bcc892663a76808b7e8290e297c02495d07955", func := "loop.example/g01352/laws.FnExactFewestLeaps", spec := "fnExactFewestLeaps", inPlace := ["internal/bytealg.IndexByteString", "internal/bytealg.IndexString"], unfollowed := true, recurses := true, named := ["unicode/utf8.first", "unicode/utf8.acceptRanges", "internal/bytealg.MaxLen"], apart := false, laid := [("unicode/utf8.acceptRanges", laid_unicode_utf8_acceptRanges), ("unicode/utf8.first", laid_unicode_utf8_first)] }
def FnExactFewestLeapsSaid : Prop := fnExactFewestLeapsRow.holds Tryd.pinned (OpenSpec.ofChange fnExactFewestLeapsSpec)

/-- ITS FALSE NEIGHBOUR: 'it returns false'. Refute it at one input. -/
def fnExactFewestLeapsWrong : ChangeSpec := { name := "fnExactFewestLeaps", fn := fun _ => fun
  | [d1, d2] => { results := [.lit (.bool false)], args := [d1, d2] }
  | _ => none }
def FnExactFewestLeapsWrongFalsely : Prop := fnExactFewestLeapsRow.holds Tryd.pinned (OpenSpec.ofChange fnExactFewestLeapsWrong)

/-- 'laws.FnExactLeapsLeft': WHATEVER THE INPUT: true; the input reads as it did. -/
def fnExactLeapsLeftSpec : ChangeSpec := { name := "fnExactLeapsLeft", fn := fun _ => fun
  | [d1, d2] => { results := [.lit (.bool true)], args := [d1, d2] }
  | _ => none }
def fnExactLeapsLeftRow : OpenClaim := { program := "ytlcgimeebhoefaadoor", sum := "a3409447d8e07b15499cc8cab1bcc892663a76808b7e8290e297c02495d07955", func := "loop.example/g01352/laws.FnExactLeapsLeft", spec := "fnExactLeapsLeft", inPlace := ["internal/bytealg.IndexByteString", "internal/bytealg.IndexString"], unfollowed := true, recurses := true, named := ["unicode/utf8.first", "unicode/utf8.acceptRanges", "internal/bytealg.MaxLen"], apart := false, laid := [("unicode/utf8.acceptRanges", laid_unicode_utf8_acceptRanges), ("unicode/utf8.first", laid_unicode_utf8_first)] }
def FnExactLeapsLeftSaid : Prop := fnExactLeapsLeftRow.holds Tryd.pinned (OpenSpec.ofChange fnExactLeapsLeftSpec)

/-- ITS FALSE NEIGHBOUR: 'it returns false'. Refute it at one input. -/
def fnExactLeapsLeftWrong : ChangeSpec := { name := "fnExactLeapsLeft", fn := fun _ => fun
  | [d1, d2] => { results := [.lit (.bool false)], args := [d1, d2] }
  | _ => none }
def FnExactLeapsLeftWrongFalsely : Prop := fnExactLeapsLeftRow.holds Tryd.pinned (OpenSpec.ofChange fnExactLeapsLeftWrong)

/-- 'laws.FnExactFirstCrossing': WHATEVER THE INPUT: true; the input reads as it did. -/
def fnExactFirstCrossingSpec : ChangeSpec := { name := "fnExactFirstCrossing", fn := fun _ => fun
  | [d1, d2] => { results := [.lit (.bool true)], args := [d1, d2] }
  | _ => none }
def fnExactFirstCrossingRow : OpenClaim := { program := "ytlcgimeebhoefaadoor", sum := "a3409447d8e07b15499cc8cab1bcc892663a76808b7e8290e297c02495d07955", func := "loop.example/g01352/laws.FnExactFirstCrossing", spec := "fnExactFirstCrossing", inPlace := ["internal/bytealg.IndexByteString", "internal/bytealg.IndexString"], unfollowed := true, recurses := true, named := ["unicode/utf8.first", "unicode/utf8.acceptRanges", "internal/bytealg.MaxLen"], apart := false, laid := [("unicode/utf8.acceptRanges", laid_unicode_utf8_acceptRanges), ("unicode/utf8.first", laid_unicode_utf8_first)] }
def FnExactFirstCrossingSaid : Prop := fnExactFirstCrossingRow.holds Tryd.pinned (OpenSpec.ofChange fnExactFirstCrossingSpec)

/-- ITS FALSE NEIGHBOUR: 'it returns false'. Refute it at one input. -/
def fnExactFirstCrossingWrong : ChangeSpec := { name := "fnExactFirstCrossing", fn := fun _ => fun
  | [d1, d2] => { results := [.lit (.bool false)], args := [d1, d2] }
  | _ => none }
def FnExactFirstCrossingWrongFalsely : Prop := fnExactFirstCrossingRow.holds Tryd.pinned (OpenSpec.ofChange fnExactFirstCrossingWrong)

/-- 'laws.FnExactNeededStones': WHATEVER THE INPUT: true; the input reads as it did. -/
def fnExactNeededStonesSpec : ChangeSpec := { name := "fnExactNeededStones", fn := fun _ => fun
  | [d1, d2] => { results := [.lit (.bool true)], args := [d1, d2] }
  | _ => none }
def fnExactNeededStonesRow : OpenClaim := { program := "ytlcgimeebhoefaadoor", sum := "a3409447d8e07b15499cc8cab1bcc892663a76808b7e8290e297c02495d07955", func := "loop.example/g01352/laws.FnExactNeededStones", spec := "fnExactNeededStones", inPlace := ["internal/bytealg.IndexByteString", "internal/bytealg.IndexString"], unfollowed := true, recurses := true, named := ["unicode/utf8.first", "unicode/utf8.acceptRanges", "internal/bytealg.MaxLen"], apart := false, laid := [("unicode/utf8.acceptRanges", laid_unicode_utf8_acceptRanges), ("unicode/utf8.first", laid_unicode_utf8_first)] }
def FnExactNeededStonesSaid : Prop := fnExactNeededStonesRow.holds Tryd.pinned (OpenSpec.ofChange fnExactNeededStonesSpec)

/-- ITS FALSE NEIGHBOUR: 'it returns false'. Refute it at one input. -/
def fnExactNeededStonesWrong : ChangeSpec := { name := "fnExactNeededStones", fn := fun _ => fun
  | [d1, d2] => { results := [.lit (.bool false)], args := [d1, d2] }
  | _ => none }
def FnExactNeededStonesWrongFalsely : Prop := fnExactNeededStonesRow.holds Tryd.pinned (OpenSpec.ofChange fnExactNeededStonesWrong)

/-- 'laws.FnExactIdleStones': WHATEVER THE INPUT: true; the input reads as it did. -/
def fnExactIdleStonesSpec : ChangeSpec := { name := "fnExactIdleStones", fn := fun _ => fun
  | [d1, d2] => { results := [.lit (.bool true)], args := [d1, d2] }
  | _ => none }
def fnExactIdleStonesRow : OpenClaim := { program := "ytlcgimeebhoefaadoor", sum := "a3409447d8e07b15499cc8cab1bcc892663a76808b7e8290e297c02495d07955", func := "loop.example/g01352/laws.FnExactIdleStones", spec := "fnExactIdleStones", inPlace := ["internal/bytealg.IndexByteString", "internal/bytealg.IndexString"], unfollowed := true, recurses := true, named := ["unicode/utf8.first", "unicode/utf8.acceptRanges", "internal/bytealg.MaxLen"], apart := false, laid := [("unicode/utf8.acceptRanges", laid_unicode_utf8_acceptRanges), ("unicode/utf8.first", laid_unicode_utf8_first)] }
def FnExactIdleStonesSaid : Prop := fnExactIdleStonesRow.holds Tryd.pinned (OpenSpec.ofChange fnExactIdleStonesSpec)

/-- ITS FALSE NEIGHBOUR: 'it returns false'. Refute it at one input. -/
def fnExactIdleStonesWrong : ChangeSpec := { name := "fnExactIdleStones", fn := fun _ => fun
  | [d1, d2] => { results := [.lit (.bool false)], args := [d1, d2] }
  | _ => none }
def FnExactIdleStonesWrongFalsely : Prop := fnExactIdleStonesRow.holds Tryd.pinned (OpenSpec.ofChange fnExactIdleStonesWrong)

/-- 'laws.FnExactCountByLeaps': WHATEVER THE INPUT: true; the input reads as it did. -/
def fnExactCountByLeapsSpec : ChangeSpec := { name := "fnExactCountByLeaps", fn := fun _ => fun
  | [d1, d2, d3] => { results := [.lit (.bool true)], args := [d1, d2, d3] }
  | _ => none }
def fnExactCountByLeapsRow : OpenClaim := { program := "ytlcgimeebhoefaadoor", sum := "a3409447d8e07b15499cc8cab1bcc892663a76808b7e8290e297c02495d07955", func := "loop.example/g01352/laws.FnExactCountByLeaps", spec := "fnExactCountByLeaps", inPlace := ["internal/bytealg.IndexByteString", "internal/bytealg.IndexString"], named := ["unicode/utf8.first", "unicode/utf8.acceptRanges", "internal/bytealg.MaxLen"], apart := false, laid := [("unicode/utf8.acceptRanges", laid_unicode_utf8_acceptRanges), ("unicode/utf8.first", laid_unicode_utf8_first)] }
def FnExactCountByLeapsSaid : Prop := fnExactCountByLeapsRow.holds Tryd.pinned (OpenSpec.ofChange fnExactCountByLeapsSpec)

/-- ITS FALSE NEIGHBOUR: 'it returns false'. Refute it at one input. -/
def fnExactCountByLeapsWrong : ChangeSpec := { name := "fnExactCountByLeaps", fn := fun _ => fun
  | [d1, d2, d3] => { results := [.lit (.bool false)], args := [d1, d2, d3] }
  | _ => none }
def FnExactCountByLeapsWrongFalsely : Prop := fnExactCountByLeapsRow.holds Tryd.pinned (OpenSpec.ofChange fnExactCountByLeapsWrong)

/-- 'laws.FnExactCountCrossings': WHATEVER THE INPUT: true; the input reads as it did. -/
def fnExactCountCrossingsSpec : ChangeSpec := { name := "fnExactCountCrossings", fn := fun _ => fun
  | [d1, d2] => { results := [.lit (.bool true)], args := [d1, d2] }
  | _ => none }
def fnExactCountCrossingsRow : OpenClaim := { program := "ytlcgimeebhoefaadoor", sum := "a3409447d8e07b15499cc8cab1bcc892663a76808b7e8290e297c02495d07955", func := "loop.example/g01352/laws.FnExactCountCrossings", spec := "fnExactCountCrossings", inPlace := ["internal/bytealg.IndexByteString", "internal/bytealg.IndexString"], named := ["unicode/utf8.first", "unicode/utf8.acceptRanges", "internal/bytealg.MaxLen"], apart := false, laid := [("unicode/utf8.acceptRanges", laid_unicode_utf8_acceptRanges), ("unicode/utf8.first", laid_unicode_utf8_first)] }
def FnExactCountCrossingsSaid : Prop := fnExactCountCrossingsRow.holds Tryd.pinned (OpenSpec.ofChange fnExactCountCrossingsSpec)

/-- ITS FALSE NEIGHBOUR: 'it returns false'. Refute it at one input. -/
def fnExactCountCrossingsWrong : ChangeSpec := { name := "fnExactCountCrossings", fn := fun _ => fun
  | [d1, d2] => { results := [.lit (.bool false)], args := [d1, d2] }
  | _ => none }
def FnExactCountCrossingsWrongFalsely : Prop := fnExactCountCrossingsRow.holds Tryd.pinned (OpenSpec.ofChange fnExactCountCrossingsWrong)

/-- 'laws.FnExactStonesOf': WHATEVER THE INPUT: true; the input reads as it did. -/
def fnExactStonesOfSpec : ChangeSpec := { name := "fnExactStonesOf", fn := fun _ => fun
  | [d] => { results := [.lit (.bool true)], args := [d] }
  | _ => none }
def fnExactStonesOfRow : OpenClaim := { program := "ytlcgimeebhoefaadoor", sum := "a3409447d8e07b15499cc8cab1bcc892663a76808b7e8290e297c02495d07955", func := "loop.example/g01352/laws.FnExactStonesOf", spec := "fnExactStonesOf", inPlace := ["internal/bytealg.IndexByteString", "internal/bytealg.IndexString"], named := ["unicode/utf8.first", "unicode/utf8.acceptRanges", "internal/bytealg.MaxLen"], apart := false, laid := [("unicode/utf8.acceptRanges", laid_unicode_utf8_acceptRanges), ("unicode/utf8.first", laid_unicode_utf8_first)] }
def FnExactStonesOfSaid : Prop := fnExactStonesOfRow.holds Tryd.pinned (OpenSpec.ofChange fnExactStonesOfSpec)

/-- ITS FALSE NEIGHBOUR: 'it returns false'. Refute it at one input. -/
def fnExactStonesOfWrong : ChangeSpec := { name := "fnExactStonesOf", fn := fun _ => fun
  | [d] => { results := [.lit (.bool false)], args := [d] }
  | _ => none }
def FnExactStonesOfWrongFalsely : Prop := fnExactStonesOfRow.holds Tryd.pinned (OpenSpec.ofChange fnExactStonesOfWrong)

/- THE SECOND FORM. 'bulk': how many values and letters a reading holds, each counted each time it is reached (what is shared counts as often as it is met; a slice's spare places count too). A statement '..UptoSaid' is the law's where the arguments, and the package variables that the reading takes, are together of bulk at most 1048576: NARROWER than '..Said'. Prove '..Said' where nothing that the law and all that it calls make is longer than what came in: it says more and counts as full. Else prove '..UptoSaid'. A law counts once. -/
mutual
def uptoBulk {H : Type} : DataW H → Nat
  | .lit (.string bytes) => bytes.length + 1
  | .lit _ => 1
  | .nil => 1
  | .ptr d => uptoBulk d + 1
  | .slice elems spare => uptoBulkAll elems + uptoBulkAll spare + 1
  | .agg parts => uptoBulkAll parts + 1
  | .iface _ d => uptoBulk d + 1
  | .map entries => uptoBulkEntries entries + 1
  | .held _ => 1
def uptoBulkAll {H : Type} : List (DataW H) → Nat
  | [] => 0
  | d :: r => uptoBulk d + uptoBulkAll r
def uptoBulkEntries {H : Type} : List (Lit × DataW H) → Nat
  | [] => 0
  | x :: r => uptoBulkEntry x + uptoBulkEntries r
def uptoBulkEntry {H : Type} : Lit × DataW H → Nat
  | (.string bytes, d) => bytes.length + uptoBulk d + 1
  | (_, d) => uptoBulk d + 1
 end
def uptoSmall : (H : Type) → List (DataW H) → Bool := fun _ ds => decide (uptoBulkAll ds ≤ 1048576)
def OpenSpec.upto (s : _root_.Go.ChangeSpec) : _root_.Go.OpenSpec := { _root_.Go.OpenSpec.ofChange s with cond := some uptoSmall }

/-- 'laws.FnExactCanCross', WHERE WHAT IT READS IS OF BULK AT MOST 1048576: true; the input reads as it did. -/
def fnExactCanCrossUptoRow : OpenClaim := { program := "ytlcgimeebhoefaadoor", sum := "a3409447d8e07b15499cc8cab1bcc892663a76808b7e8290e297c02495d07955", func := "loop.example/g01352/laws.FnExactCanCross", spec := "fnExactCanCross", inPlace := ["internal/bytealg.IndexByteString", "internal/bytealg.IndexString"], unfollowed := true, recurses := true, named := ["unicode/utf8.first", "unicode/utf8.acceptRanges", "internal/bytealg.MaxLen"], apart := false, laid := [("unicode/utf8.acceptRanges", laid_unicode_utf8_acceptRanges), ("unicode/utf8.first", laid_unicode_utf8_first)], narrowed := true }
def FnExactCanCrossUptoSaid : Prop := fnExactCanCrossUptoRow.holds Tryd.pinned (OpenSpec.upto fnExactCanCrossSpec)

/-- 'laws.FnExactFewestLeaps', WHERE WHAT IT READS IS OF BULK AT MOST 1048576: true; the input reads as it did. -/
def fnExactFewestLeapsUptoRow : OpenClaim := { program := "ytlcgimeebhoefaadoor", sum := "a3409447d8e07b15499cc8cab1bcc892663a76808b7e8290e297c02495d07955", func := "loop.example/g01352/laws.FnExactFewestLeaps", spec := "fnExactFewestLeaps", inPlace := ["internal/bytealg.IndexByteString", "internal/bytealg.IndexString"], unfollowed := true, recurses := true, named := ["unicode/utf8.first", "unicode/utf8.acceptRanges", "internal/bytealg.MaxLen"], apart := false, laid := [("unicode/utf8.acceptRanges", laid_unicode_utf8_acceptRanges), ("unicode/utf8.first", laid_unicode_utf8_first)], narrowed := true }
def FnExactFewestLeapsUptoSaid : Prop := fnExactFewestLeapsUptoRow.holds Tryd.pinned (OpenSpec.upto fnExactFewestLeapsSpec)

/-- 'laws.FnExactLeapsLeft', WHERE WHAT IT READS IS OF BULK AT MOST 1048576: true; the input reads as it did. -/
def fnExactLeapsLeftUptoRow : OpenClaim := { program := "ytlcgimeebhoefaadoor", sum := "a3409447d8e07b15499cc8cab1bcc892663a76808b7e8290e297c02495d07955", func := "loop.example/g01352/laws.FnExactLeapsLeft", spec := "fnExactLeapsLeft", inPlace := ["internal/bytealg.IndexByteString", "internal/bytealg.IndexString"], unfollowed := true, recurses := true, named := ["unicode/utf8.first", "unicode/utf8.acceptRanges", "internal/bytealg.MaxLen"], apart := false, laid := [("unicode/utf8.acceptRanges", laid_unicode_utf8_acceptRanges), ("unicode/utf8.first", laid_unicode_utf8_first)], narrowed := true }
def FnExactLeapsLeftUptoSaid : Prop := fnExactLeapsLeftUptoRow.holds Tryd.pinned (OpenSpec.upto fnExactLeapsLeftSpec)

/-- 'laws.FnExactFirstCrossing', WHERE WHAT IT READS IS OF BULK AT MOST 1048576: true; the input reads as it did. -/
def fnExactFirstCrossingUptoRow : OpenClaim := { program := "ytlcgimeebhoefaadoor", sum := "a3409447d8e07b15499cc8cab1bcc892663a76808b7e8290e297c02495d07955", func := "loop.example/g01352/laws.FnExactFirstCrossing", spec := "fnExactFirstCrossing", inPlace := ["internal/bytealg.IndexByteString", "internal/bytealg.IndexString"], unfollowed := true, recurses := true, named := ["unicode/utf8.first", "unicode/utf8.acceptRanges", "internal/bytealg.MaxLen"], apart := false, laid := [("unicode/utf8.acceptRanges", laid_unicode_utf8_acceptRanges), ("unicode/utf8.first", laid_unicode_utf8_first)], narrowed := true }
def FnExactFirstCrossingUptoSaid : Prop := fnExactFirstCrossingUptoRow.holds Tryd.pinned (OpenSpec.upto fnExactFirstCrossingSpec)

/-- 'laws.FnExactNeededStones', WHERE WHAT IT READS IS OF BULK AT MOST 1048576: true; the input reads as it did. -/
def fnExactNeededStonesUptoRow : OpenClaim := { program := "ytlcgimeebhoefaadoor", sum := "a3409447d8e07b15499cc8cab1bcc892663a76808b7e8290e297c02495d07955", func := "loop.example/g01352/laws.FnExactNeededStones", spec := "fnExactNeededStones", inPlace := ["internal/bytealg.IndexByteString", "internal/bytealg.IndexString"], unfollowed := true, recurses := true, named := ["unicode/utf8.first", "unicode/utf8.acceptRanges", "internal/bytealg.MaxLen"], apart := false, laid := [("unicode/utf8.acceptRanges", laid_unicode_utf8_acceptRanges), ("unicode/utf8.first", laid_unicode_utf8_first)], narrowed := true }
def FnExactNeededStonesUptoSaid : Prop := fnExactNeededStonesUptoRow.holds Tryd.pinned (OpenSpec.upto fnExactNeededStonesSpec)

/-- 'laws.FnExactIdleStones', WHERE WHAT IT READS IS OF BULK AT MOST 1048576: true; the input reads as it did. -/
def fnExactIdleStonesUptoRow : OpenClaim := { program := "ytlcgimeebhoefaadoor", sum := "a3409447d8e07b15499cc8cab1bcc892663a76808b7e8290e297c02495d07955", func := "loop.example/g01352/laws.FnExactIdleStones", spec := "fnExactIdleStones", inPlace := ["internal/bytealg.IndexByteString", "internal/bytealg.IndexString"], unfollowed := true, recurses := true, named := ["unicode/utf8.first", "unicode/utf8.acceptRanges", "internal/bytealg.MaxLen"], apart := false, laid := [("unicode/utf8.acceptRanges", laid_unicode_utf8_acceptRanges), ("unicode/utf8.first", laid_unicode_utf8_first)], narrowed := true }
def FnExactIdleStonesUptoSaid : Prop := fnExactIdleStonesUptoRow.holds Tryd.pinned (OpenSpec.upto fnExactIdleStonesSpec)

/-- 'laws.FnExactCountByLeaps', WHERE WHAT IT READS IS OF BULK AT MOST 1048576: true; the input reads as it did. -/
def fnExactCountByLeapsUptoRow : OpenClaim := { program := "ytlcgimeebhoefaadoor", sum := "a3409447d8e07b15499cc8cab1bcc892663a76808b7e8290e297c02495d07955", func := "loop.example/g01352/laws.FnExactCountByLeaps", spec := "fnExactCountByLeaps", inPlace := ["internal/bytealg.IndexByteString", "internal/bytealg.IndexString"], named := ["unicode/utf8.first", "unicode/utf8.acceptRanges", "internal/bytealg.MaxLen"], apart := false, laid := [("unicode/utf8.acceptRanges", laid_unicode_utf8_acceptRanges), ("unicode/utf8.first", laid_unicode_utf8_first)], narrowed := true }
def FnExactCountByLeapsUptoSaid : Prop := fnExactCountByLeapsUptoRow.holds Tryd.pinned (OpenSpec.upto fnExactCountByLeapsSpec)

/-- 'laws.FnExactCountCrossings', WHERE WHAT IT READS IS OF BULK AT MOST 1048576: true; the input reads as it did. -/
def fnExactCountCrossingsUptoRow : OpenClaim := { program := "ytlcgimeebhoefaadoor", sum := "a3409447d8e07b15499cc8cab1bcc892663a76808b7e8290e297c02495d07955", func := "loop.example/g01352/laws.FnExactCountCrossings", spec := "fnExactCountCrossings", inPlace := ["internal/bytealg.IndexByteString", "internal/bytealg.IndexString"], named := ["unicode/utf8.first", "unicode/utf8.acceptRanges", "internal/bytealg.MaxLen"], apart := false, laid := [("unicode/utf8.acceptRanges", laid_unicode_utf8_acceptRanges), ("unicode/utf8.first", laid_unicode_utf8_first)], narrowed := true }
def FnExactCountCrossingsUptoSaid : Prop := fnExactCountCrossingsUptoRow.holds Tryd.pinned (OpenSpec.upto fnExactCountCrossingsSpec)

/-- 'laws.FnExactStonesOf', WHERE WHAT IT READS IS OF BULK AT MOST 1048576: true; the input reads as it did. -/
def fnExactStonesOfUptoRow : OpenClaim := { program := "ytlcgimeebhoefaadoor", sum := "a3409447d8e07b15499cc8cab1bcc892663a76808b7e8290e297c02495d07955", func := "loop.example/g01352/laws.FnExactStonesOf", spec := "fnExactStonesOf", inPlace := ["internal/bytealg.IndexByteString", "internal/bytealg.IndexString"], named := ["unicode/utf8.first", "unicode/utf8.acceptRanges", "internal/bytealg.MaxLen"], apart := false, laid := [("unicode/utf8.acceptRanges", laid_unicode_utf8_acceptRanges), ("unicode/utf8.first", laid_unicode_utf8_first)], narrowed := true }
def FnExactStonesOfUptoSaid : Prop := fnExactStonesOfUptoRow.holds Tryd.pinned (OpenSpec.upto fnExactStonesOfSpec)

end Rows
end Go.Proofs.YtlcgimeebhoefaaDoor
