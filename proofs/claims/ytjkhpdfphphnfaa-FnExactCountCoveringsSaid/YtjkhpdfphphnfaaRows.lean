/-
  No cell of these rows narrows 'for every input' (looked for: loops, veiled, ifaces, maps, wideKeys, modest, calm, conditions, laid).
  DERIVED. THE GIVEN ROWS OF THIS SEAT. 3 by the template 'for every input the law returns true; each argument reads behind the call as it read before'; 0 by the template 'total and deterministic' (their statements: YtjkhpdfphphnfaaTotals.lean).
  GIVEN WITH THE SEED: the statements are not yours to turn. If you find one false, say at which input.
  Laid BY PROGRAM, IN A SANDBOX (cutbox-rows.mjs): the forced cells as the released guide's own fill.sh prints them over the translation 015069eb9211e269… (all of the seat's roots in one cut). By AI agents, Wed Nov 11 2026. No macro, syntax, notation, axiom, sorry.
-/
import Derived.Test.YtjkhpdfphphnfaaChecked
import GoSem.Claim
import GoSem.ClaimJoined
import GoSem.ClaimMapViews
import Derived.JoinedTies
import Derived.KernelRfl
namespace Go.Proofs.Ytjkhpdfphphnfaa
/- THE CELL 'sum', in the pinned program and in every row, IS THE sha256 OF THE DUMP (.gsa) THAT YtjkhpdfphphnfaaProg.lean LOADS. Nothing in Lean hashes anything: it is a label: what it is worth is what the hold of that sum in a sandbox is worth. -/
noncomputable def Try.pinned : Pinned := { name := "ytjkhpdfphphnfaa", sum := "015069eb9211e26953191e4884b6d49cdc80789a1d0aa6468ae5c0233f46e881", checked := Try.checked }
namespace Rows
def none {H : Type} : Left H := { results := [], args := [] }

/-- 'laws.FnExactFewestJoined': WHATEVER THE INPUT: true; the input reads as it did. -/
def fnExactFewestJoinedSpec : ChangeSpec := { name := "fnExactFewestJoined", fn := fun _ => fun
  | [d1, d2, d3, d4] => { results := [.lit (.bool true)], args := [d1, d2, d3, d4] }
  | _ => none }
def fnExactFewestJoinedRow : OpenClaim := { program := "ytjkhpdfphphnfaa", sum := "015069eb9211e26953191e4884b6d49cdc80789a1d0aa6468ae5c0233f46e881", func := "loop.example/g01352/laws.FnExactFewestJoined", spec := "fnExactFewestJoined", unfollowed := true, recurses := true, apart := false }
def FnExactFewestJoinedSaid : Prop := fnExactFewestJoinedRow.holds Try.pinned (OpenSpec.ofChange fnExactFewestJoinedSpec)

/-- ITS FALSE NEIGHBOUR: 'it returns false'. Refute it at one input. -/
def fnExactFewestJoinedWrong : ChangeSpec := { name := "fnExactFewestJoined", fn := fun _ => fun
  | [d1, d2, d3, d4] => { results := [.lit (.bool false)], args := [d1, d2, d3, d4] }
  | _ => none }
def FnExactFewestJoinedWrongFalsely : Prop := fnExactFewestJoinedRow.holds Try.pinned (OpenSpec.ofChange fnExactFewestJoinedWrong)

/-- 'laws.FnExactCountCoverings': WHATEVER THE INPUT: true; the input reads as it did. -/
def fnExactCountCoveringsSpec : ChangeSpec := { name := "fnExactCountCoverings", fn := fun _ => fun
  | [d1, d2, d3] => { results := [.lit (.bool true)], args := [d1, d2, d3] }
  | _ => none }
def fnExactCountCoveringsRow : OpenClaim := { program := "ytjkhpdfphphnfaa", sum := "015069eb9211e26953191e4884b6d49cdc80789a1d0aa6468ae5c0233f46e881", func := "loop.example/g01352/laws.FnExactCountCoverings", spec := "fnExactCountCoverings", unfollowed := true, recurses := true, apart := false }
def FnExactCountCoveringsSaid : Prop := fnExactCountCoveringsRow.holds Try.pinned (OpenSpec.ofChange fnExactCountCoveringsSpec)

/-- ITS FALSE NEIGHBOUR: 'it returns false'. Refute it at one input. -/
def fnExactCountCoveringsWrong : ChangeSpec := { name := "fnExactCountCoverings", fn := fun _ => fun
  | [d1, d2, d3] => { results := [.lit (.bool false)], args := [d1, d2, d3] }
  | _ => none }
def FnExactCountCoveringsWrongFalsely : Prop := fnExactCountCoveringsRow.holds Try.pinned (OpenSpec.ofChange fnExactCountCoveringsWrong)

/-- 'laws.FnExactFirstJoined': WHATEVER THE INPUT: true; the input reads as it did. -/
def fnExactFirstJoinedSpec : ChangeSpec := { name := "fnExactFirstJoined", fn := fun _ => fun
  | [d1, d2, d3, d4] => { results := [.lit (.bool true)], args := [d1, d2, d3, d4] }
  | _ => none }
def fnExactFirstJoinedRow : OpenClaim := { program := "ytjkhpdfphphnfaa", sum := "015069eb9211e26953191e4884b6d49cdc80789a1d0aa6468ae5c0233f46e881", func := "loop.example/g01352/laws.FnExactFirstJoined", spec := "fnExactFirstJoined", unfollowed := true, recurses := true, apart := false }
def FnExactFirstJoinedSaid : Prop := fnExactFirstJoinedRow.holds Try.pinned (OpenSpec.ofChange fnExactFirstJoinedSpec)

/-- ITS FALSE NEIGHBOUR: 'it returns false'. Refute it at one input. -/
def fnExactFirstJoinedWrong : ChangeSpec := { name := "fnExactFirstJoined", fn := fun _ => fun
  | [d1, d2, d3, d4] => { results := [.lit (.bool false)], args := [d1, d2, d3, d4] }
  | _ => none }
def FnExactFirstJoinedWrongFalsely : Prop := fnExactFirstJoinedRow.holds Try.pinned (OpenSpec.ofChange fnExactFirstJoinedWrong)

/- THE SECOND FORM. 'bulk': how many values and letters a reading holds, each counted each time it is reached (what is shared counts as often as it is met; a slice's spare places count too). A statement '..UptoSaid' is the law's where the arguments, and the package variables that the reading takes, are together of bulk at most 1048576: NARROWER than '..Said'. Prove '..Said' where nothing that the law and all that it calls make is longer than what came in: it says more and counts as full. Else prove '..UptoSaid'. A law counts once. -/
mutual
def uptoBulk {H : Type} : DataW H → Nat
  | .lit (.string bytes) => bytes.length + 1
  | .lit _ => 1
  | .nil => 1
  | .ptr d => uptoBulk d + 1
  | .slice elems spare => uptoBulkAll elems + uptoBulkAll spare + 1
  | .agg parts => uptoBulkAll parts + 1
  | .iface _ d => uptoBulk d + 1
  | .map entries => uptoBulkEntries entries + 1
  | .held _ => 1
def uptoBulkAll {H : Type} : List (DataW H) → Nat
  | [] => 0
  | d :: r => uptoBulk d + uptoBulkAll r
def uptoBulkEntries {H : Type} : List (Lit × DataW H) → Nat
  | [] => 0
  | x :: r => uptoBulkEntry x + uptoBulkEntries r
def uptoBulkEntry {H : Type} : Lit × DataW H → Nat
  | (.string bytes, d) => bytes.length + uptoBulk d + 1
  | (_, d) => uptoBulk d + 1
 end
def uptoSmall : (H : Type) → List (DataW H) → Bool := fun _ ds => decide (uptoBulkAll ds ≤ 1048576)
def OpenSpec.upto (s : _root_.Go.ChangeSpec) : _root_.Go.OpenSpec := { _root_.Go.OpenSpec.ofChange s with cond := some uptoSmall }

/-- 'laws.FnExactFewestJoined', WHERE WHAT IT READS IS OF BULK AT MOST 1048576: true; the input reads as it did. -/
def fnExactFewestJoinedUptoRow : OpenClaim := { program := "ytjkhpdfphphnfaa", sum := "015069eb9211e26953191e4884b6d49cdc80789a1d0aa6468ae5c0233f46e881", func := "loop.example/g01352/laws.FnExactFewestJoined", spec := "fnExactFewestJoined", unfollowed := true, recurses := true, apart := false, narrowed := true }
def FnExactFewestJoinedUptoSaid : Prop := fnExactFewestJoinedUptoRow.holds Try.pinned (OpenSpec.upto fnExactFewestJoinedSpec)

/-- 'laws.FnExactCountCoverings', WHERE WHAT IT READS IS OF BULK AT MOST 1048576: true; the input reads as it did. -/
def fnExactCountCoveringsUptoRow : OpenClaim := { program := "ytjkhpdfphphnfaa", sum := "015069eb9211e26953191e4884b6d49cdc80789a1d0aa6468ae5c0233f46e881", func := "loop.example/g01352/laws.FnExactCountCoverings", spec := "fnExactCountCoverings", unfollowed := true, recurses := true, apart := false, narrowed := true }
def FnExactCountCoveringsUptoSaid : Prop := fnExactCountCoveringsUptoRow.holds Try.pinned (OpenSpec.upto fnExactCountCoveringsSpec)

/-- 'laws.FnExactFirstJoined', WHERE WHAT IT READS IS OF BULK AT MOST 1048576: true; the input reads as it did. -/
def fnExactFirstJoinedUptoRow : OpenClaim := { program := "ytjkhpdfphphnfaa", sum := "015069eb9211e26953191e4884b6d49cdc80789a1d0aa6468ae5c0233f46e881", func := "loop.example/g01352/laws.FnExactFirstJoined", spec := "fnExactFirstJoined", unfollowed := true, recurses := true, apart := false, narrowed := true }
def FnExactFirstJoinedUptoSaid : Prop := fnExactFirstJoinedUptoRow.holds Try.pinned (OpenSpec.upto fnExactFirstJoinedSpec)

end Rows
end Go.Proofs.Ytjkhpdfphphnfaa
