/-
  No cell of these rows narrows 'for every input' (looked for: loops, veiled, ifaces, maps, wideKeys, modest, calm, conditions, laid).
  DERIVED. THE GIVEN ROWS OF THIS SEAT. 5 by the template 'for every input the law returns true; each argument reads behind the call as it read before'; 0 by the template 'total and deterministic' (their statements: YtllefmdhfifapaaTotals.lean).
  GIVEN WITH THE SEED: the statements are not yours to turn. If you find one false, say at which input.
  Laid BY PROGRAM, IN A SANDBOX (cutbox-rows.mjs): the forced cells as the released guide's own fill.sh prints them over the translation 98bc5b2fa8ffd3e0… (all of the seat's roots in one cut). By AI agents, Wed Nov 11 2026. No macro, syntax, notation, axiom, sorry.
-/
import Derived.Test.YtllefmdhfifapaaChecked
import GoSem.Claim
import GoSem.ClaimJoined
import GoSem.ClaimMapViews
import Derived.JoinedTies
import Derived.KernelRfl
namespace Go.Proofs.Ytllefmdhfifapaa
/- THE CELL 'sum', in the pinned program and in every row, IS THE sha256 OF THE DUMP (.gsa) THAT YtllefmdhfifapaaProg.lean LOADS. Nothing in Lean hashes anything: it is a label: what it is worth is what the hold of that sum in a sandbox is worth. -/
noncomputable def Try.pinned : Pinned := { name := "ytllefmdhfifapaa", sum := "98bc5b2fa8ffd3e0f393a2951ce1f1306784daecd276748cd3d49cbabd04e1b2", checked := Try.checked }
namespace Rows
def none {H : Type} : Left H := { results := [], args := [] }

/-- 'laws.FnExactConstants': WHATEVER THE INPUT: true; the input reads as it did. -/
def fnExactConstantsSpec : ChangeSpec := { name := "fnExactConstants", fn := fun _ => fun
  | [] => { results := [.lit (.bool true)], args := [] }
  | _ => none }
def fnExactConstantsRow : OpenClaim := { program := "ytllefmdhfifapaa", sum := "98bc5b2fa8ffd3e0f393a2951ce1f1306784daecd276748cd3d49cbabd04e1b2", func := "loop.example/g01352/laws.FnExactConstants", spec := "fnExactConstants", apart := false }
def FnExactConstantsSaid : Prop := fnExactConstantsRow.holds Try.pinned (OpenSpec.ofChange fnExactConstantsSpec)

/-- ITS FALSE NEIGHBOUR: 'it returns false'. Refute it at one input. -/
def fnExactConstantsWrong : ChangeSpec := { name := "fnExactConstants", fn := fun _ => fun
  | [] => { results := [.lit (.bool false)], args := [] }
  | _ => none }
def FnExactConstantsWrongFalsely : Prop := fnExactConstantsRow.holds Try.pinned (OpenSpec.ofChange fnExactConstantsWrong)

/-- 'laws.FnExactCanSpan': WHATEVER THE INPUT: true; the input reads as it did. -/
def fnExactCanSpanSpec : ChangeSpec := { name := "fnExactCanSpan", fn := fun _ => fun
  | [d1, d2, d3] => { results := [.lit (.bool true)], args := [d1, d2, d3] }
  | _ => none }
def fnExactCanSpanRow : OpenClaim := { program := "ytllefmdhfifapaa", sum := "98bc5b2fa8ffd3e0f393a2951ce1f1306784daecd276748cd3d49cbabd04e1b2", func := "loop.example/g01352/laws.FnExactCanSpan", spec := "fnExactCanSpan", apart := false }
def FnExactCanSpanSaid : Prop := fnExactCanSpanRow.holds Try.pinned (OpenSpec.ofChange fnExactCanSpanSpec)

/-- ITS FALSE NEIGHBOUR: 'it returns false'. Refute it at one input. -/
def fnExactCanSpanWrong : ChangeSpec := { name := "fnExactCanSpan", fn := fun _ => fun
  | [d1, d2, d3] => { results := [.lit (.bool false)], args := [d1, d2, d3] }
  | _ => none }
def FnExactCanSpanWrongFalsely : Prop := fnExactCanSpanRow.holds Try.pinned (OpenSpec.ofChange fnExactCanSpanWrong)

/-- 'laws.FnExactLongestOver': WHATEVER THE INPUT: true; the input reads as it did. -/
def fnExactLongestOverSpec : ChangeSpec := { name := "fnExactLongestOver", fn := fun _ => fun
  | [d1, d2, d3] => { results := [.lit (.bool true)], args := [d1, d2, d3] }
  | _ => none }
def fnExactLongestOverRow : OpenClaim := { program := "ytllefmdhfifapaa", sum := "98bc5b2fa8ffd3e0f393a2951ce1f1306784daecd276748cd3d49cbabd04e1b2", func := "loop.example/g01352/laws.FnExactLongestOver", spec := "fnExactLongestOver", apart := false }
def FnExactLongestOverSaid : Prop := fnExactLongestOverRow.holds Try.pinned (OpenSpec.ofChange fnExactLongestOverSpec)

/-- ITS FALSE NEIGHBOUR: 'it returns false'. Refute it at one input. -/
def fnExactLongestOverWrong : ChangeSpec := { name := "fnExactLongestOver", fn := fun _ => fun
  | [d1, d2, d3] => { results := [.lit (.bool false)], args := [d1, d2, d3] }
  | _ => none }
def FnExactLongestOverWrongFalsely : Prop := fnExactLongestOverRow.holds Try.pinned (OpenSpec.ofChange fnExactLongestOverWrong)

/-- 'laws.FnExactReachOfStack': WHATEVER THE INPUT: true; the input reads as it did. -/
def fnExactReachOfStackSpec : ChangeSpec := { name := "fnExactReachOfStack", fn := fun _ => fun
  | [d] => { results := [.lit (.bool true)], args := [d] }
  | _ => none }
def fnExactReachOfStackRow : OpenClaim := { program := "ytllefmdhfifapaa", sum := "98bc5b2fa8ffd3e0f393a2951ce1f1306784daecd276748cd3d49cbabd04e1b2", func := "loop.example/g01352/laws.FnExactReachOfStack", spec := "fnExactReachOfStack", apart := false }
def FnExactReachOfStackSaid : Prop := fnExactReachOfStackRow.holds Try.pinned (OpenSpec.ofChange fnExactReachOfStackSpec)

/-- ITS FALSE NEIGHBOUR: 'it returns false'. Refute it at one input. -/
def fnExactReachOfStackWrong : ChangeSpec := { name := "fnExactReachOfStack", fn := fun _ => fun
  | [d] => { results := [.lit (.bool false)], args := [d] }
  | _ => none }
def FnExactReachOfStackWrongFalsely : Prop := fnExactReachOfStackRow.holds Try.pinned (OpenSpec.ofChange fnExactReachOfStackWrong)

/-- 'laws.FnExactSafeWalk': WHATEVER THE INPUT: true; the input reads as it did. -/
def fnExactSafeWalkSpec : ChangeSpec := { name := "fnExactSafeWalk", fn := fun _ => fun
  | [d1, d2, d3, d4] => { results := [.lit (.bool true)], args := [d1, d2, d3, d4] }
  | _ => none }
def fnExactSafeWalkRow : OpenClaim := { program := "ytllefmdhfifapaa", sum := "98bc5b2fa8ffd3e0f393a2951ce1f1306784daecd276748cd3d49cbabd04e1b2", func := "loop.example/g01352/laws.FnExactSafeWalk", spec := "fnExactSafeWalk", apart := false }
def FnExactSafeWalkSaid : Prop := fnExactSafeWalkRow.holds Try.pinned (OpenSpec.ofChange fnExactSafeWalkSpec)

/-- ITS FALSE NEIGHBOUR: 'it returns false'. Refute it at one input. -/
def fnExactSafeWalkWrong : ChangeSpec := { name := "fnExactSafeWalk", fn := fun _ => fun
  | [d1, d2, d3, d4] => { results := [.lit (.bool false)], args := [d1, d2, d3, d4] }
  | _ => none }
def FnExactSafeWalkWrongFalsely : Prop := fnExactSafeWalkRow.holds Try.pinned (OpenSpec.ofChange fnExactSafeWalkWrong)

/- THE SECOND FORM. 'bulk': how many values and letters a reading holds, each counted each time it is reached (what is shared counts as often as it is met; a slice's spare places count too). A statement '..UptoSaid' is the law's where the arguments, and the package variables that the reading takes, are together of bulk at most 1048576: NARROWER than '..Said'. Prove '..Said' where nothing that the law and all that it calls make is longer than what came in: it says more and counts as full. Else prove '..UptoSaid'. A law counts once. -/
mutual
def uptoBulk {H : Type} : DataW H → Nat
  | .lit (.string bytes) => bytes.length + 1
  | .lit _ => 1
  | .nil => 1
  | .ptr d => uptoBulk d + 1
  | .slice elems spare => uptoBulkAll elems + uptoBulkAll spare + 1
  | .agg parts => uptoBulkAll parts + 1
  | .iface _ d => uptoBulk d + 1
  | .map entries => uptoBulkEntries entries + 1
  | .held _ => 1
def uptoBulkAll {H : Type} : List (DataW H) → Nat
  | [] => 0
  | d :: r => uptoBulk d + uptoBulkAll r
def uptoBulkEntries {H : Type} : List (Lit × DataW H) → Nat
  | [] => 0
  | x :: r => uptoBulkEntry x + uptoBulkEntries r
def uptoBulkEntry {H : Type} : Lit × DataW H → Nat
  | (.string bytes, d) => bytes.length + uptoBulk d + 1
  | (_, d) => uptoBulk d + 1
 end
def uptoSmall : (H : Type) → List (DataW H) → Bool := fun _ ds => decide (uptoBulkAll ds ≤ 1048576)
def OpenSpec.upto (s : _root_.Go.ChangeSpec) : _root_.Go.OpenSpec := { _root_.Go.OpenSpec.ofChange s with cond := some uptoSmall }

/-- 'laws.FnExactConstants', WHERE WHAT IT READS IS OF BULK AT MOST 1048576: true; the input reads as it did. -/
def fnExactConstantsUptoRow : OpenClaim := { program := "ytllefmdhfifapaa", sum := "98bc5b2fa8ffd3e0f393a2951ce1f1306784daecd276748cd3d49cbabd04e1b2", func := "loop.example/g01352/laws.FnExactConstants", spec := "fnExactConstants", apart := false, narrowed := true }
def FnExactConstantsUptoSaid : Prop := fnExactConstantsUptoRow.holds Try.pinned (OpenSpec.upto fnExactConstantsSpec)

/-- 'laws.FnExactCanSpan', WHERE WHAT IT READS IS OF BULK AT MOST 1048576: true; the input reads as it did. -/
def fnExactCanSpanUptoRow : OpenClaim := { program := "ytllefmdhfifapaa", sum := "98bc5b2fa8ffd3e0f393a2951ce1f1306784daecd276748cd3d49cbabd04e1b2", func := "loop.example/g01352/laws.FnExactCanSpan", spec := "fnExactCanSpan", apart := false, narrowed := true }
def FnExactCanSpanUptoSaid : Prop := fnExactCanSpanUptoRow.holds Try.pinned (OpenSpec.upto fnExactCanSpanSpec)

/-- 'laws.FnExactLongestOver', WHERE WHAT IT READS IS OF BULK AT MOST 1048576: true; the input reads as it did. -/
def fnExactLongestOverUptoRow : OpenClaim := { program := "ytllefmdhfifapaa", sum := "98bc5b2fa8ffd3e0f393a2951ce1f1306784daecd276748cd3d49cbabd04e1b2", func := "loop.example/g01352/laws.FnExactLongestOver", spec := "fnExactLongestOver", apart := false, narrowed := true }
def FnExactLongestOverUptoSaid : Prop := fnExactLongestOverUptoRow.holds Try.pinned (OpenSpec.upto fnExactLongestOverSpec)

/-- 'laws.FnExactReachOfStack', WHERE WHAT IT READS IS OF BULK AT MOST 1048576: true; the input reads as it did. -/
def fnExactReachOfStackUptoRow : OpenClaim := { program := "ytllefmdhfifapaa", sum := "98bc5b2fa8ffd3e0f393a2951ce1f1306784daecd276748cd3d49cbabd04e1b2", func := "loop.example/g01352/laws.FnExactReachOfStack", spec := "fnExactReachOfStack", apart := false, narrowed := true }
def FnExactReachOfStackUptoSaid : Prop := fnExactReachOfStackUptoRow.holds Try.pinned (OpenSpec.upto fnExactReachOfStackSpec)

/-- 'laws.FnExactSafeWalk', WHERE WHAT IT READS IS OF BULK AT MOST 1048576: true; the input reads as it did. -/
def fnExactSafeWalkUptoRow : OpenClaim := { program := "ytllefmdhfifapaa", sum := "98bc5b2fa8ffd3e0f393a2951ce1f1306784daecd276748cd3d49cbabd04e1b2", func := "loop.example/g01352/laws.FnExactSafeWalk", spec := "fnExactSafeWalk", apart := false, narrowed := true }
def FnExactSafeWalkUptoSaid : Prop := fnExactSafeWalkUptoRow.holds Try.pinned (OpenSpec.upto fnExactSafeWalkSpec)

end Rows
end Go.Proofs.Ytllefmdhfifapaa
