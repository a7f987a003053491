/-
  DERIVED. GIVEN WITH THE SEED: THE CARDS: each row of YtlcgimeebhoefaaDoorRows.lean that lists a variable, with what it lists TIED to the program's text (the seventh form; the later family's looks); each row that meets fmt, with fmt's text TOLD by the authors' own Lean function (tested against real Go, not proved from fmt's source: count such statements apart). THE CARD IS WHAT COUNTS. Prove the row's statement (the work); the ties are given (YtlcgimeebhoefaaDoorTie.lean); close each card by the builder's one call (the guide's Derived/Test/ToyasCard.lean, 'card_holds'). Laid BY PROGRAM, IN A SANDBOX (cutbox-door.mjs). By AI agents, Wed Nov 11 2026. No macro, syntax, notation, axiom, sorry.
-/
import Derived.Test.YtlcgimeebhoefaaDoorRows
import GoSem.ClaimSeven
namespace Go.Proofs.YtlcgimeebhoefaaDoor
namespace Rows

/-- THE TIED CARD OF 'laws.FnExactCanCross'. -/
def fnExactCanCrossCard : Claim7 := { stood := { row := fnExactCanCrossRow, standIns := [], harness := (true, "0a56342f28d36a194fa5ba4a0e2733081c6829c221f1ca39b437f77967d39119"), looks := false }, kinds := [], alts := [], laidByText := true, laidKinds := [.data, .pinned], laidTests := true, laidLooks := .later }
def FnExactCanCrossCardSaid : Prop := Claim7.holds Tryd.pinned (.plain (OpenSpec.ofChange fnExactCanCrossSpec)) fnExactCanCrossCard

/-- THE TIED CARD OF 'laws.FnExactFewestLeaps'. -/
def fnExactFewestLeapsCard : Claim7 := { stood := { row := fnExactFewestLeapsRow, standIns := [], harness := (true, "0a56342f28d36a194fa5ba4a0e2733081c6829c221f1ca39b437f77967d39119"), looks := false }, kinds := [], alts := [], laidByText := true, laidKinds := [.data, .pinned], laidTests := true, laidLooks := .later }
def FnExactFewestLeapsCardSaid : Prop := Claim7.holds Tryd.pinned (.plain (OpenSpec.ofChange fnExactFewestLeapsSpec)) fnExactFewestLeapsCard

/-- THE TIED CARD OF 'laws.FnExactLeapsLeft'. -/
def fnExactLeapsLeftCard : Claim7 := { stood := { row := fnExactLeapsLeftRow, standIns := [], harness := (true, "0a56342f28d36a194fa5ba4a0e2733081c6829c221f1ca39b437f77967d39119"), looks := false }, kinds := [], alts := [], laidByText := true, laidKinds := [.data, .pinned], laidTests := true, laidLooks := .later }
def FnExactLeapsLeftCardSaid : Prop := Claim7.holds Tryd.pinned (.plain (OpenSpec.ofChange fnExactLeapsLeftSpec)) fnExactLeapsLeftCard

/-- THE TIED CARD OF 'laws.FnExactFirstCrossing'. -/
def fnExactFirstCrossingCard : Claim7 := { stood := { row := fnExactFirstCrossingRow, standIns := [], harness := (true, "0a56342f28d36a194fa5ba4a0e2733081c6829c221f1ca39b437f77967d39119"), looks := false }, kinds := [], alts := [], laidByText := true, laidKinds := [.data, .pinned], laidTests := true, laidLooks := .later }
def FnExactFirstCrossingCardSaid : Prop := Claim7.holds Tryd.pinned (.plain (OpenSpec.ofChange fnExactFirstCrossingSpec)) fnExactFirstCrossingCard

/-- THE TIED CARD OF 'laws.FnExactNeededStones'. -/
def fnExactNeededStonesCard : Claim7 := { stood := { row := fnExactNeededStonesRow, standIns := [], harness := (true, "0a56342f28d36a194fa5ba4a0e2733081c6829c221f1ca39b437f77967d39119"), looks := false }, kinds := [], alts := [], laidByText := true, laidKinds := [.data, .pinned], laidTests := true, laidLooks := .later }
def FnExactNeededStonesCardSaid : Prop := Claim7.holds Tryd.pinned (.plain (OpenSpec.ofChange fnExactNeededStonesSpec)) fnExactNeededStonesCard

/-- THE TIED CARD OF 'laws.FnExactIdleStones'. -/
def fnExactIdleStonesCard : Claim7 := { stood := { row := fnExactIdleStonesRow, standIns := [], harness := (true, "0a56342f28d36a194fa5ba4a0e2733081c6829c221f1ca39b437f77967d39119"), looks := false }, kinds := [], alts := [], laidByText := true, laidKinds := [.data, .pinned], laidTests := true, laidLooks := .later }
def FnExactIdleStonesCardSaid : Prop := Claim7.holds Tryd.pinned (.plain (OpenSpec.ofChange fnExactIdleStonesSpec)) fnExactIdleStonesCard

/-- THE TIED CARD OF 'laws.FnExactCountByLeaps'. -/
def fnExactCountByLeapsCard : Claim7 := { stood := { row := fnExactCountByLeapsRow, standIns := [], harness := (true, "0a56342f28d36a194fa5ba4a0e2733081c6829c221f1ca39b437f77967d39119"), looks := false }, kinds := [], alts := [], laidByText := true, laidKinds := [.data, .pinned], laidTests := true, laidLooks := .later }
def FnExactCountByLeapsCardSaid : Prop := Claim7.holds Tryd.pinned (.plain (OpenSpec.ofChange fnExactCountByLeapsSpec)) fnExactCountByLeapsCard

/-- THE TIED CARD OF 'laws.FnExactCountCrossings'. -/
def fnExactCountCrossingsCard : Claim7 := { stood := { row := fnExactCountCrossingsRow, standIns := [], harness := (true, "0a56342f28d36a194fa5ba4a0e2733081c6829c221f1ca39b437f77967d39119"), looks := false }, kinds := [], alts := [], laidByText := true, laidKinds := [.data, .pinned], laidTests := true, laidLooks := .later }
def FnExactCountCrossingsCardSaid : Prop := Claim7.holds Tryd.pinned (.plain (OpenSpec.ofChange fnExactCountCrossingsSpec)) fnExactCountCrossingsCard

/-- THE TIED CARD OF 'laws.FnExactStonesOf'. -/
def fnExactStonesOfCard : Claim7 := { stood := { row := fnExactStonesOfRow, standIns := [], harness := (true, "0a56342f28d36a194fa5ba4a0e2733081c6829c221f1ca39b437f77967d39119"), looks := false }, kinds := [], alts := [], laidByText := true, laidKinds := [.data, .pinned], laidTests := true, laidLooks := .later }
def FnExactStonesOfCardSaid : Prop := Claim7.holds Tryd.pinned (.plain (OpenSpec.ofChange fnExactStonesOfSpec)) fnExactStonesOfCard

/-- THE SECOND FORM's CARD OF 'laws.FnExactCanCross'. -/
def fnExactCanCrossUptoCard : Claim7 := { stood := { row := fnExactCanCrossUptoRow, standIns := [], harness := (true, "0a56342f28d36a194fa5ba4a0e2733081c6829c221f1ca39b437f77967d39119"), looks := false }, kinds := [], alts := [], laidByText := true, laidKinds := [.data, .pinned], laidTests := true, laidLooks := .later }
def FnExactCanCrossUptoCardSaid : Prop := Claim7.holds Tryd.pinned (.plain (OpenSpec.upto fnExactCanCrossSpec)) fnExactCanCrossUptoCard

/-- THE SECOND FORM's CARD OF 'laws.FnExactFewestLeaps'. -/
def fnExactFewestLeapsUptoCard : Claim7 := { stood := { row := fnExactFewestLeapsUptoRow, standIns := [], harness := (true, "0a56342f28d36a194fa5ba4a0e2733081c6829c221f1ca39b437f77967d39119"), looks := false }, kinds := [], alts := [], laidByText := true, laidKinds := [.data, .pinned], laidTests := true, laidLooks := .later }
def FnExactFewestLeapsUptoCardSaid : Prop := Claim7.holds Tryd.pinned (.plain (OpenSpec.upto fnExactFewestLeapsSpec)) fnExactFewestLeapsUptoCard

/-- THE SECOND FORM's CARD OF 'laws.FnExactLeapsLeft'. -/
def fnExactLeapsLeftUptoCard : Claim7 := { stood := { row := fnExactLeapsLeftUptoRow, standIns := [], harness := (true, "0a56342f28d36a194fa5ba4a0e2733081c6829c221f1ca39b437f77967d39119"), looks := false }, kinds := [], alts := [], laidByText := true, laidKinds := [.data, .pinned], laidTests := true, laidLooks := .later }
def FnExactLeapsLeftUptoCardSaid : Prop := Claim7.holds Tryd.pinned (.plain (OpenSpec.upto fnExactLeapsLeftSpec)) fnExactLeapsLeftUptoCard

/-- THE SECOND FORM's CARD OF 'laws.FnExactFirstCrossing'. -/
def fnExactFirstCrossingUptoCard : Claim7 := { stood := { row := fnExactFirstCrossingUptoRow, standIns := [], harness := (true, "0a56342f28d36a194fa5ba4a0e2733081c6829c221f1ca39b437f77967d39119"), looks := false }, kinds := [], alts := [], laidByText := true, laidKinds := [.data, .pinned], laidTests := true, laidLooks := .later }
def FnExactFirstCrossingUptoCardSaid : Prop := Claim7.holds Tryd.pinned (.plain (OpenSpec.upto fnExactFirstCrossingSpec)) fnExactFirstCrossingUptoCard

/-- THE SECOND FORM's CARD OF 'laws.FnExactNeededStones'. -/
def fnExactNeededStonesUptoCard : Claim7 := { stood := { row := fnExactNeededStonesUptoRow, standIns := [], harness := (true, "0a56342f28d36a194fa5ba4a0e2733081c6829c221f1ca39b437f77967d39119"), looks := false }, kinds := [], alts := [], laidByText := true, laidKinds := [.data, .pinned], laidTests := true, laidLooks := .later }
def FnExactNeededStonesUptoCardSaid : Prop := Claim7.holds Tryd.pinned (.plain (OpenSpec.upto fnExactNeededStonesSpec)) fnExactNeededStonesUptoCard

/-- THE SECOND FORM's CARD OF 'laws.FnExactIdleStones'. -/
def fnExactIdleStonesUptoCard : Claim7 := { stood := { row := fnExactIdleStonesUptoRow, standIns := [], harness := (true, "0a56342f28d36a194fa5ba4a0e2733081c6829c221f1ca39b437f77967d39119"), looks := false }, kinds := [], alts := [], laidByText := true, laidKinds := [.data, .pinned], laidTests := true, laidLooks := .later }
def FnExactIdleStonesUptoCardSaid : Prop := Claim7.holds Tryd.pinned (.plain (OpenSpec.upto fnExactIdleStonesSpec)) fnExactIdleStonesUptoCard

/-- THE SECOND FORM's CARD OF 'laws.FnExactCountByLeaps'. -/
def fnExactCountByLeapsUptoCard : Claim7 := { stood := { row := fnExactCountByLeapsUptoRow, standIns := [], harness := (true, "0a56342f28d36a194fa5ba4a0e2733081c6829c221f1ca39b437f77967d39119"), looks := false }, kinds := [], alts := [], laidByText := true, laidKinds := [.data, .pinned], laidTests := true, laidLooks := .later }
def FnExactCountByLeapsUptoCardSaid : Prop := Claim7.holds Tryd.pinned (.plain (OpenSpec.upto fnExactCountByLeapsSpec)) fnExactCountByLeapsUptoCard

/-- THE SECOND FORM's CARD OF 'laws.FnExactCountCrossings'. -/
def fnExactCountCrossingsUptoCard : Claim7 := { stood := { row := fnExactCountCrossingsUptoRow, standIns := [], harness := (true, "0a56342f28d36a194fa5ba4a0e2733081c6829c221f1ca39b437f77967d39119"), looks := false }, kinds := [], alts := [], laidByText := true, laidKinds := [.data, .pinned], laidTests := true, laidLooks := .later }
def FnExactCountCrossingsUptoCardSaid : Prop := Claim7.holds Tryd.pinned (.plain (OpenSpec.upto fnExactCountCrossingsSpec)) fnExactCountCrossingsUptoCard

/-- THE SECOND FORM's CARD OF 'laws.FnExactStonesOf'. -/
def fnExactStonesOfUptoCard : Claim7 := { stood := { row := fnExactStonesOfUptoRow, standIns := [], harness := (true, "0a56342f28d36a194fa5ba4a0e2733081c6829c221f1ca39b437f77967d39119"), looks := false }, kinds := [], alts := [], laidByText := true, laidKinds := [.data, .pinned], laidTests := true, laidLooks := .later }
def FnExactStonesOfUptoCardSaid : Prop := Claim7.holds Tryd.pinned (.plain (OpenSpec.upto fnExactStonesOfSpec)) fnExactStonesOfUptoCard
end Rows
end Go.Proofs.YtlcgimeebhoefaaDoor
