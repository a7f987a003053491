/-
  DERIVED. GIVEN WITH THE SEED: THE CARDS: each row of YtlfhagdhpgmlpaaDoorRows.lean that lists a variable, with what it lists TIED to the program's text (the seventh form; the later family's looks); each row that meets fmt, with fmt's text TOLD by the authors' own Lean function (tested against real Go, not proved from fmt's source: count such statements apart). THE CARD IS WHAT COUNTS. Prove the row's statement (the work); the ties are given (YtlfhagdhpgmlpaaDoorTie.lean); close each card by the builder's one call (the guide's Derived/Test/ToyasCard.lean, 'card_holds'). Laid BY PROGRAM, IN A SANDBOX (cutbox-door.mjs). By AI agents, Wed Nov 11 2026. No macro, syntax, notation, axiom, sorry.
-/
import Derived.Test.YtlfhagdhpgmlpaaDoorRows
import GoSem.ClaimSeven
namespace Go.Proofs.YtlfhagdhpgmlpaaDoor
namespace Rows

/-- THE TIED CARD OF 'laws.FnExactTurnPond'. -/
def fnExactTurnPondCard : Claim7 := { stood := { row := fnExactTurnPondRow, standIns := [], harness := (true, "410e263fcc3a71947c5c163dd1db7387a7bc8da3019ea931791ca6dbc3480548"), looks := true }, kinds := [], alts := [], laidByText := true, laidKinds := [.data, .pinned], laidTests := true, laidLooks := .later }
def FnExactTurnPondCardSaid : Prop := Claim7.holds Tryd.pinned (.plain (OpenSpec.ofChange fnExactTurnPondSpec)) fnExactTurnPondCard

/-- THE SECOND FORM's CARD OF 'laws.FnExactTurnPond'. -/
def fnExactTurnPondUptoCard : Claim7 := { stood := { row := fnExactTurnPondUptoRow, standIns := [], harness := (true, "410e263fcc3a71947c5c163dd1db7387a7bc8da3019ea931791ca6dbc3480548"), looks := true }, kinds := [], alts := [], laidByText := true, laidKinds := [.data, .pinned], laidTests := true, laidLooks := .later }
def FnExactTurnPondUptoCardSaid : Prop := Claim7.holds Tryd.pinned (.plain (OpenSpec.upto fnExactTurnPondSpec)) fnExactTurnPondUptoCard
end Rows
end Go.Proofs.YtlfhagdhpgmlpaaDoor
