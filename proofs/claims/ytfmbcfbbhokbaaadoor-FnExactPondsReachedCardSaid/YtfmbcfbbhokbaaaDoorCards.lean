/-
  DERIVED. GIVEN WITH THE SEED: THE CARDS: each row of YtfmbcfbbhokbaaaDoorRows.lean that lists a variable, with what it lists TIED to the program's text (the seventh form; the later family's looks); each row that meets fmt, with fmt's text TOLD by the authors' own Lean function (tested against real Go, not proved from fmt's source: count such statements apart). THE CARD IS WHAT COUNTS. Prove the row's statement (the work); the ties are given (YtfmbcfbbhokbaaaDoorTie.lean); close each card by the builder's one call (the guide's Derived/Test/ToyasCard.lean, 'card_holds'). Laid BY PROGRAM, IN A SANDBOX (cutbox-door.mjs). By AI agents, Wed Nov 11 2026. No macro, syntax, notation, axiom, sorry.
-/
import Derived.Test.YtfmbcfbbhokbaaaDoorRows
import GoSem.ClaimSeven
namespace Go.Proofs.YtfmbcfbbhokbaaaDoor
namespace Rows

/-- THE TIED CARD OF 'laws.FnExactIsPond'. -/
def fnExactIsPondCard : Claim7 := { stood := { row := fnExactIsPondRow, standIns := [], harness := (true, "4ba3342043c5eab18ca4a29311aac4b24a03870c36baa77ade9b083d882ed1b5"), looks := false }, kinds := [], alts := [], laidByText := true, laidKinds := [.data, .pinned], laidTests := true, laidLooks := .later }
def FnExactIsPondCardSaid : Prop := Claim7.holds Tryd.pinned (.plain (OpenSpec.ofChange fnExactIsPondSpec)) fnExactIsPondCard

/-- THE TIED CARD OF 'laws.FnExactIsStuck'. -/
def fnExactIsStuckCard : Claim7 := { stood := { row := fnExactIsStuckRow, standIns := [], harness := (true, "4ba3342043c5eab18ca4a29311aac4b24a03870c36baa77ade9b083d882ed1b5"), looks := false }, kinds := [], alts := [], laidByText := true, laidKinds := [.data, .pinned], laidTests := true, laidLooks := .later }
def FnExactIsStuckCardSaid : Prop := Claim7.holds Tryd.pinned (.plain (OpenSpec.ofChange fnExactIsStuckSpec)) fnExactIsStuckCard

/-- THE TIED CARD OF 'laws.FnExactMoveFrog'. -/
def fnExactMoveFrogCard : Claim7 := { stood := { row := fnExactMoveFrogRow, standIns := [], harness := (true, "4ba3342043c5eab18ca4a29311aac4b24a03870c36baa77ade9b083d882ed1b5"), looks := false }, kinds := [], alts := [], laidByText := true, laidKinds := [.data, .pinned], laidTests := true, laidLooks := .later }
def FnExactMoveFrogCardSaid : Prop := Claim7.holds Tryd.pinned (.plain (OpenSpec.ofChange fnExactMoveFrogSpec)) fnExactMoveFrogCard

/-- THE TIED CARD OF 'laws.FnExactFrogMoves'. -/
def fnExactFrogMovesCard : Claim7 := { stood := { row := fnExactFrogMovesRow, standIns := [], harness := (true, "4ba3342043c5eab18ca4a29311aac4b24a03870c36baa77ade9b083d882ed1b5"), looks := false }, kinds := [], alts := [], laidByText := true, laidKinds := [.data, .pinned], laidTests := true, laidLooks := .later }
def FnExactFrogMovesCardSaid : Prop := Claim7.holds Tryd.pinned (.plain (OpenSpec.ofChange fnExactFrogMovesSpec)) fnExactFrogMovesCard

/-- THE TIED CARD OF 'laws.FnExactLeapsIn'. -/
def fnExactLeapsInCard : Claim7 := { stood := { row := fnExactLeapsInRow, standIns := [], harness := (true, "4ba3342043c5eab18ca4a29311aac4b24a03870c36baa77ade9b083d882ed1b5"), looks := false }, kinds := [], alts := [], laidByText := true, laidKinds := [.data, .pinned], laidTests := true, laidLooks := .later }
def FnExactLeapsInCardSaid : Prop := Claim7.holds Tryd.pinned (.plain (OpenSpec.ofChange fnExactLeapsInSpec)) fnExactLeapsInCard

/-- THE TIED CARD OF 'laws.FnExactPlayFrogs'. -/
def fnExactPlayFrogsCard : Claim7 := { stood := { row := fnExactPlayFrogsRow, standIns := [], harness := (true, "4ba3342043c5eab18ca4a29311aac4b24a03870c36baa77ade9b083d882ed1b5"), looks := false }, kinds := [], alts := [], laidByText := true, laidKinds := [.data, .pinned], laidTests := true, laidLooks := .later }
def FnExactPlayFrogsCardSaid : Prop := Claim7.holds Tryd.pinned (.plain (OpenSpec.ofChange fnExactPlayFrogsSpec)) fnExactPlayFrogsCard

/-- THE TIED CARD OF 'laws.FnExactExchangeOf'. -/
def fnExactExchangeOfCard : Claim7 := { stood := { row := fnExactExchangeOfRow, standIns := [], harness := (true, "4ba3342043c5eab18ca4a29311aac4b24a03870c36baa77ade9b083d882ed1b5"), looks := false }, kinds := [], alts := [], laidByText := true, laidKinds := [.data, .pinned], laidTests := true, laidLooks := .later }
def FnExactExchangeOfCardSaid : Prop := Claim7.holds Tryd.pinned (.plain (OpenSpec.ofChange fnExactExchangeOfSpec)) fnExactExchangeOfCard

/-- THE TIED CARD OF 'laws.FnExactDoesRightWin'. -/
def fnExactDoesRightWinCard : Claim7 := { stood := { row := fnExactDoesRightWinRow, standIns := [], harness := (true, "4ba3342043c5eab18ca4a29311aac4b24a03870c36baa77ade9b083d882ed1b5"), looks := false }, kinds := [], alts := [], laidByText := true, laidKinds := [.data, .pinned], laidTests := true, laidLooks := .later }
def FnExactDoesRightWinCardSaid : Prop := Claim7.holds Tryd.pinned (.plain (OpenSpec.ofChange fnExactDoesRightWinSpec)) fnExactDoesRightWinCard

/-- THE TIED CARD OF 'laws.FnExactWinningMove'. -/
def fnExactWinningMoveCard : Claim7 := { stood := { row := fnExactWinningMoveRow, standIns := [], harness := (true, "4ba3342043c5eab18ca4a29311aac4b24a03870c36baa77ade9b083d882ed1b5"), looks := false }, kinds := [], alts := [], laidByText := true, laidKinds := [.data, .pinned], laidTests := true, laidLooks := .later }
def FnExactWinningMoveCardSaid : Prop := Claim7.holds Tryd.pinned (.plain (OpenSpec.ofChange fnExactWinningMoveSpec)) fnExactWinningMoveCard

/-- THE TIED CARD OF 'laws.FnExactPondsReached'. -/
def fnExactPondsReachedCard : Claim7 := { stood := { row := fnExactPondsReachedRow, standIns := [], harness := (true, "4ba3342043c5eab18ca4a29311aac4b24a03870c36baa77ade9b083d882ed1b5"), looks := false }, kinds := [], alts := [], laidByText := true, laidKinds := [.data, .pinned], laidTests := true, laidLooks := .later }
def FnExactPondsReachedCardSaid : Prop := Claim7.holds Tryd.pinned (.plain (OpenSpec.ofChange fnExactPondsReachedSpec)) fnExactPondsReachedCard

/-- THE TIED CARD OF 'laws.FnExactStuckPonds'. -/
def fnExactStuckPondsCard : Claim7 := { stood := { row := fnExactStuckPondsRow, standIns := [], harness := (true, "4ba3342043c5eab18ca4a29311aac4b24a03870c36baa77ade9b083d882ed1b5"), looks := false }, kinds := [], alts := [], laidByText := true, laidKinds := [.data, .pinned], laidTests := true, laidLooks := .later }
def FnExactStuckPondsCardSaid : Prop := Claim7.holds Tryd.pinned (.plain (OpenSpec.ofChange fnExactStuckPondsSpec)) fnExactStuckPondsCard

/-- THE SECOND FORM's CARD OF 'laws.FnExactIsPond'. -/
def fnExactIsPondUptoCard : Claim7 := { stood := { row := fnExactIsPondUptoRow, standIns := [], harness := (true, "4ba3342043c5eab18ca4a29311aac4b24a03870c36baa77ade9b083d882ed1b5"), looks := false }, kinds := [], alts := [], laidByText := true, laidKinds := [.data, .pinned], laidTests := true, laidLooks := .later }
def FnExactIsPondUptoCardSaid : Prop := Claim7.holds Tryd.pinned (.plain (OpenSpec.upto fnExactIsPondSpec)) fnExactIsPondUptoCard

/-- THE SECOND FORM's CARD OF 'laws.FnExactIsStuck'. -/
def fnExactIsStuckUptoCard : Claim7 := { stood := { row := fnExactIsStuckUptoRow, standIns := [], harness := (true, "4ba3342043c5eab18ca4a29311aac4b24a03870c36baa77ade9b083d882ed1b5"), looks := false }, kinds := [], alts := [], laidByText := true, laidKinds := [.data, .pinned], laidTests := true, laidLooks := .later }
def FnExactIsStuckUptoCardSaid : Prop := Claim7.holds Tryd.pinned (.plain (OpenSpec.upto fnExactIsStuckSpec)) fnExactIsStuckUptoCard

/-- THE SECOND FORM's CARD OF 'laws.FnExactMoveFrog'. -/
def fnExactMoveFrogUptoCard : Claim7 := { stood := { row := fnExactMoveFrogUptoRow, standIns := [], harness := (true, "4ba3342043c5eab18ca4a29311aac4b24a03870c36baa77ade9b083d882ed1b5"), looks := false }, kinds := [], alts := [], laidByText := true, laidKinds := [.data, .pinned], laidTests := true, laidLooks := .later }
def FnExactMoveFrogUptoCardSaid : Prop := Claim7.holds Tryd.pinned (.plain (OpenSpec.upto fnExactMoveFrogSpec)) fnExactMoveFrogUptoCard

/-- THE SECOND FORM's CARD OF 'laws.FnExactFrogMoves'. -/
def fnExactFrogMovesUptoCard : Claim7 := { stood := { row := fnExactFrogMovesUptoRow, standIns := [], harness := (true, "4ba3342043c5eab18ca4a29311aac4b24a03870c36baa77ade9b083d882ed1b5"), looks := false }, kinds := [], alts := [], laidByText := true, laidKinds := [.data, .pinned], laidTests := true, laidLooks := .later }
def FnExactFrogMovesUptoCardSaid : Prop := Claim7.holds Tryd.pinned (.plain (OpenSpec.upto fnExactFrogMovesSpec)) fnExactFrogMovesUptoCard

/-- THE SECOND FORM's CARD OF 'laws.FnExactLeapsIn'. -/
def fnExactLeapsInUptoCard : Claim7 := { stood := { row := fnExactLeapsInUptoRow, standIns := [], harness := (true, "4ba3342043c5eab18ca4a29311aac4b24a03870c36baa77ade9b083d882ed1b5"), looks := false }, kinds := [], alts := [], laidByText := true, laidKinds := [.data, .pinned], laidTests := true, laidLooks := .later }
def FnExactLeapsInUptoCardSaid : Prop := Claim7.holds Tryd.pinned (.plain (OpenSpec.upto fnExactLeapsInSpec)) fnExactLeapsInUptoCard

/-- THE SECOND FORM's CARD OF 'laws.FnExactPlayFrogs'. -/
def fnExactPlayFrogsUptoCard : Claim7 := { stood := { row := fnExactPlayFrogsUptoRow, standIns := [], harness := (true, "4ba3342043c5eab18ca4a29311aac4b24a03870c36baa77ade9b083d882ed1b5"), looks := false }, kinds := [], alts := [], laidByText := true, laidKinds := [.data, .pinned], laidTests := true, laidLooks := .later }
def FnExactPlayFrogsUptoCardSaid : Prop := Claim7.holds Tryd.pinned (.plain (OpenSpec.upto fnExactPlayFrogsSpec)) fnExactPlayFrogsUptoCard

/-- THE SECOND FORM's CARD OF 'laws.FnExactExchangeOf'. -/
def fnExactExchangeOfUptoCard : Claim7 := { stood := { row := fnExactExchangeOfUptoRow, standIns := [], harness := (true, "4ba3342043c5eab18ca4a29311aac4b24a03870c36baa77ade9b083d882ed1b5"), looks := false }, kinds := [], alts := [], laidByText := true, laidKinds := [.data, .pinned], laidTests := true, laidLooks := .later }
def FnExactExchangeOfUptoCardSaid : Prop := Claim7.holds Tryd.pinned (.plain (OpenSpec.upto fnExactExchangeOfSpec)) fnExactExchangeOfUptoCard

/-- THE SECOND FORM's CARD OF 'laws.FnExactDoesRightWin'. -/
def fnExactDoesRightWinUptoCard : Claim7 := { stood := { row := fnExactDoesRightWinUptoRow, standIns := [], harness := (true, "4ba3342043c5eab18ca4a29311aac4b24a03870c36baa77ade9b083d882ed1b5"), looks := false }, kinds := [], alts := [], laidByText := true, laidKinds := [.data, .pinned], laidTests := true, laidLooks := .later }
def FnExactDoesRightWinUptoCardSaid : Prop := Claim7.holds Tryd.pinned (.plain (OpenSpec.upto fnExactDoesRightWinSpec)) fnExactDoesRightWinUptoCard

/-- THE SECOND FORM's CARD OF 'laws.FnExactWinningMove'. -/
def fnExactWinningMoveUptoCard : Claim7 := { stood := { row := fnExactWinningMoveUptoRow, standIns := [], harness := (true, "4ba3342043c5eab18ca4a29311aac4b24a03870c36baa77ade9b083d882ed1b5"), looks := false }, kinds := [], alts := [], laidByText := true, laidKinds := [.data, .pinned], laidTests := true, laidLooks := .later }
def FnExactWinningMoveUptoCardSaid : Prop := Claim7.holds Tryd.pinned (.plain (OpenSpec.upto fnExactWinningMoveSpec)) fnExactWinningMoveUptoCard

/-- THE SECOND FORM's CARD OF 'laws.FnExactPondsReached'. -/
def fnExactPondsReachedUptoCard : Claim7 := { stood := { row := fnExactPondsReachedUptoRow, standIns := [], harness := (true, "4ba3342043c5eab18ca4a29311aac4b24a03870c36baa77ade9b083d882ed1b5"), looks := false }, kinds := [], alts := [], laidByText := true, laidKinds := [.data, .pinned], laidTests := true, laidLooks := .later }
def FnExactPondsReachedUptoCardSaid : Prop := Claim7.holds Tryd.pinned (.plain (OpenSpec.upto fnExactPondsReachedSpec)) fnExactPondsReachedUptoCard

/-- THE SECOND FORM's CARD OF 'laws.FnExactStuckPonds'. -/
def fnExactStuckPondsUptoCard : Claim7 := { stood := { row := fnExactStuckPondsUptoRow, standIns := [], harness := (true, "4ba3342043c5eab18ca4a29311aac4b24a03870c36baa77ade9b083d882ed1b5"), looks := false }, kinds := [], alts := [], laidByText := true, laidKinds := [.data, .pinned], laidTests := true, laidLooks := .later }
def FnExactStuckPondsUptoCardSaid : Prop := Claim7.holds Tryd.pinned (.plain (OpenSpec.upto fnExactStuckPondsSpec)) fnExactStuckPondsUptoCard
end Rows
end Go.Proofs.YtfmbcfbbhokbaaaDoor
