/-
  DERIVED. GIVEN WITH THE SEED: THE CARDS: each row of YtkikpfeipejnlaaDoorRows.lean that lists a variable, with what it lists TIED to the program's text (the seventh form; the later family's looks); each row that meets fmt, with fmt's text TOLD by the authors' own Lean function (tested against real Go, not proved from fmt's source: count such statements apart). THE CARD IS WHAT COUNTS. Prove the row's statement (the work); the ties are given (YtkikpfeipejnlaaDoorTie.lean); close each card by the builder's one call (the guide's Derived/Test/ToyasCard.lean, 'card_holds'). Laid BY PROGRAM, IN A SANDBOX (cutbox-door.mjs). By AI agents, Wed Nov 11 2026. No macro, syntax, notation, axiom, sorry.
-/
import Derived.Test.YtkikpfeipejnlaaDoorRows
import GoSem.ClaimSeven
namespace Go.Proofs.YtkikpfeipejnlaaDoor
namespace Rows

/-- THE TIED CARD OF 'laws.FnExactStuckPonds'. -/
def fnExactStuckPondsCard : Claim7 := { stood := { row := fnExactStuckPondsRow, standIns := [], harness := (true, "5788b6149ec1abc7d1825235fe5645b7431aa5ffc47df6d6b48aafbd64bba6f6"), looks := false }, kinds := [], alts := [], laidByText := true, laidKinds := [.data, .pinned], laidTests := true, laidLooks := .later }
def FnExactStuckPondsCardSaid : Prop := Claim7.holds Tryd.pinned (.plain (OpenSpec.ofChange fnExactStuckPondsSpec)) fnExactStuckPondsCard

/-- THE TIED CARD OF 'laws.FnExactPondsReached'. -/
def fnExactPondsReachedCard : Claim7 := { stood := { row := fnExactPondsReachedRow, standIns := [], harness := (true, "5788b6149ec1abc7d1825235fe5645b7431aa5ffc47df6d6b48aafbd64bba6f6"), looks := false }, kinds := [], alts := [], laidByText := true, laidKinds := [.data, .pinned], laidTests := true, laidLooks := .later }
def FnExactPondsReachedCardSaid : Prop := Claim7.holds Tryd.pinned (.plain (OpenSpec.ofChange fnExactPondsReachedSpec)) fnExactPondsReachedCard

/-- THE TIED CARD OF 'laws.FnExactCanExchange'. -/
def fnExactCanExchangeCard : Claim7 := { stood := { row := fnExactCanExchangeRow, standIns := [], harness := (true, "5788b6149ec1abc7d1825235fe5645b7431aa5ffc47df6d6b48aafbd64bba6f6"), looks := false }, kinds := [], alts := [], laidByText := true, laidKinds := [.data, .pinned], laidTests := true, laidLooks := .later }
def FnExactCanExchangeCardSaid : Prop := Claim7.holds Tryd.pinned (.plain (OpenSpec.ofChange fnExactCanExchangeSpec)) fnExactCanExchangeCard

/-- THE TIED CARD OF 'laws.FnExactCountFrogWays'. -/
def fnExactCountFrogWaysCard : Claim7 := { stood := { row := fnExactCountFrogWaysRow, standIns := [], harness := (true, "5788b6149ec1abc7d1825235fe5645b7431aa5ffc47df6d6b48aafbd64bba6f6"), looks := false }, kinds := [], alts := [], laidByText := true, laidKinds := [.data, .pinned], laidTests := true, laidLooks := .later }
def FnExactCountFrogWaysCardSaid : Prop := Claim7.holds Tryd.pinned (.plain (OpenSpec.ofChange fnExactCountFrogWaysSpec)) fnExactCountFrogWaysCard

/-- THE TIED CARD OF 'laws.FnExactFewestFrogMoves'. -/
def fnExactFewestFrogMovesCard : Claim7 := { stood := { row := fnExactFewestFrogMovesRow, standIns := [], harness := (true, "5788b6149ec1abc7d1825235fe5645b7431aa5ffc47df6d6b48aafbd64bba6f6"), looks := false }, kinds := [], alts := [], laidByText := true, laidKinds := [.data, .pinned], laidTests := true, laidLooks := .later }
def FnExactFewestFrogMovesCardSaid : Prop := Claim7.holds Tryd.pinned (.plain (OpenSpec.ofChange fnExactFewestFrogMovesSpec)) fnExactFewestFrogMovesCard

/-- THE TIED CARD OF 'laws.FnExactLongestFrogPlay'. -/
def fnExactLongestFrogPlayCard : Claim7 := { stood := { row := fnExactLongestFrogPlayRow, standIns := [], harness := (true, "5788b6149ec1abc7d1825235fe5645b7431aa5ffc47df6d6b48aafbd64bba6f6"), looks := false }, kinds := [], alts := [], laidByText := true, laidKinds := [.data, .pinned], laidTests := true, laidLooks := .later }
def FnExactLongestFrogPlayCardSaid : Prop := Claim7.holds Tryd.pinned (.plain (OpenSpec.ofChange fnExactLongestFrogPlaySpec)) fnExactLongestFrogPlayCard

/-- THE TIED CARD OF 'laws.FnExactShortestStuck'. -/
def fnExactShortestStuckCard : Claim7 := { stood := { row := fnExactShortestStuckRow, standIns := [], harness := (true, "5788b6149ec1abc7d1825235fe5645b7431aa5ffc47df6d6b48aafbd64bba6f6"), looks := false }, kinds := [], alts := [], laidByText := true, laidKinds := [.data, .pinned], laidTests := true, laidLooks := .later }
def FnExactShortestStuckCardSaid : Prop := Claim7.holds Tryd.pinned (.plain (OpenSpec.ofChange fnExactShortestStuckSpec)) fnExactShortestStuckCard

/-- THE TIED CARD OF 'laws.FnExactFirstFrogMoves'. -/
def fnExactFirstFrogMovesCard : Claim7 := { stood := { row := fnExactFirstFrogMovesRow, standIns := [], harness := (true, "5788b6149ec1abc7d1825235fe5645b7431aa5ffc47df6d6b48aafbd64bba6f6"), looks := false }, kinds := [], alts := [], laidByText := true, laidKinds := [.data, .pinned], laidTests := true, laidLooks := .later }
def FnExactFirstFrogMovesCardSaid : Prop := Claim7.holds Tryd.pinned (.plain (OpenSpec.ofChange fnExactFirstFrogMovesSpec)) fnExactFirstFrogMovesCard

/-- THE SECOND FORM's CARD OF 'laws.FnExactStuckPonds'. -/
def fnExactStuckPondsUptoCard : Claim7 := { stood := { row := fnExactStuckPondsUptoRow, standIns := [], harness := (true, "5788b6149ec1abc7d1825235fe5645b7431aa5ffc47df6d6b48aafbd64bba6f6"), looks := false }, kinds := [], alts := [], laidByText := true, laidKinds := [.data, .pinned], laidTests := true, laidLooks := .later }
def FnExactStuckPondsUptoCardSaid : Prop := Claim7.holds Tryd.pinned (.plain (OpenSpec.upto fnExactStuckPondsSpec)) fnExactStuckPondsUptoCard

/-- THE SECOND FORM's CARD OF 'laws.FnExactPondsReached'. -/
def fnExactPondsReachedUptoCard : Claim7 := { stood := { row := fnExactPondsReachedUptoRow, standIns := [], harness := (true, "5788b6149ec1abc7d1825235fe5645b7431aa5ffc47df6d6b48aafbd64bba6f6"), looks := false }, kinds := [], alts := [], laidByText := true, laidKinds := [.data, .pinned], laidTests := true, laidLooks := .later }
def FnExactPondsReachedUptoCardSaid : Prop := Claim7.holds Tryd.pinned (.plain (OpenSpec.upto fnExactPondsReachedSpec)) fnExactPondsReachedUptoCard

/-- THE SECOND FORM's CARD OF 'laws.FnExactCanExchange'. -/
def fnExactCanExchangeUptoCard : Claim7 := { stood := { row := fnExactCanExchangeUptoRow, standIns := [], harness := (true, "5788b6149ec1abc7d1825235fe5645b7431aa5ffc47df6d6b48aafbd64bba6f6"), looks := false }, kinds := [], alts := [], laidByText := true, laidKinds := [.data, .pinned], laidTests := true, laidLooks := .later }
def FnExactCanExchangeUptoCardSaid : Prop := Claim7.holds Tryd.pinned (.plain (OpenSpec.upto fnExactCanExchangeSpec)) fnExactCanExchangeUptoCard

/-- THE SECOND FORM's CARD OF 'laws.FnExactCountFrogWays'. -/
def fnExactCountFrogWaysUptoCard : Claim7 := { stood := { row := fnExactCountFrogWaysUptoRow, standIns := [], harness := (true, "5788b6149ec1abc7d1825235fe5645b7431aa5ffc47df6d6b48aafbd64bba6f6"), looks := false }, kinds := [], alts := [], laidByText := true, laidKinds := [.data, .pinned], laidTests := true, laidLooks := .later }
def FnExactCountFrogWaysUptoCardSaid : Prop := Claim7.holds Tryd.pinned (.plain (OpenSpec.upto fnExactCountFrogWaysSpec)) fnExactCountFrogWaysUptoCard

/-- THE SECOND FORM's CARD OF 'laws.FnExactFewestFrogMoves'. -/
def fnExactFewestFrogMovesUptoCard : Claim7 := { stood := { row := fnExactFewestFrogMovesUptoRow, standIns := [], harness := (true, "5788b6149ec1abc7d1825235fe5645b7431aa5ffc47df6d6b48aafbd64bba6f6"), looks := false }, kinds := [], alts := [], laidByText := true, laidKinds := [.data, .pinned], laidTests := true, laidLooks := .later }
def FnExactFewestFrogMovesUptoCardSaid : Prop := Claim7.holds Tryd.pinned (.plain (OpenSpec.upto fnExactFewestFrogMovesSpec)) fnExactFewestFrogMovesUptoCard

/-- THE SECOND FORM's CARD OF 'laws.FnExactLongestFrogPlay'. -/
def fnExactLongestFrogPlayUptoCard : Claim7 := { stood := { row := fnExactLongestFrogPlayUptoRow, standIns := [], harness := (true, "5788b6149ec1abc7d1825235fe5645b7431aa5ffc47df6d6b48aafbd64bba6f6"), looks := false }, kinds := [], alts := [], laidByText := true, laidKinds := [.data, .pinned], laidTests := true, laidLooks := .later }
def FnExactLongestFrogPlayUptoCardSaid : Prop := Claim7.holds Tryd.pinned (.plain (OpenSpec.upto fnExactLongestFrogPlaySpec)) fnExactLongestFrogPlayUptoCard

/-- THE SECOND FORM's CARD OF 'laws.FnExactShortestStuck'. -/
def fnExactShortestStuckUptoCard : Claim7 := { stood := { row := fnExactShortestStuckUptoRow, standIns := [], harness := (true, "5788b6149ec1abc7d1825235fe5645b7431aa5ffc47df6d6b48aafbd64bba6f6"), looks := false }, kinds := [], alts := [], laidByText := true, laidKinds := [.data, .pinned], laidTests := true, laidLooks := .later }
def FnExactShortestStuckUptoCardSaid : Prop := Claim7.holds Tryd.pinned (.plain (OpenSpec.upto fnExactShortestStuckSpec)) fnExactShortestStuckUptoCard

/-- THE SECOND FORM's CARD OF 'laws.FnExactFirstFrogMoves'. -/
def fnExactFirstFrogMovesUptoCard : Claim7 := { stood := { row := fnExactFirstFrogMovesUptoRow, standIns := [], harness := (true, "5788b6149ec1abc7d1825235fe5645b7431aa5ffc47df6d6b48aafbd64bba6f6"), looks := false }, kinds := [], alts := [], laidByText := true, laidKinds := [.data, .pinned], laidTests := true, laidLooks := .later }
def FnExactFirstFrogMovesUptoCardSaid : Prop := Claim7.holds Tryd.pinned (.plain (OpenSpec.upto fnExactFirstFrogMovesSpec)) fnExactFirstFrogMovesUptoCard
end Rows
end Go.Proofs.YtkikpfeipejnlaaDoor
