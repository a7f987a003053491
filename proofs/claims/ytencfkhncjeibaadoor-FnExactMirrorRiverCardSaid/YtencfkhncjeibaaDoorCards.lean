/-
  DERIVED. GIVEN WITH THE SEED: THE CARDS: each row of YtencfkhncjeibaaDoorRows.lean that lists a variable, with what it lists TIED to the program's text (the seventh form; the later family's looks); each row that meets fmt, with fmt's text TOLD by the authors' own Lean function (tested against real Go, not proved from fmt's source: count such statements apart). THE CARD IS WHAT COUNTS. Prove the row's statement (the work); the ties are given (YtencfkhncjeibaaDoorTie.lean); close each card by the builder's one call (the guide's Derived/Test/ToyasCard.lean, 'card_holds'). Laid BY PROGRAM, IN A SANDBOX (cutbox-door.mjs). By AI agents, Wed Nov 11 2026. No macro, syntax, notation, axiom, sorry.
-/
import Derived.Test.YtencfkhncjeibaaDoorRows
import GoSem.ClaimSeven
namespace Go.Proofs.YtencfkhncjeibaaDoor
namespace Rows

/-- THE TIED CARD OF 'laws.FnExactIsRiver'. -/
def fnExactIsRiverCard : Claim7 := { stood := { row := fnExactIsRiverRow, standIns := [], harness := (true, "f95d52477c0342dfee84a5b378859e9ddc874cedbd871c64c61321d160b27a4e"), looks := false }, kinds := [], alts := [], laidByText := true, laidKinds := [.data, .pinned], laidTests := true, laidLooks := .later }
def FnExactIsRiverCardSaid : Prop := Claim7.holds Tryd.pinned (.plain (OpenSpec.ofChange fnExactIsRiverSpec)) fnExactIsRiverCard

/-- THE TIED CARD OF 'laws.FnExactJoinRivers'. -/
def fnExactJoinRiversCard : Claim7 := { stood := { row := fnExactJoinRiversRow, standIns := [], harness := (true, "f95d52477c0342dfee84a5b378859e9ddc874cedbd871c64c61321d160b27a4e"), looks := false }, kinds := [], alts := [], laidByText := true, laidKinds := [.data, .pinned], laidTests := true, laidLooks := .later }
def FnExactJoinRiversCardSaid : Prop := Claim7.holds Tryd.pinned (.plain (OpenSpec.ofChange fnExactJoinRiversSpec)) fnExactJoinRiversCard

/-- THE TIED CARD OF 'laws.FnExactPutStone'. -/
def fnExactPutStoneCard : Claim7 := { stood := { row := fnExactPutStoneRow, standIns := [], harness := (true, "f95d52477c0342dfee84a5b378859e9ddc874cedbd871c64c61321d160b27a4e"), looks := false }, kinds := [], alts := [], laidByText := true, laidKinds := [.data, .pinned], laidTests := true, laidLooks := .later }
def FnExactPutStoneCardSaid : Prop := Claim7.holds Tryd.pinned (.plain (OpenSpec.ofChange fnExactPutStoneSpec)) fnExactPutStoneCard

/-- THE TIED CARD OF 'laws.FnExactTakeStone'. -/
def fnExactTakeStoneCard : Claim7 := { stood := { row := fnExactTakeStoneRow, standIns := [], harness := (true, "f95d52477c0342dfee84a5b378859e9ddc874cedbd871c64c61321d160b27a4e"), looks := false }, kinds := [], alts := [], laidByText := true, laidKinds := [.data, .pinned], laidTests := true, laidLooks := .later }
def FnExactTakeStoneCardSaid : Prop := Claim7.holds Tryd.pinned (.plain (OpenSpec.ofChange fnExactTakeStoneSpec)) fnExactTakeStoneCard

/-- THE TIED CARD OF 'laws.FnExactMirrorRiver'. -/
def fnExactMirrorRiverCard : Claim7 := { stood := { row := fnExactMirrorRiverRow, standIns := [], harness := (true, "f95d52477c0342dfee84a5b378859e9ddc874cedbd871c64c61321d160b27a4e"), looks := false }, kinds := [], alts := [], laidByText := true, laidKinds := [.data, .pinned], laidTests := true, laidLooks := .later }
def FnExactMirrorRiverCardSaid : Prop := Claim7.holds Tryd.pinned (.plain (OpenSpec.ofChange fnExactMirrorRiverSpec)) fnExactMirrorRiverCard

/-- THE TIED CARD OF 'laws.FnExactStonesOf'. -/
def fnExactStonesOfCard : Claim7 := { stood := { row := fnExactStonesOfRow, standIns := [], harness := (true, "f95d52477c0342dfee84a5b378859e9ddc874cedbd871c64c61321d160b27a4e"), looks := false }, kinds := [], alts := [], laidByText := true, laidKinds := [.data, .pinned], laidTests := true, laidLooks := .later }
def FnExactStonesOfCardSaid : Prop := Claim7.holds Tryd.pinned (.plain (OpenSpec.ofChange fnExactStonesOfSpec)) fnExactStonesOfCard

/-- THE TIED CARD OF 'laws.FnExactLongestGap'. -/
def fnExactLongestGapCard : Claim7 := { stood := { row := fnExactLongestGapRow, standIns := [], harness := (true, "f95d52477c0342dfee84a5b378859e9ddc874cedbd871c64c61321d160b27a4e"), looks := false }, kinds := [], alts := [], laidByText := true, laidKinds := [.data, .pinned], laidTests := true, laidLooks := .later }
def FnExactLongestGapCardSaid : Prop := Claim7.holds Tryd.pinned (.plain (OpenSpec.ofChange fnExactLongestGapSpec)) fnExactLongestGapCard

/-- THE TIED CARD OF 'laws.FnExactLeastLeap'. -/
def fnExactLeastLeapCard : Claim7 := { stood := { row := fnExactLeastLeapRow, standIns := [], harness := (true, "f95d52477c0342dfee84a5b378859e9ddc874cedbd871c64c61321d160b27a4e"), looks := false }, kinds := [], alts := [], laidByText := true, laidKinds := [.data, .pinned], laidTests := true, laidLooks := .later }
def FnExactLeastLeapCardSaid : Prop := Claim7.holds Tryd.pinned (.plain (OpenSpec.ofChange fnExactLeastLeapSpec)) fnExactLeastLeapCard

/-- THE TIED CARD OF 'laws.FnExactLeapAlong'. -/
def fnExactLeapAlongCard : Claim7 := { stood := { row := fnExactLeapAlongRow, standIns := [], harness := (true, "f95d52477c0342dfee84a5b378859e9ddc874cedbd871c64c61321d160b27a4e"), looks := false }, kinds := [], alts := [], laidByText := true, laidKinds := [.data, .pinned], laidTests := true, laidLooks := .later }
def FnExactLeapAlongCardSaid : Prop := Claim7.holds Tryd.pinned (.plain (OpenSpec.ofChange fnExactLeapAlongSpec)) fnExactLeapAlongCard

/-- THE TIED CARD OF 'laws.FnExactReachOf'. -/
def fnExactReachOfCard : Claim7 := { stood := { row := fnExactReachOfRow, standIns := [], harness := (true, "f95d52477c0342dfee84a5b378859e9ddc874cedbd871c64c61321d160b27a4e"), looks := false }, kinds := [], alts := [], laidByText := true, laidKinds := [.data, .pinned], laidTests := true, laidLooks := .later }
def FnExactReachOfCardSaid : Prop := Claim7.holds Tryd.pinned (.plain (OpenSpec.ofChange fnExactReachOfSpec)) fnExactReachOfCard

/-- THE TIED CARD OF 'laws.FnExactFewestToAdd'. -/
def fnExactFewestToAddCard : Claim7 := { stood := { row := fnExactFewestToAddRow, standIns := [], harness := (true, "f95d52477c0342dfee84a5b378859e9ddc874cedbd871c64c61321d160b27a4e"), looks := false }, kinds := [], alts := [], laidByText := true, laidKinds := [.data, .pinned], laidTests := true, laidLooks := .later }
def FnExactFewestToAddCardSaid : Prop := Claim7.holds Tryd.pinned (.plain (OpenSpec.ofChange fnExactFewestToAddSpec)) fnExactFewestToAddCard

/-- THE TIED CARD OF 'laws.FnExactStonesToAdd'. -/
def fnExactStonesToAddCard : Claim7 := { stood := { row := fnExactStonesToAddRow, standIns := [], harness := (true, "f95d52477c0342dfee84a5b378859e9ddc874cedbd871c64c61321d160b27a4e"), looks := false }, kinds := [], alts := [], laidByText := true, laidKinds := [.data, .pinned], laidTests := true, laidLooks := .later }
def FnExactStonesToAddCardSaid : Prop := Claim7.holds Tryd.pinned (.plain (OpenSpec.ofChange fnExactStonesToAddSpec)) fnExactStonesToAddCard

/-- THE SECOND FORM's CARD OF 'laws.FnExactIsRiver'. -/
def fnExactIsRiverUptoCard : Claim7 := { stood := { row := fnExactIsRiverUptoRow, standIns := [], harness := (true, "f95d52477c0342dfee84a5b378859e9ddc874cedbd871c64c61321d160b27a4e"), looks := false }, kinds := [], alts := [], laidByText := true, laidKinds := [.data, .pinned], laidTests := true, laidLooks := .later }
def FnExactIsRiverUptoCardSaid : Prop := Claim7.holds Tryd.pinned (.plain (OpenSpec.upto fnExactIsRiverSpec)) fnExactIsRiverUptoCard

/-- THE SECOND FORM's CARD OF 'laws.FnExactJoinRivers'. -/
def fnExactJoinRiversUptoCard : Claim7 := { stood := { row := fnExactJoinRiversUptoRow, standIns := [], harness := (true, "f95d52477c0342dfee84a5b378859e9ddc874cedbd871c64c61321d160b27a4e"), looks := false }, kinds := [], alts := [], laidByText := true, laidKinds := [.data, .pinned], laidTests := true, laidLooks := .later }
def FnExactJoinRiversUptoCardSaid : Prop := Claim7.holds Tryd.pinned (.plain (OpenSpec.upto fnExactJoinRiversSpec)) fnExactJoinRiversUptoCard

/-- THE SECOND FORM's CARD OF 'laws.FnExactPutStone'. -/
def fnExactPutStoneUptoCard : Claim7 := { stood := { row := fnExactPutStoneUptoRow, standIns := [], harness := (true, "f95d52477c0342dfee84a5b378859e9ddc874cedbd871c64c61321d160b27a4e"), looks := false }, kinds := [], alts := [], laidByText := true, laidKinds := [.data, .pinned], laidTests := true, laidLooks := .later }
def FnExactPutStoneUptoCardSaid : Prop := Claim7.holds Tryd.pinned (.plain (OpenSpec.upto fnExactPutStoneSpec)) fnExactPutStoneUptoCard

/-- THE SECOND FORM's CARD OF 'laws.FnExactTakeStone'. -/
def fnExactTakeStoneUptoCard : Claim7 := { stood := { row := fnExactTakeStoneUptoRow, standIns := [], harness := (true, "f95d52477c0342dfee84a5b378859e9ddc874cedbd871c64c61321d160b27a4e"), looks := false }, kinds := [], alts := [], laidByText := true, laidKinds := [.data, .pinned], laidTests := true, laidLooks := .later }
def FnExactTakeStoneUptoCardSaid : Prop := Claim7.holds Tryd.pinned (.plain (OpenSpec.upto fnExactTakeStoneSpec)) fnExactTakeStoneUptoCard

/-- THE SECOND FORM's CARD OF 'laws.FnExactMirrorRiver'. -/
def fnExactMirrorRiverUptoCard : Claim7 := { stood := { row := fnExactMirrorRiverUptoRow, standIns := [], harness := (true, "f95d52477c0342dfee84a5b378859e9ddc874cedbd871c64c61321d160b27a4e"), looks := false }, kinds := [], alts := [], laidByText := true, laidKinds := [.data, .pinned], laidTests := true, laidLooks := .later }
def FnExactMirrorRiverUptoCardSaid : Prop := Claim7.holds Tryd.pinned (.plain (OpenSpec.upto fnExactMirrorRiverSpec)) fnExactMirrorRiverUptoCard

/-- THE SECOND FORM's CARD OF 'laws.FnExactStonesOf'. -/
def fnExactStonesOfUptoCard : Claim7 := { stood := { row := fnExactStonesOfUptoRow, standIns := [], harness := (true, "f95d52477c0342dfee84a5b378859e9ddc874cedbd871c64c61321d160b27a4e"), looks := false }, kinds := [], alts := [], laidByText := true, laidKinds := [.data, .pinned], laidTests := true, laidLooks := .later }
def FnExactStonesOfUptoCardSaid : Prop := Claim7.holds Tryd.pinned (.plain (OpenSpec.upto fnExactStonesOfSpec)) fnExactStonesOfUptoCard

/-- THE SECOND FORM's CARD OF 'laws.FnExactLongestGap'. -/
def fnExactLongestGapUptoCard : Claim7 := { stood := { row := fnExactLongestGapUptoRow, standIns := [], harness := (true, "f95d52477c0342dfee84a5b378859e9ddc874cedbd871c64c61321d160b27a4e"), looks := false }, kinds := [], alts := [], laidByText := true, laidKinds := [.data, .pinned], laidTests := true, laidLooks := .later }
def FnExactLongestGapUptoCardSaid : Prop := Claim7.holds Tryd.pinned (.plain (OpenSpec.upto fnExactLongestGapSpec)) fnExactLongestGapUptoCard

/-- THE SECOND FORM's CARD OF 'laws.FnExactLeastLeap'. -/
def fnExactLeastLeapUptoCard : Claim7 := { stood := { row := fnExactLeastLeapUptoRow, standIns := [], harness := (true, "f95d52477c0342dfee84a5b378859e9ddc874cedbd871c64c61321d160b27a4e"), looks := false }, kinds := [], alts := [], laidByText := true, laidKinds := [.data, .pinned], laidTests := true, laidLooks := .later }
def FnExactLeastLeapUptoCardSaid : Prop := Claim7.holds Tryd.pinned (.plain (OpenSpec.upto fnExactLeastLeapSpec)) fnExactLeastLeapUptoCard

/-- THE SECOND FORM's CARD OF 'laws.FnExactLeapAlong'. -/
def fnExactLeapAlongUptoCard : Claim7 := { stood := { row := fnExactLeapAlongUptoRow, standIns := [], harness := (true, "f95d52477c0342dfee84a5b378859e9ddc874cedbd871c64c61321d160b27a4e"), looks := false }, kinds := [], alts := [], laidByText := true, laidKinds := [.data, .pinned], laidTests := true, laidLooks := .later }
def FnExactLeapAlongUptoCardSaid : Prop := Claim7.holds Tryd.pinned (.plain (OpenSpec.upto fnExactLeapAlongSpec)) fnExactLeapAlongUptoCard

/-- THE SECOND FORM's CARD OF 'laws.FnExactReachOf'. -/
def fnExactReachOfUptoCard : Claim7 := { stood := { row := fnExactReachOfUptoRow, standIns := [], harness := (true, "f95d52477c0342dfee84a5b378859e9ddc874cedbd871c64c61321d160b27a4e"), looks := false }, kinds := [], alts := [], laidByText := true, laidKinds := [.data, .pinned], laidTests := true, laidLooks := .later }
def FnExactReachOfUptoCardSaid : Prop := Claim7.holds Tryd.pinned (.plain (OpenSpec.upto fnExactReachOfSpec)) fnExactReachOfUptoCard

/-- THE SECOND FORM's CARD OF 'laws.FnExactFewestToAdd'. -/
def fnExactFewestToAddUptoCard : Claim7 := { stood := { row := fnExactFewestToAddUptoRow, standIns := [], harness := (true, "f95d52477c0342dfee84a5b378859e9ddc874cedbd871c64c61321d160b27a4e"), looks := false }, kinds := [], alts := [], laidByText := true, laidKinds := [.data, .pinned], laidTests := true, laidLooks := .later }
def FnExactFewestToAddUptoCardSaid : Prop := Claim7.holds Tryd.pinned (.plain (OpenSpec.upto fnExactFewestToAddSpec)) fnExactFewestToAddUptoCard

/-- THE SECOND FORM's CARD OF 'laws.FnExactStonesToAdd'. -/
def fnExactStonesToAddUptoCard : Claim7 := { stood := { row := fnExactStonesToAddUptoRow, standIns := [], harness := (true, "f95d52477c0342dfee84a5b378859e9ddc874cedbd871c64c61321d160b27a4e"), looks := false }, kinds := [], alts := [], laidByText := true, laidKinds := [.data, .pinned], laidTests := true, laidLooks := .later }
def FnExactStonesToAddUptoCardSaid : Prop := Claim7.holds Tryd.pinned (.plain (OpenSpec.upto fnExactStonesToAddSpec)) fnExactStonesToAddUptoCard
end Rows
end Go.Proofs.YtencfkhncjeibaaDoor
