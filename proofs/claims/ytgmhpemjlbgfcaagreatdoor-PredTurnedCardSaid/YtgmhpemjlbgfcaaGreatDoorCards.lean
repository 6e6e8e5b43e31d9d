/-
  DERIVED. GIVEN WITH THE SEED: THE CARDS: each row of YtgmhpemjlbgfcaaGreatDoorRows.lean that lists a variable, with what it lists TIED to the program's text (the seventh form; the later family's looks); each row that meets fmt, with fmt's text TOLD by the authors' own Lean function (tested against real Go, not proved from fmt's source: count such statements apart). THE CARD IS WHAT COUNTS. Prove the row's statement (the work); the ties are given (YtgmhpemjlbgfcaaGreatDoorTie.lean); close each card by the builder's one call (the guide's Derived/Test/ToyasCard.lean, 'card_holds'). Laid BY PROGRAM, IN A SANDBOX (cutbox-door.mjs). By AI agents, Wed Nov 11 2026. No macro, syntax, notation, axiom, sorry.
-/
import Derived.Test.YtgmhpemjlbgfcaaGreatDoorRows
import GoSem.ClaimSeven
namespace Go.Proofs.YtgmhpemjlbgfcaaGreatDoor
namespace Rows

/-- THE TIED CARD OF 'placketlaw17.PredTruths'. -/
def predTruthsCard : Claim7 := { stood := { row := predTruthsRow, standIns := [], harness := (true, "371d459cc26d4d61963cf3752a80fd9edd2868a96cb24883440bbd2b5cc03c62"), looks := true }, kinds := [], alts := [], laidByText := true, laidKinds := [.data, .handle, .data, .data, .data], laidTests := true, laidLooks := .later }
def PredTruthsCardSaid : Prop := Claim7.holds Tryz.pinned (.plain (OpenSpec.ofChange predTruthsSpec)) predTruthsCard

/-- THE TIED CARD OF 'placketlaw17.PredTurned'. -/
def predTurnedCard : Claim7 := { stood := { row := predTurnedRow, standIns := [], harness := (true, "371d459cc26d4d61963cf3752a80fd9edd2868a96cb24883440bbd2b5cc03c62"), looks := true }, kinds := [], alts := [], laidByText := true, laidKinds := [.data, .handle, .data, .data, .data], laidTests := true, laidLooks := .later }
def PredTurnedCardSaid : Prop := Claim7.holds Tryz.pinned (.plain (OpenSpec.ofChange predTurnedSpec)) predTurnedCard

/-- THE TIED CARD OF 'placketlaw17.PredPaths'. -/
def predPathsCard : Claim7 := { stood := { row := predPathsRow, standIns := [], harness := (true, "371d459cc26d4d61963cf3752a80fd9edd2868a96cb24883440bbd2b5cc03c62"), looks := true }, kinds := [], alts := [], laidByText := true, laidKinds := [.data, .handle, .data, .data, .data], laidTests := true, laidLooks := .later }
def PredPathsCardSaid : Prop := Claim7.holds Tryz.pinned (.plain (OpenSpec.ofChange predPathsSpec)) predPathsCard

/-- THE TIED CARD OF 'placketlaw17.PredChecks'. -/
def predChecksCard : Claim7 := { stood := { row := predChecksRow, standIns := [], harness := (true, "371d459cc26d4d61963cf3752a80fd9edd2868a96cb24883440bbd2b5cc03c62"), looks := true }, kinds := [], alts := [], laidByText := true, laidKinds := [.data, .handle, .data, .data, .data], laidTests := true, laidLooks := .later }
def PredChecksCardSaid : Prop := Claim7.holds Tryz.pinned (.plain (OpenSpec.ofChange predChecksSpec)) predChecksCard

/-- THE TIED CARD OF 'placketlaw17.PredParses'. -/
def predParsesCard : Claim7 := { stood := { row := predParsesRow, standIns := [], harness := (true, "371d459cc26d4d61963cf3752a80fd9edd2868a96cb24883440bbd2b5cc03c62"), looks := true }, kinds := [], alts := [], laidByText := true, laidKinds := [.data, .handle, .data, .data, .data], laidTests := true, laidLooks := .later }
def PredParsesCardSaid : Prop := Claim7.holds Tryz.pinned (.plain (OpenSpec.ofChange predParsesSpec)) predParsesCard

/-- THE TIED CARD OF 'placketlaw17.PredHolds'. -/
def predHoldsCard : Claim7 := { stood := { row := predHoldsRow, standIns := [], harness := (true, "371d459cc26d4d61963cf3752a80fd9edd2868a96cb24883440bbd2b5cc03c62"), looks := true }, kinds := [], alts := [], laidByText := true, laidKinds := [.data, .handle, .data, .data, .data], laidTests := true, laidLooks := .later }
def PredHoldsCardSaid : Prop := Claim7.holds Tryz.pinned (.plain (OpenSpec.ofChange predHoldsSpec)) predHoldsCard

/-- THE TIED CARD OF 'placketlaw17.PredAgain'. -/
def predAgainCard : Claim7 := { stood := { row := predAgainRow, standIns := [], harness := (true, "371d459cc26d4d61963cf3752a80fd9edd2868a96cb24883440bbd2b5cc03c62"), looks := true }, kinds := [], alts := [], laidByText := true, laidKinds := [.data, .handle, .data, .data, .data], laidTests := true, laidLooks := .later }
def PredAgainCardSaid : Prop := Claim7.holds Tryz.pinned (.plain (OpenSpec.ofChange predAgainSpec)) predAgainCard

/-- THE SECOND FORM's CARD OF 'placketlaw17.PredTruths'. -/
def predTruthsUptoCard : Claim7 := { stood := { row := predTruthsUptoRow, standIns := [], harness := (true, "371d459cc26d4d61963cf3752a80fd9edd2868a96cb24883440bbd2b5cc03c62"), looks := true }, kinds := [], alts := [], laidByText := true, laidKinds := [.data, .handle, .data, .data, .data], laidTests := true, laidLooks := .later }
def PredTruthsUptoCardSaid : Prop := Claim7.holds Tryz.pinned (.plain (OpenSpec.upto predTruthsSpec)) predTruthsUptoCard

/-- THE SECOND FORM's CARD OF 'placketlaw17.PredTurned'. -/
def predTurnedUptoCard : Claim7 := { stood := { row := predTurnedUptoRow, standIns := [], harness := (true, "371d459cc26d4d61963cf3752a80fd9edd2868a96cb24883440bbd2b5cc03c62"), looks := true }, kinds := [], alts := [], laidByText := true, laidKinds := [.data, .handle, .data, .data, .data], laidTests := true, laidLooks := .later }
def PredTurnedUptoCardSaid : Prop := Claim7.holds Tryz.pinned (.plain (OpenSpec.upto predTurnedSpec)) predTurnedUptoCard

/-- THE SECOND FORM's CARD OF 'placketlaw17.PredPaths'. -/
def predPathsUptoCard : Claim7 := { stood := { row := predPathsUptoRow, standIns := [], harness := (true, "371d459cc26d4d61963cf3752a80fd9edd2868a96cb24883440bbd2b5cc03c62"), looks := true }, kinds := [], alts := [], laidByText := true, laidKinds := [.data, .handle, .data, .data, .data], laidTests := true, laidLooks := .later }
def PredPathsUptoCardSaid : Prop := Claim7.holds Tryz.pinned (.plain (OpenSpec.upto predPathsSpec)) predPathsUptoCard

/-- THE SECOND FORM's CARD OF 'placketlaw17.PredChecks'. -/
def predChecksUptoCard : Claim7 := { stood := { row := predChecksUptoRow, standIns := [], harness := (true, "371d459cc26d4d61963cf3752a80fd9edd2868a96cb24883440bbd2b5cc03c62"), looks := true }, kinds := [], alts := [], laidByText := true, laidKinds := [.data, .handle, .data, .data, .data], laidTests := true, laidLooks := .later }
def PredChecksUptoCardSaid : Prop := Claim7.holds Tryz.pinned (.plain (OpenSpec.upto predChecksSpec)) predChecksUptoCard

/-- THE SECOND FORM's CARD OF 'placketlaw17.PredParses'. -/
def predParsesUptoCard : Claim7 := { stood := { row := predParsesUptoRow, standIns := [], harness := (true, "371d459cc26d4d61963cf3752a80fd9edd2868a96cb24883440bbd2b5cc03c62"), looks := true }, kinds := [], alts := [], laidByText := true, laidKinds := [.data, .handle, .data, .data, .data], laidTests := true, laidLooks := .later }
def PredParsesUptoCardSaid : Prop := Claim7.holds Tryz.pinned (.plain (OpenSpec.upto predParsesSpec)) predParsesUptoCard

/-- THE SECOND FORM's CARD OF 'placketlaw17.PredHolds'. -/
def predHoldsUptoCard : Claim7 := { stood := { row := predHoldsUptoRow, standIns := [], harness := (true, "371d459cc26d4d61963cf3752a80fd9edd2868a96cb24883440bbd2b5cc03c62"), looks := true }, kinds := [], alts := [], laidByText := true, laidKinds := [.data, .handle, .data, .data, .data], laidTests := true, laidLooks := .later }
def PredHoldsUptoCardSaid : Prop := Claim7.holds Tryz.pinned (.plain (OpenSpec.upto predHoldsSpec)) predHoldsUptoCard

/-- THE SECOND FORM's CARD OF 'placketlaw17.PredAgain'. -/
def predAgainUptoCard : Claim7 := { stood := { row := predAgainUptoRow, standIns := [], harness := (true, "371d459cc26d4d61963cf3752a80fd9edd2868a96cb24883440bbd2b5cc03c62"), looks := true }, kinds := [], alts := [], laidByText := true, laidKinds := [.data, .handle, .data, .data, .data], laidTests := true, laidLooks := .later }
def PredAgainUptoCardSaid : Prop := Claim7.holds Tryz.pinned (.plain (OpenSpec.upto predAgainSpec)) predAgainUptoCard
end Rows
end Go.Proofs.YtgmhpemjlbgfcaaGreatDoor
