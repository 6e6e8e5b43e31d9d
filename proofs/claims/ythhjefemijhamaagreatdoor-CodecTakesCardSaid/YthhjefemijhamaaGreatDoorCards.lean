/-
  DERIVED. GIVEN WITH THE SEED: THE CARDS: each row of YthhjefemijhamaaGreatDoorRows.lean that lists a variable, with what it lists TIED to the program's text (the seventh form; the later family's looks); each row that meets fmt, with fmt's text TOLD by the authors' own Lean function (tested against real Go, not proved from fmt's source: count such statements apart). THE CARD IS WHAT COUNTS. Prove the row's statement (the work); the ties are given (YthhjefemijhamaaGreatDoorTie.lean); close each card by the builder's one call (the guide's Derived/Test/ToyasCard.lean, 'card_holds'). Laid BY PROGRAM, IN A SANDBOX (cutbox-door.mjs). By AI agents, Wed Nov 11 2026. No macro, syntax, notation, axiom, sorry.
-/
import Derived.Test.YthhjefemijhamaaGreatDoorRows
import GoSem.ClaimSeven
namespace Go.Proofs.YthhjefemijhamaaGreatDoor
namespace Rows

/-- THE TIED CARD OF 'placketlaw14.CodecEncodes'. -/
def codecEncodesCard : Claim7 := { stood := { row := codecEncodesRow, standIns := [], harness := (true, "e67ccfa62237e6685f20446187897d0df9852adc6047ae00871251c2f933476a"), looks := true }, kinds := [], alts := [], laidByText := true, laidKinds := [.data, .handle, .data], laidTests := true, laidLooks := .later }
def CodecEncodesCardSaid : Prop := Claim7.holds Tryz.pinned (.plain (OpenSpec.ofChange codecEncodesSpec)) codecEncodesCard

/-- THE TIED CARD OF 'placketlaw14.CodecCanon'. -/
def codecCanonCard : Claim7 := { stood := { row := codecCanonRow, standIns := [], harness := (true, "e67ccfa62237e6685f20446187897d0df9852adc6047ae00871251c2f933476a"), looks := true }, kinds := [], alts := [], laidByText := true, laidKinds := [.data, .handle, .data], laidTests := true, laidLooks := .later }
def CodecCanonCardSaid : Prop := Claim7.holds Tryz.pinned (.plain (OpenSpec.ofChange codecCanonSpec)) codecCanonCard

/-- THE TIED CARD OF 'placketlaw14.CodecDeep'. -/
def codecDeepCard : Claim7 := { stood := { row := codecDeepRow, standIns := [], harness := (true, "e67ccfa62237e6685f20446187897d0df9852adc6047ae00871251c2f933476a"), looks := true }, kinds := [], alts := [], laidByText := true, laidKinds := [.data, .handle, .data], laidTests := true, laidLooks := .later }
def CodecDeepCardSaid : Prop := Claim7.holds Tryz.pinned (.plain (OpenSpec.ofChange codecDeepSpec)) codecDeepCard

/-- THE TIED CARD OF 'placketlaw14.CodecMany'. -/
def codecManyCard : Claim7 := { stood := { row := codecManyRow, standIns := [], harness := (true, "e67ccfa62237e6685f20446187897d0df9852adc6047ae00871251c2f933476a"), looks := true }, kinds := [], alts := [], laidByText := true, laidKinds := [.data, .handle, .data], laidTests := true, laidLooks := .later }
def CodecManyCardSaid : Prop := Claim7.holds Tryz.pinned (.plain (OpenSpec.ofChange codecManySpec)) codecManyCard

/-- THE TIED CARD OF 'placketlaw14.CodecOne'. -/
def codecOneCard : Claim7 := { stood := { row := codecOneRow, standIns := [], harness := (true, "e67ccfa62237e6685f20446187897d0df9852adc6047ae00871251c2f933476a"), looks := true }, kinds := [], alts := [], laidByText := true, laidKinds := [.data, .handle, .data], laidTests := true, laidLooks := .later }
def CodecOneCardSaid : Prop := Claim7.holds Tryz.pinned (.plain (OpenSpec.ofChange codecOneSpec)) codecOneCard

/-- THE TIED CARD OF 'placketlaw14.CodecCut'. -/
def codecCutCard : Claim7 := { stood := { row := codecCutRow, standIns := [], harness := (true, "e67ccfa62237e6685f20446187897d0df9852adc6047ae00871251c2f933476a"), looks := true }, kinds := [], alts := [], laidByText := true, laidKinds := [.data, .handle, .data], laidTests := true, laidLooks := .later }
def CodecCutCardSaid : Prop := Claim7.holds Tryz.pinned (.plain (OpenSpec.ofChange codecCutSpec)) codecCutCard

/-- THE TIED CARD OF 'placketlaw14.CodecParses'. -/
def codecParsesCard : Claim7 := { stood := { row := codecParsesRow, standIns := [], harness := (true, "e67ccfa62237e6685f20446187897d0df9852adc6047ae00871251c2f933476a"), looks := true }, kinds := [], alts := [], laidByText := true, laidKinds := [.data, .handle, .data], laidTests := true, laidLooks := .later }
def CodecParsesCardSaid : Prop := Claim7.holds Tryz.pinned (.plain (OpenSpec.ofChange codecParsesSpec)) codecParsesCard

/-- THE TIED CARD OF 'placketlaw14.CodecTakes'. -/
def codecTakesCard : Claim7 := { stood := { row := codecTakesRow, standIns := [], harness := (true, "e67ccfa62237e6685f20446187897d0df9852adc6047ae00871251c2f933476a"), looks := true }, kinds := [], alts := [], laidByText := true, laidKinds := [.data, .handle, .data], laidTests := true, laidLooks := .later }
def CodecTakesCardSaid : Prop := Claim7.holds Tryz.pinned (.plain (OpenSpec.ofChange codecTakesSpec)) codecTakesCard

/-- THE TIED CARD OF 'placketlaw14.CodecBack'. -/
def codecBackCard : Claim7 := { stood := { row := codecBackRow, standIns := [], harness := (true, "e67ccfa62237e6685f20446187897d0df9852adc6047ae00871251c2f933476a"), looks := true }, kinds := [], alts := [], laidByText := true, laidKinds := [.data, .handle, .data], laidTests := true, laidLooks := .later }
def CodecBackCardSaid : Prop := Claim7.holds Tryz.pinned (.plain (OpenSpec.ofChange codecBackSpec)) codecBackCard

/-- THE TIED CARD OF 'placketlaw14.CodecBlanks'. -/
def codecBlanksCard : Claim7 := { stood := { row := codecBlanksRow, standIns := [], harness := (true, "e67ccfa62237e6685f20446187897d0df9852adc6047ae00871251c2f933476a"), looks := true }, kinds := [], alts := [], laidByText := true, laidKinds := [.data, .handle, .data], laidTests := true, laidLooks := .later }
def CodecBlanksCardSaid : Prop := Claim7.holds Tryz.pinned (.plain (OpenSpec.ofChange codecBlanksSpec)) codecBlanksCard

/-- THE SECOND FORM's CARD OF 'placketlaw14.CodecEncodes'. -/
def codecEncodesUptoCard : Claim7 := { stood := { row := codecEncodesUptoRow, standIns := [], harness := (true, "e67ccfa62237e6685f20446187897d0df9852adc6047ae00871251c2f933476a"), looks := true }, kinds := [], alts := [], laidByText := true, laidKinds := [.data, .handle, .data], laidTests := true, laidLooks := .later }
def CodecEncodesUptoCardSaid : Prop := Claim7.holds Tryz.pinned (.plain (OpenSpec.upto codecEncodesSpec)) codecEncodesUptoCard

/-- THE SECOND FORM's CARD OF 'placketlaw14.CodecCanon'. -/
def codecCanonUptoCard : Claim7 := { stood := { row := codecCanonUptoRow, standIns := [], harness := (true, "e67ccfa62237e6685f20446187897d0df9852adc6047ae00871251c2f933476a"), looks := true }, kinds := [], alts := [], laidByText := true, laidKinds := [.data, .handle, .data], laidTests := true, laidLooks := .later }
def CodecCanonUptoCardSaid : Prop := Claim7.holds Tryz.pinned (.plain (OpenSpec.upto codecCanonSpec)) codecCanonUptoCard

/-- THE SECOND FORM's CARD OF 'placketlaw14.CodecDeep'. -/
def codecDeepUptoCard : Claim7 := { stood := { row := codecDeepUptoRow, standIns := [], harness := (true, "e67ccfa62237e6685f20446187897d0df9852adc6047ae00871251c2f933476a"), looks := true }, kinds := [], alts := [], laidByText := true, laidKinds := [.data, .handle, .data], laidTests := true, laidLooks := .later }
def CodecDeepUptoCardSaid : Prop := Claim7.holds Tryz.pinned (.plain (OpenSpec.upto codecDeepSpec)) codecDeepUptoCard

/-- THE SECOND FORM's CARD OF 'placketlaw14.CodecMany'. -/
def codecManyUptoCard : Claim7 := { stood := { row := codecManyUptoRow, standIns := [], harness := (true, "e67ccfa62237e6685f20446187897d0df9852adc6047ae00871251c2f933476a"), looks := true }, kinds := [], alts := [], laidByText := true, laidKinds := [.data, .handle, .data], laidTests := true, laidLooks := .later }
def CodecManyUptoCardSaid : Prop := Claim7.holds Tryz.pinned (.plain (OpenSpec.upto codecManySpec)) codecManyUptoCard

/-- THE SECOND FORM's CARD OF 'placketlaw14.CodecOne'. -/
def codecOneUptoCard : Claim7 := { stood := { row := codecOneUptoRow, standIns := [], harness := (true, "e67ccfa62237e6685f20446187897d0df9852adc6047ae00871251c2f933476a"), looks := true }, kinds := [], alts := [], laidByText := true, laidKinds := [.data, .handle, .data], laidTests := true, laidLooks := .later }
def CodecOneUptoCardSaid : Prop := Claim7.holds Tryz.pinned (.plain (OpenSpec.upto codecOneSpec)) codecOneUptoCard

/-- THE SECOND FORM's CARD OF 'placketlaw14.CodecCut'. -/
def codecCutUptoCard : Claim7 := { stood := { row := codecCutUptoRow, standIns := [], harness := (true, "e67ccfa62237e6685f20446187897d0df9852adc6047ae00871251c2f933476a"), looks := true }, kinds := [], alts := [], laidByText := true, laidKinds := [.data, .handle, .data], laidTests := true, laidLooks := .later }
def CodecCutUptoCardSaid : Prop := Claim7.holds Tryz.pinned (.plain (OpenSpec.upto codecCutSpec)) codecCutUptoCard

/-- THE SECOND FORM's CARD OF 'placketlaw14.CodecParses'. -/
def codecParsesUptoCard : Claim7 := { stood := { row := codecParsesUptoRow, standIns := [], harness := (true, "e67ccfa62237e6685f20446187897d0df9852adc6047ae00871251c2f933476a"), looks := true }, kinds := [], alts := [], laidByText := true, laidKinds := [.data, .handle, .data], laidTests := true, laidLooks := .later }
def CodecParsesUptoCardSaid : Prop := Claim7.holds Tryz.pinned (.plain (OpenSpec.upto codecParsesSpec)) codecParsesUptoCard

/-- THE SECOND FORM's CARD OF 'placketlaw14.CodecTakes'. -/
def codecTakesUptoCard : Claim7 := { stood := { row := codecTakesUptoRow, standIns := [], harness := (true, "e67ccfa62237e6685f20446187897d0df9852adc6047ae00871251c2f933476a"), looks := true }, kinds := [], alts := [], laidByText := true, laidKinds := [.data, .handle, .data], laidTests := true, laidLooks := .later }
def CodecTakesUptoCardSaid : Prop := Claim7.holds Tryz.pinned (.plain (OpenSpec.upto codecTakesSpec)) codecTakesUptoCard

/-- THE SECOND FORM's CARD OF 'placketlaw14.CodecBack'. -/
def codecBackUptoCard : Claim7 := { stood := { row := codecBackUptoRow, standIns := [], harness := (true, "e67ccfa62237e6685f20446187897d0df9852adc6047ae00871251c2f933476a"), looks := true }, kinds := [], alts := [], laidByText := true, laidKinds := [.data, .handle, .data], laidTests := true, laidLooks := .later }
def CodecBackUptoCardSaid : Prop := Claim7.holds Tryz.pinned (.plain (OpenSpec.upto codecBackSpec)) codecBackUptoCard

/-- THE SECOND FORM's CARD OF 'placketlaw14.CodecBlanks'. -/
def codecBlanksUptoCard : Claim7 := { stood := { row := codecBlanksUptoRow, standIns := [], harness := (true, "e67ccfa62237e6685f20446187897d0df9852adc6047ae00871251c2f933476a"), looks := true }, kinds := [], alts := [], laidByText := true, laidKinds := [.data, .handle, .data], laidTests := true, laidLooks := .later }
def CodecBlanksUptoCardSaid : Prop := Claim7.holds Tryz.pinned (.plain (OpenSpec.upto codecBlanksSpec)) codecBlanksUptoCard
end Rows
end Go.Proofs.YthhjefemijhamaaGreatDoor
