/-
  DERIVED. GIVEN WITH THE SEED: THE CARDS: each row of YthejafdkimbddaaGreatDoorRows.lean that lists a variable, with what it lists TIED to the program's text (the seventh form; the later family's looks); each row that meets fmt, with fmt's text TOLD by the authors' own Lean function (tested against real Go, not proved from fmt's source: count such statements apart). THE CARD IS WHAT COUNTS. Prove the row's statement (the work); the ties are given (YthejafdkimbddaaGreatDoorTie.lean); close each card by the builder's one call (the guide's Derived/Test/ToyasCard.lean, 'card_holds'). Laid BY PROGRAM, IN A SANDBOX (cutbox-door.mjs). By AI agents, Wed Nov 11 2026. No macro, syntax, notation, axiom, sorry.
-/
import Derived.Test.YthejafdkimbddaaGreatDoorRows
import GoSem.ClaimSeven
namespace Go.Proofs.YthejafdkimbddaaGreatDoor
namespace Rows

/-- THE TIED CARD OF 'affidavitlaw14.VerifyChecks'. -/
def verifyChecksCard : Claim7 := { stood := { row := verifyChecksRow, standIns := [], harness := (true, "0479827324b48bb45887d0b7eda9a35b6632b3b3d2c53f6e3646124784ca1752"), looks := false }, kinds := [], alts := [], laidByText := true, laidKinds := [.data], laidTests := true, laidLooks := .later }
def VerifyChecksCardSaid : Prop := Claim7.holds Tryz.pinned (.plain (OpenSpec.ofChange verifyChecksSpec)) verifyChecksCard

/-- THE TIED CARD OF 'affidavitlaw14.VerifySteps'. -/
def verifyStepsCard : Claim7 := { stood := { row := verifyStepsRow, standIns := [], harness := (true, "0479827324b48bb45887d0b7eda9a35b6632b3b3d2c53f6e3646124784ca1752"), looks := false }, kinds := [], alts := [], laidByText := true, laidKinds := [.data], laidTests := true, laidLooks := .later }
def VerifyStepsCardSaid : Prop := Claim7.holds Tryz.pinned (.plain (OpenSpec.ofChange verifyStepsSpec)) verifyStepsCard

/-- THE TIED CARD OF 'affidavitlaw14.VerifyHonest'. -/
def verifyHonestCard : Claim7 := { stood := { row := verifyHonestRow, standIns := [], harness := (true, "0479827324b48bb45887d0b7eda9a35b6632b3b3d2c53f6e3646124784ca1752"), looks := false }, kinds := [], alts := [], laidByText := true, laidKinds := [.data], laidTests := true, laidLooks := .later }
def VerifyHonestCardSaid : Prop := Claim7.holds Tryz.pinned (.plain (OpenSpec.ofChange verifyHonestSpec)) verifyHonestCard

/-- THE TIED CARD OF 'affidavitlaw14.VerifyTurned'. -/
def verifyTurnedCard : Claim7 := { stood := { row := verifyTurnedRow, standIns := [], harness := (true, "0479827324b48bb45887d0b7eda9a35b6632b3b3d2c53f6e3646124784ca1752"), looks := false }, kinds := [], alts := [], laidByText := true, laidKinds := [.data], laidTests := true, laidLooks := .later }
def VerifyTurnedCardSaid : Prop := Claim7.holds Tryz.pinned (.plain (OpenSpec.ofChange verifyTurnedSpec)) verifyTurnedCard

/-- THE TIED CARD OF 'affidavitlaw14.VerifyMade'. -/
def verifyMadeCard : Claim7 := { stood := { row := verifyMadeRow, standIns := [], harness := (true, "0479827324b48bb45887d0b7eda9a35b6632b3b3d2c53f6e3646124784ca1752"), looks := false }, kinds := [], alts := [], laidByText := true, laidKinds := [.data], laidTests := true, laidLooks := .later }
def VerifyMadeCardSaid : Prop := Claim7.holds Tryz.pinned (.plain (OpenSpec.ofChange verifyMadeSpec)) verifyMadeCard

/-- THE TIED CARD OF 'affidavitlaw15.UstorHonest'. -/
def ustorHonestCard : Claim7 := { stood := { row := ustorHonestRow, standIns := [], harness := (true, "0479827324b48bb45887d0b7eda9a35b6632b3b3d2c53f6e3646124784ca1752"), looks := false }, kinds := [], alts := [], laidByText := true, laidKinds := [.data], laidTests := true, laidLooks := .later }
def UstorHonestCardSaid : Prop := Claim7.holds Tryz.pinned (.plain (OpenSpec.ofChange ustorHonestSpec)) ustorHonestCard

/-- THE TIED CARD OF 'affidavitlaw15.UstorDoes'. -/
def ustorDoesCard : Claim7 := { stood := { row := ustorDoesRow, standIns := [], harness := (true, "0479827324b48bb45887d0b7eda9a35b6632b3b3d2c53f6e3646124784ca1752"), looks := false }, kinds := [], alts := [], laidByText := true, laidKinds := [.data], laidTests := true, laidLooks := .later }
def UstorDoesCardSaid : Prop := Claim7.holds Tryz.pinned (.plain (OpenSpec.ofChange ustorDoesSpec)) ustorDoesCard

/-- THE TIED CARD OF 'affidavitlaw15.UstorOnes'. -/
def ustorOnesCard : Claim7 := { stood := { row := ustorOnesRow, standIns := [], harness := (true, "0479827324b48bb45887d0b7eda9a35b6632b3b3d2c53f6e3646124784ca1752"), looks := false }, kinds := [], alts := [], laidByText := true, laidKinds := [.data], laidTests := true, laidLooks := .later }
def UstorOnesCardSaid : Prop := Claim7.holds Tryz.pinned (.plain (OpenSpec.ofChange ustorOnesSpec)) ustorOnesCard

/-- THE TIED CARD OF 'affidavitlaw15.UstorAgain'. -/
def ustorAgainCard : Claim7 := { stood := { row := ustorAgainRow, standIns := [], harness := (true, "0479827324b48bb45887d0b7eda9a35b6632b3b3d2c53f6e3646124784ca1752"), looks := false }, kinds := [], alts := [], laidByText := true, laidKinds := [.data], laidTests := true, laidLooks := .later }
def UstorAgainCardSaid : Prop := Claim7.holds Tryz.pinned (.plain (OpenSpec.ofChange ustorAgainSpec)) ustorAgainCard

/-- THE SECOND FORM's CARD OF 'affidavitlaw14.VerifyChecks'. -/
def verifyChecksUptoCard : Claim7 := { stood := { row := verifyChecksUptoRow, standIns := [], harness := (true, "0479827324b48bb45887d0b7eda9a35b6632b3b3d2c53f6e3646124784ca1752"), looks := false }, kinds := [], alts := [], laidByText := true, laidKinds := [.data], laidTests := true, laidLooks := .later }
def VerifyChecksUptoCardSaid : Prop := Claim7.holds Tryz.pinned (.plain (OpenSpec.upto verifyChecksSpec)) verifyChecksUptoCard

/-- THE SECOND FORM's CARD OF 'affidavitlaw14.VerifySteps'. -/
def verifyStepsUptoCard : Claim7 := { stood := { row := verifyStepsUptoRow, standIns := [], harness := (true, "0479827324b48bb45887d0b7eda9a35b6632b3b3d2c53f6e3646124784ca1752"), looks := false }, kinds := [], alts := [], laidByText := true, laidKinds := [.data], laidTests := true, laidLooks := .later }
def VerifyStepsUptoCardSaid : Prop := Claim7.holds Tryz.pinned (.plain (OpenSpec.upto verifyStepsSpec)) verifyStepsUptoCard

/-- THE SECOND FORM's CARD OF 'affidavitlaw14.VerifyHonest'. -/
def verifyHonestUptoCard : Claim7 := { stood := { row := verifyHonestUptoRow, standIns := [], harness := (true, "0479827324b48bb45887d0b7eda9a35b6632b3b3d2c53f6e3646124784ca1752"), looks := false }, kinds := [], alts := [], laidByText := true, laidKinds := [.data], laidTests := true, laidLooks := .later }
def VerifyHonestUptoCardSaid : Prop := Claim7.holds Tryz.pinned (.plain (OpenSpec.upto verifyHonestSpec)) verifyHonestUptoCard

/-- THE SECOND FORM's CARD OF 'affidavitlaw14.VerifyTurned'. -/
def verifyTurnedUptoCard : Claim7 := { stood := { row := verifyTurnedUptoRow, standIns := [], harness := (true, "0479827324b48bb45887d0b7eda9a35b6632b3b3d2c53f6e3646124784ca1752"), looks := false }, kinds := [], alts := [], laidByText := true, laidKinds := [.data], laidTests := true, laidLooks := .later }
def VerifyTurnedUptoCardSaid : Prop := Claim7.holds Tryz.pinned (.plain (OpenSpec.upto verifyTurnedSpec)) verifyTurnedUptoCard

/-- THE SECOND FORM's CARD OF 'affidavitlaw14.VerifyMade'. -/
def verifyMadeUptoCard : Claim7 := { stood := { row := verifyMadeUptoRow, standIns := [], harness := (true, "0479827324b48bb45887d0b7eda9a35b6632b3b3d2c53f6e3646124784ca1752"), looks := false }, kinds := [], alts := [], laidByText := true, laidKinds := [.data], laidTests := true, laidLooks := .later }
def VerifyMadeUptoCardSaid : Prop := Claim7.holds Tryz.pinned (.plain (OpenSpec.upto verifyMadeSpec)) verifyMadeUptoCard

/-- THE SECOND FORM's CARD OF 'affidavitlaw15.UstorHonest'. -/
def ustorHonestUptoCard : Claim7 := { stood := { row := ustorHonestUptoRow, standIns := [], harness := (true, "0479827324b48bb45887d0b7eda9a35b6632b3b3d2c53f6e3646124784ca1752"), looks := false }, kinds := [], alts := [], laidByText := true, laidKinds := [.data], laidTests := true, laidLooks := .later }
def UstorHonestUptoCardSaid : Prop := Claim7.holds Tryz.pinned (.plain (OpenSpec.upto ustorHonestSpec)) ustorHonestUptoCard

/-- THE SECOND FORM's CARD OF 'affidavitlaw15.UstorDoes'. -/
def ustorDoesUptoCard : Claim7 := { stood := { row := ustorDoesUptoRow, standIns := [], harness := (true, "0479827324b48bb45887d0b7eda9a35b6632b3b3d2c53f6e3646124784ca1752"), looks := false }, kinds := [], alts := [], laidByText := true, laidKinds := [.data], laidTests := true, laidLooks := .later }
def UstorDoesUptoCardSaid : Prop := Claim7.holds Tryz.pinned (.plain (OpenSpec.upto ustorDoesSpec)) ustorDoesUptoCard

/-- THE SECOND FORM's CARD OF 'affidavitlaw15.UstorOnes'. -/
def ustorOnesUptoCard : Claim7 := { stood := { row := ustorOnesUptoRow, standIns := [], harness := (true, "0479827324b48bb45887d0b7eda9a35b6632b3b3d2c53f6e3646124784ca1752"), looks := false }, kinds := [], alts := [], laidByText := true, laidKinds := [.data], laidTests := true, laidLooks := .later }
def UstorOnesUptoCardSaid : Prop := Claim7.holds Tryz.pinned (.plain (OpenSpec.upto ustorOnesSpec)) ustorOnesUptoCard

/-- THE SECOND FORM's CARD OF 'affidavitlaw15.UstorAgain'. -/
def ustorAgainUptoCard : Claim7 := { stood := { row := ustorAgainUptoRow, standIns := [], harness := (true, "0479827324b48bb45887d0b7eda9a35b6632b3b3d2c53f6e3646124784ca1752"), looks := false }, kinds := [], alts := [], laidByText := true, laidKinds := [.data], laidTests := true, laidLooks := .later }
def UstorAgainUptoCardSaid : Prop := Claim7.holds Tryz.pinned (.plain (OpenSpec.upto ustorAgainSpec)) ustorAgainUptoCard
end Rows
end Go.Proofs.YthejafdkimbddaaGreatDoor
