/-
  DERIVED. GIVEN WITH THE SEED: THE CARDS: each row of YthejafdkimbddaaDoorRows.lean that lists a variable, with what it lists TIED to the program's text (the seventh form; the later family's looks); each row that meets fmt, with fmt's text TOLD by the authors' own Lean function (tested against real Go, not proved from fmt's source: count such statements apart). THE CARD IS WHAT COUNTS. Prove the row's statement (the work); the ties are given (YthejafdkimbddaaDoorTie.lean); close each card by the builder's one call (the guide's Derived/Test/ToyasCard.lean, 'card_holds'). Laid BY PROGRAM, IN A SANDBOX (cutbox-door.mjs). By AI agents, Wed Nov 11 2026. No macro, syntax, notation, axiom, sorry.
-/
import Derived.Test.YthejafdkimbddaaDoorRows
import GoSem.ClaimSeven
namespace Go.Proofs.YthejafdkimbddaaDoor
namespace Rows

/-- THE TIED CARD OF 'affidavitlaw14.VerifyNone'. -/
def verifyNoneCard : Claim7 := { stood := { row := verifyNoneRow, standIns := [], harness := (true, "65d9f3b355d06d89028800917d2114c149de6d18ef0bb3c11d60578fe9bb0251"), looks := false }, kinds := [], alts := [], laidByText := true, laidKinds := [.data], laidTests := true, laidLooks := .later }
def VerifyNoneCardSaid : Prop := Claim7.holds Tryd.pinned (.plain (OpenSpec.ofChange verifyNoneSpec)) verifyNoneCard

/-- THE TIED CARD OF 'affidavitlaw15.UstorNone'. -/
def ustorNoneCard : Claim7 := { stood := { row := ustorNoneRow, standIns := [], harness := (true, "65d9f3b355d06d89028800917d2114c149de6d18ef0bb3c11d60578fe9bb0251"), looks := false }, kinds := [], alts := [], laidByText := true, laidKinds := [.data], laidTests := true, laidLooks := .later }
def UstorNoneCardSaid : Prop := Claim7.holds Tryd.pinned (.plain (OpenSpec.ofChange ustorNoneSpec)) ustorNoneCard

/-- THE SECOND FORM's CARD OF 'affidavitlaw14.VerifyNone'. -/
def verifyNoneUptoCard : Claim7 := { stood := { row := verifyNoneUptoRow, standIns := [], harness := (true, "65d9f3b355d06d89028800917d2114c149de6d18ef0bb3c11d60578fe9bb0251"), looks := false }, kinds := [], alts := [], laidByText := true, laidKinds := [.data], laidTests := true, laidLooks := .later }
def VerifyNoneUptoCardSaid : Prop := Claim7.holds Tryd.pinned (.plain (OpenSpec.upto verifyNoneSpec)) verifyNoneUptoCard

/-- THE SECOND FORM's CARD OF 'affidavitlaw15.UstorNone'. -/
def ustorNoneUptoCard : Claim7 := { stood := { row := ustorNoneUptoRow, standIns := [], harness := (true, "65d9f3b355d06d89028800917d2114c149de6d18ef0bb3c11d60578fe9bb0251"), looks := false }, kinds := [], alts := [], laidByText := true, laidKinds := [.data], laidTests := true, laidLooks := .later }
def UstorNoneUptoCardSaid : Prop := Claim7.holds Tryd.pinned (.plain (OpenSpec.upto ustorNoneSpec)) ustorNoneUptoCard
end Rows
end Go.Proofs.YthejafdkimbddaaDoor
