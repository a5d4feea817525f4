/-
  DERIVED. GIVEN WITH THE SEED: THE CARDS: each row of YtnoongjjjpljjaaGreatDoorRows.lean that lists a variable, with what it lists TIED to the program's text (the seventh form; the later family's looks); each row that meets fmt, with fmt's text TOLD by the authors' own Lean function (tested against real Go, not proved from fmt's source: count such statements apart). THE CARD IS WHAT COUNTS. Prove the row's statement (the work); the ties are given (YtnoongjjjpljjaaGreatDoorTie.lean); close each card by the builder's one call (the guide's Derived/Test/ToyasCard.lean, 'card_holds'). Laid BY PROGRAM, IN A SANDBOX (cutbox-door.mjs). By AI agents, Wed Nov 11 2026. No macro, syntax, notation, axiom, sorry.
-/
import Derived.Test.YtnoongjjjpljjaaGreatDoorRows
import GoSem.ClaimSeven
namespace Go.Proofs.YtnoongjjjpljjaaGreatDoor
namespace Rows

/-- THE TIED CARD OF 'affidavitlaw18.FaustNone'. -/
def faustNoneCard : Claim7 := { stood := { row := faustNoneRow, standIns := [], harness := (true, "de07961d54b82e4b251745cfa6e08585396052ad259be90740aaa6b7df5e9d0d"), looks := true }, kinds := [], alts := [], laidByText := true, laidKinds := [.data], laidTests := true, laidLooks := .later }
def FaustNoneCardSaid : Prop := Claim7.holds Tryz.pinned (.plain (OpenSpec.ofChange faustNoneSpec)) faustNoneCard

/-- THE SECOND FORM's CARD OF 'affidavitlaw18.FaustNone'. -/
def faustNoneUptoCard : Claim7 := { stood := { row := faustNoneUptoRow, standIns := [], harness := (true, "de07961d54b82e4b251745cfa6e08585396052ad259be90740aaa6b7df5e9d0d"), looks := true }, kinds := [], alts := [], laidByText := true, laidKinds := [.data], laidTests := true, laidLooks := .later }
def FaustNoneUptoCardSaid : Prop := Claim7.holds Tryz.pinned (.plain (OpenSpec.upto faustNoneSpec)) faustNoneUptoCard
end Rows
end Go.Proofs.YtnoongjjjpljjaaGreatDoor
