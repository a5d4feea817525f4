/-
  No cell of these rows narrows 'for every input' (looked for: loops, veiled, ifaces, maps, wideKeys, modest, calm, conditions, laid).
  DERIVED. THE GIVEN ROWS OF THIS SEAT. 12 by the template 'for every input the law returns true; each argument reads behind the call as it read before'; 0 by the template 'total and deterministic' (their statements: YtmndnfpobhebjaaGreatTotals.lean).
  GIVEN WITH THE SEED: the statements are not yours to turn. If you find one false, say at which input.
  Laid BY PROGRAM, IN A SANDBOX (cutbox-rows.mjs): the forced cells as the released guide's own fill.sh prints them over the translation 60ca2c85d8dd1770… (all of the seat's roots in one cut). By AI agents, Wed Nov 11 2026. No macro, syntax, notation, axiom, sorry.
-/
import Derived.Test.YtmndnfpobhebjaaGreatChecked
import GoSem.Claim
import GoSem.ClaimJoined
import GoSem.ClaimMapViews
import Derived.JoinedTies
import Derived.KernelRfl
namespace Go.Proofs.YtmndnfpobhebjaaGreat
/- THE CELL 'sum', in the pinned program and in every row, IS THE sha256 OF THE DUMP (.gsa) THAT YtmndnfpobhebjaaGreatProg.lean LOADS. Nothing in Lean hashes anything: it is a label: what it is worth is what the hold of that sum in a sandbox is worth. -/
noncomputable def Tryz.pinned : Pinned := { name := "ytmndnfpobhebjaagreat", sum := "60ca2c85d8dd1770af0fab222de7521cb25becf55ac25ac2da0f5838cafd68e0", checked := Tryz.checked }
namespace Rows
def none {H : Type} : Left H := { results := [], args := [] }

/-- 'affidavitlaw22.PiecesForeign': WHATEVER THE INPUT: true; the input reads as it did. -/
def piecesForeignSpec : ChangeSpec := { name := "piecesForeign", fn := fun _ => fun
  | [d1, d2] => { results := [.lit (.bool true)], args := [d1, d2] }
  | _ => none }
def piecesForeignRow : OpenClaim := { program := "ytmndnfpobhebjaagreat", sum := "60ca2c85d8dd1770af0fab222de7521cb25becf55ac25ac2da0f5838cafd68e0", func := "affidavit/affidavitlaw22.PiecesForeign", spec := "piecesForeign", unfollowed := true, recurses := true, plainKeys := false, apart := false }
def PiecesForeignSaid : Prop := piecesForeignRow.holds Tryz.pinned (OpenSpec.ofChange piecesForeignSpec)

/-- ITS FALSE NEIGHBOUR: 'it returns false'. Refute it at one input. -/
def piecesForeignWrong : ChangeSpec := { name := "piecesForeign", fn := fun _ => fun
  | [d1, d2] => { results := [.lit (.bool false)], args := [d1, d2] }
  | _ => none }
def PiecesForeignWrongFalsely : Prop := piecesForeignRow.holds Tryz.pinned (OpenSpec.ofChange piecesForeignWrong)

/-- 'affidavitlaw22.PiecesNone': WHATEVER THE INPUT: true; the input reads as it did. -/
def piecesNoneSpec : ChangeSpec := { name := "piecesNone", fn := fun _ => fun
  | [d1, d2] => { results := [.lit (.bool true)], args := [d1, d2] }
  | _ => none }
def piecesNoneRow : OpenClaim := { program := "ytmndnfpobhebjaagreat", sum := "60ca2c85d8dd1770af0fab222de7521cb25becf55ac25ac2da0f5838cafd68e0", func := "affidavit/affidavitlaw22.PiecesNone", spec := "piecesNone", unfollowed := true, recurses := true, plainKeys := false, apart := false }
def PiecesNoneSaid : Prop := piecesNoneRow.holds Tryz.pinned (OpenSpec.ofChange piecesNoneSpec)

/-- ITS FALSE NEIGHBOUR: 'it returns false'. Refute it at one input. -/
def piecesNoneWrong : ChangeSpec := { name := "piecesNone", fn := fun _ => fun
  | [d1, d2] => { results := [.lit (.bool false)], args := [d1, d2] }
  | _ => none }
def PiecesNoneWrongFalsely : Prop := piecesNoneRow.holds Tryz.pinned (OpenSpec.ofChange piecesNoneWrong)

/-- 'affidavitlaw22.PiecesBlind': WHATEVER THE INPUT: true; the input reads as it did. -/
def piecesBlindSpec : ChangeSpec := { name := "piecesBlind", fn := fun _ => fun
  | [d1, d2, d3] => { results := [.lit (.bool true)], args := [d1, d2, d3] }
  | _ => none }
def piecesBlindRow : OpenClaim := { program := "ytmndnfpobhebjaagreat", sum := "60ca2c85d8dd1770af0fab222de7521cb25becf55ac25ac2da0f5838cafd68e0", func := "affidavit/affidavitlaw22.PiecesBlind", spec := "piecesBlind", unfollowed := true, recurses := true, plainKeys := false, apart := false }
def PiecesBlindSaid : Prop := piecesBlindRow.holds Tryz.pinned (OpenSpec.ofChange piecesBlindSpec)

/-- ITS FALSE NEIGHBOUR: 'it returns false'. Refute it at one input. -/
def piecesBlindWrong : ChangeSpec := { name := "piecesBlind", fn := fun _ => fun
  | [d1, d2, d3] => { results := [.lit (.bool false)], args := [d1, d2, d3] }
  | _ => none }
def PiecesBlindWrongFalsely : Prop := piecesBlindRow.holds Tryz.pinned (OpenSpec.ofChange piecesBlindWrong)

/-- 'affidavitlaw22.PiecesWhole': WHATEVER THE INPUT: true; the input reads as it did. -/
def piecesWholeSpec : ChangeSpec := { name := "piecesWhole", fn := fun _ => fun
  | [d] => { results := [.lit (.bool true)], args := [d] }
  | _ => none }
def piecesWholeRow : OpenClaim := { program := "ytmndnfpobhebjaagreat", sum := "60ca2c85d8dd1770af0fab222de7521cb25becf55ac25ac2da0f5838cafd68e0", func := "affidavit/affidavitlaw22.PiecesWhole", spec := "piecesWhole", unfollowed := true, recurses := true, plainKeys := false, apart := false }
def PiecesWholeSaid : Prop := piecesWholeRow.holds Tryz.pinned (OpenSpec.ofChange piecesWholeSpec)

/-- ITS FALSE NEIGHBOUR: 'it returns false'. Refute it at one input. -/
def piecesWholeWrong : ChangeSpec := { name := "piecesWhole", fn := fun _ => fun
  | [d] => { results := [.lit (.bool false)], args := [d] }
  | _ => none }
def PiecesWholeWrongFalsely : Prop := piecesWholeRow.holds Tryz.pinned (OpenSpec.ofChange piecesWholeWrong)

/-- 'affidavitlaw22.PiecesFew': WHATEVER THE INPUT: true; the input reads as it did. -/
def piecesFewSpec : ChangeSpec := { name := "piecesFew", fn := fun _ => fun
  | [d] => { results := [.lit (.bool true)], args := [d] }
  | _ => none }
def piecesFewRow : OpenClaim := { program := "ytmndnfpobhebjaagreat", sum := "60ca2c85d8dd1770af0fab222de7521cb25becf55ac25ac2da0f5838cafd68e0", func := "affidavit/affidavitlaw22.PiecesFew", spec := "piecesFew", unfollowed := true, recurses := true, plainKeys := false, apart := false }
def PiecesFewSaid : Prop := piecesFewRow.holds Tryz.pinned (OpenSpec.ofChange piecesFewSpec)

/-- ITS FALSE NEIGHBOUR: 'it returns false'. Refute it at one input. -/
def piecesFewWrong : ChangeSpec := { name := "piecesFew", fn := fun _ => fun
  | [d] => { results := [.lit (.bool false)], args := [d] }
  | _ => none }
def PiecesFewWrongFalsely : Prop := piecesFewRow.holds Tryz.pinned (OpenSpec.ofChange piecesFewWrong)

/-- 'affidavitlaw22.PiecesReads': WHATEVER THE INPUT: true; the input reads as it did. -/
def piecesReadsSpec : ChangeSpec := { name := "piecesReads", fn := fun _ => fun
  | [d] => { results := [.lit (.bool true)], args := [d] }
  | _ => none }
def piecesReadsRow : OpenClaim := { program := "ytmndnfpobhebjaagreat", sum := "60ca2c85d8dd1770af0fab222de7521cb25becf55ac25ac2da0f5838cafd68e0", func := "affidavit/affidavitlaw22.PiecesReads", spec := "piecesReads", unfollowed := true, recurses := true, plainKeys := false, apart := false }
def PiecesReadsSaid : Prop := piecesReadsRow.holds Tryz.pinned (OpenSpec.ofChange piecesReadsSpec)

/-- ITS FALSE NEIGHBOUR: 'it returns false'. Refute it at one input. -/
def piecesReadsWrong : ChangeSpec := { name := "piecesReads", fn := fun _ => fun
  | [d] => { results := [.lit (.bool false)], args := [d] }
  | _ => none }
def PiecesReadsWrongFalsely : Prop := piecesReadsRow.holds Tryz.pinned (OpenSpec.ofChange piecesReadsWrong)

/-- 'affidavitlaw22.PiecesDo': WHATEVER THE INPUT: true; the input reads as it did. -/
def piecesDoSpec : ChangeSpec := { name := "piecesDo", fn := fun _ => fun
  | [d] => { results := [.lit (.bool true)], args := [d] }
  | _ => none }
def piecesDoRow : OpenClaim := { program := "ytmndnfpobhebjaagreat", sum := "60ca2c85d8dd1770af0fab222de7521cb25becf55ac25ac2da0f5838cafd68e0", func := "affidavit/affidavitlaw22.PiecesDo", spec := "piecesDo", unfollowed := true, recurses := true, plainKeys := false, apart := false }
def PiecesDoSaid : Prop := piecesDoRow.holds Tryz.pinned (OpenSpec.ofChange piecesDoSpec)

/-- ITS FALSE NEIGHBOUR: 'it returns false'. Refute it at one input. -/
def piecesDoWrong : ChangeSpec := { name := "piecesDo", fn := fun _ => fun
  | [d] => { results := [.lit (.bool false)], args := [d] }
  | _ => none }
def PiecesDoWrongFalsely : Prop := piecesDoRow.holds Tryz.pinned (OpenSpec.ofChange piecesDoWrong)

/-- 'affidavitlaw23.FetchDoes': WHATEVER THE INPUT: true; the input reads as it did. -/
def fetchDoesSpec : ChangeSpec := { name := "fetchDoes", fn := fun _ => fun
  | [d1, d2, d3] => { results := [.lit (.bool true)], args := [d1, d2, d3] }
  | _ => none }
def fetchDoesRow : OpenClaim := { program := "ytmndnfpobhebjaagreat", sum := "60ca2c85d8dd1770af0fab222de7521cb25becf55ac25ac2da0f5838cafd68e0", func := "affidavit/affidavitlaw23.FetchDoes", spec := "fetchDoes", unfollowed := true, recurses := true, plainKeys := false, apart := false }
def FetchDoesSaid : Prop := fetchDoesRow.holds Tryz.pinned (OpenSpec.ofChange fetchDoesSpec)

/-- ITS FALSE NEIGHBOUR: 'it returns false'. Refute it at one input. -/
def fetchDoesWrong : ChangeSpec := { name := "fetchDoes", fn := fun _ => fun
  | [d1, d2, d3] => { results := [.lit (.bool false)], args := [d1, d2, d3] }
  | _ => none }
def FetchDoesWrongFalsely : Prop := fetchDoesRow.holds Tryz.pinned (OpenSpec.ofChange fetchDoesWrong)

/-- 'affidavitlaw23.FetchReads': WHATEVER THE INPUT: true; the input reads as it did. -/
def fetchReadsSpec : ChangeSpec := { name := "fetchReads", fn := fun _ => fun
  | [d1, d2, d3] => { results := [.lit (.bool true)], args := [d1, d2, d3] }
  | _ => none }
def fetchReadsRow : OpenClaim := { program := "ytmndnfpobhebjaagreat", sum := "60ca2c85d8dd1770af0fab222de7521cb25becf55ac25ac2da0f5838cafd68e0", func := "affidavit/affidavitlaw23.FetchReads", spec := "fetchReads", unfollowed := true, recurses := true, plainKeys := false, apart := false }
def FetchReadsSaid : Prop := fetchReadsRow.holds Tryz.pinned (OpenSpec.ofChange fetchReadsSpec)

/-- ITS FALSE NEIGHBOUR: 'it returns false'. Refute it at one input. -/
def fetchReadsWrong : ChangeSpec := { name := "fetchReads", fn := fun _ => fun
  | [d1, d2, d3] => { results := [.lit (.bool false)], args := [d1, d2, d3] }
  | _ => none }
def FetchReadsWrongFalsely : Prop := fetchReadsRow.holds Tryz.pinned (OpenSpec.ofChange fetchReadsWrong)

/-- 'affidavitlaw23.FetchFew': WHATEVER THE INPUT: true; the input reads as it did. -/
def fetchFewSpec : ChangeSpec := { name := "fetchFew", fn := fun _ => fun
  | [d1, d2] => { results := [.lit (.bool true)], args := [d1, d2] }
  | _ => none }
def fetchFewRow : OpenClaim := { program := "ytmndnfpobhebjaagreat", sum := "60ca2c85d8dd1770af0fab222de7521cb25becf55ac25ac2da0f5838cafd68e0", func := "affidavit/affidavitlaw23.FetchFew", spec := "fetchFew", unfollowed := true, recurses := true, plainKeys := false, apart := false }
def FetchFewSaid : Prop := fetchFewRow.holds Tryz.pinned (OpenSpec.ofChange fetchFewSpec)

/-- ITS FALSE NEIGHBOUR: 'it returns false'. Refute it at one input. -/
def fetchFewWrong : ChangeSpec := { name := "fetchFew", fn := fun _ => fun
  | [d1, d2] => { results := [.lit (.bool false)], args := [d1, d2] }
  | _ => none }
def FetchFewWrongFalsely : Prop := fetchFewRow.holds Tryz.pinned (OpenSpec.ofChange fetchFewWrong)

/-- 'affidavitlaw23.FetchForeign': WHATEVER THE INPUT: true; the input reads as it did. -/
def fetchForeignSpec : ChangeSpec := { name := "fetchForeign", fn := fun _ => fun
  | [d] => { results := [.lit (.bool true)], args := [d] }
  | _ => none }
def fetchForeignRow : OpenClaim := { program := "ytmndnfpobhebjaagreat", sum := "60ca2c85d8dd1770af0fab222de7521cb25becf55ac25ac2da0f5838cafd68e0", func := "affidavit/affidavitlaw23.FetchForeign", spec := "fetchForeign", unfollowed := true, recurses := true, plainKeys := false, apart := false }
def FetchForeignSaid : Prop := fetchForeignRow.holds Tryz.pinned (OpenSpec.ofChange fetchForeignSpec)

/-- ITS FALSE NEIGHBOUR: 'it returns false'. Refute it at one input. -/
def fetchForeignWrong : ChangeSpec := { name := "fetchForeign", fn := fun _ => fun
  | [d] => { results := [.lit (.bool false)], args := [d] }
  | _ => none }
def FetchForeignWrongFalsely : Prop := fetchForeignRow.holds Tryz.pinned (OpenSpec.ofChange fetchForeignWrong)

/-- 'affidavitlaw23.FetchNone': WHATEVER THE INPUT: true; the input reads as it did. -/
def fetchNoneSpec : ChangeSpec := { name := "fetchNone", fn := fun _ => fun
  | [d1, d2, d3] => { results := [.lit (.bool true)], args := [d1, d2, d3] }
  | _ => none }
def fetchNoneRow : OpenClaim := { program := "ytmndnfpobhebjaagreat", sum := "60ca2c85d8dd1770af0fab222de7521cb25becf55ac25ac2da0f5838cafd68e0", func := "affidavit/affidavitlaw23.FetchNone", spec := "fetchNone", unfollowed := true, recurses := true, plainKeys := false, apart := false }
def FetchNoneSaid : Prop := fetchNoneRow.holds Tryz.pinned (OpenSpec.ofChange fetchNoneSpec)

/-- ITS FALSE NEIGHBOUR: 'it returns false'. Refute it at one input. -/
def fetchNoneWrong : ChangeSpec := { name := "fetchNone", fn := fun _ => fun
  | [d1, d2, d3] => { results := [.lit (.bool false)], args := [d1, d2, d3] }
  | _ => none }
def FetchNoneWrongFalsely : Prop := fetchNoneRow.holds Tryz.pinned (OpenSpec.ofChange fetchNoneWrong)

/- THE SECOND FORM. 'bulk': how many values and letters a reading holds, each counted each time it is reached (what is shared counts as often as it is met; a slice's spare places count too). A statement '..UptoSaid' is the law's where the arguments, and the package variables that the reading takes, are together of bulk at most 1048576: NARROWER than '..Said'. Prove '..Said' where nothing that the law and all that it calls make is longer than what came in: it says more and counts as full. Else prove '..UptoSaid'. A law counts once. -/
mutual
def uptoBulk {H : Type} : DataW H → Nat
  | .lit (.string bytes) => bytes.length + 1
  | .lit _ => 1
  | .nil => 1
  | .ptr d => uptoBulk d + 1
  | .slice elems spare => uptoBulkAll elems + uptoBulkAll spare + 1
  | .agg parts => uptoBulkAll parts + 1
  | .iface _ d => uptoBulk d + 1
  | .map entries => uptoBulkEntries entries + 1
  | .held _ => 1
def uptoBulkAll {H : Type} : List (DataW H) → Nat
  | [] => 0
  | d :: r => uptoBulk d + uptoBulkAll r
def uptoBulkEntries {H : Type} : List (Lit × DataW H) → Nat
  | [] => 0
  | x :: r => uptoBulkEntry x + uptoBulkEntries r
def uptoBulkEntry {H : Type} : Lit × DataW H → Nat
  | (.string bytes, d) => bytes.length + uptoBulk d + 1
  | (_, d) => uptoBulk d + 1
 end
def uptoSmall : (H : Type) → List (DataW H) → Bool := fun _ ds => decide (uptoBulkAll ds ≤ 1048576)
def OpenSpec.upto (s : _root_.Go.ChangeSpec) : _root_.Go.OpenSpec := { _root_.Go.OpenSpec.ofChange s with cond := some uptoSmall }

/-- 'affidavitlaw22.PiecesForeign', WHERE WHAT IT READS IS OF BULK AT MOST 1048576: true; the input reads as it did. -/
def piecesForeignUptoRow : OpenClaim := { program := "ytmndnfpobhebjaagreat", sum := "60ca2c85d8dd1770af0fab222de7521cb25becf55ac25ac2da0f5838cafd68e0", func := "affidavit/affidavitlaw22.PiecesForeign", spec := "piecesForeign", unfollowed := true, recurses := true, plainKeys := false, apart := false, narrowed := true }
def PiecesForeignUptoSaid : Prop := piecesForeignUptoRow.holds Tryz.pinned (OpenSpec.upto piecesForeignSpec)

/-- 'affidavitlaw22.PiecesNone', WHERE WHAT IT READS IS OF BULK AT MOST 1048576: true; the input reads as it did. -/
def piecesNoneUptoRow : OpenClaim := { program := "ytmndnfpobhebjaagreat", sum := "60ca2c85d8dd1770af0fab222de7521cb25becf55ac25ac2da0f5838cafd68e0", func := "affidavit/affidavitlaw22.PiecesNone", spec := "piecesNone", unfollowed := true, recurses := true, plainKeys := false, apart := false, narrowed := true }
def PiecesNoneUptoSaid : Prop := piecesNoneUptoRow.holds Tryz.pinned (OpenSpec.upto piecesNoneSpec)

/-- 'affidavitlaw22.PiecesBlind', WHERE WHAT IT READS IS OF BULK AT MOST 1048576: true; the input reads as it did. -/
def piecesBlindUptoRow : OpenClaim := { program := "ytmndnfpobhebjaagreat", sum := "60ca2c85d8dd1770af0fab222de7521cb25becf55ac25ac2da0f5838cafd68e0", func := "affidavit/affidavitlaw22.PiecesBlind", spec := "piecesBlind", unfollowed := true, recurses := true, plainKeys := false, apart := false, narrowed := true }
def PiecesBlindUptoSaid : Prop := piecesBlindUptoRow.holds Tryz.pinned (OpenSpec.upto piecesBlindSpec)

/-- 'affidavitlaw22.PiecesWhole', WHERE WHAT IT READS IS OF BULK AT MOST 1048576: true; the input reads as it did. -/
def piecesWholeUptoRow : OpenClaim := { program := "ytmndnfpobhebjaagreat", sum := "60ca2c85d8dd1770af0fab222de7521cb25becf55ac25ac2da0f5838cafd68e0", func := "affidavit/affidavitlaw22.PiecesWhole", spec := "piecesWhole", unfollowed := true, recurses := true, plainKeys := false, apart := false, narrowed := true }
def PiecesWholeUptoSaid : Prop := piecesWholeUptoRow.holds Tryz.pinned (OpenSpec.upto piecesWholeSpec)

/-- 'affidavitlaw22.PiecesFew', WHERE WHAT IT READS IS OF BULK AT MOST 1048576: true; the input reads as it did. -/
def piecesFewUptoRow : OpenClaim := { program := "ytmndnfpobhebjaagreat", sum := "60ca2c85d8dd1770af0fab222de7521cb25becf55ac25ac2da0f5838cafd68e0", func := "affidavit/affidavitlaw22.PiecesFew", spec := "piecesFew", unfollowed := true, recurses := true, plainKeys := false, apart := false, narrowed := true }
def PiecesFewUptoSaid : Prop := piecesFewUptoRow.holds Tryz.pinned (OpenSpec.upto piecesFewSpec)

/-- 'affidavitlaw22.PiecesReads', WHERE WHAT IT READS IS OF BULK AT MOST 1048576: true; the input reads as it did. -/
def piecesReadsUptoRow : OpenClaim := { program := "ytmndnfpobhebjaagreat", sum := "60ca2c85d8dd1770af0fab222de7521cb25becf55ac25ac2da0f5838cafd68e0", func := "affidavit/affidavitlaw22.PiecesReads", spec := "piecesReads", unfollowed := true, recurses := true, plainKeys := false, apart := false, narrowed := true }
def PiecesReadsUptoSaid : Prop := piecesReadsUptoRow.holds Tryz.pinned (OpenSpec.upto piecesReadsSpec)

/-- 'affidavitlaw22.PiecesDo', WHERE WHAT IT READS IS OF BULK AT MOST 1048576: true; the input reads as it did. -/
def piecesDoUptoRow : OpenClaim := { program := "ytmndnfpobhebjaagreat", sum := "60ca2c85d8dd1770af0fab222de7521cb25becf55ac25ac2da0f5838cafd68e0", func := "affidavit/affidavitlaw22.PiecesDo", spec := "piecesDo", unfollowed := true, recurses := true, plainKeys := false, apart := false, narrowed := true }
def PiecesDoUptoSaid : Prop := piecesDoUptoRow.holds Tryz.pinned (OpenSpec.upto piecesDoSpec)

/-- 'affidavitlaw23.FetchDoes', WHERE WHAT IT READS IS OF BULK AT MOST 1048576: true; the input reads as it did. -/
def fetchDoesUptoRow : OpenClaim := { program := "ytmndnfpobhebjaagreat", sum := "60ca2c85d8dd1770af0fab222de7521cb25becf55ac25ac2da0f5838cafd68e0", func := "affidavit/affidavitlaw23.FetchDoes", spec := "fetchDoes", unfollowed := true, recurses := true, plainKeys := false, apart := false, narrowed := true }
def FetchDoesUptoSaid : Prop := fetchDoesUptoRow.holds Tryz.pinned (OpenSpec.upto fetchDoesSpec)

/-- 'affidavitlaw23.FetchReads', WHERE WHAT IT READS IS OF BULK AT MOST 1048576: true; the input reads as it did. -/
def fetchReadsUptoRow : OpenClaim := { program := "ytmndnfpobhebjaagreat", sum := "60ca2c85d8dd1770af0fab222de7521cb25becf55ac25ac2da0f5838cafd68e0", func := "affidavit/affidavitlaw23.FetchReads", spec := "fetchReads", unfollowed := true, recurses := true, plainKeys := false, apart := false, narrowed := true }
def FetchReadsUptoSaid : Prop := fetchReadsUptoRow.holds Tryz.pinned (OpenSpec.upto fetchReadsSpec)

/-- 'affidavitlaw23.FetchFew', WHERE WHAT IT READS IS OF BULK AT MOST 1048576: true; the input reads as it did. -/
def fetchFewUptoRow : OpenClaim := { program := "ytmndnfpobhebjaagreat", sum := "60ca2c85d8dd1770af0fab222de7521cb25becf55ac25ac2da0f5838cafd68e0", func := "affidavit/affidavitlaw23.FetchFew", spec := "fetchFew", unfollowed := true, recurses := true, plainKeys := false, apart := false, narrowed := true }
def FetchFewUptoSaid : Prop := fetchFewUptoRow.holds Tryz.pinned (OpenSpec.upto fetchFewSpec)

/-- 'affidavitlaw23.FetchForeign', WHERE WHAT IT READS IS OF BULK AT MOST 1048576: true; the input reads as it did. -/
def fetchForeignUptoRow : OpenClaim := { program := "ytmndnfpobhebjaagreat", sum := "60ca2c85d8dd1770af0fab222de7521cb25becf55ac25ac2da0f5838cafd68e0", func := "affidavit/affidavitlaw23.FetchForeign", spec := "fetchForeign", unfollowed := true, recurses := true, plainKeys := false, apart := false, narrowed := true }
def FetchForeignUptoSaid : Prop := fetchForeignUptoRow.holds Tryz.pinned (OpenSpec.upto fetchForeignSpec)

/-- 'affidavitlaw23.FetchNone', WHERE WHAT IT READS IS OF BULK AT MOST 1048576: true; the input reads as it did. -/
def fetchNoneUptoRow : OpenClaim := { program := "ytmndnfpobhebjaagreat", sum := "60ca2c85d8dd1770af0fab222de7521cb25becf55ac25ac2da0f5838cafd68e0", func := "affidavit/affidavitlaw23.FetchNone", spec := "fetchNone", unfollowed := true, recurses := true, plainKeys := false, apart := false, narrowed := true }
def FetchNoneUptoSaid : Prop := fetchNoneUptoRow.holds Tryz.pinned (OpenSpec.upto fetchNoneSpec)

end Rows
end Go.Proofs.YtmndnfpobhebjaaGreat
