/-
  No cell of these rows narrows 'for every input' (looked for: loops, veiled, ifaces, maps, wideKeys, modest, calm, conditions, laid).
  DERIVED. THE GIVEN ROWS OF THIS SEAT. 7 by the template 'for every input the law returns true; each argument reads behind the call as it read before'; 0 by the template 'total and deterministic' (their statements: YtgbdgobkgcfioaaTotals.lean).
  GIVEN WITH THE SEED: the statements are not yours to turn. If you find one false, say at which input.
  Laid BY PROGRAM, IN A SANDBOX (cutbox-rows.mjs): the forced cells as the released guide's own fill.sh prints them over the translation c9605ca1d1112aa5… (all of the seat's roots in one cut). By AI agents, Wed Nov 11 2026. No macro, syntax, notation, axiom, sorry.
-/
import Derived.Test.YtgbdgobkgcfioaaChecked
import GoSem.Claim
import GoSem.ClaimJoined
import GoSem.ClaimMapViews
import Derived.JoinedTies
import Derived.KernelRfl
namespace Go.Proofs.Ytgbdgobkgcfioaa
/- THE CELL 'sum', in the pinned program and in every row, IS THE sha256 OF THE DUMP (.gsa) THAT YtgbdgobkgcfioaaProg.lean LOADS. Nothing in Lean hashes anything: it is a label: what it is worth is what the hold of that sum in a sandbox is worth. -/
noncomputable def Try.pinned : Pinned := { name := "ytgbdgobkgcfioaa", sum := "c9605ca1d1112aa5281209f7330d69431ba316f19ccba9b8849250333368e421", checked := Try.checked }
namespace Rows
def none {H : Type} : Left H := { results := [], args := [] }

/-- 'affidavitlaw20.VolDoes': WHATEVER THE INPUT: true; the input reads as it did. -/
def volDoesSpec : ChangeSpec := { name := "volDoes", fn := fun _ => fun
  | [d] => { results := [.lit (.bool true)], args := [d] }
  | _ => none }
def volDoesRow : OpenClaim := { program := "ytgbdgobkgcfioaa", sum := "c9605ca1d1112aa5281209f7330d69431ba316f19ccba9b8849250333368e421", func := "affidavit/affidavitlaw20.VolDoes", spec := "volDoes", unfollowed := true, recurses := true, apart := false }
def VolDoesSaid : Prop := volDoesRow.holds Try.pinned (OpenSpec.ofChange volDoesSpec)

/-- ITS FALSE NEIGHBOUR: 'it returns false'. Refute it at one input. -/
def volDoesWrong : ChangeSpec := { name := "volDoes", fn := fun _ => fun
  | [d] => { results := [.lit (.bool false)], args := [d] }
  | _ => none }
def VolDoesWrongFalsely : Prop := volDoesRow.holds Try.pinned (OpenSpec.ofChange volDoesWrong)

/-- 'affidavitlaw20.VolWrites': WHATEVER THE INPUT: true; the input reads as it did. -/
def volWritesSpec : ChangeSpec := { name := "volWrites", fn := fun _ => fun
  | [d] => { results := [.lit (.bool true)], args := [d] }
  | _ => none }
def volWritesRow : OpenClaim := { program := "ytgbdgobkgcfioaa", sum := "c9605ca1d1112aa5281209f7330d69431ba316f19ccba9b8849250333368e421", func := "affidavit/affidavitlaw20.VolWrites", spec := "volWrites", unfollowed := true, recurses := true, apart := false }
def VolWritesSaid : Prop := volWritesRow.holds Try.pinned (OpenSpec.ofChange volWritesSpec)

/-- ITS FALSE NEIGHBOUR: 'it returns false'. Refute it at one input. -/
def volWritesWrong : ChangeSpec := { name := "volWrites", fn := fun _ => fun
  | [d] => { results := [.lit (.bool false)], args := [d] }
  | _ => none }
def VolWritesWrongFalsely : Prop := volWritesRow.holds Try.pinned (OpenSpec.ofChange volWritesWrong)

/-- 'affidavitlaw20.VolRenames': WHATEVER THE INPUT: true; the input reads as it did. -/
def volRenamesSpec : ChangeSpec := { name := "volRenames", fn := fun _ => fun
  | [d1, d2, d3] => { results := [.lit (.bool true)], args := [d1, d2, d3] }
  | _ => none }
def volRenamesRow : OpenClaim := { program := "ytgbdgobkgcfioaa", sum := "c9605ca1d1112aa5281209f7330d69431ba316f19ccba9b8849250333368e421", func := "affidavit/affidavitlaw20.VolRenames", spec := "volRenames", unfollowed := true, recurses := true, apart := false }
def VolRenamesSaid : Prop := volRenamesRow.holds Try.pinned (OpenSpec.ofChange volRenamesSpec)

/-- ITS FALSE NEIGHBOUR: 'it returns false'. Refute it at one input. -/
def volRenamesWrong : ChangeSpec := { name := "volRenames", fn := fun _ => fun
  | [d1, d2, d3] => { results := [.lit (.bool false)], args := [d1, d2, d3] }
  | _ => none }
def VolRenamesWrongFalsely : Prop := volRenamesRow.holds Try.pinned (OpenSpec.ofChange volRenamesWrong)

/-- 'affidavitlaw20.VolAsks': WHATEVER THE INPUT: true; the input reads as it did. -/
def volAsksSpec : ChangeSpec := { name := "volAsks", fn := fun _ => fun
  | [d1, d2] => { results := [.lit (.bool true)], args := [d1, d2] }
  | _ => none }
def volAsksRow : OpenClaim := { program := "ytgbdgobkgcfioaa", sum := "c9605ca1d1112aa5281209f7330d69431ba316f19ccba9b8849250333368e421", func := "affidavit/affidavitlaw20.VolAsks", spec := "volAsks", unfollowed := true, recurses := true, apart := false }
def VolAsksSaid : Prop := volAsksRow.holds Try.pinned (OpenSpec.ofChange volAsksSpec)

/-- ITS FALSE NEIGHBOUR: 'it returns false'. Refute it at one input. -/
def volAsksWrong : ChangeSpec := { name := "volAsks", fn := fun _ => fun
  | [d1, d2] => { results := [.lit (.bool false)], args := [d1, d2] }
  | _ => none }
def VolAsksWrongFalsely : Prop := volAsksRow.holds Try.pinned (OpenSpec.ofChange volAsksWrong)

/-- 'affidavitlaw20.VolNodes': WHATEVER THE INPUT: true; the input reads as it did. -/
def volNodesSpec : ChangeSpec := { name := "volNodes", fn := fun _ => fun
  | [d] => { results := [.lit (.bool true)], args := [d] }
  | _ => none }
def volNodesRow : OpenClaim := { program := "ytgbdgobkgcfioaa", sum := "c9605ca1d1112aa5281209f7330d69431ba316f19ccba9b8849250333368e421", func := "affidavit/affidavitlaw20.VolNodes", spec := "volNodes", unfollowed := true, recurses := true, apart := false }
def VolNodesSaid : Prop := volNodesRow.holds Try.pinned (OpenSpec.ofChange volNodesSpec)

/-- ITS FALSE NEIGHBOUR: 'it returns false'. Refute it at one input. -/
def volNodesWrong : ChangeSpec := { name := "volNodes", fn := fun _ => fun
  | [d] => { results := [.lit (.bool false)], args := [d] }
  | _ => none }
def VolNodesWrongFalsely : Prop := volNodesRow.holds Try.pinned (OpenSpec.ofChange volNodesWrong)

/-- 'affidavitlaw20.VolSound': WHATEVER THE INPUT: true; the input reads as it did. -/
def volSoundSpec : ChangeSpec := { name := "volSound", fn := fun _ => fun
  | [d1, d2] => { results := [.lit (.bool true)], args := [d1, d2] }
  | _ => none }
def volSoundRow : OpenClaim := { program := "ytgbdgobkgcfioaa", sum := "c9605ca1d1112aa5281209f7330d69431ba316f19ccba9b8849250333368e421", func := "affidavit/affidavitlaw20.VolSound", spec := "volSound", unfollowed := true, recurses := true, apart := false }
def VolSoundSaid : Prop := volSoundRow.holds Try.pinned (OpenSpec.ofChange volSoundSpec)

/-- ITS FALSE NEIGHBOUR: 'it returns false'. Refute it at one input. -/
def volSoundWrong : ChangeSpec := { name := "volSound", fn := fun _ => fun
  | [d1, d2] => { results := [.lit (.bool false)], args := [d1, d2] }
  | _ => none }
def VolSoundWrongFalsely : Prop := volSoundRow.holds Try.pinned (OpenSpec.ofChange volSoundWrong)

/-- 'affidavitlaw20.VolNone': WHATEVER THE INPUT: true; the input reads as it did. -/
def volNoneSpec : ChangeSpec := { name := "volNone", fn := fun _ => fun
  | [d] => { results := [.lit (.bool true)], args := [d] }
  | _ => none }
def volNoneRow : OpenClaim := { program := "ytgbdgobkgcfioaa", sum := "c9605ca1d1112aa5281209f7330d69431ba316f19ccba9b8849250333368e421", func := "affidavit/affidavitlaw20.VolNone", spec := "volNone", unfollowed := true, recurses := true, apart := false }
def VolNoneSaid : Prop := volNoneRow.holds Try.pinned (OpenSpec.ofChange volNoneSpec)

/-- ITS FALSE NEIGHBOUR: 'it returns false'. Refute it at one input. -/
def volNoneWrong : ChangeSpec := { name := "volNone", fn := fun _ => fun
  | [d] => { results := [.lit (.bool false)], args := [d] }
  | _ => none }
def VolNoneWrongFalsely : Prop := volNoneRow.holds Try.pinned (OpenSpec.ofChange volNoneWrong)

/- THE SECOND FORM. 'bulk': how many values and letters a reading holds, each counted each time it is reached (what is shared counts as often as it is met; a slice's spare places count too). A statement '..UptoSaid' is the law's where the arguments, and the package variables that the reading takes, are together of bulk at most 1048576: NARROWER than '..Said'. Prove '..Said' where nothing that the law and all that it calls make is longer than what came in: it says more and counts as full. Else prove '..UptoSaid'. A law counts once. -/
mutual
def uptoBulk {H : Type} : DataW H → Nat
  | .lit (.string bytes) => bytes.length + 1
  | .lit _ => 1
  | .nil => 1
  | .ptr d => uptoBulk d + 1
  | .slice elems spare => uptoBulkAll elems + uptoBulkAll spare + 1
  | .agg parts => uptoBulkAll parts + 1
  | .iface _ d => uptoBulk d + 1
  | .map entries => uptoBulkEntries entries + 1
  | .held _ => 1
def uptoBulkAll {H : Type} : List (DataW H) → Nat
  | [] => 0
  | d :: r => uptoBulk d + uptoBulkAll r
def uptoBulkEntries {H : Type} : List (Lit × DataW H) → Nat
  | [] => 0
  | x :: r => uptoBulkEntry x + uptoBulkEntries r
def uptoBulkEntry {H : Type} : Lit × DataW H → Nat
  | (.string bytes, d) => bytes.length + uptoBulk d + 1
  | (_, d) => uptoBulk d + 1
 end
def uptoSmall : (H : Type) → List (DataW H) → Bool := fun _ ds => decide (uptoBulkAll ds ≤ 1048576)
def OpenSpec.upto (s : _root_.Go.ChangeSpec) : _root_.Go.OpenSpec := { _root_.Go.OpenSpec.ofChange s with cond := some uptoSmall }

/-- 'affidavitlaw20.VolDoes', WHERE WHAT IT READS IS OF BULK AT MOST 1048576: true; the input reads as it did. -/
def volDoesUptoRow : OpenClaim := { program := "ytgbdgobkgcfioaa", sum := "c9605ca1d1112aa5281209f7330d69431ba316f19ccba9b8849250333368e421", func := "affidavit/affidavitlaw20.VolDoes", spec := "volDoes", unfollowed := true, recurses := true, apart := false, narrowed := true }
def VolDoesUptoSaid : Prop := volDoesUptoRow.holds Try.pinned (OpenSpec.upto volDoesSpec)

/-- 'affidavitlaw20.VolWrites', WHERE WHAT IT READS IS OF BULK AT MOST 1048576: true; the input reads as it did. -/
def volWritesUptoRow : OpenClaim := { program := "ytgbdgobkgcfioaa", sum := "c9605ca1d1112aa5281209f7330d69431ba316f19ccba9b8849250333368e421", func := "affidavit/affidavitlaw20.VolWrites", spec := "volWrites", unfollowed := true, recurses := true, apart := false, narrowed := true }
def VolWritesUptoSaid : Prop := volWritesUptoRow.holds Try.pinned (OpenSpec.upto volWritesSpec)

/-- 'affidavitlaw20.VolRenames', WHERE WHAT IT READS IS OF BULK AT MOST 1048576: true; the input reads as it did. -/
def volRenamesUptoRow : OpenClaim := { program := "ytgbdgobkgcfioaa", sum := "c9605ca1d1112aa5281209f7330d69431ba316f19ccba9b8849250333368e421", func := "affidavit/affidavitlaw20.VolRenames", spec := "volRenames", unfollowed := true, recurses := true, apart := false, narrowed := true }
def VolRenamesUptoSaid : Prop := volRenamesUptoRow.holds Try.pinned (OpenSpec.upto volRenamesSpec)

/-- 'affidavitlaw20.VolAsks', WHERE WHAT IT READS IS OF BULK AT MOST 1048576: true; the input reads as it did. -/
def volAsksUptoRow : OpenClaim := { program := "ytgbdgobkgcfioaa", sum := "c9605ca1d1112aa5281209f7330d69431ba316f19ccba9b8849250333368e421", func := "affidavit/affidavitlaw20.VolAsks", spec := "volAsks", unfollowed := true, recurses := true, apart := false, narrowed := true }
def VolAsksUptoSaid : Prop := volAsksUptoRow.holds Try.pinned (OpenSpec.upto volAsksSpec)

/-- 'affidavitlaw20.VolNodes', WHERE WHAT IT READS IS OF BULK AT MOST 1048576: true; the input reads as it did. -/
def volNodesUptoRow : OpenClaim := { program := "ytgbdgobkgcfioaa", sum := "c9605ca1d1112aa5281209f7330d69431ba316f19ccba9b8849250333368e421", func := "affidavit/affidavitlaw20.VolNodes", spec := "volNodes", unfollowed := true, recurses := true, apart := false, narrowed := true }
def VolNodesUptoSaid : Prop := volNodesUptoRow.holds Try.pinned (OpenSpec.upto volNodesSpec)

/-- 'affidavitlaw20.VolSound', WHERE WHAT IT READS IS OF BULK AT MOST 1048576: true; the input reads as it did. -/
def volSoundUptoRow : OpenClaim := { program := "ytgbdgobkgcfioaa", sum := "c9605ca1d1112aa5281209f7330d69431ba316f19ccba9b8849250333368e421", func := "affidavit/affidavitlaw20.VolSound", spec := "volSound", unfollowed := true, recurses := true, apart := false, narrowed := true }
def VolSoundUptoSaid : Prop := volSoundUptoRow.holds Try.pinned (OpenSpec.upto volSoundSpec)

/-- 'affidavitlaw20.VolNone', WHERE WHAT IT READS IS OF BULK AT MOST 1048576: true; the input reads as it did. -/
def volNoneUptoRow : OpenClaim := { program := "ytgbdgobkgcfioaa", sum := "c9605ca1d1112aa5281209f7330d69431ba316f19ccba9b8849250333368e421", func := "affidavit/affidavitlaw20.VolNone", spec := "volNone", unfollowed := true, recurses := true, apart := false, narrowed := true }
def VolNoneUptoSaid : Prop := volNoneUptoRow.holds Try.pinned (OpenSpec.upto volNoneSpec)

end Rows
end Go.Proofs.Ytgbdgobkgcfioaa
