/-
  NARROWER THAN 'FOR EVERY INPUT', by the rows' own cells (each row's printed sentence says how): VerifyChecks: laid · VerifySteps: laid · VerifyHonest: laid · VerifyTurned: laid · VerifyMade: laid · UstorHonest: laid · UstorDoes: laid · UstorOnes: laid · UstorAgain: laid.
  DERIVED. THE GIVEN ROWS OF THIS SEAT. 9 by the template 'for every input the law returns true; each argument reads behind the call as it read before'; 0 by the template 'total and deterministic' (their statements: YthejafdkimbddaaGreatDoorTotals.lean).
  GIVEN WITH THE SEED: the statements are not yours to turn. If you find one false, say at which input.
  Laid BY PROGRAM, IN A SANDBOX (cutbox-rows.mjs): the forced cells as the released guide's own fill.sh prints them over the translation b2237b4be47c43d8… (all of the seat's roots in one cut). By AI agents, Wed Nov 11 2026. No macro, syntax, notation, axiom, sorry.
-/
import Derived.Test.YthejafdkimbddaaGreatDoorChecked
import GoSem.Claim
import GoSem.ClaimJoined
import GoSem.ClaimMapViews
import Derived.JoinedTies
import Derived.KernelRfl
namespace Go.Proofs.YthejafdkimbddaaGreatDoor
/- THE CELL 'sum', in the pinned program and in every row, IS THE sha256 OF THE DUMP (.gsa) THAT YthejafdkimbddaaGreatDoorProg.lean LOADS. Nothing in Lean hashes anything: it is a label: what it is worth is what the hold of that sum in a sandbox is worth. -/
noncomputable def Tryz.pinned : Pinned := { name := "ythejafdkimbddaagreatdoor", sum := "b2237b4be47c43d8936d1193afbad0ae35f2de1d56b0c7bd314bdf41b7bc28f4", checked := Tryz.checked }
namespace Rows
def none {H : Type} : Left H := { results := [], args := [] }

/- WHAT THE LISTED PACKAGE-LEVEL VARIABLES READ AS WHEN THE CALL BEGINS. Each datum BY PROGRAM (the guide's laid-datum.mjs) off the statement by which the dump's own 'gosem.cut.vars' lays the variable. In a bare row this is a premise. The card (YthejafdkimbddaaGreatDoorCards.lean) ties it to the program's text. -/
def laid_affidavit_sum_consts {H : Type} : DataW H := .agg [.lit (.int .u32 1116352408), .lit (.int .u32 1899447441), .lit (.int .u32 3049323471), .lit (.int .u32 3921009573), .lit (.int .u32 961987163), .lit (.int .u32 1508970993), .lit (.int .u32 2453635748), .lit (.int .u32 2870763221), .lit (.int .u32 3624381080), .lit (.int .u32 310598401), .lit (.int .u32 607225278), .lit (.int .u32 1426881987), .lit (.int .u32 1925078388), .lit (.int .u32 2162078206), .lit (.int .u32 2614888103), .lit (.int .u32 3248222580), .lit (.int .u32 3835390401), .lit (.int .u32 4022224774), .lit (.int .u32 264347078), .lit (.int .u32 604807628), .lit (.int .u32 770255983), .lit (.int .u32 1249150122), .lit (.int .u32 1555081692), .lit (.int .u32 1996064986), .lit (.int .u32 2554220882), .lit (.int .u32 2821834349), .lit (.int .u32 2952996808), .lit (.int .u32 3210313671), .lit (.int .u32 3336571891), .lit (.int .u32 3584528711), .lit (.int .u32 113926993), .lit (.int .u32 338241895), .lit (.int .u32 666307205), .lit (.int .u32 773529912), .lit (.int .u32 1294757372), .lit (.int .u32 1396182291), .lit (.int .u32 1695183700), .lit (.int .u32 1986661051), .lit (.int .u32 2177026350), .lit (.int .u32 2456956037), .lit (.int .u32 2730485921), .lit (.int .u32 2820302411), .lit (.int .u32 3259730800), .lit (.int .u32 3345764771), .lit (.int .u32 3516065817), .lit (.int .u32 3600352804), .lit (.int .u32 4094571909), .lit (.int .u32 275423344), .lit (.int .u32 430227734), .lit (.int .u32 506948616), .lit (.int .u32 659060556), .lit (.int .u32 883997877), .lit (.int .u32 958139571), .lit (.int .u32 1322822218), .lit (.int .u32 1537002063), .lit (.int .u32 1747873779), .lit (.int .u32 1955562222), .lit (.int .u32 2024104815), .lit (.int .u32 2227730452), .lit (.int .u32 2361852424), .lit (.int .u32 2428436474), .lit (.int .u32 2756734187), .lit (.int .u32 3204031479), .lit (.int .u32 3329325298)]

/-- 'affidavitlaw14.VerifyChecks': WHATEVER THE INPUT: true; the input reads as it did. -/
def verifyChecksSpec : ChangeSpec := { name := "verifyChecks", fn := fun _ => fun
  | [d] => { results := [.lit (.bool true)], args := [d] }
  | _ => none }
def verifyChecksRow : OpenClaim := { program := "ythejafdkimbddaagreatdoor", sum := "b2237b4be47c43d8936d1193afbad0ae35f2de1d56b0c7bd314bdf41b7bc28f4", func := "affidavit/affidavitlaw14.VerifyChecks", spec := "verifyChecks", unfollowed := true, recurses := true, named := ["affidavit/sum.consts"], plainKeys := false, apart := false, laid := [("affidavit/sum.consts", laid_affidavit_sum_consts)] }
def VerifyChecksSaid : Prop := verifyChecksRow.holds Tryz.pinned (OpenSpec.ofChange verifyChecksSpec)

/-- ITS FALSE NEIGHBOUR: 'it returns false'. Refute it at one input. -/
def verifyChecksWrong : ChangeSpec := { name := "verifyChecks", fn := fun _ => fun
  | [d] => { results := [.lit (.bool false)], args := [d] }
  | _ => none }
def VerifyChecksWrongFalsely : Prop := verifyChecksRow.holds Tryz.pinned (OpenSpec.ofChange verifyChecksWrong)

/-- 'affidavitlaw14.VerifySteps': WHATEVER THE INPUT: true; the input reads as it did. -/
def verifyStepsSpec : ChangeSpec := { name := "verifySteps", fn := fun _ => fun
  | [d1, d2] => { results := [.lit (.bool true)], args := [d1, d2] }
  | _ => none }
def verifyStepsRow : OpenClaim := { program := "ythejafdkimbddaagreatdoor", sum := "b2237b4be47c43d8936d1193afbad0ae35f2de1d56b0c7bd314bdf41b7bc28f4", func := "affidavit/affidavitlaw14.VerifySteps", spec := "verifySteps", unfollowed := true, recurses := true, named := ["affidavit/sum.consts"], plainKeys := false, apart := false, laid := [("affidavit/sum.consts", laid_affidavit_sum_consts)] }
def VerifyStepsSaid : Prop := verifyStepsRow.holds Tryz.pinned (OpenSpec.ofChange verifyStepsSpec)

/-- ITS FALSE NEIGHBOUR: 'it returns false'. Refute it at one input. -/
def verifyStepsWrong : ChangeSpec := { name := "verifySteps", fn := fun _ => fun
  | [d1, d2] => { results := [.lit (.bool false)], args := [d1, d2] }
  | _ => none }
def VerifyStepsWrongFalsely : Prop := verifyStepsRow.holds Tryz.pinned (OpenSpec.ofChange verifyStepsWrong)

/-- 'affidavitlaw14.VerifyHonest': WHATEVER THE INPUT: true; the input reads as it did. -/
def verifyHonestSpec : ChangeSpec := { name := "verifyHonest", fn := fun _ => fun
  | [d1, d2] => { results := [.lit (.bool true)], args := [d1, d2] }
  | _ => none }
def verifyHonestRow : OpenClaim := { program := "ythejafdkimbddaagreatdoor", sum := "b2237b4be47c43d8936d1193afbad0ae35f2de1d56b0c7bd314bdf41b7bc28f4", func := "affidavit/affidavitlaw14.VerifyHonest", spec := "verifyHonest", unfollowed := true, recurses := true, named := ["affidavit/sum.consts"], plainKeys := false, apart := false, laid := [("affidavit/sum.consts", laid_affidavit_sum_consts)] }
def VerifyHonestSaid : Prop := verifyHonestRow.holds Tryz.pinned (OpenSpec.ofChange verifyHonestSpec)

/-- ITS FALSE NEIGHBOUR: 'it returns false'. Refute it at one input. -/
def verifyHonestWrong : ChangeSpec := { name := "verifyHonest", fn := fun _ => fun
  | [d1, d2] => { results := [.lit (.bool false)], args := [d1, d2] }
  | _ => none }
def VerifyHonestWrongFalsely : Prop := verifyHonestRow.holds Tryz.pinned (OpenSpec.ofChange verifyHonestWrong)

/-- 'affidavitlaw14.VerifyTurned': WHATEVER THE INPUT: true; the input reads as it did. -/
def verifyTurnedSpec : ChangeSpec := { name := "verifyTurned", fn := fun _ => fun
  | [d1, d2] => { results := [.lit (.bool true)], args := [d1, d2] }
  | _ => none }
def verifyTurnedRow : OpenClaim := { program := "ythejafdkimbddaagreatdoor", sum := "b2237b4be47c43d8936d1193afbad0ae35f2de1d56b0c7bd314bdf41b7bc28f4", func := "affidavit/affidavitlaw14.VerifyTurned", spec := "verifyTurned", unfollowed := true, recurses := true, named := ["affidavit/sum.consts"], plainKeys := false, apart := false, laid := [("affidavit/sum.consts", laid_affidavit_sum_consts)] }
def VerifyTurnedSaid : Prop := verifyTurnedRow.holds Tryz.pinned (OpenSpec.ofChange verifyTurnedSpec)

/-- ITS FALSE NEIGHBOUR: 'it returns false'. Refute it at one input. -/
def verifyTurnedWrong : ChangeSpec := { name := "verifyTurned", fn := fun _ => fun
  | [d1, d2] => { results := [.lit (.bool false)], args := [d1, d2] }
  | _ => none }
def VerifyTurnedWrongFalsely : Prop := verifyTurnedRow.holds Tryz.pinned (OpenSpec.ofChange verifyTurnedWrong)

/-- 'affidavitlaw14.VerifyMade': WHATEVER THE INPUT: true; the input reads as it did. -/
def verifyMadeSpec : ChangeSpec := { name := "verifyMade", fn := fun _ => fun
  | [d1, d2] => { results := [.lit (.bool true)], args := [d1, d2] }
  | _ => none }
def verifyMadeRow : OpenClaim := { program := "ythejafdkimbddaagreatdoor", sum := "b2237b4be47c43d8936d1193afbad0ae35f2de1d56b0c7bd314bdf41b7bc28f4", func := "affidavit/affidavitlaw14.VerifyMade", spec := "verifyMade", unfollowed := true, recurses := true, named := ["affidavit/sum.consts"], plainKeys := false, apart := false, laid := [("affidavit/sum.consts", laid_affidavit_sum_consts)] }
def VerifyMadeSaid : Prop := verifyMadeRow.holds Tryz.pinned (OpenSpec.ofChange verifyMadeSpec)

/-- ITS FALSE NEIGHBOUR: 'it returns false'. Refute it at one input. -/
def verifyMadeWrong : ChangeSpec := { name := "verifyMade", fn := fun _ => fun
  | [d1, d2] => { results := [.lit (.bool false)], args := [d1, d2] }
  | _ => none }
def VerifyMadeWrongFalsely : Prop := verifyMadeRow.holds Tryz.pinned (OpenSpec.ofChange verifyMadeWrong)

/-- 'affidavitlaw15.UstorHonest': WHATEVER THE INPUT: true; the input reads as it did. -/
def ustorHonestSpec : ChangeSpec := { name := "ustorHonest", fn := fun _ => fun
  | [d] => { results := [.lit (.bool true)], args := [d] }
  | _ => none }
def ustorHonestRow : OpenClaim := { program := "ythejafdkimbddaagreatdoor", sum := "b2237b4be47c43d8936d1193afbad0ae35f2de1d56b0c7bd314bdf41b7bc28f4", func := "affidavit/affidavitlaw15.UstorHonest", spec := "ustorHonest", unfollowed := true, recurses := true, named := ["affidavit/sum.consts"], plainKeys := false, apart := false, laid := [("affidavit/sum.consts", laid_affidavit_sum_consts)] }
def UstorHonestSaid : Prop := ustorHonestRow.holds Tryz.pinned (OpenSpec.ofChange ustorHonestSpec)

/-- ITS FALSE NEIGHBOUR: 'it returns false'. Refute it at one input. -/
def ustorHonestWrong : ChangeSpec := { name := "ustorHonest", fn := fun _ => fun
  | [d] => { results := [.lit (.bool false)], args := [d] }
  | _ => none }
def UstorHonestWrongFalsely : Prop := ustorHonestRow.holds Tryz.pinned (OpenSpec.ofChange ustorHonestWrong)

/-- 'affidavitlaw15.UstorDoes': WHATEVER THE INPUT: true; the input reads as it did. -/
def ustorDoesSpec : ChangeSpec := { name := "ustorDoes", fn := fun _ => fun
  | [d1, d2] => { results := [.lit (.bool true)], args := [d1, d2] }
  | _ => none }
def ustorDoesRow : OpenClaim := { program := "ythejafdkimbddaagreatdoor", sum := "b2237b4be47c43d8936d1193afbad0ae35f2de1d56b0c7bd314bdf41b7bc28f4", func := "affidavit/affidavitlaw15.UstorDoes", spec := "ustorDoes", unfollowed := true, recurses := true, named := ["affidavit/sum.consts"], plainKeys := false, apart := false, laid := [("affidavit/sum.consts", laid_affidavit_sum_consts)] }
def UstorDoesSaid : Prop := ustorDoesRow.holds Tryz.pinned (OpenSpec.ofChange ustorDoesSpec)

/-- ITS FALSE NEIGHBOUR: 'it returns false'. Refute it at one input. -/
def ustorDoesWrong : ChangeSpec := { name := "ustorDoes", fn := fun _ => fun
  | [d1, d2] => { results := [.lit (.bool false)], args := [d1, d2] }
  | _ => none }
def UstorDoesWrongFalsely : Prop := ustorDoesRow.holds Tryz.pinned (OpenSpec.ofChange ustorDoesWrong)

/-- 'affidavitlaw15.UstorOnes': WHATEVER THE INPUT: true; the input reads as it did. -/
def ustorOnesSpec : ChangeSpec := { name := "ustorOnes", fn := fun _ => fun
  | [d1, d2] => { results := [.lit (.bool true)], args := [d1, d2] }
  | _ => none }
def ustorOnesRow : OpenClaim := { program := "ythejafdkimbddaagreatdoor", sum := "b2237b4be47c43d8936d1193afbad0ae35f2de1d56b0c7bd314bdf41b7bc28f4", func := "affidavit/affidavitlaw15.UstorOnes", spec := "ustorOnes", unfollowed := true, recurses := true, named := ["affidavit/sum.consts"], plainKeys := false, apart := false, laid := [("affidavit/sum.consts", laid_affidavit_sum_consts)] }
def UstorOnesSaid : Prop := ustorOnesRow.holds Tryz.pinned (OpenSpec.ofChange ustorOnesSpec)

/-- ITS FALSE NEIGHBOUR: 'it returns false'. Refute it at one input. -/
def ustorOnesWrong : ChangeSpec := { name := "ustorOnes", fn := fun _ => fun
  | [d1, d2] => { results := [.lit (.bool false)], args := [d1, d2] }
  | _ => none }
def UstorOnesWrongFalsely : Prop := ustorOnesRow.holds Tryz.pinned (OpenSpec.ofChange ustorOnesWrong)

/-- 'affidavitlaw15.UstorAgain': WHATEVER THE INPUT: true; the input reads as it did. -/
def ustorAgainSpec : ChangeSpec := { name := "ustorAgain", fn := fun _ => fun
  | [d1, d2] => { results := [.lit (.bool true)], args := [d1, d2] }
  | _ => none }
def ustorAgainRow : OpenClaim := { program := "ythejafdkimbddaagreatdoor", sum := "b2237b4be47c43d8936d1193afbad0ae35f2de1d56b0c7bd314bdf41b7bc28f4", func := "affidavit/affidavitlaw15.UstorAgain", spec := "ustorAgain", unfollowed := true, recurses := true, named := ["affidavit/sum.consts"], plainKeys := false, apart := false, laid := [("affidavit/sum.consts", laid_affidavit_sum_consts)] }
def UstorAgainSaid : Prop := ustorAgainRow.holds Tryz.pinned (OpenSpec.ofChange ustorAgainSpec)

/-- ITS FALSE NEIGHBOUR: 'it returns false'. Refute it at one input. -/
def ustorAgainWrong : ChangeSpec := { name := "ustorAgain", fn := fun _ => fun
  | [d1, d2] => { results := [.lit (.bool false)], args := [d1, d2] }
  | _ => none }
def UstorAgainWrongFalsely : Prop := ustorAgainRow.holds Tryz.pinned (OpenSpec.ofChange ustorAgainWrong)

/- THE SECOND FORM. 'bulk': how many values and letters a reading holds, each counted each time it is reached (what is shared counts as often as it is met; a slice's spare places count too). A statement '..UptoSaid' is the law's where the arguments, and the package variables that the reading takes, are together of bulk at most 1048576: NARROWER than '..Said'. Prove '..Said' where nothing that the law and all that it calls make is longer than what came in: it says more and counts as full. Else prove '..UptoSaid'. A law counts once. -/
mutual
def uptoBulk {H : Type} : DataW H → Nat
  | .lit (.string bytes) => bytes.length + 1
  | .lit _ => 1
  | .nil => 1
  | .ptr d => uptoBulk d + 1
  | .slice elems spare => uptoBulkAll elems + uptoBulkAll spare + 1
  | .agg parts => uptoBulkAll parts + 1
  | .iface _ d => uptoBulk d + 1
  | .map entries => uptoBulkEntries entries + 1
  | .held _ => 1
def uptoBulkAll {H : Type} : List (DataW H) → Nat
  | [] => 0
  | d :: r => uptoBulk d + uptoBulkAll r
def uptoBulkEntries {H : Type} : List (Lit × DataW H) → Nat
  | [] => 0
  | x :: r => uptoBulkEntry x + uptoBulkEntries r
def uptoBulkEntry {H : Type} : Lit × DataW H → Nat
  | (.string bytes, d) => bytes.length + uptoBulk d + 1
  | (_, d) => uptoBulk d + 1
 end
def uptoSmall : (H : Type) → List (DataW H) → Bool := fun _ ds => decide (uptoBulkAll ds ≤ 1048576)
def OpenSpec.upto (s : _root_.Go.ChangeSpec) : _root_.Go.OpenSpec := { _root_.Go.OpenSpec.ofChange s with cond := some uptoSmall }

/-- 'affidavitlaw14.VerifyChecks', WHERE WHAT IT READS IS OF BULK AT MOST 1048576: true; the input reads as it did. -/
def verifyChecksUptoRow : OpenClaim := { program := "ythejafdkimbddaagreatdoor", sum := "b2237b4be47c43d8936d1193afbad0ae35f2de1d56b0c7bd314bdf41b7bc28f4", func := "affidavit/affidavitlaw14.VerifyChecks", spec := "verifyChecks", unfollowed := true, recurses := true, named := ["affidavit/sum.consts"], plainKeys := false, apart := false, laid := [("affidavit/sum.consts", laid_affidavit_sum_consts)], narrowed := true }
def VerifyChecksUptoSaid : Prop := verifyChecksUptoRow.holds Tryz.pinned (OpenSpec.upto verifyChecksSpec)

/-- 'affidavitlaw14.VerifySteps', WHERE WHAT IT READS IS OF BULK AT MOST 1048576: true; the input reads as it did. -/
def verifyStepsUptoRow : OpenClaim := { program := "ythejafdkimbddaagreatdoor", sum := "b2237b4be47c43d8936d1193afbad0ae35f2de1d56b0c7bd314bdf41b7bc28f4", func := "affidavit/affidavitlaw14.VerifySteps", spec := "verifySteps", unfollowed := true, recurses := true, named := ["affidavit/sum.consts"], plainKeys := false, apart := false, laid := [("affidavit/sum.consts", laid_affidavit_sum_consts)], narrowed := true }
def VerifyStepsUptoSaid : Prop := verifyStepsUptoRow.holds Tryz.pinned (OpenSpec.upto verifyStepsSpec)

/-- 'affidavitlaw14.VerifyHonest', WHERE WHAT IT READS IS OF BULK AT MOST 1048576: true; the input reads as it did. -/
def verifyHonestUptoRow : OpenClaim := { program := "ythejafdkimbddaagreatdoor", sum := "b2237b4be47c43d8936d1193afbad0ae35f2de1d56b0c7bd314bdf41b7bc28f4", func := "affidavit/affidavitlaw14.VerifyHonest", spec := "verifyHonest", unfollowed := true, recurses := true, named := ["affidavit/sum.consts"], plainKeys := false, apart := false, laid := [("affidavit/sum.consts", laid_affidavit_sum_consts)], narrowed := true }
def VerifyHonestUptoSaid : Prop := verifyHonestUptoRow.holds Tryz.pinned (OpenSpec.upto verifyHonestSpec)

/-- 'affidavitlaw14.VerifyTurned', WHERE WHAT IT READS IS OF BULK AT MOST 1048576: true; the input reads as it did. -/
def verifyTurnedUptoRow : OpenClaim := { program := "ythejafdkimbddaagreatdoor", sum := "b2237b4be47c43d8936d1193afbad0ae35f2de1d56b0c7bd314bdf41b7bc28f4", func := "affidavit/affidavitlaw14.VerifyTurned", spec := "verifyTurned", unfollowed := true, recurses := true, named := ["affidavit/sum.consts"], plainKeys := false, apart := false, laid := [("affidavit/sum.consts", laid_affidavit_sum_consts)], narrowed := true }
def VerifyTurnedUptoSaid : Prop := verifyTurnedUptoRow.holds Tryz.pinned (OpenSpec.upto verifyTurnedSpec)

/-- 'affidavitlaw14.VerifyMade', WHERE WHAT IT READS IS OF BULK AT MOST 1048576: true; the input reads as it did. -/
def verifyMadeUptoRow : OpenClaim := { program := "ythejafdkimbddaagreatdoor", sum := "b2237b4be47c43d8936d1193afbad0ae35f2de1d56b0c7bd314bdf41b7bc28f4", func := "affidavit/affidavitlaw14.VerifyMade", spec := "verifyMade", unfollowed := true, recurses := true, named := ["affidavit/sum.consts"], plainKeys := false, apart := false, laid := [("affidavit/sum.consts", laid_affidavit_sum_consts)], narrowed := true }
def VerifyMadeUptoSaid : Prop := verifyMadeUptoRow.holds Tryz.pinned (OpenSpec.upto verifyMadeSpec)

/-- 'affidavitlaw15.UstorHonest', WHERE WHAT IT READS IS OF BULK AT MOST 1048576: true; the input reads as it did. -/
def ustorHonestUptoRow : OpenClaim := { program := "ythejafdkimbddaagreatdoor", sum := "b2237b4be47c43d8936d1193afbad0ae35f2de1d56b0c7bd314bdf41b7bc28f4", func := "affidavit/affidavitlaw15.UstorHonest", spec := "ustorHonest", unfollowed := true, recurses := true, named := ["affidavit/sum.consts"], plainKeys := false, apart := false, laid := [("affidavit/sum.consts", laid_affidavit_sum_consts)], narrowed := true }
def UstorHonestUptoSaid : Prop := ustorHonestUptoRow.holds Tryz.pinned (OpenSpec.upto ustorHonestSpec)

/-- 'affidavitlaw15.UstorDoes', WHERE WHAT IT READS IS OF BULK AT MOST 1048576: true; the input reads as it did. -/
def ustorDoesUptoRow : OpenClaim := { program := "ythejafdkimbddaagreatdoor", sum := "b2237b4be47c43d8936d1193afbad0ae35f2de1d56b0c7bd314bdf41b7bc28f4", func := "affidavit/affidavitlaw15.UstorDoes", spec := "ustorDoes", unfollowed := true, recurses := true, named := ["affidavit/sum.consts"], plainKeys := false, apart := false, laid := [("affidavit/sum.consts", laid_affidavit_sum_consts)], narrowed := true }
def UstorDoesUptoSaid : Prop := ustorDoesUptoRow.holds Tryz.pinned (OpenSpec.upto ustorDoesSpec)

/-- 'affidavitlaw15.UstorOnes', WHERE WHAT IT READS IS OF BULK AT MOST 1048576: true; the input reads as it did. -/
def ustorOnesUptoRow : OpenClaim := { program := "ythejafdkimbddaagreatdoor", sum := "b2237b4be47c43d8936d1193afbad0ae35f2de1d56b0c7bd314bdf41b7bc28f4", func := "affidavit/affidavitlaw15.UstorOnes", spec := "ustorOnes", unfollowed := true, recurses := true, named := ["affidavit/sum.consts"], plainKeys := false, apart := false, laid := [("affidavit/sum.consts", laid_affidavit_sum_consts)], narrowed := true }
def UstorOnesUptoSaid : Prop := ustorOnesUptoRow.holds Tryz.pinned (OpenSpec.upto ustorOnesSpec)

/-- 'affidavitlaw15.UstorAgain', WHERE WHAT IT READS IS OF BULK AT MOST 1048576: true; the input reads as it did. -/
def ustorAgainUptoRow : OpenClaim := { program := "ythejafdkimbddaagreatdoor", sum := "b2237b4be47c43d8936d1193afbad0ae35f2de1d56b0c7bd314bdf41b7bc28f4", func := "affidavit/affidavitlaw15.UstorAgain", spec := "ustorAgain", unfollowed := true, recurses := true, named := ["affidavit/sum.consts"], plainKeys := false, apart := false, laid := [("affidavit/sum.consts", laid_affidavit_sum_consts)], narrowed := true }
def UstorAgainUptoSaid : Prop := ustorAgainUptoRow.holds Tryz.pinned (OpenSpec.upto ustorAgainSpec)

end Rows
end Go.Proofs.YthejafdkimbddaaGreatDoor
