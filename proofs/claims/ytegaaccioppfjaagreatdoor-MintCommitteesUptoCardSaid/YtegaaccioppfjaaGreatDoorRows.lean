/-
  NARROWER THAN 'FOR EVERY INPUT', by the rows' own cells (each row's printed sentence says how): LightChecks: laid · LightForces: laid · LightBegins: laid · LightOnce: laid · LightBetter: laid · LightOrder: laid · LightApplies: laid · LightSteps: laid · LightSees: laid · LightSigned: laid · LightAgrees: laid · MintCommittees: laid · MintBoots: laid · MintUpdates: laid · MintHolds: laid · MintParts: laid.
  DERIVED. THE GIVEN ROWS OF THIS SEAT. 16 by the template 'for every input the law returns true; each argument reads behind the call as it read before'; 0 by the template 'total and deterministic' (their statements: YtegaaccioppfjaaGreatDoorTotals.lean).
  GIVEN WITH THE SEED: the statements are not yours to turn. If you find one false, say at which input.
  Laid BY PROGRAM, IN A SANDBOX (cutbox-rows.mjs): the forced cells as the released guide's own fill.sh prints them over the translation 9adcd7837a4b7ae0… (all of the seat's roots in one cut). By AI agents, Wed Nov 11 2026. No macro, syntax, notation, axiom, sorry.
-/
import Derived.Test.YtegaaccioppfjaaGreatDoorChecked
import GoSem.Claim
import GoSem.ClaimJoined
import GoSem.ClaimMapViews
import Derived.JoinedTies
import Derived.KernelRfl
namespace Go.Proofs.YtegaaccioppfjaaGreatDoor
/- THE CELL 'sum', in the pinned program and in every row, IS THE sha256 OF THE DUMP (.gsa) THAT YtegaaccioppfjaaGreatDoorProg.lean LOADS. Nothing in Lean hashes anything: it is a label: what it is worth is what the hold of that sum in a sandbox is worth. -/
noncomputable def Tryz.pinned : Pinned := { name := "ytegaaccioppfjaagreatdoor", sum := "9adcd7837a4b7ae0f01fb03f684810aff0c2935ae16879480251130acb050eb3", checked := Tryz.checked }
namespace Rows
def none {H : Type} : Left H := { results := [], args := [] }

/- WHAT THE LISTED PACKAGE-LEVEL VARIABLES READ AS WHEN THE CALL BEGINS. Each datum BY PROGRAM (the guide's laid-datum.mjs) off the statement by which the dump's own 'gosem.cut.vars' lays the variable. In a bare row this is a premise. The card (YtegaaccioppfjaaGreatDoorCards.lean) ties it to the program's text. -/
def laid_pharos_sha_k {H : Type} : DataW H := .agg [.lit (.int .u32 1116352408), .lit (.int .u32 1899447441), .lit (.int .u32 3049323471), .lit (.int .u32 3921009573), .lit (.int .u32 961987163), .lit (.int .u32 1508970993), .lit (.int .u32 2453635748), .lit (.int .u32 2870763221), .lit (.int .u32 3624381080), .lit (.int .u32 310598401), .lit (.int .u32 607225278), .lit (.int .u32 1426881987), .lit (.int .u32 1925078388), .lit (.int .u32 2162078206), .lit (.int .u32 2614888103), .lit (.int .u32 3248222580), .lit (.int .u32 3835390401), .lit (.int .u32 4022224774), .lit (.int .u32 264347078), .lit (.int .u32 604807628), .lit (.int .u32 770255983), .lit (.int .u32 1249150122), .lit (.int .u32 1555081692), .lit (.int .u32 1996064986), .lit (.int .u32 2554220882), .lit (.int .u32 2821834349), .lit (.int .u32 2952996808), .lit (.int .u32 3210313671), .lit (.int .u32 3336571891), .lit (.int .u32 3584528711), .lit (.int .u32 113926993), .lit (.int .u32 338241895), .lit (.int .u32 666307205), .lit (.int .u32 773529912), .lit (.int .u32 1294757372), .lit (.int .u32 1396182291), .lit (.int .u32 1695183700), .lit (.int .u32 1986661051), .lit (.int .u32 2177026350), .lit (.int .u32 2456956037), .lit (.int .u32 2730485921), .lit (.int .u32 2820302411), .lit (.int .u32 3259730800), .lit (.int .u32 3345764771), .lit (.int .u32 3516065817), .lit (.int .u32 3600352804), .lit (.int .u32 4094571909), .lit (.int .u32 275423344), .lit (.int .u32 430227734), .lit (.int .u32 506948616), .lit (.int .u32 659060556), .lit (.int .u32 883997877), .lit (.int .u32 958139571), .lit (.int .u32 1322822218), .lit (.int .u32 1537002063), .lit (.int .u32 1747873779), .lit (.int .u32 1955562222), .lit (.int .u32 2024104815), .lit (.int .u32 2227730452), .lit (.int .u32 2361852424), .lit (.int .u32 2428436474), .lit (.int .u32 2756734187), .lit (.int .u32 3204031479), .lit (.int .u32 3329325298)]

/-- 'pharoslaw14.LightChecks': WHATEVER THE INPUT: true; the input reads as it did. -/
def lightChecksSpec : ChangeSpec := { name := "lightChecks", fn := fun _ => fun
  | [d1, d2, d3] => { results := [.lit (.bool true)], args := [d1, d2, d3] }
  | _ => none }
def lightChecksRow : OpenClaim := { program := "ytegaaccioppfjaagreatdoor", sum := "9adcd7837a4b7ae0f01fb03f684810aff0c2935ae16879480251130acb050eb3", func := "pharos/pharoslaw14.LightChecks", spec := "lightChecks", inPlace := ["internal/abi.NoEscape", "internal/bytealg.MakeNoZero"], unfollowed := true, recurses := true, named := ["pharos/sha.k"], apart := false, laid := [("pharos/sha.k", laid_pharos_sha_k)] }
def LightChecksSaid : Prop := lightChecksRow.holds Tryz.pinned (OpenSpec.ofChange lightChecksSpec)

/-- ITS FALSE NEIGHBOUR: 'it returns false'. Refute it at one input. -/
def lightChecksWrong : ChangeSpec := { name := "lightChecks", fn := fun _ => fun
  | [d1, d2, d3] => { results := [.lit (.bool false)], args := [d1, d2, d3] }
  | _ => none }
def LightChecksWrongFalsely : Prop := lightChecksRow.holds Tryz.pinned (OpenSpec.ofChange lightChecksWrong)

/-- 'pharoslaw14.LightForces': WHATEVER THE INPUT: true; the input reads as it did. -/
def lightForcesSpec : ChangeSpec := { name := "lightForces", fn := fun _ => fun
  | [d1, d2] => { results := [.lit (.bool true)], args := [d1, d2] }
  | _ => none }
def lightForcesRow : OpenClaim := { program := "ytegaaccioppfjaagreatdoor", sum := "9adcd7837a4b7ae0f01fb03f684810aff0c2935ae16879480251130acb050eb3", func := "pharos/pharoslaw14.LightForces", spec := "lightForces", inPlace := ["internal/abi.NoEscape", "internal/bytealg.MakeNoZero"], unfollowed := true, recurses := true, named := ["pharos/sha.k"], apart := false, laid := [("pharos/sha.k", laid_pharos_sha_k)] }
def LightForcesSaid : Prop := lightForcesRow.holds Tryz.pinned (OpenSpec.ofChange lightForcesSpec)

/-- ITS FALSE NEIGHBOUR: 'it returns false'. Refute it at one input. -/
def lightForcesWrong : ChangeSpec := { name := "lightForces", fn := fun _ => fun
  | [d1, d2] => { results := [.lit (.bool false)], args := [d1, d2] }
  | _ => none }
def LightForcesWrongFalsely : Prop := lightForcesRow.holds Tryz.pinned (OpenSpec.ofChange lightForcesWrong)

/-- 'pharoslaw14.LightBegins': WHATEVER THE INPUT: true; the input reads as it did. -/
def lightBeginsSpec : ChangeSpec := { name := "lightBegins", fn := fun _ => fun
  | [d1, d2] => { results := [.lit (.bool true)], args := [d1, d2] }
  | _ => none }
def lightBeginsRow : OpenClaim := { program := "ytegaaccioppfjaagreatdoor", sum := "9adcd7837a4b7ae0f01fb03f684810aff0c2935ae16879480251130acb050eb3", func := "pharos/pharoslaw14.LightBegins", spec := "lightBegins", inPlace := ["internal/abi.NoEscape", "internal/bytealg.MakeNoZero"], unfollowed := true, recurses := true, named := ["pharos/sha.k"], apart := false, laid := [("pharos/sha.k", laid_pharos_sha_k)] }
def LightBeginsSaid : Prop := lightBeginsRow.holds Tryz.pinned (OpenSpec.ofChange lightBeginsSpec)

/-- ITS FALSE NEIGHBOUR: 'it returns false'. Refute it at one input. -/
def lightBeginsWrong : ChangeSpec := { name := "lightBegins", fn := fun _ => fun
  | [d1, d2] => { results := [.lit (.bool false)], args := [d1, d2] }
  | _ => none }
def LightBeginsWrongFalsely : Prop := lightBeginsRow.holds Tryz.pinned (OpenSpec.ofChange lightBeginsWrong)

/-- 'pharoslaw14.LightOnce': WHATEVER THE INPUT: true; the input reads as it did. -/
def lightOnceSpec : ChangeSpec := { name := "lightOnce", fn := fun _ => fun
  | [d1, d2, d3, d4, d5] => { results := [.lit (.bool true)], args := [d1, d2, d3, d4, d5] }
  | _ => none }
def lightOnceRow : OpenClaim := { program := "ytegaaccioppfjaagreatdoor", sum := "9adcd7837a4b7ae0f01fb03f684810aff0c2935ae16879480251130acb050eb3", func := "pharos/pharoslaw14.LightOnce", spec := "lightOnce", inPlace := ["internal/abi.NoEscape", "internal/bytealg.MakeNoZero"], unfollowed := true, recurses := true, named := ["pharos/sha.k"], apart := false, laid := [("pharos/sha.k", laid_pharos_sha_k)] }
def LightOnceSaid : Prop := lightOnceRow.holds Tryz.pinned (OpenSpec.ofChange lightOnceSpec)

/-- ITS FALSE NEIGHBOUR: 'it returns false'. Refute it at one input. -/
def lightOnceWrong : ChangeSpec := { name := "lightOnce", fn := fun _ => fun
  | [d1, d2, d3, d4, d5] => { results := [.lit (.bool false)], args := [d1, d2, d3, d4, d5] }
  | _ => none }
def LightOnceWrongFalsely : Prop := lightOnceRow.holds Tryz.pinned (OpenSpec.ofChange lightOnceWrong)

/-- 'pharoslaw14.LightBetter': WHATEVER THE INPUT: true; the input reads as it did. -/
def lightBetterSpec : ChangeSpec := { name := "lightBetter", fn := fun _ => fun
  | [d1, d2] => { results := [.lit (.bool true)], args := [d1, d2] }
  | _ => none }
def lightBetterRow : OpenClaim := { program := "ytegaaccioppfjaagreatdoor", sum := "9adcd7837a4b7ae0f01fb03f684810aff0c2935ae16879480251130acb050eb3", func := "pharos/pharoslaw14.LightBetter", spec := "lightBetter", inPlace := ["internal/abi.NoEscape", "internal/bytealg.MakeNoZero"], unfollowed := true, recurses := true, named := ["pharos/sha.k"], apart := false, laid := [("pharos/sha.k", laid_pharos_sha_k)] }
def LightBetterSaid : Prop := lightBetterRow.holds Tryz.pinned (OpenSpec.ofChange lightBetterSpec)

/-- ITS FALSE NEIGHBOUR: 'it returns false'. Refute it at one input. -/
def lightBetterWrong : ChangeSpec := { name := "lightBetter", fn := fun _ => fun
  | [d1, d2] => { results := [.lit (.bool false)], args := [d1, d2] }
  | _ => none }
def LightBetterWrongFalsely : Prop := lightBetterRow.holds Tryz.pinned (OpenSpec.ofChange lightBetterWrong)

/-- 'pharoslaw14.LightOrder': WHATEVER THE INPUT: true; the input reads as it did. -/
def lightOrderSpec : ChangeSpec := { name := "lightOrder", fn := fun _ => fun
  | [d1, d2, d3] => { results := [.lit (.bool true)], args := [d1, d2, d3] }
  | _ => none }
def lightOrderRow : OpenClaim := { program := "ytegaaccioppfjaagreatdoor", sum := "9adcd7837a4b7ae0f01fb03f684810aff0c2935ae16879480251130acb050eb3", func := "pharos/pharoslaw14.LightOrder", spec := "lightOrder", inPlace := ["internal/abi.NoEscape", "internal/bytealg.MakeNoZero"], unfollowed := true, recurses := true, named := ["pharos/sha.k"], apart := false, laid := [("pharos/sha.k", laid_pharos_sha_k)] }
def LightOrderSaid : Prop := lightOrderRow.holds Tryz.pinned (OpenSpec.ofChange lightOrderSpec)

/-- ITS FALSE NEIGHBOUR: 'it returns false'. Refute it at one input. -/
def lightOrderWrong : ChangeSpec := { name := "lightOrder", fn := fun _ => fun
  | [d1, d2, d3] => { results := [.lit (.bool false)], args := [d1, d2, d3] }
  | _ => none }
def LightOrderWrongFalsely : Prop := lightOrderRow.holds Tryz.pinned (OpenSpec.ofChange lightOrderWrong)

/-- 'pharoslaw14.LightApplies': WHATEVER THE INPUT: true; the input reads as it did. -/
def lightAppliesSpec : ChangeSpec := { name := "lightApplies", fn := fun _ => fun
  | [d1, d2, d3] => { results := [.lit (.bool true)], args := [d1, d2, d3] }
  | _ => none }
def lightAppliesRow : OpenClaim := { program := "ytegaaccioppfjaagreatdoor", sum := "9adcd7837a4b7ae0f01fb03f684810aff0c2935ae16879480251130acb050eb3", func := "pharos/pharoslaw14.LightApplies", spec := "lightApplies", inPlace := ["internal/abi.NoEscape", "internal/bytealg.MakeNoZero"], unfollowed := true, recurses := true, named := ["pharos/sha.k"], apart := false, laid := [("pharos/sha.k", laid_pharos_sha_k)] }
def LightAppliesSaid : Prop := lightAppliesRow.holds Tryz.pinned (OpenSpec.ofChange lightAppliesSpec)

/-- ITS FALSE NEIGHBOUR: 'it returns false'. Refute it at one input. -/
def lightAppliesWrong : ChangeSpec := { name := "lightApplies", fn := fun _ => fun
  | [d1, d2, d3] => { results := [.lit (.bool false)], args := [d1, d2, d3] }
  | _ => none }
def LightAppliesWrongFalsely : Prop := lightAppliesRow.holds Tryz.pinned (OpenSpec.ofChange lightAppliesWrong)

/-- 'pharoslaw14.LightSteps': WHATEVER THE INPUT: true; the input reads as it did. -/
def lightStepsSpec : ChangeSpec := { name := "lightSteps", fn := fun _ => fun
  | [d1, d2, d3] => { results := [.lit (.bool true)], args := [d1, d2, d3] }
  | _ => none }
def lightStepsRow : OpenClaim := { program := "ytegaaccioppfjaagreatdoor", sum := "9adcd7837a4b7ae0f01fb03f684810aff0c2935ae16879480251130acb050eb3", func := "pharos/pharoslaw14.LightSteps", spec := "lightSteps", inPlace := ["internal/abi.NoEscape", "internal/bytealg.MakeNoZero"], unfollowed := true, recurses := true, named := ["pharos/sha.k"], apart := false, laid := [("pharos/sha.k", laid_pharos_sha_k)] }
def LightStepsSaid : Prop := lightStepsRow.holds Tryz.pinned (OpenSpec.ofChange lightStepsSpec)

/-- ITS FALSE NEIGHBOUR: 'it returns false'. Refute it at one input. -/
def lightStepsWrong : ChangeSpec := { name := "lightSteps", fn := fun _ => fun
  | [d1, d2, d3] => { results := [.lit (.bool false)], args := [d1, d2, d3] }
  | _ => none }
def LightStepsWrongFalsely : Prop := lightStepsRow.holds Tryz.pinned (OpenSpec.ofChange lightStepsWrong)

/-- 'pharoslaw14.LightSees': WHATEVER THE INPUT: true; the input reads as it did. -/
def lightSeesSpec : ChangeSpec := { name := "lightSees", fn := fun _ => fun
  | [d1, d2, d3] => { results := [.lit (.bool true)], args := [d1, d2, d3] }
  | _ => none }
def lightSeesRow : OpenClaim := { program := "ytegaaccioppfjaagreatdoor", sum := "9adcd7837a4b7ae0f01fb03f684810aff0c2935ae16879480251130acb050eb3", func := "pharos/pharoslaw14.LightSees", spec := "lightSees", inPlace := ["internal/abi.NoEscape", "internal/bytealg.MakeNoZero"], unfollowed := true, recurses := true, named := ["pharos/sha.k"], apart := false, laid := [("pharos/sha.k", laid_pharos_sha_k)] }
def LightSeesSaid : Prop := lightSeesRow.holds Tryz.pinned (OpenSpec.ofChange lightSeesSpec)

/-- ITS FALSE NEIGHBOUR: 'it returns false'. Refute it at one input. -/
def lightSeesWrong : ChangeSpec := { name := "lightSees", fn := fun _ => fun
  | [d1, d2, d3] => { results := [.lit (.bool false)], args := [d1, d2, d3] }
  | _ => none }
def LightSeesWrongFalsely : Prop := lightSeesRow.holds Tryz.pinned (OpenSpec.ofChange lightSeesWrong)

/-- 'pharoslaw14.LightSigned': WHATEVER THE INPUT: true; the input reads as it did. -/
def lightSignedSpec : ChangeSpec := { name := "lightSigned", fn := fun _ => fun
  | [d1, d2, d3] => { results := [.lit (.bool true)], args := [d1, d2, d3] }
  | _ => none }
def lightSignedRow : OpenClaim := { program := "ytegaaccioppfjaagreatdoor", sum := "9adcd7837a4b7ae0f01fb03f684810aff0c2935ae16879480251130acb050eb3", func := "pharos/pharoslaw14.LightSigned", spec := "lightSigned", inPlace := ["internal/abi.NoEscape", "internal/bytealg.MakeNoZero"], unfollowed := true, recurses := true, named := ["pharos/sha.k"], apart := false, laid := [("pharos/sha.k", laid_pharos_sha_k)] }
def LightSignedSaid : Prop := lightSignedRow.holds Tryz.pinned (OpenSpec.ofChange lightSignedSpec)

/-- ITS FALSE NEIGHBOUR: 'it returns false'. Refute it at one input. -/
def lightSignedWrong : ChangeSpec := { name := "lightSigned", fn := fun _ => fun
  | [d1, d2, d3] => { results := [.lit (.bool false)], args := [d1, d2, d3] }
  | _ => none }
def LightSignedWrongFalsely : Prop := lightSignedRow.holds Tryz.pinned (OpenSpec.ofChange lightSignedWrong)

/-- 'pharoslaw14.LightAgrees': WHATEVER THE INPUT: true; the input reads as it did. -/
def lightAgreesSpec : ChangeSpec := { name := "lightAgrees", fn := fun _ => fun
  | [d1, d2, d3] => { results := [.lit (.bool true)], args := [d1, d2, d3] }
  | _ => none }
def lightAgreesRow : OpenClaim := { program := "ytegaaccioppfjaagreatdoor", sum := "9adcd7837a4b7ae0f01fb03f684810aff0c2935ae16879480251130acb050eb3", func := "pharos/pharoslaw14.LightAgrees", spec := "lightAgrees", inPlace := ["internal/abi.NoEscape", "internal/bytealg.MakeNoZero"], unfollowed := true, recurses := true, named := ["pharos/sha.k"], apart := false, laid := [("pharos/sha.k", laid_pharos_sha_k)] }
def LightAgreesSaid : Prop := lightAgreesRow.holds Tryz.pinned (OpenSpec.ofChange lightAgreesSpec)

/-- ITS FALSE NEIGHBOUR: 'it returns false'. Refute it at one input. -/
def lightAgreesWrong : ChangeSpec := { name := "lightAgrees", fn := fun _ => fun
  | [d1, d2, d3] => { results := [.lit (.bool false)], args := [d1, d2, d3] }
  | _ => none }
def LightAgreesWrongFalsely : Prop := lightAgreesRow.holds Tryz.pinned (OpenSpec.ofChange lightAgreesWrong)

/-- 'pharoslaw15.MintCommittees': WHATEVER THE INPUT: true; the input reads as it did. -/
def mintCommitteesSpec : ChangeSpec := { name := "mintCommittees", fn := fun _ => fun
  | [d1, d2, d3, d4, d5] => { results := [.lit (.bool true)], args := [d1, d2, d3, d4, d5] }
  | _ => none }
def mintCommitteesRow : OpenClaim := { program := "ytegaaccioppfjaagreatdoor", sum := "9adcd7837a4b7ae0f01fb03f684810aff0c2935ae16879480251130acb050eb3", func := "pharos/pharoslaw15.MintCommittees", spec := "mintCommittees", inPlace := ["internal/abi.NoEscape", "internal/bytealg.MakeNoZero"], unfollowed := true, recurses := true, named := ["pharos/sha.k"], apart := false, laid := [("pharos/sha.k", laid_pharos_sha_k)] }
def MintCommitteesSaid : Prop := mintCommitteesRow.holds Tryz.pinned (OpenSpec.ofChange mintCommitteesSpec)

/-- ITS FALSE NEIGHBOUR: 'it returns false'. Refute it at one input. -/
def mintCommitteesWrong : ChangeSpec := { name := "mintCommittees", fn := fun _ => fun
  | [d1, d2, d3, d4, d5] => { results := [.lit (.bool false)], args := [d1, d2, d3, d4, d5] }
  | _ => none }
def MintCommitteesWrongFalsely : Prop := mintCommitteesRow.holds Tryz.pinned (OpenSpec.ofChange mintCommitteesWrong)

/-- 'pharoslaw15.MintBoots': WHATEVER THE INPUT: true; the input reads as it did. -/
def mintBootsSpec : ChangeSpec := { name := "mintBoots", fn := fun _ => fun
  | [d1, d2, d3, d4] => { results := [.lit (.bool true)], args := [d1, d2, d3, d4] }
  | _ => none }
def mintBootsRow : OpenClaim := { program := "ytegaaccioppfjaagreatdoor", sum := "9adcd7837a4b7ae0f01fb03f684810aff0c2935ae16879480251130acb050eb3", func := "pharos/pharoslaw15.MintBoots", spec := "mintBoots", inPlace := ["internal/abi.NoEscape", "internal/bytealg.MakeNoZero"], unfollowed := true, recurses := true, named := ["pharos/sha.k"], apart := false, laid := [("pharos/sha.k", laid_pharos_sha_k)] }
def MintBootsSaid : Prop := mintBootsRow.holds Tryz.pinned (OpenSpec.ofChange mintBootsSpec)

/-- ITS FALSE NEIGHBOUR: 'it returns false'. Refute it at one input. -/
def mintBootsWrong : ChangeSpec := { name := "mintBoots", fn := fun _ => fun
  | [d1, d2, d3, d4] => { results := [.lit (.bool false)], args := [d1, d2, d3, d4] }
  | _ => none }
def MintBootsWrongFalsely : Prop := mintBootsRow.holds Tryz.pinned (OpenSpec.ofChange mintBootsWrong)

/-- 'pharoslaw15.MintUpdates': WHATEVER THE INPUT: true; the input reads as it did. -/
def mintUpdatesSpec : ChangeSpec := { name := "mintUpdates", fn := fun _ => fun
  | [d] => { results := [.lit (.bool true)], args := [d] }
  | _ => none }
def mintUpdatesRow : OpenClaim := { program := "ytegaaccioppfjaagreatdoor", sum := "9adcd7837a4b7ae0f01fb03f684810aff0c2935ae16879480251130acb050eb3", func := "pharos/pharoslaw15.MintUpdates", spec := "mintUpdates", inPlace := ["internal/abi.NoEscape", "internal/bytealg.MakeNoZero"], unfollowed := true, recurses := true, named := ["pharos/sha.k"], apart := false, laid := [("pharos/sha.k", laid_pharos_sha_k)] }
def MintUpdatesSaid : Prop := mintUpdatesRow.holds Tryz.pinned (OpenSpec.ofChange mintUpdatesSpec)

/-- ITS FALSE NEIGHBOUR: 'it returns false'. Refute it at one input. -/
def mintUpdatesWrong : ChangeSpec := { name := "mintUpdates", fn := fun _ => fun
  | [d] => { results := [.lit (.bool false)], args := [d] }
  | _ => none }
def MintUpdatesWrongFalsely : Prop := mintUpdatesRow.holds Tryz.pinned (OpenSpec.ofChange mintUpdatesWrong)

/-- 'pharoslaw15.MintHolds': WHATEVER THE INPUT: true; the input reads as it did. -/
def mintHoldsSpec : ChangeSpec := { name := "mintHolds", fn := fun _ => fun
  | [d1, d2, d3, d4] => { results := [.lit (.bool true)], args := [d1, d2, d3, d4] }
  | _ => none }
def mintHoldsRow : OpenClaim := { program := "ytegaaccioppfjaagreatdoor", sum := "9adcd7837a4b7ae0f01fb03f684810aff0c2935ae16879480251130acb050eb3", func := "pharos/pharoslaw15.MintHolds", spec := "mintHolds", inPlace := ["internal/abi.NoEscape", "internal/bytealg.MakeNoZero"], unfollowed := true, recurses := true, named := ["pharos/sha.k"], apart := false, laid := [("pharos/sha.k", laid_pharos_sha_k)] }
def MintHoldsSaid : Prop := mintHoldsRow.holds Tryz.pinned (OpenSpec.ofChange mintHoldsSpec)

/-- ITS FALSE NEIGHBOUR: 'it returns false'. Refute it at one input. -/
def mintHoldsWrong : ChangeSpec := { name := "mintHolds", fn := fun _ => fun
  | [d1, d2, d3, d4] => { results := [.lit (.bool false)], args := [d1, d2, d3, d4] }
  | _ => none }
def MintHoldsWrongFalsely : Prop := mintHoldsRow.holds Tryz.pinned (OpenSpec.ofChange mintHoldsWrong)

/-- 'pharoslaw15.MintParts': WHATEVER THE INPUT: true; the input reads as it did. -/
def mintPartsSpec : ChangeSpec := { name := "mintParts", fn := fun _ => fun
  | [d] => { results := [.lit (.bool true)], args := [d] }
  | _ => none }
def mintPartsRow : OpenClaim := { program := "ytegaaccioppfjaagreatdoor", sum := "9adcd7837a4b7ae0f01fb03f684810aff0c2935ae16879480251130acb050eb3", func := "pharos/pharoslaw15.MintParts", spec := "mintParts", inPlace := ["internal/abi.NoEscape", "internal/bytealg.MakeNoZero"], unfollowed := true, recurses := true, named := ["pharos/sha.k"], apart := false, laid := [("pharos/sha.k", laid_pharos_sha_k)] }
def MintPartsSaid : Prop := mintPartsRow.holds Tryz.pinned (OpenSpec.ofChange mintPartsSpec)

/-- ITS FALSE NEIGHBOUR: 'it returns false'. Refute it at one input. -/
def mintPartsWrong : ChangeSpec := { name := "mintParts", fn := fun _ => fun
  | [d] => { results := [.lit (.bool false)], args := [d] }
  | _ => none }
def MintPartsWrongFalsely : Prop := mintPartsRow.holds Tryz.pinned (OpenSpec.ofChange mintPartsWrong)

/- THE SECOND FORM. 'bulk': how many values and letters a reading holds, each counted each time it is reached (what is shared counts as often as it is met; a slice's spare places count too). A statement '..UptoSaid' is the law's where the arguments, and the package variables that the reading takes, are together of bulk at most 1048576: NARROWER than '..Said'. Prove '..Said' where nothing that the law and all that it calls make is longer than what came in: it says more and counts as full. Else prove '..UptoSaid'. A law counts once. -/
mutual
def uptoBulk {H : Type} : DataW H → Nat
  | .lit (.string bytes) => bytes.length + 1
  | .lit _ => 1
  | .nil => 1
  | .ptr d => uptoBulk d + 1
  | .slice elems spare => uptoBulkAll elems + uptoBulkAll spare + 1
  | .agg parts => uptoBulkAll parts + 1
  | .iface _ d => uptoBulk d + 1
  | .map entries => uptoBulkEntries entries + 1
  | .held _ => 1
def uptoBulkAll {H : Type} : List (DataW H) → Nat
  | [] => 0
  | d :: r => uptoBulk d + uptoBulkAll r
def uptoBulkEntries {H : Type} : List (Lit × DataW H) → Nat
  | [] => 0
  | x :: r => uptoBulkEntry x + uptoBulkEntries r
def uptoBulkEntry {H : Type} : Lit × DataW H → Nat
  | (.string bytes, d) => bytes.length + uptoBulk d + 1
  | (_, d) => uptoBulk d + 1
 end
def uptoSmall : (H : Type) → List (DataW H) → Bool := fun _ ds => decide (uptoBulkAll ds ≤ 1048576)
def OpenSpec.upto (s : _root_.Go.ChangeSpec) : _root_.Go.OpenSpec := { _root_.Go.OpenSpec.ofChange s with cond := some uptoSmall }

/-- 'pharoslaw14.LightChecks', WHERE WHAT IT READS IS OF BULK AT MOST 1048576: true; the input reads as it did. -/
def lightChecksUptoRow : OpenClaim := { program := "ytegaaccioppfjaagreatdoor", sum := "9adcd7837a4b7ae0f01fb03f684810aff0c2935ae16879480251130acb050eb3", func := "pharos/pharoslaw14.LightChecks", spec := "lightChecks", inPlace := ["internal/abi.NoEscape", "internal/bytealg.MakeNoZero"], unfollowed := true, recurses := true, named := ["pharos/sha.k"], apart := false, laid := [("pharos/sha.k", laid_pharos_sha_k)], narrowed := true }
def LightChecksUptoSaid : Prop := lightChecksUptoRow.holds Tryz.pinned (OpenSpec.upto lightChecksSpec)

/-- 'pharoslaw14.LightForces', WHERE WHAT IT READS IS OF BULK AT MOST 1048576: true; the input reads as it did. -/
def lightForcesUptoRow : OpenClaim := { program := "ytegaaccioppfjaagreatdoor", sum := "9adcd7837a4b7ae0f01fb03f684810aff0c2935ae16879480251130acb050eb3", func := "pharos/pharoslaw14.LightForces", spec := "lightForces", inPlace := ["internal/abi.NoEscape", "internal/bytealg.MakeNoZero"], unfollowed := true, recurses := true, named := ["pharos/sha.k"], apart := false, laid := [("pharos/sha.k", laid_pharos_sha_k)], narrowed := true }
def LightForcesUptoSaid : Prop := lightForcesUptoRow.holds Tryz.pinned (OpenSpec.upto lightForcesSpec)

/-- 'pharoslaw14.LightBegins', WHERE WHAT IT READS IS OF BULK AT MOST 1048576: true; the input reads as it did. -/
def lightBeginsUptoRow : OpenClaim := { program := "ytegaaccioppfjaagreatdoor", sum := "9adcd7837a4b7ae0f01fb03f684810aff0c2935ae16879480251130acb050eb3", func := "pharos/pharoslaw14.LightBegins", spec := "lightBegins", inPlace := ["internal/abi.NoEscape", "internal/bytealg.MakeNoZero"], unfollowed := true, recurses := true, named := ["pharos/sha.k"], apart := false, laid := [("pharos/sha.k", laid_pharos_sha_k)], narrowed := true }
def LightBeginsUptoSaid : Prop := lightBeginsUptoRow.holds Tryz.pinned (OpenSpec.upto lightBeginsSpec)

/-- 'pharoslaw14.LightOnce', WHERE WHAT IT READS IS OF BULK AT MOST 1048576: true; the input reads as it did. -/
def lightOnceUptoRow : OpenClaim := { program := "ytegaaccioppfjaagreatdoor", sum := "9adcd7837a4b7ae0f01fb03f684810aff0c2935ae16879480251130acb050eb3", func := "pharos/pharoslaw14.LightOnce", spec := "lightOnce", inPlace := ["internal/abi.NoEscape", "internal/bytealg.MakeNoZero"], unfollowed := true, recurses := true, named := ["pharos/sha.k"], apart := false, laid := [("pharos/sha.k", laid_pharos_sha_k)], narrowed := true }
def LightOnceUptoSaid : Prop := lightOnceUptoRow.holds Tryz.pinned (OpenSpec.upto lightOnceSpec)

/-- 'pharoslaw14.LightBetter', WHERE WHAT IT READS IS OF BULK AT MOST 1048576: true; the input reads as it did. -/
def lightBetterUptoRow : OpenClaim := { program := "ytegaaccioppfjaagreatdoor", sum := "9adcd7837a4b7ae0f01fb03f684810aff0c2935ae16879480251130acb050eb3", func := "pharos/pharoslaw14.LightBetter", spec := "lightBetter", inPlace := ["internal/abi.NoEscape", "internal/bytealg.MakeNoZero"], unfollowed := true, recurses := true, named := ["pharos/sha.k"], apart := false, laid := [("pharos/sha.k", laid_pharos_sha_k)], narrowed := true }
def LightBetterUptoSaid : Prop := lightBetterUptoRow.holds Tryz.pinned (OpenSpec.upto lightBetterSpec)

/-- 'pharoslaw14.LightOrder', WHERE WHAT IT READS IS OF BULK AT MOST 1048576: true; the input reads as it did. -/
def lightOrderUptoRow : OpenClaim := { program := "ytegaaccioppfjaagreatdoor", sum := "9adcd7837a4b7ae0f01fb03f684810aff0c2935ae16879480251130acb050eb3", func := "pharos/pharoslaw14.LightOrder", spec := "lightOrder", inPlace := ["internal/abi.NoEscape", "internal/bytealg.MakeNoZero"], unfollowed := true, recurses := true, named := ["pharos/sha.k"], apart := false, laid := [("pharos/sha.k", laid_pharos_sha_k)], narrowed := true }
def LightOrderUptoSaid : Prop := lightOrderUptoRow.holds Tryz.pinned (OpenSpec.upto lightOrderSpec)

/-- 'pharoslaw14.LightApplies', WHERE WHAT IT READS IS OF BULK AT MOST 1048576: true; the input reads as it did. -/
def lightAppliesUptoRow : OpenClaim := { program := "ytegaaccioppfjaagreatdoor", sum := "9adcd7837a4b7ae0f01fb03f684810aff0c2935ae16879480251130acb050eb3", func := "pharos/pharoslaw14.LightApplies", spec := "lightApplies", inPlace := ["internal/abi.NoEscape", "internal/bytealg.MakeNoZero"], unfollowed := true, recurses := true, named := ["pharos/sha.k"], apart := false, laid := [("pharos/sha.k", laid_pharos_sha_k)], narrowed := true }
def LightAppliesUptoSaid : Prop := lightAppliesUptoRow.holds Tryz.pinned (OpenSpec.upto lightAppliesSpec)

/-- 'pharoslaw14.LightSteps', WHERE WHAT IT READS IS OF BULK AT MOST 1048576: true; the input reads as it did. -/
def lightStepsUptoRow : OpenClaim := { program := "ytegaaccioppfjaagreatdoor", sum := "9adcd7837a4b7ae0f01fb03f684810aff0c2935ae16879480251130acb050eb3", func := "pharos/pharoslaw14.LightSteps", spec := "lightSteps", inPlace := ["internal/abi.NoEscape", "internal/bytealg.MakeNoZero"], unfollowed := true, recurses := true, named := ["pharos/sha.k"], apart := false, laid := [("pharos/sha.k", laid_pharos_sha_k)], narrowed := true }
def LightStepsUptoSaid : Prop := lightStepsUptoRow.holds Tryz.pinned (OpenSpec.upto lightStepsSpec)

/-- 'pharoslaw14.LightSees', WHERE WHAT IT READS IS OF BULK AT MOST 1048576: true; the input reads as it did. -/
def lightSeesUptoRow : OpenClaim := { program := "ytegaaccioppfjaagreatdoor", sum := "9adcd7837a4b7ae0f01fb03f684810aff0c2935ae16879480251130acb050eb3", func := "pharos/pharoslaw14.LightSees", spec := "lightSees", inPlace := ["internal/abi.NoEscape", "internal/bytealg.MakeNoZero"], unfollowed := true, recurses := true, named := ["pharos/sha.k"], apart := false, laid := [("pharos/sha.k", laid_pharos_sha_k)], narrowed := true }
def LightSeesUptoSaid : Prop := lightSeesUptoRow.holds Tryz.pinned (OpenSpec.upto lightSeesSpec)

/-- 'pharoslaw14.LightSigned', WHERE WHAT IT READS IS OF BULK AT MOST 1048576: true; the input reads as it did. -/
def lightSignedUptoRow : OpenClaim := { program := "ytegaaccioppfjaagreatdoor", sum := "9adcd7837a4b7ae0f01fb03f684810aff0c2935ae16879480251130acb050eb3", func := "pharos/pharoslaw14.LightSigned", spec := "lightSigned", inPlace := ["internal/abi.NoEscape", "internal/bytealg.MakeNoZero"], unfollowed := true, recurses := true, named := ["pharos/sha.k"], apart := false, laid := [("pharos/sha.k", laid_pharos_sha_k)], narrowed := true }
def LightSignedUptoSaid : Prop := lightSignedUptoRow.holds Tryz.pinned (OpenSpec.upto lightSignedSpec)

/-- 'pharoslaw14.LightAgrees', WHERE WHAT IT READS IS OF BULK AT MOST 1048576: true; the input reads as it did. -/
def lightAgreesUptoRow : OpenClaim := { program := "ytegaaccioppfjaagreatdoor", sum := "9adcd7837a4b7ae0f01fb03f684810aff0c2935ae16879480251130acb050eb3", func := "pharos/pharoslaw14.LightAgrees", spec := "lightAgrees", inPlace := ["internal/abi.NoEscape", "internal/bytealg.MakeNoZero"], unfollowed := true, recurses := true, named := ["pharos/sha.k"], apart := false, laid := [("pharos/sha.k", laid_pharos_sha_k)], narrowed := true }
def LightAgreesUptoSaid : Prop := lightAgreesUptoRow.holds Tryz.pinned (OpenSpec.upto lightAgreesSpec)

/-- 'pharoslaw15.MintCommittees', WHERE WHAT IT READS IS OF BULK AT MOST 1048576: true; the input reads as it did. -/
def mintCommitteesUptoRow : OpenClaim := { program := "ytegaaccioppfjaagreatdoor", sum := "9adcd7837a4b7ae0f01fb03f684810aff0c2935ae16879480251130acb050eb3", func := "pharos/pharoslaw15.MintCommittees", spec := "mintCommittees", inPlace := ["internal/abi.NoEscape", "internal/bytealg.MakeNoZero"], unfollowed := true, recurses := true, named := ["pharos/sha.k"], apart := false, laid := [("pharos/sha.k", laid_pharos_sha_k)], narrowed := true }
def MintCommitteesUptoSaid : Prop := mintCommitteesUptoRow.holds Tryz.pinned (OpenSpec.upto mintCommitteesSpec)

/-- 'pharoslaw15.MintBoots', WHERE WHAT IT READS IS OF BULK AT MOST 1048576: true; the input reads as it did. -/
def mintBootsUptoRow : OpenClaim := { program := "ytegaaccioppfjaagreatdoor", sum := "9adcd7837a4b7ae0f01fb03f684810aff0c2935ae16879480251130acb050eb3", func := "pharos/pharoslaw15.MintBoots", spec := "mintBoots", inPlace := ["internal/abi.NoEscape", "internal/bytealg.MakeNoZero"], unfollowed := true, recurses := true, named := ["pharos/sha.k"], apart := false, laid := [("pharos/sha.k", laid_pharos_sha_k)], narrowed := true }
def MintBootsUptoSaid : Prop := mintBootsUptoRow.holds Tryz.pinned (OpenSpec.upto mintBootsSpec)

/-- 'pharoslaw15.MintUpdates', WHERE WHAT IT READS IS OF BULK AT MOST 1048576: true; the input reads as it did. -/
def mintUpdatesUptoRow : OpenClaim := { program := "ytegaaccioppfjaagreatdoor", sum := "9adcd7837a4b7ae0f01fb03f684810aff0c2935ae16879480251130acb050eb3", func := "pharos/pharoslaw15.MintUpdates", spec := "mintUpdates", inPlace := ["internal/abi.NoEscape", "internal/bytealg.MakeNoZero"], unfollowed := true, recurses := true, named := ["pharos/sha.k"], apart := false, laid := [("pharos/sha.k", laid_pharos_sha_k)], narrowed := true }
def MintUpdatesUptoSaid : Prop := mintUpdatesUptoRow.holds Tryz.pinned (OpenSpec.upto mintUpdatesSpec)

/-- 'pharoslaw15.MintHolds', WHERE WHAT IT READS IS OF BULK AT MOST 1048576: true; the input reads as it did. -/
def mintHoldsUptoRow : OpenClaim := { program := "ytegaaccioppfjaagreatdoor", sum := "9adcd7837a4b7ae0f01fb03f684810aff0c2935ae16879480251130acb050eb3", func := "pharos/pharoslaw15.MintHolds", spec := "mintHolds", inPlace := ["internal/abi.NoEscape", "internal/bytealg.MakeNoZero"], unfollowed := true, recurses := true, named := ["pharos/sha.k"], apart := false, laid := [("pharos/sha.k", laid_pharos_sha_k)], narrowed := true }
def MintHoldsUptoSaid : Prop := mintHoldsUptoRow.holds Tryz.pinned (OpenSpec.upto mintHoldsSpec)

/-- 'pharoslaw15.MintParts', WHERE WHAT IT READS IS OF BULK AT MOST 1048576: true; the input reads as it did. -/
def mintPartsUptoRow : OpenClaim := { program := "ytegaaccioppfjaagreatdoor", sum := "9adcd7837a4b7ae0f01fb03f684810aff0c2935ae16879480251130acb050eb3", func := "pharos/pharoslaw15.MintParts", spec := "mintParts", inPlace := ["internal/abi.NoEscape", "internal/bytealg.MakeNoZero"], unfollowed := true, recurses := true, named := ["pharos/sha.k"], apart := false, laid := [("pharos/sha.k", laid_pharos_sha_k)], narrowed := true }
def MintPartsUptoSaid : Prop := mintPartsUptoRow.holds Tryz.pinned (OpenSpec.upto mintPartsSpec)

end Rows
end Go.Proofs.YtegaaccioppfjaaGreatDoor
