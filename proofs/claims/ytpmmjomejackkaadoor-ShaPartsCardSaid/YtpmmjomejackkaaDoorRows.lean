/-
  NARROWER THAN 'FOR EVERY INPUT', by the rows' own cells (each row's printed sentence says how): ShaSums: laid · ShaParts: laid · ShaHex: laid · ShaBack: laid · ShaJoins: laid · SszRoots: laid · SszDepths: laid · SszChecks: laid · SszBack: laid · SszSound: laid · SszJoins: laid · SszPacks: laid · SszHalves: laid · SignHashes: laid · SignKeys: laid · SignHolds: laid · SignSums: laid · SignOnes: laid · SignPoints: laid.
  DERIVED. THE GIVEN ROWS OF THIS SEAT. 19 by the template 'for every input the law returns true; each argument reads behind the call as it read before'; 0 by the template 'total and deterministic' (their statements: YtpmmjomejackkaaDoorTotals.lean).
  GIVEN WITH THE SEED: the statements are not yours to turn. If you find one false, say at which input.
  Laid BY PROGRAM, IN A SANDBOX (cutbox-rows.mjs): the forced cells as the released guide's own fill.sh prints them over the translation 3344304df3144f81… (all of the seat's roots in one cut). By AI agents, Wed Nov 11 2026. No macro, syntax, notation, axiom, sorry.
-/
import Derived.Test.YtpmmjomejackkaaDoorChecked
import GoSem.Claim
import GoSem.ClaimJoined
import GoSem.ClaimMapViews
import Derived.JoinedTies
import Derived.KernelRfl
namespace Go.Proofs.YtpmmjomejackkaaDoor
/- THE CELL 'sum', in the pinned program and in every row, IS THE sha256 OF THE DUMP (.gsa) THAT YtpmmjomejackkaaDoorProg.lean LOADS. Nothing in Lean hashes anything: it is a label: what it is worth is what the hold of that sum in a sandbox is worth. -/
noncomputable def Tryd.pinned : Pinned := { name := "ytpmmjomejackkaadoor", sum := "3344304df3144f81795a3e9d7c3f1ec7c556a0f4725fb170a566382439d17295", checked := Tryd.checked }
namespace Rows
def none {H : Type} : Left H := { results := [], args := [] }

/- WHAT THE LISTED PACKAGE-LEVEL VARIABLES READ AS WHEN THE CALL BEGINS. Each datum BY PROGRAM (the guide's laid-datum.mjs) off the statement by which the dump's own 'gosem.cut.vars' lays the variable. In a bare row this is a premise. The card (YtpmmjomejackkaaDoorCards.lean) ties it to the program's text. -/
def laid_pharos_sha_k {H : Type} : DataW H := .agg [.lit (.int .u32 1116352408), .lit (.int .u32 1899447441), .lit (.int .u32 3049323471), .lit (.int .u32 3921009573), .lit (.int .u32 961987163), .lit (.int .u32 1508970993), .lit (.int .u32 2453635748), .lit (.int .u32 2870763221), .lit (.int .u32 3624381080), .lit (.int .u32 310598401), .lit (.int .u32 607225278), .lit (.int .u32 1426881987), .lit (.int .u32 1925078388), .lit (.int .u32 2162078206), .lit (.int .u32 2614888103), .lit (.int .u32 3248222580), .lit (.int .u32 3835390401), .lit (.int .u32 4022224774), .lit (.int .u32 264347078), .lit (.int .u32 604807628), .lit (.int .u32 770255983), .lit (.int .u32 1249150122), .lit (.int .u32 1555081692), .lit (.int .u32 1996064986), .lit (.int .u32 2554220882), .lit (.int .u32 2821834349), .lit (.int .u32 2952996808), .lit (.int .u32 3210313671), .lit (.int .u32 3336571891), .lit (.int .u32 3584528711), .lit (.int .u32 113926993), .lit (.int .u32 338241895), .lit (.int .u32 666307205), .lit (.int .u32 773529912), .lit (.int .u32 1294757372), .lit (.int .u32 1396182291), .lit (.int .u32 1695183700), .lit (.int .u32 1986661051), .lit (.int .u32 2177026350), .lit (.int .u32 2456956037), .lit (.int .u32 2730485921), .lit (.int .u32 2820302411), .lit (.int .u32 3259730800), .lit (.int .u32 3345764771), .lit (.int .u32 3516065817), .lit (.int .u32 3600352804), .lit (.int .u32 4094571909), .lit (.int .u32 275423344), .lit (.int .u32 430227734), .lit (.int .u32 506948616), .lit (.int .u32 659060556), .lit (.int .u32 883997877), .lit (.int .u32 958139571), .lit (.int .u32 1322822218), .lit (.int .u32 1537002063), .lit (.int .u32 1747873779), .lit (.int .u32 1955562222), .lit (.int .u32 2024104815), .lit (.int .u32 2227730452), .lit (.int .u32 2361852424), .lit (.int .u32 2428436474), .lit (.int .u32 2756734187), .lit (.int .u32 3204031479), .lit (.int .u32 3329325298)]

/-- 'pharoslaw02.ShaSums': WHATEVER THE INPUT: true; the input reads as it did. -/
def shaSumsSpec : ChangeSpec := { name := "shaSums", fn := fun _ => fun
  | [d] => { results := [.lit (.bool true)], args := [d] }
  | _ => none }
def shaSumsRow : OpenClaim := { program := "ytpmmjomejackkaadoor", sum := "3344304df3144f81795a3e9d7c3f1ec7c556a0f4725fb170a566382439d17295", func := "pharos/pharoslaw02.ShaSums", spec := "shaSums", inPlace := ["internal/abi.NoEscape", "internal/bytealg.MakeNoZero"], unfollowed := true, recurses := true, named := ["pharos/sha.k"], apart := false, laid := [("pharos/sha.k", laid_pharos_sha_k)] }
def ShaSumsSaid : Prop := shaSumsRow.holds Tryd.pinned (OpenSpec.ofChange shaSumsSpec)

/-- ITS FALSE NEIGHBOUR: 'it returns false'. Refute it at one input. -/
def shaSumsWrong : ChangeSpec := { name := "shaSums", fn := fun _ => fun
  | [d] => { results := [.lit (.bool false)], args := [d] }
  | _ => none }
def ShaSumsWrongFalsely : Prop := shaSumsRow.holds Tryd.pinned (OpenSpec.ofChange shaSumsWrong)

/-- 'pharoslaw02.ShaParts': WHATEVER THE INPUT: true; the input reads as it did. -/
def shaPartsSpec : ChangeSpec := { name := "shaParts", fn := fun _ => fun
  | [d1, d2] => { results := [.lit (.bool true)], args := [d1, d2] }
  | _ => none }
def shaPartsRow : OpenClaim := { program := "ytpmmjomejackkaadoor", sum := "3344304df3144f81795a3e9d7c3f1ec7c556a0f4725fb170a566382439d17295", func := "pharos/pharoslaw02.ShaParts", spec := "shaParts", inPlace := ["internal/abi.NoEscape", "internal/bytealg.MakeNoZero"], unfollowed := true, recurses := true, named := ["pharos/sha.k"], apart := false, laid := [("pharos/sha.k", laid_pharos_sha_k)] }
def ShaPartsSaid : Prop := shaPartsRow.holds Tryd.pinned (OpenSpec.ofChange shaPartsSpec)

/-- ITS FALSE NEIGHBOUR: 'it returns false'. Refute it at one input. -/
def shaPartsWrong : ChangeSpec := { name := "shaParts", fn := fun _ => fun
  | [d1, d2] => { results := [.lit (.bool false)], args := [d1, d2] }
  | _ => none }
def ShaPartsWrongFalsely : Prop := shaPartsRow.holds Tryd.pinned (OpenSpec.ofChange shaPartsWrong)

/-- 'pharoslaw02.ShaHex': WHATEVER THE INPUT: true; the input reads as it did. -/
def shaHexSpec : ChangeSpec := { name := "shaHex", fn := fun _ => fun
  | [d1, d2] => { results := [.lit (.bool true)], args := [d1, d2] }
  | _ => none }
def shaHexRow : OpenClaim := { program := "ytpmmjomejackkaadoor", sum := "3344304df3144f81795a3e9d7c3f1ec7c556a0f4725fb170a566382439d17295", func := "pharos/pharoslaw02.ShaHex", spec := "shaHex", inPlace := ["internal/abi.NoEscape", "internal/bytealg.MakeNoZero", "internal/bytealg.IndexByteString"], unfollowed := true, recurses := true, named := ["pharos/sha.k"], apart := false, laid := [("pharos/sha.k", laid_pharos_sha_k)] }
def ShaHexSaid : Prop := shaHexRow.holds Tryd.pinned (OpenSpec.ofChange shaHexSpec)

/-- ITS FALSE NEIGHBOUR: 'it returns false'. Refute it at one input. -/
def shaHexWrong : ChangeSpec := { name := "shaHex", fn := fun _ => fun
  | [d1, d2] => { results := [.lit (.bool false)], args := [d1, d2] }
  | _ => none }
def ShaHexWrongFalsely : Prop := shaHexRow.holds Tryd.pinned (OpenSpec.ofChange shaHexWrong)

/-- 'pharoslaw02.ShaBack': WHATEVER THE INPUT: true; the input reads as it did. -/
def shaBackSpec : ChangeSpec := { name := "shaBack", fn := fun _ => fun
  | [d1, d2] => { results := [.lit (.bool true)], args := [d1, d2] }
  | _ => none }
def shaBackRow : OpenClaim := { program := "ytpmmjomejackkaadoor", sum := "3344304df3144f81795a3e9d7c3f1ec7c556a0f4725fb170a566382439d17295", func := "pharos/pharoslaw02.ShaBack", spec := "shaBack", inPlace := ["internal/abi.NoEscape", "internal/bytealg.MakeNoZero", "internal/bytealg.IndexByteString"], unfollowed := true, recurses := true, named := ["pharos/sha.k"], apart := false, laid := [("pharos/sha.k", laid_pharos_sha_k)] }
def ShaBackSaid : Prop := shaBackRow.holds Tryd.pinned (OpenSpec.ofChange shaBackSpec)

/-- ITS FALSE NEIGHBOUR: 'it returns false'. Refute it at one input. -/
def shaBackWrong : ChangeSpec := { name := "shaBack", fn := fun _ => fun
  | [d1, d2] => { results := [.lit (.bool false)], args := [d1, d2] }
  | _ => none }
def ShaBackWrongFalsely : Prop := shaBackRow.holds Tryd.pinned (OpenSpec.ofChange shaBackWrong)

/-- 'pharoslaw02.ShaJoins': WHATEVER THE INPUT: true; the input reads as it did. -/
def shaJoinsSpec : ChangeSpec := { name := "shaJoins", fn := fun _ => fun
  | [d1, d2] => { results := [.lit (.bool true)], args := [d1, d2] }
  | _ => none }
def shaJoinsRow : OpenClaim := { program := "ytpmmjomejackkaadoor", sum := "3344304df3144f81795a3e9d7c3f1ec7c556a0f4725fb170a566382439d17295", func := "pharos/pharoslaw02.ShaJoins", spec := "shaJoins", inPlace := ["internal/abi.NoEscape", "internal/bytealg.MakeNoZero", "internal/bytealg.IndexByteString"], unfollowed := true, recurses := true, named := ["pharos/sha.k"], apart := false, laid := [("pharos/sha.k", laid_pharos_sha_k)] }
def ShaJoinsSaid : Prop := shaJoinsRow.holds Tryd.pinned (OpenSpec.ofChange shaJoinsSpec)

/-- ITS FALSE NEIGHBOUR: 'it returns false'. Refute it at one input. -/
def shaJoinsWrong : ChangeSpec := { name := "shaJoins", fn := fun _ => fun
  | [d1, d2] => { results := [.lit (.bool false)], args := [d1, d2] }
  | _ => none }
def ShaJoinsWrongFalsely : Prop := shaJoinsRow.holds Tryd.pinned (OpenSpec.ofChange shaJoinsWrong)

/-- 'pharoslaw08.SszRoots': WHATEVER THE INPUT: true; the input reads as it did. -/
def sszRootsSpec : ChangeSpec := { name := "sszRoots", fn := fun _ => fun
  | [d1, d2, d3] => { results := [.lit (.bool true)], args := [d1, d2, d3] }
  | _ => none }
def sszRootsRow : OpenClaim := { program := "ytpmmjomejackkaadoor", sum := "3344304df3144f81795a3e9d7c3f1ec7c556a0f4725fb170a566382439d17295", func := "pharos/pharoslaw08.SszRoots", spec := "sszRoots", inPlace := ["internal/abi.NoEscape", "internal/bytealg.MakeNoZero"], unfollowed := true, recurses := true, named := ["pharos/sha.k"], apart := false, laid := [("pharos/sha.k", laid_pharos_sha_k)] }
def SszRootsSaid : Prop := sszRootsRow.holds Tryd.pinned (OpenSpec.ofChange sszRootsSpec)

/-- ITS FALSE NEIGHBOUR: 'it returns false'. Refute it at one input. -/
def sszRootsWrong : ChangeSpec := { name := "sszRoots", fn := fun _ => fun
  | [d1, d2, d3] => { results := [.lit (.bool false)], args := [d1, d2, d3] }
  | _ => none }
def SszRootsWrongFalsely : Prop := sszRootsRow.holds Tryd.pinned (OpenSpec.ofChange sszRootsWrong)

/-- 'pharoslaw08.SszDepths': WHATEVER THE INPUT: true; the input reads as it did. -/
def sszDepthsSpec : ChangeSpec := { name := "sszDepths", fn := fun _ => fun
  | [d1, d2] => { results := [.lit (.bool true)], args := [d1, d2] }
  | _ => none }
def sszDepthsRow : OpenClaim := { program := "ytpmmjomejackkaadoor", sum := "3344304df3144f81795a3e9d7c3f1ec7c556a0f4725fb170a566382439d17295", func := "pharos/pharoslaw08.SszDepths", spec := "sszDepths", inPlace := ["internal/abi.NoEscape", "internal/bytealg.MakeNoZero"], unfollowed := true, recurses := true, named := ["pharos/sha.k"], apart := false, laid := [("pharos/sha.k", laid_pharos_sha_k)] }
def SszDepthsSaid : Prop := sszDepthsRow.holds Tryd.pinned (OpenSpec.ofChange sszDepthsSpec)

/-- ITS FALSE NEIGHBOUR: 'it returns false'. Refute it at one input. -/
def sszDepthsWrong : ChangeSpec := { name := "sszDepths", fn := fun _ => fun
  | [d1, d2] => { results := [.lit (.bool false)], args := [d1, d2] }
  | _ => none }
def SszDepthsWrongFalsely : Prop := sszDepthsRow.holds Tryd.pinned (OpenSpec.ofChange sszDepthsWrong)

/-- 'pharoslaw08.SszChecks': WHATEVER THE INPUT: true; the input reads as it did. -/
def sszChecksSpec : ChangeSpec := { name := "sszChecks", fn := fun _ => fun
  | [d1, d2, d3, d4] => { results := [.lit (.bool true)], args := [d1, d2, d3, d4] }
  | _ => none }
def sszChecksRow : OpenClaim := { program := "ytpmmjomejackkaadoor", sum := "3344304df3144f81795a3e9d7c3f1ec7c556a0f4725fb170a566382439d17295", func := "pharos/pharoslaw08.SszChecks", spec := "sszChecks", inPlace := ["internal/abi.NoEscape", "internal/bytealg.MakeNoZero"], unfollowed := true, recurses := true, named := ["pharos/sha.k"], apart := false, laid := [("pharos/sha.k", laid_pharos_sha_k)] }
def SszChecksSaid : Prop := sszChecksRow.holds Tryd.pinned (OpenSpec.ofChange sszChecksSpec)

/-- ITS FALSE NEIGHBOUR: 'it returns false'. Refute it at one input. -/
def sszChecksWrong : ChangeSpec := { name := "sszChecks", fn := fun _ => fun
  | [d1, d2, d3, d4] => { results := [.lit (.bool false)], args := [d1, d2, d3, d4] }
  | _ => none }
def SszChecksWrongFalsely : Prop := sszChecksRow.holds Tryd.pinned (OpenSpec.ofChange sszChecksWrong)

/-- 'pharoslaw08.SszBack': WHATEVER THE INPUT: true; the input reads as it did. -/
def sszBackSpec : ChangeSpec := { name := "sszBack", fn := fun _ => fun
  | [d1, d2, d3] => { results := [.lit (.bool true)], args := [d1, d2, d3] }
  | _ => none }
def sszBackRow : OpenClaim := { program := "ytpmmjomejackkaadoor", sum := "3344304df3144f81795a3e9d7c3f1ec7c556a0f4725fb170a566382439d17295", func := "pharos/pharoslaw08.SszBack", spec := "sszBack", inPlace := ["internal/abi.NoEscape", "internal/bytealg.MakeNoZero"], unfollowed := true, recurses := true, named := ["pharos/sha.k"], apart := false, laid := [("pharos/sha.k", laid_pharos_sha_k)] }
def SszBackSaid : Prop := sszBackRow.holds Tryd.pinned (OpenSpec.ofChange sszBackSpec)

/-- ITS FALSE NEIGHBOUR: 'it returns false'. Refute it at one input. -/
def sszBackWrong : ChangeSpec := { name := "sszBack", fn := fun _ => fun
  | [d1, d2, d3] => { results := [.lit (.bool false)], args := [d1, d2, d3] }
  | _ => none }
def SszBackWrongFalsely : Prop := sszBackRow.holds Tryd.pinned (OpenSpec.ofChange sszBackWrong)

/-- 'pharoslaw08.SszSound': WHATEVER THE INPUT: true; the input reads as it did. -/
def sszSoundSpec : ChangeSpec := { name := "sszSound", fn := fun _ => fun
  | [d1, d2, d3, d4, d5] => { results := [.lit (.bool true)], args := [d1, d2, d3, d4, d5] }
  | _ => none }
def sszSoundRow : OpenClaim := { program := "ytpmmjomejackkaadoor", sum := "3344304df3144f81795a3e9d7c3f1ec7c556a0f4725fb170a566382439d17295", func := "pharos/pharoslaw08.SszSound", spec := "sszSound", inPlace := ["internal/abi.NoEscape", "internal/bytealg.MakeNoZero"], unfollowed := true, recurses := true, named := ["pharos/sha.k"], apart := false, laid := [("pharos/sha.k", laid_pharos_sha_k)] }
def SszSoundSaid : Prop := sszSoundRow.holds Tryd.pinned (OpenSpec.ofChange sszSoundSpec)

/-- ITS FALSE NEIGHBOUR: 'it returns false'. Refute it at one input. -/
def sszSoundWrong : ChangeSpec := { name := "sszSound", fn := fun _ => fun
  | [d1, d2, d3, d4, d5] => { results := [.lit (.bool false)], args := [d1, d2, d3, d4, d5] }
  | _ => none }
def SszSoundWrongFalsely : Prop := sszSoundRow.holds Tryd.pinned (OpenSpec.ofChange sszSoundWrong)

/-- 'pharoslaw08.SszJoins': WHATEVER THE INPUT: true; the input reads as it did. -/
def sszJoinsSpec : ChangeSpec := { name := "sszJoins", fn := fun _ => fun
  | [d1, d2] => { results := [.lit (.bool true)], args := [d1, d2] }
  | _ => none }
def sszJoinsRow : OpenClaim := { program := "ytpmmjomejackkaadoor", sum := "3344304df3144f81795a3e9d7c3f1ec7c556a0f4725fb170a566382439d17295", func := "pharos/pharoslaw08.SszJoins", spec := "sszJoins", inPlace := ["internal/abi.NoEscape", "internal/bytealg.MakeNoZero"], unfollowed := true, recurses := true, named := ["pharos/sha.k"], apart := false, laid := [("pharos/sha.k", laid_pharos_sha_k)] }
def SszJoinsSaid : Prop := sszJoinsRow.holds Tryd.pinned (OpenSpec.ofChange sszJoinsSpec)

/-- ITS FALSE NEIGHBOUR: 'it returns false'. Refute it at one input. -/
def sszJoinsWrong : ChangeSpec := { name := "sszJoins", fn := fun _ => fun
  | [d1, d2] => { results := [.lit (.bool false)], args := [d1, d2] }
  | _ => none }
def SszJoinsWrongFalsely : Prop := sszJoinsRow.holds Tryd.pinned (OpenSpec.ofChange sszJoinsWrong)

/-- 'pharoslaw08.SszPacks': WHATEVER THE INPUT: true; the input reads as it did. -/
def sszPacksSpec : ChangeSpec := { name := "sszPacks", fn := fun _ => fun
  | [d1, d2, d3] => { results := [.lit (.bool true)], args := [d1, d2, d3] }
  | _ => none }
def sszPacksRow : OpenClaim := { program := "ytpmmjomejackkaadoor", sum := "3344304df3144f81795a3e9d7c3f1ec7c556a0f4725fb170a566382439d17295", func := "pharos/pharoslaw08.SszPacks", spec := "sszPacks", inPlace := ["internal/abi.NoEscape", "internal/bytealg.MakeNoZero"], unfollowed := true, recurses := true, named := ["pharos/sha.k"], apart := false, laid := [("pharos/sha.k", laid_pharos_sha_k)] }
def SszPacksSaid : Prop := sszPacksRow.holds Tryd.pinned (OpenSpec.ofChange sszPacksSpec)

/-- ITS FALSE NEIGHBOUR: 'it returns false'. Refute it at one input. -/
def sszPacksWrong : ChangeSpec := { name := "sszPacks", fn := fun _ => fun
  | [d1, d2, d3] => { results := [.lit (.bool false)], args := [d1, d2, d3] }
  | _ => none }
def SszPacksWrongFalsely : Prop := sszPacksRow.holds Tryd.pinned (OpenSpec.ofChange sszPacksWrong)

/-- 'pharoslaw08.SszHalves': WHATEVER THE INPUT: true; the input reads as it did. -/
def sszHalvesSpec : ChangeSpec := { name := "sszHalves", fn := fun _ => fun
  | [d1, d2, d3] => { results := [.lit (.bool true)], args := [d1, d2, d3] }
  | _ => none }
def sszHalvesRow : OpenClaim := { program := "ytpmmjomejackkaadoor", sum := "3344304df3144f81795a3e9d7c3f1ec7c556a0f4725fb170a566382439d17295", func := "pharos/pharoslaw08.SszHalves", spec := "sszHalves", inPlace := ["internal/abi.NoEscape", "internal/bytealg.MakeNoZero"], unfollowed := true, recurses := true, named := ["pharos/sha.k"], apart := false, laid := [("pharos/sha.k", laid_pharos_sha_k)] }
def SszHalvesSaid : Prop := sszHalvesRow.holds Tryd.pinned (OpenSpec.ofChange sszHalvesSpec)

/-- ITS FALSE NEIGHBOUR: 'it returns false'. Refute it at one input. -/
def sszHalvesWrong : ChangeSpec := { name := "sszHalves", fn := fun _ => fun
  | [d1, d2, d3] => { results := [.lit (.bool false)], args := [d1, d2, d3] }
  | _ => none }
def SszHalvesWrongFalsely : Prop := sszHalvesRow.holds Tryd.pinned (OpenSpec.ofChange sszHalvesWrong)

/-- 'pharoslaw12.SignHashes': WHATEVER THE INPUT: true; the input reads as it did. -/
def signHashesSpec : ChangeSpec := { name := "signHashes", fn := fun _ => fun
  | [d] => { results := [.lit (.bool true)], args := [d] }
  | _ => none }
def signHashesRow : OpenClaim := { program := "ytpmmjomejackkaadoor", sum := "3344304df3144f81795a3e9d7c3f1ec7c556a0f4725fb170a566382439d17295", func := "pharos/pharoslaw12.SignHashes", spec := "signHashes", inPlace := ["internal/abi.NoEscape", "internal/bytealg.MakeNoZero"], unfollowed := true, recurses := true, named := ["pharos/sha.k"], apart := false, laid := [("pharos/sha.k", laid_pharos_sha_k)] }
def SignHashesSaid : Prop := signHashesRow.holds Tryd.pinned (OpenSpec.ofChange signHashesSpec)

/-- ITS FALSE NEIGHBOUR: 'it returns false'. Refute it at one input. -/
def signHashesWrong : ChangeSpec := { name := "signHashes", fn := fun _ => fun
  | [d] => { results := [.lit (.bool false)], args := [d] }
  | _ => none }
def SignHashesWrongFalsely : Prop := signHashesRow.holds Tryd.pinned (OpenSpec.ofChange signHashesWrong)

/-- 'pharoslaw12.SignKeys': WHATEVER THE INPUT: true; the input reads as it did. -/
def signKeysSpec : ChangeSpec := { name := "signKeys", fn := fun _ => fun
  | [d1, d2] => { results := [.lit (.bool true)], args := [d1, d2] }
  | _ => none }
def signKeysRow : OpenClaim := { program := "ytpmmjomejackkaadoor", sum := "3344304df3144f81795a3e9d7c3f1ec7c556a0f4725fb170a566382439d17295", func := "pharos/pharoslaw12.SignKeys", spec := "signKeys", inPlace := ["internal/abi.NoEscape", "internal/bytealg.MakeNoZero"], unfollowed := true, recurses := true, named := ["pharos/sha.k"], apart := false, laid := [("pharos/sha.k", laid_pharos_sha_k)] }
def SignKeysSaid : Prop := signKeysRow.holds Tryd.pinned (OpenSpec.ofChange signKeysSpec)

/-- ITS FALSE NEIGHBOUR: 'it returns false'. Refute it at one input. -/
def signKeysWrong : ChangeSpec := { name := "signKeys", fn := fun _ => fun
  | [d1, d2] => { results := [.lit (.bool false)], args := [d1, d2] }
  | _ => none }
def SignKeysWrongFalsely : Prop := signKeysRow.holds Tryd.pinned (OpenSpec.ofChange signKeysWrong)

/-- 'pharoslaw12.SignHolds': WHATEVER THE INPUT: true; the input reads as it did. -/
def signHoldsSpec : ChangeSpec := { name := "signHolds", fn := fun _ => fun
  | [d1, d2, d3] => { results := [.lit (.bool true)], args := [d1, d2, d3] }
  | _ => none }
def signHoldsRow : OpenClaim := { program := "ytpmmjomejackkaadoor", sum := "3344304df3144f81795a3e9d7c3f1ec7c556a0f4725fb170a566382439d17295", func := "pharos/pharoslaw12.SignHolds", spec := "signHolds", inPlace := ["internal/abi.NoEscape", "internal/bytealg.MakeNoZero"], unfollowed := true, recurses := true, named := ["pharos/sha.k"], apart := false, laid := [("pharos/sha.k", laid_pharos_sha_k)] }
def SignHoldsSaid : Prop := signHoldsRow.holds Tryd.pinned (OpenSpec.ofChange signHoldsSpec)

/-- ITS FALSE NEIGHBOUR: 'it returns false'. Refute it at one input. -/
def signHoldsWrong : ChangeSpec := { name := "signHolds", fn := fun _ => fun
  | [d1, d2, d3] => { results := [.lit (.bool false)], args := [d1, d2, d3] }
  | _ => none }
def SignHoldsWrongFalsely : Prop := signHoldsRow.holds Tryd.pinned (OpenSpec.ofChange signHoldsWrong)

/-- 'pharoslaw12.SignSums': WHATEVER THE INPUT: true; the input reads as it did. -/
def signSumsSpec : ChangeSpec := { name := "signSums", fn := fun _ => fun
  | [d] => { results := [.lit (.bool true)], args := [d] }
  | _ => none }
def signSumsRow : OpenClaim := { program := "ytpmmjomejackkaadoor", sum := "3344304df3144f81795a3e9d7c3f1ec7c556a0f4725fb170a566382439d17295", func := "pharos/pharoslaw12.SignSums", spec := "signSums", inPlace := ["internal/abi.NoEscape", "internal/bytealg.MakeNoZero"], unfollowed := true, recurses := true, named := ["pharos/sha.k"], apart := false, laid := [("pharos/sha.k", laid_pharos_sha_k)] }
def SignSumsSaid : Prop := signSumsRow.holds Tryd.pinned (OpenSpec.ofChange signSumsSpec)

/-- ITS FALSE NEIGHBOUR: 'it returns false'. Refute it at one input. -/
def signSumsWrong : ChangeSpec := { name := "signSums", fn := fun _ => fun
  | [d] => { results := [.lit (.bool false)], args := [d] }
  | _ => none }
def SignSumsWrongFalsely : Prop := signSumsRow.holds Tryd.pinned (OpenSpec.ofChange signSumsWrong)

/-- 'pharoslaw12.SignOnes': WHATEVER THE INPUT: true; the input reads as it did. -/
def signOnesSpec : ChangeSpec := { name := "signOnes", fn := fun _ => fun
  | [d1, d2] => { results := [.lit (.bool true)], args := [d1, d2] }
  | _ => none }
def signOnesRow : OpenClaim := { program := "ytpmmjomejackkaadoor", sum := "3344304df3144f81795a3e9d7c3f1ec7c556a0f4725fb170a566382439d17295", func := "pharos/pharoslaw12.SignOnes", spec := "signOnes", inPlace := ["internal/abi.NoEscape", "internal/bytealg.MakeNoZero"], unfollowed := true, recurses := true, named := ["pharos/sha.k"], apart := false, laid := [("pharos/sha.k", laid_pharos_sha_k)] }
def SignOnesSaid : Prop := signOnesRow.holds Tryd.pinned (OpenSpec.ofChange signOnesSpec)

/-- ITS FALSE NEIGHBOUR: 'it returns false'. Refute it at one input. -/
def signOnesWrong : ChangeSpec := { name := "signOnes", fn := fun _ => fun
  | [d1, d2] => { results := [.lit (.bool false)], args := [d1, d2] }
  | _ => none }
def SignOnesWrongFalsely : Prop := signOnesRow.holds Tryd.pinned (OpenSpec.ofChange signOnesWrong)

/-- 'pharoslaw12.SignPoints': WHATEVER THE INPUT: true; the input reads as it did. -/
def signPointsSpec : ChangeSpec := { name := "signPoints", fn := fun _ => fun
  | [d1, d2, d3] => { results := [.lit (.bool true)], args := [d1, d2, d3] }
  | _ => none }
def signPointsRow : OpenClaim := { program := "ytpmmjomejackkaadoor", sum := "3344304df3144f81795a3e9d7c3f1ec7c556a0f4725fb170a566382439d17295", func := "pharos/pharoslaw12.SignPoints", spec := "signPoints", inPlace := ["internal/abi.NoEscape", "internal/bytealg.MakeNoZero"], unfollowed := true, recurses := true, named := ["pharos/sha.k"], apart := false, laid := [("pharos/sha.k", laid_pharos_sha_k)] }
def SignPointsSaid : Prop := signPointsRow.holds Tryd.pinned (OpenSpec.ofChange signPointsSpec)

/-- ITS FALSE NEIGHBOUR: 'it returns false'. Refute it at one input. -/
def signPointsWrong : ChangeSpec := { name := "signPoints", fn := fun _ => fun
  | [d1, d2, d3] => { results := [.lit (.bool false)], args := [d1, d2, d3] }
  | _ => none }
def SignPointsWrongFalsely : Prop := signPointsRow.holds Tryd.pinned (OpenSpec.ofChange signPointsWrong)

/- THE SECOND FORM. 'bulk': how many values and letters a reading holds, each counted each time it is reached (what is shared counts as often as it is met; a slice's spare places count too). A statement '..UptoSaid' is the law's where the arguments, and the package variables that the reading takes, are together of bulk at most 1048576: NARROWER than '..Said'. Prove '..Said' where nothing that the law and all that it calls make is longer than what came in: it says more and counts as full. Else prove '..UptoSaid'. A law counts once. -/
mutual
def uptoBulk {H : Type} : DataW H → Nat
  | .lit (.string bytes) => bytes.length + 1
  | .lit _ => 1
  | .nil => 1
  | .ptr d => uptoBulk d + 1
  | .slice elems spare => uptoBulkAll elems + uptoBulkAll spare + 1
  | .agg parts => uptoBulkAll parts + 1
  | .iface _ d => uptoBulk d + 1
  | .map entries => uptoBulkEntries entries + 1
  | .held _ => 1
def uptoBulkAll {H : Type} : List (DataW H) → Nat
  | [] => 0
  | d :: r => uptoBulk d + uptoBulkAll r
def uptoBulkEntries {H : Type} : List (Lit × DataW H) → Nat
  | [] => 0
  | x :: r => uptoBulkEntry x + uptoBulkEntries r
def uptoBulkEntry {H : Type} : Lit × DataW H → Nat
  | (.string bytes, d) => bytes.length + uptoBulk d + 1
  | (_, d) => uptoBulk d + 1
 end
def uptoSmall : (H : Type) → List (DataW H) → Bool := fun _ ds => decide (uptoBulkAll ds ≤ 1048576)
def OpenSpec.upto (s : _root_.Go.ChangeSpec) : _root_.Go.OpenSpec := { _root_.Go.OpenSpec.ofChange s with cond := some uptoSmall }

/-- 'pharoslaw02.ShaSums', WHERE WHAT IT READS IS OF BULK AT MOST 1048576: true; the input reads as it did. -/
def shaSumsUptoRow : OpenClaim := { program := "ytpmmjomejackkaadoor", sum := "3344304df3144f81795a3e9d7c3f1ec7c556a0f4725fb170a566382439d17295", func := "pharos/pharoslaw02.ShaSums", spec := "shaSums", inPlace := ["internal/abi.NoEscape", "internal/bytealg.MakeNoZero"], unfollowed := true, recurses := true, named := ["pharos/sha.k"], apart := false, laid := [("pharos/sha.k", laid_pharos_sha_k)], narrowed := true }
def ShaSumsUptoSaid : Prop := shaSumsUptoRow.holds Tryd.pinned (OpenSpec.upto shaSumsSpec)

/-- 'pharoslaw02.ShaParts', WHERE WHAT IT READS IS OF BULK AT MOST 1048576: true; the input reads as it did. -/
def shaPartsUptoRow : OpenClaim := { program := "ytpmmjomejackkaadoor", sum := "3344304df3144f81795a3e9d7c3f1ec7c556a0f4725fb170a566382439d17295", func := "pharos/pharoslaw02.ShaParts", spec := "shaParts", inPlace := ["internal/abi.NoEscape", "internal/bytealg.MakeNoZero"], unfollowed := true, recurses := true, named := ["pharos/sha.k"], apart := false, laid := [("pharos/sha.k", laid_pharos_sha_k)], narrowed := true }
def ShaPartsUptoSaid : Prop := shaPartsUptoRow.holds Tryd.pinned (OpenSpec.upto shaPartsSpec)

/-- 'pharoslaw02.ShaHex', WHERE WHAT IT READS IS OF BULK AT MOST 1048576: true; the input reads as it did. -/
def shaHexUptoRow : OpenClaim := { program := "ytpmmjomejackkaadoor", sum := "3344304df3144f81795a3e9d7c3f1ec7c556a0f4725fb170a566382439d17295", func := "pharos/pharoslaw02.ShaHex", spec := "shaHex", inPlace := ["internal/abi.NoEscape", "internal/bytealg.MakeNoZero", "internal/bytealg.IndexByteString"], unfollowed := true, recurses := true, named := ["pharos/sha.k"], apart := false, laid := [("pharos/sha.k", laid_pharos_sha_k)], narrowed := true }
def ShaHexUptoSaid : Prop := shaHexUptoRow.holds Tryd.pinned (OpenSpec.upto shaHexSpec)

/-- 'pharoslaw02.ShaBack', WHERE WHAT IT READS IS OF BULK AT MOST 1048576: true; the input reads as it did. -/
def shaBackUptoRow : OpenClaim := { program := "ytpmmjomejackkaadoor", sum := "3344304df3144f81795a3e9d7c3f1ec7c556a0f4725fb170a566382439d17295", func := "pharos/pharoslaw02.ShaBack", spec := "shaBack", inPlace := ["internal/abi.NoEscape", "internal/bytealg.MakeNoZero", "internal/bytealg.IndexByteString"], unfollowed := true, recurses := true, named := ["pharos/sha.k"], apart := false, laid := [("pharos/sha.k", laid_pharos_sha_k)], narrowed := true }
def ShaBackUptoSaid : Prop := shaBackUptoRow.holds Tryd.pinned (OpenSpec.upto shaBackSpec)

/-- 'pharoslaw02.ShaJoins', WHERE WHAT IT READS IS OF BULK AT MOST 1048576: true; the input reads as it did. -/
def shaJoinsUptoRow : OpenClaim := { program := "ytpmmjomejackkaadoor", sum := "3344304df3144f81795a3e9d7c3f1ec7c556a0f4725fb170a566382439d17295", func := "pharos/pharoslaw02.ShaJoins", spec := "shaJoins", inPlace := ["internal/abi.NoEscape", "internal/bytealg.MakeNoZero", "internal/bytealg.IndexByteString"], unfollowed := true, recurses := true, named := ["pharos/sha.k"], apart := false, laid := [("pharos/sha.k", laid_pharos_sha_k)], narrowed := true }
def ShaJoinsUptoSaid : Prop := shaJoinsUptoRow.holds Tryd.pinned (OpenSpec.upto shaJoinsSpec)

/-- 'pharoslaw08.SszRoots', WHERE WHAT IT READS IS OF BULK AT MOST 1048576: true; the input reads as it did. -/
def sszRootsUptoRow : OpenClaim := { program := "ytpmmjomejackkaadoor", sum := "3344304df3144f81795a3e9d7c3f1ec7c556a0f4725fb170a566382439d17295", func := "pharos/pharoslaw08.SszRoots", spec := "sszRoots", inPlace := ["internal/abi.NoEscape", "internal/bytealg.MakeNoZero"], unfollowed := true, recurses := true, named := ["pharos/sha.k"], apart := false, laid := [("pharos/sha.k", laid_pharos_sha_k)], narrowed := true }
def SszRootsUptoSaid : Prop := sszRootsUptoRow.holds Tryd.pinned (OpenSpec.upto sszRootsSpec)

/-- 'pharoslaw08.SszDepths', WHERE WHAT IT READS IS OF BULK AT MOST 1048576: true; the input reads as it did. -/
def sszDepthsUptoRow : OpenClaim := { program := "ytpmmjomejackkaadoor", sum := "3344304df3144f81795a3e9d7c3f1ec7c556a0f4725fb170a566382439d17295", func := "pharos/pharoslaw08.SszDepths", spec := "sszDepths", inPlace := ["internal/abi.NoEscape", "internal/bytealg.MakeNoZero"], unfollowed := true, recurses := true, named := ["pharos/sha.k"], apart := false, laid := [("pharos/sha.k", laid_pharos_sha_k)], narrowed := true }
def SszDepthsUptoSaid : Prop := sszDepthsUptoRow.holds Tryd.pinned (OpenSpec.upto sszDepthsSpec)

/-- 'pharoslaw08.SszChecks', WHERE WHAT IT READS IS OF BULK AT MOST 1048576: true; the input reads as it did. -/
def sszChecksUptoRow : OpenClaim := { program := "ytpmmjomejackkaadoor", sum := "3344304df3144f81795a3e9d7c3f1ec7c556a0f4725fb170a566382439d17295", func := "pharos/pharoslaw08.SszChecks", spec := "sszChecks", inPlace := ["internal/abi.NoEscape", "internal/bytealg.MakeNoZero"], unfollowed := true, recurses := true, named := ["pharos/sha.k"], apart := false, laid := [("pharos/sha.k", laid_pharos_sha_k)], narrowed := true }
def SszChecksUptoSaid : Prop := sszChecksUptoRow.holds Tryd.pinned (OpenSpec.upto sszChecksSpec)

/-- 'pharoslaw08.SszBack', WHERE WHAT IT READS IS OF BULK AT MOST 1048576: true; the input reads as it did. -/
def sszBackUptoRow : OpenClaim := { program := "ytpmmjomejackkaadoor", sum := "3344304df3144f81795a3e9d7c3f1ec7c556a0f4725fb170a566382439d17295", func := "pharos/pharoslaw08.SszBack", spec := "sszBack", inPlace := ["internal/abi.NoEscape", "internal/bytealg.MakeNoZero"], unfollowed := true, recurses := true, named := ["pharos/sha.k"], apart := false, laid := [("pharos/sha.k", laid_pharos_sha_k)], narrowed := true }
def SszBackUptoSaid : Prop := sszBackUptoRow.holds Tryd.pinned (OpenSpec.upto sszBackSpec)

/-- 'pharoslaw08.SszSound', WHERE WHAT IT READS IS OF BULK AT MOST 1048576: true; the input reads as it did. -/
def sszSoundUptoRow : OpenClaim := { program := "ytpmmjomejackkaadoor", sum := "3344304df3144f81795a3e9d7c3f1ec7c556a0f4725fb170a566382439d17295", func := "pharos/pharoslaw08.SszSound", spec := "sszSound", inPlace := ["internal/abi.NoEscape", "internal/bytealg.MakeNoZero"], unfollowed := true, recurses := true, named := ["pharos/sha.k"], apart := false, laid := [("pharos/sha.k", laid_pharos_sha_k)], narrowed := true }
def SszSoundUptoSaid : Prop := sszSoundUptoRow.holds Tryd.pinned (OpenSpec.upto sszSoundSpec)

/-- 'pharoslaw08.SszJoins', WHERE WHAT IT READS IS OF BULK AT MOST 1048576: true; the input reads as it did. -/
def sszJoinsUptoRow : OpenClaim := { program := "ytpmmjomejackkaadoor", sum := "3344304df3144f81795a3e9d7c3f1ec7c556a0f4725fb170a566382439d17295", func := "pharos/pharoslaw08.SszJoins", spec := "sszJoins", inPlace := ["internal/abi.NoEscape", "internal/bytealg.MakeNoZero"], unfollowed := true, recurses := true, named := ["pharos/sha.k"], apart := false, laid := [("pharos/sha.k", laid_pharos_sha_k)], narrowed := true }
def SszJoinsUptoSaid : Prop := sszJoinsUptoRow.holds Tryd.pinned (OpenSpec.upto sszJoinsSpec)

/-- 'pharoslaw08.SszPacks', WHERE WHAT IT READS IS OF BULK AT MOST 1048576: true; the input reads as it did. -/
def sszPacksUptoRow : OpenClaim := { program := "ytpmmjomejackkaadoor", sum := "3344304df3144f81795a3e9d7c3f1ec7c556a0f4725fb170a566382439d17295", func := "pharos/pharoslaw08.SszPacks", spec := "sszPacks", inPlace := ["internal/abi.NoEscape", "internal/bytealg.MakeNoZero"], unfollowed := true, recurses := true, named := ["pharos/sha.k"], apart := false, laid := [("pharos/sha.k", laid_pharos_sha_k)], narrowed := true }
def SszPacksUptoSaid : Prop := sszPacksUptoRow.holds Tryd.pinned (OpenSpec.upto sszPacksSpec)

/-- 'pharoslaw08.SszHalves', WHERE WHAT IT READS IS OF BULK AT MOST 1048576: true; the input reads as it did. -/
def sszHalvesUptoRow : OpenClaim := { program := "ytpmmjomejackkaadoor", sum := "3344304df3144f81795a3e9d7c3f1ec7c556a0f4725fb170a566382439d17295", func := "pharos/pharoslaw08.SszHalves", spec := "sszHalves", inPlace := ["internal/abi.NoEscape", "internal/bytealg.MakeNoZero"], unfollowed := true, recurses := true, named := ["pharos/sha.k"], apart := false, laid := [("pharos/sha.k", laid_pharos_sha_k)], narrowed := true }
def SszHalvesUptoSaid : Prop := sszHalvesUptoRow.holds Tryd.pinned (OpenSpec.upto sszHalvesSpec)

/-- 'pharoslaw12.SignHashes', WHERE WHAT IT READS IS OF BULK AT MOST 1048576: true; the input reads as it did. -/
def signHashesUptoRow : OpenClaim := { program := "ytpmmjomejackkaadoor", sum := "3344304df3144f81795a3e9d7c3f1ec7c556a0f4725fb170a566382439d17295", func := "pharos/pharoslaw12.SignHashes", spec := "signHashes", inPlace := ["internal/abi.NoEscape", "internal/bytealg.MakeNoZero"], unfollowed := true, recurses := true, named := ["pharos/sha.k"], apart := false, laid := [("pharos/sha.k", laid_pharos_sha_k)], narrowed := true }
def SignHashesUptoSaid : Prop := signHashesUptoRow.holds Tryd.pinned (OpenSpec.upto signHashesSpec)

/-- 'pharoslaw12.SignKeys', WHERE WHAT IT READS IS OF BULK AT MOST 1048576: true; the input reads as it did. -/
def signKeysUptoRow : OpenClaim := { program := "ytpmmjomejackkaadoor", sum := "3344304df3144f81795a3e9d7c3f1ec7c556a0f4725fb170a566382439d17295", func := "pharos/pharoslaw12.SignKeys", spec := "signKeys", inPlace := ["internal/abi.NoEscape", "internal/bytealg.MakeNoZero"], unfollowed := true, recurses := true, named := ["pharos/sha.k"], apart := false, laid := [("pharos/sha.k", laid_pharos_sha_k)], narrowed := true }
def SignKeysUptoSaid : Prop := signKeysUptoRow.holds Tryd.pinned (OpenSpec.upto signKeysSpec)

/-- 'pharoslaw12.SignHolds', WHERE WHAT IT READS IS OF BULK AT MOST 1048576: true; the input reads as it did. -/
def signHoldsUptoRow : OpenClaim := { program := "ytpmmjomejackkaadoor", sum := "3344304df3144f81795a3e9d7c3f1ec7c556a0f4725fb170a566382439d17295", func := "pharos/pharoslaw12.SignHolds", spec := "signHolds", inPlace := ["internal/abi.NoEscape", "internal/bytealg.MakeNoZero"], unfollowed := true, recurses := true, named := ["pharos/sha.k"], apart := false, laid := [("pharos/sha.k", laid_pharos_sha_k)], narrowed := true }
def SignHoldsUptoSaid : Prop := signHoldsUptoRow.holds Tryd.pinned (OpenSpec.upto signHoldsSpec)

/-- 'pharoslaw12.SignSums', WHERE WHAT IT READS IS OF BULK AT MOST 1048576: true; the input reads as it did. -/
def signSumsUptoRow : OpenClaim := { program := "ytpmmjomejackkaadoor", sum := "3344304df3144f81795a3e9d7c3f1ec7c556a0f4725fb170a566382439d17295", func := "pharos/pharoslaw12.SignSums", spec := "signSums", inPlace := ["internal/abi.NoEscape", "internal/bytealg.MakeNoZero"], unfollowed := true, recurses := true, named := ["pharos/sha.k"], apart := false, laid := [("pharos/sha.k", laid_pharos_sha_k)], narrowed := true }
def SignSumsUptoSaid : Prop := signSumsUptoRow.holds Tryd.pinned (OpenSpec.upto signSumsSpec)

/-- 'pharoslaw12.SignOnes', WHERE WHAT IT READS IS OF BULK AT MOST 1048576: true; the input reads as it did. -/
def signOnesUptoRow : OpenClaim := { program := "ytpmmjomejackkaadoor", sum := "3344304df3144f81795a3e9d7c3f1ec7c556a0f4725fb170a566382439d17295", func := "pharos/pharoslaw12.SignOnes", spec := "signOnes", inPlace := ["internal/abi.NoEscape", "internal/bytealg.MakeNoZero"], unfollowed := true, recurses := true, named := ["pharos/sha.k"], apart := false, laid := [("pharos/sha.k", laid_pharos_sha_k)], narrowed := true }
def SignOnesUptoSaid : Prop := signOnesUptoRow.holds Tryd.pinned (OpenSpec.upto signOnesSpec)

/-- 'pharoslaw12.SignPoints', WHERE WHAT IT READS IS OF BULK AT MOST 1048576: true; the input reads as it did. -/
def signPointsUptoRow : OpenClaim := { program := "ytpmmjomejackkaadoor", sum := "3344304df3144f81795a3e9d7c3f1ec7c556a0f4725fb170a566382439d17295", func := "pharos/pharoslaw12.SignPoints", spec := "signPoints", inPlace := ["internal/abi.NoEscape", "internal/bytealg.MakeNoZero"], unfollowed := true, recurses := true, named := ["pharos/sha.k"], apart := false, laid := [("pharos/sha.k", laid_pharos_sha_k)], narrowed := true }
def SignPointsUptoSaid : Prop := signPointsUptoRow.holds Tryd.pinned (OpenSpec.upto signPointsSpec)

end Rows
end Go.Proofs.YtpmmjomejackkaaDoor
