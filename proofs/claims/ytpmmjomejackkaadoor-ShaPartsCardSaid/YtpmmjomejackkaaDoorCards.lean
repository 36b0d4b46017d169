/-
  DERIVED. GIVEN WITH THE SEED: THE CARDS: each row of YtpmmjomejackkaaDoorRows.lean that lists a variable, with what it lists TIED to the program's text (the seventh form; the later family's looks); each row that meets fmt, with fmt's text TOLD by the authors' own Lean function (tested against real Go, not proved from fmt's source: count such statements apart). THE CARD IS WHAT COUNTS. Prove the row's statement (the work); the ties are given (YtpmmjomejackkaaDoorTie.lean); close each card by the builder's one call (the guide's Derived/Test/ToyasCard.lean, 'card_holds'). Laid BY PROGRAM, IN A SANDBOX (cutbox-door.mjs). By AI agents, Wed Nov 11 2026. No macro, syntax, notation, axiom, sorry.
-/
import Derived.Test.YtpmmjomejackkaaDoorRows
import GoSem.ClaimSeven
namespace Go.Proofs.YtpmmjomejackkaaDoor
namespace Rows

/-- THE TIED CARD OF 'pharoslaw02.ShaSums'. -/
def shaSumsCard : Claim7 := { stood := { row := shaSumsRow, standIns := [], harness := (true, "3894f3a8d7c5173dc2533bdeda569ed12c7b37275962f1e76d8873b93b2db3ea"), looks := false }, kinds := [], alts := [], laidByText := true, laidKinds := [.data], laidTests := true, laidLooks := .later }
def ShaSumsCardSaid : Prop := Claim7.holds Tryd.pinned (.plain (OpenSpec.ofChange shaSumsSpec)) shaSumsCard

/-- THE TIED CARD OF 'pharoslaw02.ShaParts'. -/
def shaPartsCard : Claim7 := { stood := { row := shaPartsRow, standIns := [], harness := (true, "3894f3a8d7c5173dc2533bdeda569ed12c7b37275962f1e76d8873b93b2db3ea"), looks := false }, kinds := [], alts := [], laidByText := true, laidKinds := [.data], laidTests := true, laidLooks := .later }
def ShaPartsCardSaid : Prop := Claim7.holds Tryd.pinned (.plain (OpenSpec.ofChange shaPartsSpec)) shaPartsCard

/-- THE TIED CARD OF 'pharoslaw02.ShaHex'. -/
def shaHexCard : Claim7 := { stood := { row := shaHexRow, standIns := [], harness := (true, "3894f3a8d7c5173dc2533bdeda569ed12c7b37275962f1e76d8873b93b2db3ea"), looks := false }, kinds := [], alts := [], laidByText := true, laidKinds := [.data], laidTests := true, laidLooks := .later }
def ShaHexCardSaid : Prop := Claim7.holds Tryd.pinned (.plain (OpenSpec.ofChange shaHexSpec)) shaHexCard

/-- THE TIED CARD OF 'pharoslaw02.ShaBack'. -/
def shaBackCard : Claim7 := { stood := { row := shaBackRow, standIns := [], harness := (true, "3894f3a8d7c5173dc2533bdeda569ed12c7b37275962f1e76d8873b93b2db3ea"), looks := false }, kinds := [], alts := [], laidByText := true, laidKinds := [.data], laidTests := true, laidLooks := .later }
def ShaBackCardSaid : Prop := Claim7.holds Tryd.pinned (.plain (OpenSpec.ofChange shaBackSpec)) shaBackCard

/-- THE TIED CARD OF 'pharoslaw02.ShaJoins'. -/
def shaJoinsCard : Claim7 := { stood := { row := shaJoinsRow, standIns := [], harness := (true, "3894f3a8d7c5173dc2533bdeda569ed12c7b37275962f1e76d8873b93b2db3ea"), looks := false }, kinds := [], alts := [], laidByText := true, laidKinds := [.data], laidTests := true, laidLooks := .later }
def ShaJoinsCardSaid : Prop := Claim7.holds Tryd.pinned (.plain (OpenSpec.ofChange shaJoinsSpec)) shaJoinsCard

/-- THE TIED CARD OF 'pharoslaw08.SszRoots'. -/
def sszRootsCard : Claim7 := { stood := { row := sszRootsRow, standIns := [], harness := (true, "3894f3a8d7c5173dc2533bdeda569ed12c7b37275962f1e76d8873b93b2db3ea"), looks := false }, kinds := [], alts := [], laidByText := true, laidKinds := [.data], laidTests := true, laidLooks := .later }
def SszRootsCardSaid : Prop := Claim7.holds Tryd.pinned (.plain (OpenSpec.ofChange sszRootsSpec)) sszRootsCard

/-- THE TIED CARD OF 'pharoslaw08.SszDepths'. -/
def sszDepthsCard : Claim7 := { stood := { row := sszDepthsRow, standIns := [], harness := (true, "3894f3a8d7c5173dc2533bdeda569ed12c7b37275962f1e76d8873b93b2db3ea"), looks := false }, kinds := [], alts := [], laidByText := true, laidKinds := [.data], laidTests := true, laidLooks := .later }
def SszDepthsCardSaid : Prop := Claim7.holds Tryd.pinned (.plain (OpenSpec.ofChange sszDepthsSpec)) sszDepthsCard

/-- THE TIED CARD OF 'pharoslaw08.SszChecks'. -/
def sszChecksCard : Claim7 := { stood := { row := sszChecksRow, standIns := [], harness := (true, "3894f3a8d7c5173dc2533bdeda569ed12c7b37275962f1e76d8873b93b2db3ea"), looks := false }, kinds := [], alts := [], laidByText := true, laidKinds := [.data], laidTests := true, laidLooks := .later }
def SszChecksCardSaid : Prop := Claim7.holds Tryd.pinned (.plain (OpenSpec.ofChange sszChecksSpec)) sszChecksCard

/-- THE TIED CARD OF 'pharoslaw08.SszBack'. -/
def sszBackCard : Claim7 := { stood := { row := sszBackRow, standIns := [], harness := (true, "3894f3a8d7c5173dc2533bdeda569ed12c7b37275962f1e76d8873b93b2db3ea"), looks := false }, kinds := [], alts := [], laidByText := true, laidKinds := [.data], laidTests := true, laidLooks := .later }
def SszBackCardSaid : Prop := Claim7.holds Tryd.pinned (.plain (OpenSpec.ofChange sszBackSpec)) sszBackCard

/-- THE TIED CARD OF 'pharoslaw08.SszSound'. -/
def sszSoundCard : Claim7 := { stood := { row := sszSoundRow, standIns := [], harness := (true, "3894f3a8d7c5173dc2533bdeda569ed12c7b37275962f1e76d8873b93b2db3ea"), looks := false }, kinds := [], alts := [], laidByText := true, laidKinds := [.data], laidTests := true, laidLooks := .later }
def SszSoundCardSaid : Prop := Claim7.holds Tryd.pinned (.plain (OpenSpec.ofChange sszSoundSpec)) sszSoundCard

/-- THE TIED CARD OF 'pharoslaw08.SszJoins'. -/
def sszJoinsCard : Claim7 := { stood := { row := sszJoinsRow, standIns := [], harness := (true, "3894f3a8d7c5173dc2533bdeda569ed12c7b37275962f1e76d8873b93b2db3ea"), looks := false }, kinds := [], alts := [], laidByText := true, laidKinds := [.data], laidTests := true, laidLooks := .later }
def SszJoinsCardSaid : Prop := Claim7.holds Tryd.pinned (.plain (OpenSpec.ofChange sszJoinsSpec)) sszJoinsCard

/-- THE TIED CARD OF 'pharoslaw08.SszPacks'. -/
def sszPacksCard : Claim7 := { stood := { row := sszPacksRow, standIns := [], harness := (true, "3894f3a8d7c5173dc2533bdeda569ed12c7b37275962f1e76d8873b93b2db3ea"), looks := false }, kinds := [], alts := [], laidByText := true, laidKinds := [.data], laidTests := true, laidLooks := .later }
def SszPacksCardSaid : Prop := Claim7.holds Tryd.pinned (.plain (OpenSpec.ofChange sszPacksSpec)) sszPacksCard

/-- THE TIED CARD OF 'pharoslaw08.SszHalves'. -/
def sszHalvesCard : Claim7 := { stood := { row := sszHalvesRow, standIns := [], harness := (true, "3894f3a8d7c5173dc2533bdeda569ed12c7b37275962f1e76d8873b93b2db3ea"), looks := false }, kinds := [], alts := [], laidByText := true, laidKinds := [.data], laidTests := true, laidLooks := .later }
def SszHalvesCardSaid : Prop := Claim7.holds Tryd.pinned (.plain (OpenSpec.ofChange sszHalvesSpec)) sszHalvesCard

/-- THE TIED CARD OF 'pharoslaw12.SignHashes'. -/
def signHashesCard : Claim7 := { stood := { row := signHashesRow, standIns := [], harness := (true, "3894f3a8d7c5173dc2533bdeda569ed12c7b37275962f1e76d8873b93b2db3ea"), looks := false }, kinds := [], alts := [], laidByText := true, laidKinds := [.data], laidTests := true, laidLooks := .later }
def SignHashesCardSaid : Prop := Claim7.holds Tryd.pinned (.plain (OpenSpec.ofChange signHashesSpec)) signHashesCard

/-- THE TIED CARD OF 'pharoslaw12.SignKeys'. -/
def signKeysCard : Claim7 := { stood := { row := signKeysRow, standIns := [], harness := (true, "3894f3a8d7c5173dc2533bdeda569ed12c7b37275962f1e76d8873b93b2db3ea"), looks := false }, kinds := [], alts := [], laidByText := true, laidKinds := [.data], laidTests := true, laidLooks := .later }
def SignKeysCardSaid : Prop := Claim7.holds Tryd.pinned (.plain (OpenSpec.ofChange signKeysSpec)) signKeysCard

/-- THE TIED CARD OF 'pharoslaw12.SignHolds'. -/
def signHoldsCard : Claim7 := { stood := { row := signHoldsRow, standIns := [], harness := (true, "3894f3a8d7c5173dc2533bdeda569ed12c7b37275962f1e76d8873b93b2db3ea"), looks := false }, kinds := [], alts := [], laidByText := true, laidKinds := [.data], laidTests := true, laidLooks := .later }
def SignHoldsCardSaid : Prop := Claim7.holds Tryd.pinned (.plain (OpenSpec.ofChange signHoldsSpec)) signHoldsCard

/-- THE TIED CARD OF 'pharoslaw12.SignSums'. -/
def signSumsCard : Claim7 := { stood := { row := signSumsRow, standIns := [], harness := (true, "3894f3a8d7c5173dc2533bdeda569ed12c7b37275962f1e76d8873b93b2db3ea"), looks := false }, kinds := [], alts := [], laidByText := true, laidKinds := [.data], laidTests := true, laidLooks := .later }
def SignSumsCardSaid : Prop := Claim7.holds Tryd.pinned (.plain (OpenSpec.ofChange signSumsSpec)) signSumsCard

/-- THE TIED CARD OF 'pharoslaw12.SignOnes'. -/
def signOnesCard : Claim7 := { stood := { row := signOnesRow, standIns := [], harness := (true, "3894f3a8d7c5173dc2533bdeda569ed12c7b37275962f1e76d8873b93b2db3ea"), looks := false }, kinds := [], alts := [], laidByText := true, laidKinds := [.data], laidTests := true, laidLooks := .later }
def SignOnesCardSaid : Prop := Claim7.holds Tryd.pinned (.plain (OpenSpec.ofChange signOnesSpec)) signOnesCard

/-- THE TIED CARD OF 'pharoslaw12.SignPoints'. -/
def signPointsCard : Claim7 := { stood := { row := signPointsRow, standIns := [], harness := (true, "3894f3a8d7c5173dc2533bdeda569ed12c7b37275962f1e76d8873b93b2db3ea"), looks := false }, kinds := [], alts := [], laidByText := true, laidKinds := [.data], laidTests := true, laidLooks := .later }
def SignPointsCardSaid : Prop := Claim7.holds Tryd.pinned (.plain (OpenSpec.ofChange signPointsSpec)) signPointsCard

/-- THE SECOND FORM's CARD OF 'pharoslaw02.ShaSums'. -/
def shaSumsUptoCard : Claim7 := { stood := { row := shaSumsUptoRow, standIns := [], harness := (true, "3894f3a8d7c5173dc2533bdeda569ed12c7b37275962f1e76d8873b93b2db3ea"), looks := false }, kinds := [], alts := [], laidByText := true, laidKinds := [.data], laidTests := true, laidLooks := .later }
def ShaSumsUptoCardSaid : Prop := Claim7.holds Tryd.pinned (.plain (OpenSpec.upto shaSumsSpec)) shaSumsUptoCard

/-- THE SECOND FORM's CARD OF 'pharoslaw02.ShaParts'. -/
def shaPartsUptoCard : Claim7 := { stood := { row := shaPartsUptoRow, standIns := [], harness := (true, "3894f3a8d7c5173dc2533bdeda569ed12c7b37275962f1e76d8873b93b2db3ea"), looks := false }, kinds := [], alts := [], laidByText := true, laidKinds := [.data], laidTests := true, laidLooks := .later }
def ShaPartsUptoCardSaid : Prop := Claim7.holds Tryd.pinned (.plain (OpenSpec.upto shaPartsSpec)) shaPartsUptoCard

/-- THE SECOND FORM's CARD OF 'pharoslaw02.ShaHex'. -/
def shaHexUptoCard : Claim7 := { stood := { row := shaHexUptoRow, standIns := [], harness := (true, "3894f3a8d7c5173dc2533bdeda569ed12c7b37275962f1e76d8873b93b2db3ea"), looks := false }, kinds := [], alts := [], laidByText := true, laidKinds := [.data], laidTests := true, laidLooks := .later }
def ShaHexUptoCardSaid : Prop := Claim7.holds Tryd.pinned (.plain (OpenSpec.upto shaHexSpec)) shaHexUptoCard

/-- THE SECOND FORM's CARD OF 'pharoslaw02.ShaBack'. -/
def shaBackUptoCard : Claim7 := { stood := { row := shaBackUptoRow, standIns := [], harness := (true, "3894f3a8d7c5173dc2533bdeda569ed12c7b37275962f1e76d8873b93b2db3ea"), looks := false }, kinds := [], alts := [], laidByText := true, laidKinds := [.data], laidTests := true, laidLooks := .later }
def ShaBackUptoCardSaid : Prop := Claim7.holds Tryd.pinned (.plain (OpenSpec.upto shaBackSpec)) shaBackUptoCard

/-- THE SECOND FORM's CARD OF 'pharoslaw02.ShaJoins'. -/
def shaJoinsUptoCard : Claim7 := { stood := { row := shaJoinsUptoRow, standIns := [], harness := (true, "3894f3a8d7c5173dc2533bdeda569ed12c7b37275962f1e76d8873b93b2db3ea"), looks := false }, kinds := [], alts := [], laidByText := true, laidKinds := [.data], laidTests := true, laidLooks := .later }
def ShaJoinsUptoCardSaid : Prop := Claim7.holds Tryd.pinned (.plain (OpenSpec.upto shaJoinsSpec)) shaJoinsUptoCard

/-- THE SECOND FORM's CARD OF 'pharoslaw08.SszRoots'. -/
def sszRootsUptoCard : Claim7 := { stood := { row := sszRootsUptoRow, standIns := [], harness := (true, "3894f3a8d7c5173dc2533bdeda569ed12c7b37275962f1e76d8873b93b2db3ea"), looks := false }, kinds := [], alts := [], laidByText := true, laidKinds := [.data], laidTests := true, laidLooks := .later }
def SszRootsUptoCardSaid : Prop := Claim7.holds Tryd.pinned (.plain (OpenSpec.upto sszRootsSpec)) sszRootsUptoCard

/-- THE SECOND FORM's CARD OF 'pharoslaw08.SszDepths'. -/
def sszDepthsUptoCard : Claim7 := { stood := { row := sszDepthsUptoRow, standIns := [], harness := (true, "3894f3a8d7c5173dc2533bdeda569ed12c7b37275962f1e76d8873b93b2db3ea"), looks := false }, kinds := [], alts := [], laidByText := true, laidKinds := [.data], laidTests := true, laidLooks := .later }
def SszDepthsUptoCardSaid : Prop := Claim7.holds Tryd.pinned (.plain (OpenSpec.upto sszDepthsSpec)) sszDepthsUptoCard

/-- THE SECOND FORM's CARD OF 'pharoslaw08.SszChecks'. -/
def sszChecksUptoCard : Claim7 := { stood := { row := sszChecksUptoRow, standIns := [], harness := (true, "3894f3a8d7c5173dc2533bdeda569ed12c7b37275962f1e76d8873b93b2db3ea"), looks := false }, kinds := [], alts := [], laidByText := true, laidKinds := [.data], laidTests := true, laidLooks := .later }
def SszChecksUptoCardSaid : Prop := Claim7.holds Tryd.pinned (.plain (OpenSpec.upto sszChecksSpec)) sszChecksUptoCard

/-- THE SECOND FORM's CARD OF 'pharoslaw08.SszBack'. -/
def sszBackUptoCard : Claim7 := { stood := { row := sszBackUptoRow, standIns := [], harness := (true, "3894f3a8d7c5173dc2533bdeda569ed12c7b37275962f1e76d8873b93b2db3ea"), looks := false }, kinds := [], alts := [], laidByText := true, laidKinds := [.data], laidTests := true, laidLooks := .later }
def SszBackUptoCardSaid : Prop := Claim7.holds Tryd.pinned (.plain (OpenSpec.upto sszBackSpec)) sszBackUptoCard

/-- THE SECOND FORM's CARD OF 'pharoslaw08.SszSound'. -/
def sszSoundUptoCard : Claim7 := { stood := { row := sszSoundUptoRow, standIns := [], harness := (true, "3894f3a8d7c5173dc2533bdeda569ed12c7b37275962f1e76d8873b93b2db3ea"), looks := false }, kinds := [], alts := [], laidByText := true, laidKinds := [.data], laidTests := true, laidLooks := .later }
def SszSoundUptoCardSaid : Prop := Claim7.holds Tryd.pinned (.plain (OpenSpec.upto sszSoundSpec)) sszSoundUptoCard

/-- THE SECOND FORM's CARD OF 'pharoslaw08.SszJoins'. -/
def sszJoinsUptoCard : Claim7 := { stood := { row := sszJoinsUptoRow, standIns := [], harness := (true, "3894f3a8d7c5173dc2533bdeda569ed12c7b37275962f1e76d8873b93b2db3ea"), looks := false }, kinds := [], alts := [], laidByText := true, laidKinds := [.data], laidTests := true, laidLooks := .later }
def SszJoinsUptoCardSaid : Prop := Claim7.holds Tryd.pinned (.plain (OpenSpec.upto sszJoinsSpec)) sszJoinsUptoCard

/-- THE SECOND FORM's CARD OF 'pharoslaw08.SszPacks'. -/
def sszPacksUptoCard : Claim7 := { stood := { row := sszPacksUptoRow, standIns := [], harness := (true, "3894f3a8d7c5173dc2533bdeda569ed12c7b37275962f1e76d8873b93b2db3ea"), looks := false }, kinds := [], alts := [], laidByText := true, laidKinds := [.data], laidTests := true, laidLooks := .later }
def SszPacksUptoCardSaid : Prop := Claim7.holds Tryd.pinned (.plain (OpenSpec.upto sszPacksSpec)) sszPacksUptoCard

/-- THE SECOND FORM's CARD OF 'pharoslaw08.SszHalves'. -/
def sszHalvesUptoCard : Claim7 := { stood := { row := sszHalvesUptoRow, standIns := [], harness := (true, "3894f3a8d7c5173dc2533bdeda569ed12c7b37275962f1e76d8873b93b2db3ea"), looks := false }, kinds := [], alts := [], laidByText := true, laidKinds := [.data], laidTests := true, laidLooks := .later }
def SszHalvesUptoCardSaid : Prop := Claim7.holds Tryd.pinned (.plain (OpenSpec.upto sszHalvesSpec)) sszHalvesUptoCard

/-- THE SECOND FORM's CARD OF 'pharoslaw12.SignHashes'. -/
def signHashesUptoCard : Claim7 := { stood := { row := signHashesUptoRow, standIns := [], harness := (true, "3894f3a8d7c5173dc2533bdeda569ed12c7b37275962f1e76d8873b93b2db3ea"), looks := false }, kinds := [], alts := [], laidByText := true, laidKinds := [.data], laidTests := true, laidLooks := .later }
def SignHashesUptoCardSaid : Prop := Claim7.holds Tryd.pinned (.plain (OpenSpec.upto signHashesSpec)) signHashesUptoCard

/-- THE SECOND FORM's CARD OF 'pharoslaw12.SignKeys'. -/
def signKeysUptoCard : Claim7 := { stood := { row := signKeysUptoRow, standIns := [], harness := (true, "3894f3a8d7c5173dc2533bdeda569ed12c7b37275962f1e76d8873b93b2db3ea"), looks := false }, kinds := [], alts := [], laidByText := true, laidKinds := [.data], laidTests := true, laidLooks := .later }
def SignKeysUptoCardSaid : Prop := Claim7.holds Tryd.pinned (.plain (OpenSpec.upto signKeysSpec)) signKeysUptoCard

/-- THE SECOND FORM's CARD OF 'pharoslaw12.SignHolds'. -/
def signHoldsUptoCard : Claim7 := { stood := { row := signHoldsUptoRow, standIns := [], harness := (true, "3894f3a8d7c5173dc2533bdeda569ed12c7b37275962f1e76d8873b93b2db3ea"), looks := false }, kinds := [], alts := [], laidByText := true, laidKinds := [.data], laidTests := true, laidLooks := .later }
def SignHoldsUptoCardSaid : Prop := Claim7.holds Tryd.pinned (.plain (OpenSpec.upto signHoldsSpec)) signHoldsUptoCard

/-- THE SECOND FORM's CARD OF 'pharoslaw12.SignSums'. -/
def signSumsUptoCard : Claim7 := { stood := { row := signSumsUptoRow, standIns := [], harness := (true, "3894f3a8d7c5173dc2533bdeda569ed12c7b37275962f1e76d8873b93b2db3ea"), looks := false }, kinds := [], alts := [], laidByText := true, laidKinds := [.data], laidTests := true, laidLooks := .later }
def SignSumsUptoCardSaid : Prop := Claim7.holds Tryd.pinned (.plain (OpenSpec.upto signSumsSpec)) signSumsUptoCard

/-- THE SECOND FORM's CARD OF 'pharoslaw12.SignOnes'. -/
def signOnesUptoCard : Claim7 := { stood := { row := signOnesUptoRow, standIns := [], harness := (true, "3894f3a8d7c5173dc2533bdeda569ed12c7b37275962f1e76d8873b93b2db3ea"), looks := false }, kinds := [], alts := [], laidByText := true, laidKinds := [.data], laidTests := true, laidLooks := .later }
def SignOnesUptoCardSaid : Prop := Claim7.holds Tryd.pinned (.plain (OpenSpec.upto signOnesSpec)) signOnesUptoCard

/-- THE SECOND FORM's CARD OF 'pharoslaw12.SignPoints'. -/
def signPointsUptoCard : Claim7 := { stood := { row := signPointsUptoRow, standIns := [], harness := (true, "3894f3a8d7c5173dc2533bdeda569ed12c7b37275962f1e76d8873b93b2db3ea"), looks := false }, kinds := [], alts := [], laidByText := true, laidKinds := [.data], laidTests := true, laidLooks := .later }
def SignPointsUptoCardSaid : Prop := Claim7.holds Tryd.pinned (.plain (OpenSpec.upto signPointsSpec)) signPointsUptoCard
end Rows
end Go.Proofs.YtpmmjomejackkaaDoor
