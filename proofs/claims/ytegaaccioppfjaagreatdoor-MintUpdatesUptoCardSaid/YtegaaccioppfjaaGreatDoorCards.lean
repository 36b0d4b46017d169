/-
  DERIVED. GIVEN WITH THE SEED: THE CARDS: each row of YtegaaccioppfjaaGreatDoorRows.lean that lists a variable, with what it lists TIED to the program's text (the seventh form; the later family's looks); each row that meets fmt, with fmt's text TOLD by the authors' own Lean function (tested against real Go, not proved from fmt's source: count such statements apart). THE CARD IS WHAT COUNTS. Prove the row's statement (the work); the ties are given (YtegaaccioppfjaaGreatDoorTie.lean); close each card by the builder's one call (the guide's Derived/Test/ToyasCard.lean, 'card_holds'). Laid BY PROGRAM, IN A SANDBOX (cutbox-door.mjs). By AI agents, Wed Nov 11 2026. No macro, syntax, notation, axiom, sorry.
-/
import Derived.Test.YtegaaccioppfjaaGreatDoorRows
import GoSem.ClaimSeven
namespace Go.Proofs.YtegaaccioppfjaaGreatDoor
namespace Rows

/-- THE TIED CARD OF 'pharoslaw14.LightChecks'. -/
def lightChecksCard : Claim7 := { stood := { row := lightChecksRow, standIns := [], harness := (true, "6545474c59099b1d8d0c191f0410e633dbdfef52a94b7d9a6abed8ad034a6247"), looks := false }, kinds := [], alts := [], laidByText := true, laidKinds := [.data], laidTests := true, laidLooks := .later }
def LightChecksCardSaid : Prop := Claim7.holds Tryz.pinned (.plain (OpenSpec.ofChange lightChecksSpec)) lightChecksCard

/-- THE TIED CARD OF 'pharoslaw14.LightForces'. -/
def lightForcesCard : Claim7 := { stood := { row := lightForcesRow, standIns := [], harness := (true, "6545474c59099b1d8d0c191f0410e633dbdfef52a94b7d9a6abed8ad034a6247"), looks := false }, kinds := [], alts := [], laidByText := true, laidKinds := [.data], laidTests := true, laidLooks := .later }
def LightForcesCardSaid : Prop := Claim7.holds Tryz.pinned (.plain (OpenSpec.ofChange lightForcesSpec)) lightForcesCard

/-- THE TIED CARD OF 'pharoslaw14.LightBegins'. -/
def lightBeginsCard : Claim7 := { stood := { row := lightBeginsRow, standIns := [], harness := (true, "6545474c59099b1d8d0c191f0410e633dbdfef52a94b7d9a6abed8ad034a6247"), looks := false }, kinds := [], alts := [], laidByText := true, laidKinds := [.data], laidTests := true, laidLooks := .later }
def LightBeginsCardSaid : Prop := Claim7.holds Tryz.pinned (.plain (OpenSpec.ofChange lightBeginsSpec)) lightBeginsCard

/-- THE TIED CARD OF 'pharoslaw14.LightOnce'. -/
def lightOnceCard : Claim7 := { stood := { row := lightOnceRow, standIns := [], harness := (true, "6545474c59099b1d8d0c191f0410e633dbdfef52a94b7d9a6abed8ad034a6247"), looks := false }, kinds := [], alts := [], laidByText := true, laidKinds := [.data], laidTests := true, laidLooks := .later }
def LightOnceCardSaid : Prop := Claim7.holds Tryz.pinned (.plain (OpenSpec.ofChange lightOnceSpec)) lightOnceCard

/-- THE TIED CARD OF 'pharoslaw14.LightBetter'. -/
def lightBetterCard : Claim7 := { stood := { row := lightBetterRow, standIns := [], harness := (true, "6545474c59099b1d8d0c191f0410e633dbdfef52a94b7d9a6abed8ad034a6247"), looks := false }, kinds := [], alts := [], laidByText := true, laidKinds := [.data], laidTests := true, laidLooks := .later }
def LightBetterCardSaid : Prop := Claim7.holds Tryz.pinned (.plain (OpenSpec.ofChange lightBetterSpec)) lightBetterCard

/-- THE TIED CARD OF 'pharoslaw14.LightOrder'. -/
def lightOrderCard : Claim7 := { stood := { row := lightOrderRow, standIns := [], harness := (true, "6545474c59099b1d8d0c191f0410e633dbdfef52a94b7d9a6abed8ad034a6247"), looks := false }, kinds := [], alts := [], laidByText := true, laidKinds := [.data], laidTests := true, laidLooks := .later }
def LightOrderCardSaid : Prop := Claim7.holds Tryz.pinned (.plain (OpenSpec.ofChange lightOrderSpec)) lightOrderCard

/-- THE TIED CARD OF 'pharoslaw14.LightApplies'. -/
def lightAppliesCard : Claim7 := { stood := { row := lightAppliesRow, standIns := [], harness := (true, "6545474c59099b1d8d0c191f0410e633dbdfef52a94b7d9a6abed8ad034a6247"), looks := false }, kinds := [], alts := [], laidByText := true, laidKinds := [.data], laidTests := true, laidLooks := .later }
def LightAppliesCardSaid : Prop := Claim7.holds Tryz.pinned (.plain (OpenSpec.ofChange lightAppliesSpec)) lightAppliesCard

/-- THE TIED CARD OF 'pharoslaw14.LightSteps'. -/
def lightStepsCard : Claim7 := { stood := { row := lightStepsRow, standIns := [], harness := (true, "6545474c59099b1d8d0c191f0410e633dbdfef52a94b7d9a6abed8ad034a6247"), looks := false }, kinds := [], alts := [], laidByText := true, laidKinds := [.data], laidTests := true, laidLooks := .later }
def LightStepsCardSaid : Prop := Claim7.holds Tryz.pinned (.plain (OpenSpec.ofChange lightStepsSpec)) lightStepsCard

/-- THE TIED CARD OF 'pharoslaw14.LightSees'. -/
def lightSeesCard : Claim7 := { stood := { row := lightSeesRow, standIns := [], harness := (true, "6545474c59099b1d8d0c191f0410e633dbdfef52a94b7d9a6abed8ad034a6247"), looks := false }, kinds := [], alts := [], laidByText := true, laidKinds := [.data], laidTests := true, laidLooks := .later }
def LightSeesCardSaid : Prop := Claim7.holds Tryz.pinned (.plain (OpenSpec.ofChange lightSeesSpec)) lightSeesCard

/-- THE TIED CARD OF 'pharoslaw14.LightSigned'. -/
def lightSignedCard : Claim7 := { stood := { row := lightSignedRow, standIns := [], harness := (true, "6545474c59099b1d8d0c191f0410e633dbdfef52a94b7d9a6abed8ad034a6247"), looks := false }, kinds := [], alts := [], laidByText := true, laidKinds := [.data], laidTests := true, laidLooks := .later }
def LightSignedCardSaid : Prop := Claim7.holds Tryz.pinned (.plain (OpenSpec.ofChange lightSignedSpec)) lightSignedCard

/-- THE TIED CARD OF 'pharoslaw14.LightAgrees'. -/
def lightAgreesCard : Claim7 := { stood := { row := lightAgreesRow, standIns := [], harness := (true, "6545474c59099b1d8d0c191f0410e633dbdfef52a94b7d9a6abed8ad034a6247"), looks := false }, kinds := [], alts := [], laidByText := true, laidKinds := [.data], laidTests := true, laidLooks := .later }
def LightAgreesCardSaid : Prop := Claim7.holds Tryz.pinned (.plain (OpenSpec.ofChange lightAgreesSpec)) lightAgreesCard

/-- THE TIED CARD OF 'pharoslaw15.MintCommittees'. -/
def mintCommitteesCard : Claim7 := { stood := { row := mintCommitteesRow, standIns := [], harness := (true, "6545474c59099b1d8d0c191f0410e633dbdfef52a94b7d9a6abed8ad034a6247"), looks := false }, kinds := [], alts := [], laidByText := true, laidKinds := [.data], laidTests := true, laidLooks := .later }
def MintCommitteesCardSaid : Prop := Claim7.holds Tryz.pinned (.plain (OpenSpec.ofChange mintCommitteesSpec)) mintCommitteesCard

/-- THE TIED CARD OF 'pharoslaw15.MintBoots'. -/
def mintBootsCard : Claim7 := { stood := { row := mintBootsRow, standIns := [], harness := (true, "6545474c59099b1d8d0c191f0410e633dbdfef52a94b7d9a6abed8ad034a6247"), looks := false }, kinds := [], alts := [], laidByText := true, laidKinds := [.data], laidTests := true, laidLooks := .later }
def MintBootsCardSaid : Prop := Claim7.holds Tryz.pinned (.plain (OpenSpec.ofChange mintBootsSpec)) mintBootsCard

/-- THE TIED CARD OF 'pharoslaw15.MintUpdates'. -/
def mintUpdatesCard : Claim7 := { stood := { row := mintUpdatesRow, standIns := [], harness := (true, "6545474c59099b1d8d0c191f0410e633dbdfef52a94b7d9a6abed8ad034a6247"), looks := false }, kinds := [], alts := [], laidByText := true, laidKinds := [.data], laidTests := true, laidLooks := .later }
def MintUpdatesCardSaid : Prop := Claim7.holds Tryz.pinned (.plain (OpenSpec.ofChange mintUpdatesSpec)) mintUpdatesCard

/-- THE TIED CARD OF 'pharoslaw15.MintHolds'. -/
def mintHoldsCard : Claim7 := { stood := { row := mintHoldsRow, standIns := [], harness := (true, "6545474c59099b1d8d0c191f0410e633dbdfef52a94b7d9a6abed8ad034a6247"), looks := false }, kinds := [], alts := [], laidByText := true, laidKinds := [.data], laidTests := true, laidLooks := .later }
def MintHoldsCardSaid : Prop := Claim7.holds Tryz.pinned (.plain (OpenSpec.ofChange mintHoldsSpec)) mintHoldsCard

/-- THE TIED CARD OF 'pharoslaw15.MintParts'. -/
def mintPartsCard : Claim7 := { stood := { row := mintPartsRow, standIns := [], harness := (true, "6545474c59099b1d8d0c191f0410e633dbdfef52a94b7d9a6abed8ad034a6247"), looks := false }, kinds := [], alts := [], laidByText := true, laidKinds := [.data], laidTests := true, laidLooks := .later }
def MintPartsCardSaid : Prop := Claim7.holds Tryz.pinned (.plain (OpenSpec.ofChange mintPartsSpec)) mintPartsCard

/-- THE SECOND FORM's CARD OF 'pharoslaw14.LightChecks'. -/
def lightChecksUptoCard : Claim7 := { stood := { row := lightChecksUptoRow, standIns := [], harness := (true, "6545474c59099b1d8d0c191f0410e633dbdfef52a94b7d9a6abed8ad034a6247"), looks := false }, kinds := [], alts := [], laidByText := true, laidKinds := [.data], laidTests := true, laidLooks := .later }
def LightChecksUptoCardSaid : Prop := Claim7.holds Tryz.pinned (.plain (OpenSpec.upto lightChecksSpec)) lightChecksUptoCard

/-- THE SECOND FORM's CARD OF 'pharoslaw14.LightForces'. -/
def lightForcesUptoCard : Claim7 := { stood := { row := lightForcesUptoRow, standIns := [], harness := (true, "6545474c59099b1d8d0c191f0410e633dbdfef52a94b7d9a6abed8ad034a6247"), looks := false }, kinds := [], alts := [], laidByText := true, laidKinds := [.data], laidTests := true, laidLooks := .later }
def LightForcesUptoCardSaid : Prop := Claim7.holds Tryz.pinned (.plain (OpenSpec.upto lightForcesSpec)) lightForcesUptoCard

/-- THE SECOND FORM's CARD OF 'pharoslaw14.LightBegins'. -/
def lightBeginsUptoCard : Claim7 := { stood := { row := lightBeginsUptoRow, standIns := [], harness := (true, "6545474c59099b1d8d0c191f0410e633dbdfef52a94b7d9a6abed8ad034a6247"), looks := false }, kinds := [], alts := [], laidByText := true, laidKinds := [.data], laidTests := true, laidLooks := .later }
def LightBeginsUptoCardSaid : Prop := Claim7.holds Tryz.pinned (.plain (OpenSpec.upto lightBeginsSpec)) lightBeginsUptoCard

/-- THE SECOND FORM's CARD OF 'pharoslaw14.LightOnce'. -/
def lightOnceUptoCard : Claim7 := { stood := { row := lightOnceUptoRow, standIns := [], harness := (true, "6545474c59099b1d8d0c191f0410e633dbdfef52a94b7d9a6abed8ad034a6247"), looks := false }, kinds := [], alts := [], laidByText := true, laidKinds := [.data], laidTests := true, laidLooks := .later }
def LightOnceUptoCardSaid : Prop := Claim7.holds Tryz.pinned (.plain (OpenSpec.upto lightOnceSpec)) lightOnceUptoCard

/-- THE SECOND FORM's CARD OF 'pharoslaw14.LightBetter'. -/
def lightBetterUptoCard : Claim7 := { stood := { row := lightBetterUptoRow, standIns := [], harness := (true, "6545474c59099b1d8d0c191f0410e633dbdfef52a94b7d9a6abed8ad034a6247"), looks := false }, kinds := [], alts := [], laidByText := true, laidKinds := [.data], laidTests := true, laidLooks := .later }
def LightBetterUptoCardSaid : Prop := Claim7.holds Tryz.pinned (.plain (OpenSpec.upto lightBetterSpec)) lightBetterUptoCard

/-- THE SECOND FORM's CARD OF 'pharoslaw14.LightOrder'. -/
def lightOrderUptoCard : Claim7 := { stood := { row := lightOrderUptoRow, standIns := [], harness := (true, "6545474c59099b1d8d0c191f0410e633dbdfef52a94b7d9a6abed8ad034a6247"), looks := false }, kinds := [], alts := [], laidByText := true, laidKinds := [.data], laidTests := true, laidLooks := .later }
def LightOrderUptoCardSaid : Prop := Claim7.holds Tryz.pinned (.plain (OpenSpec.upto lightOrderSpec)) lightOrderUptoCard

/-- THE SECOND FORM's CARD OF 'pharoslaw14.LightApplies'. -/
def lightAppliesUptoCard : Claim7 := { stood := { row := lightAppliesUptoRow, standIns := [], harness := (true, "6545474c59099b1d8d0c191f0410e633dbdfef52a94b7d9a6abed8ad034a6247"), looks := false }, kinds := [], alts := [], laidByText := true, laidKinds := [.data], laidTests := true, laidLooks := .later }
def LightAppliesUptoCardSaid : Prop := Claim7.holds Tryz.pinned (.plain (OpenSpec.upto lightAppliesSpec)) lightAppliesUptoCard

/-- THE SECOND FORM's CARD OF 'pharoslaw14.LightSteps'. -/
def lightStepsUptoCard : Claim7 := { stood := { row := lightStepsUptoRow, standIns := [], harness := (true, "6545474c59099b1d8d0c191f0410e633dbdfef52a94b7d9a6abed8ad034a6247"), looks := false }, kinds := [], alts := [], laidByText := true, laidKinds := [.data], laidTests := true, laidLooks := .later }
def LightStepsUptoCardSaid : Prop := Claim7.holds Tryz.pinned (.plain (OpenSpec.upto lightStepsSpec)) lightStepsUptoCard

/-- THE SECOND FORM's CARD OF 'pharoslaw14.LightSees'. -/
def lightSeesUptoCard : Claim7 := { stood := { row := lightSeesUptoRow, standIns := [], harness := (true, "6545474c59099b1d8d0c191f0410e633dbdfef52a94b7d9a6abed8ad034a6247"), looks := false }, kinds := [], alts := [], laidByText := true, laidKinds := [.data], laidTests := true, laidLooks := .later }
def LightSeesUptoCardSaid : Prop := Claim7.holds Tryz.pinned (.plain (OpenSpec.upto lightSeesSpec)) lightSeesUptoCard

/-- THE SECOND FORM's CARD OF 'pharoslaw14.LightSigned'. -/
def lightSignedUptoCard : Claim7 := { stood := { row := lightSignedUptoRow, standIns := [], harness := (true, "6545474c59099b1d8d0c191f0410e633dbdfef52a94b7d9a6abed8ad034a6247"), looks := false }, kinds := [], alts := [], laidByText := true, laidKinds := [.data], laidTests := true, laidLooks := .later }
def LightSignedUptoCardSaid : Prop := Claim7.holds Tryz.pinned (.plain (OpenSpec.upto lightSignedSpec)) lightSignedUptoCard

/-- THE SECOND FORM's CARD OF 'pharoslaw14.LightAgrees'. -/
def lightAgreesUptoCard : Claim7 := { stood := { row := lightAgreesUptoRow, standIns := [], harness := (true, "6545474c59099b1d8d0c191f0410e633dbdfef52a94b7d9a6abed8ad034a6247"), looks := false }, kinds := [], alts := [], laidByText := true, laidKinds := [.data], laidTests := true, laidLooks := .later }
def LightAgreesUptoCardSaid : Prop := Claim7.holds Tryz.pinned (.plain (OpenSpec.upto lightAgreesSpec)) lightAgreesUptoCard

/-- THE SECOND FORM's CARD OF 'pharoslaw15.MintCommittees'. -/
def mintCommitteesUptoCard : Claim7 := { stood := { row := mintCommitteesUptoRow, standIns := [], harness := (true, "6545474c59099b1d8d0c191f0410e633dbdfef52a94b7d9a6abed8ad034a6247"), looks := false }, kinds := [], alts := [], laidByText := true, laidKinds := [.data], laidTests := true, laidLooks := .later }
def MintCommitteesUptoCardSaid : Prop := Claim7.holds Tryz.pinned (.plain (OpenSpec.upto mintCommitteesSpec)) mintCommitteesUptoCard

/-- THE SECOND FORM's CARD OF 'pharoslaw15.MintBoots'. -/
def mintBootsUptoCard : Claim7 := { stood := { row := mintBootsUptoRow, standIns := [], harness := (true, "6545474c59099b1d8d0c191f0410e633dbdfef52a94b7d9a6abed8ad034a6247"), looks := false }, kinds := [], alts := [], laidByText := true, laidKinds := [.data], laidTests := true, laidLooks := .later }
def MintBootsUptoCardSaid : Prop := Claim7.holds Tryz.pinned (.plain (OpenSpec.upto mintBootsSpec)) mintBootsUptoCard

/-- THE SECOND FORM's CARD OF 'pharoslaw15.MintUpdates'. -/
def mintUpdatesUptoCard : Claim7 := { stood := { row := mintUpdatesUptoRow, standIns := [], harness := (true, "6545474c59099b1d8d0c191f0410e633dbdfef52a94b7d9a6abed8ad034a6247"), looks := false }, kinds := [], alts := [], laidByText := true, laidKinds := [.data], laidTests := true, laidLooks := .later }
def MintUpdatesUptoCardSaid : Prop := Claim7.holds Tryz.pinned (.plain (OpenSpec.upto mintUpdatesSpec)) mintUpdatesUptoCard

/-- THE SECOND FORM's CARD OF 'pharoslaw15.MintHolds'. -/
def mintHoldsUptoCard : Claim7 := { stood := { row := mintHoldsUptoRow, standIns := [], harness := (true, "6545474c59099b1d8d0c191f0410e633dbdfef52a94b7d9a6abed8ad034a6247"), looks := false }, kinds := [], alts := [], laidByText := true, laidKinds := [.data], laidTests := true, laidLooks := .later }
def MintHoldsUptoCardSaid : Prop := Claim7.holds Tryz.pinned (.plain (OpenSpec.upto mintHoldsSpec)) mintHoldsUptoCard

/-- THE SECOND FORM's CARD OF 'pharoslaw15.MintParts'. -/
def mintPartsUptoCard : Claim7 := { stood := { row := mintPartsUptoRow, standIns := [], harness := (true, "6545474c59099b1d8d0c191f0410e633dbdfef52a94b7d9a6abed8ad034a6247"), looks := false }, kinds := [], alts := [], laidByText := true, laidKinds := [.data], laidTests := true, laidLooks := .later }
def MintPartsUptoCardSaid : Prop := Claim7.holds Tryz.pinned (.plain (OpenSpec.upto mintPartsSpec)) mintPartsUptoCard
end Rows
end Go.Proofs.YtegaaccioppfjaaGreatDoor
