/-
  DERIVED. GIVEN WITH THE SEED: THE CARDS: each row of YthflonnkmkjddaaDoorRows.lean that lists a variable, with what it lists TIED to the program's text (the seventh form; the later family's looks); each row that meets fmt, with fmt's text TOLD by the authors' own Lean function (tested against real Go, not proved from fmt's source: count such statements apart). THE CARD IS WHAT COUNTS. Prove the row's statement (the work); the ties are given (YthflonnkmkjddaaDoorTie.lean); close each card by the builder's one call (the guide's Derived/Test/ToyasCard.lean, 'card_holds'). Laid BY PROGRAM, IN A SANDBOX (cutbox-door.mjs). By AI agents, Wed Nov 11 2026. No macro, syntax, notation, axiom, sorry.
-/
import Derived.Test.YthflonnkmkjddaaDoorRows
import GoSem.ClaimSeven
namespace Go.Proofs.YthflonnkmkjddaaDoor
namespace Rows

/-- THE TIED CARD OF 'pharoslaw08.SszHalves'. -/
def sszHalvesCard : Claim7 := { stood := { row := sszHalvesRow, standIns := [], harness := (true, "5db2407ebfc68d4b3ee5d18c8228c96610212d89245140cc073acbd4f841e5b3"), looks := false }, kinds := [], alts := [], laidByText := true, laidKinds := [.data], laidTests := true, laidLooks := .later }
def SszHalvesCardSaid : Prop := Claim7.holds Tryd.pinned (.plain (OpenSpec.ofChange sszHalvesSpec)) sszHalvesCard

/-- THE SECOND FORM's CARD OF 'pharoslaw08.SszHalves'. -/
def sszHalvesUptoCard : Claim7 := { stood := { row := sszHalvesUptoRow, standIns := [], harness := (true, "5db2407ebfc68d4b3ee5d18c8228c96610212d89245140cc073acbd4f841e5b3"), looks := false }, kinds := [], alts := [], laidByText := true, laidKinds := [.data], laidTests := true, laidLooks := .later }
def SszHalvesUptoCardSaid : Prop := Claim7.holds Tryd.pinned (.plain (OpenSpec.upto sszHalvesSpec)) sszHalvesUptoCard
end Rows
end Go.Proofs.YthflonnkmkjddaaDoor
