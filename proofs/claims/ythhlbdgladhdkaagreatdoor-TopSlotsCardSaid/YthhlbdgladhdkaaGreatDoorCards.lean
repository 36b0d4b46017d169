/-
  DERIVED. GIVEN WITH THE SEED: THE CARDS: each row of YthhlbdgladhdkaaGreatDoorRows.lean that lists a variable, with what it lists TIED to the program's text (the seventh form; the later family's looks); each row that meets fmt, with fmt's text TOLD by the authors' own Lean function (tested against real Go, not proved from fmt's source: count such statements apart). THE CARD IS WHAT COUNTS. Prove the row's statement (the work); the ties are given (YthhlbdgladhdkaaGreatDoorTie.lean); close each card by the builder's one call (the guide's Derived/Test/ToyasCard.lean, 'card_holds'). Laid BY PROGRAM, IN A SANDBOX (cutbox-door.mjs). By AI agents, Wed Nov 11 2026. No macro, syntax, notation, axiom, sorry.
-/
import Derived.Test.YthhlbdgladhdkaaGreatDoorRows
import GoSem.ClaimSeven
namespace Go.Proofs.YthhlbdgladhdkaaGreatDoor
namespace Rows

/-- THE TIED CARD OF 'pharostop.TopSlots'. -/
def topSlotsCard : Claim7 := { stood := { row := topSlotsRow, standIns := [], harness := (true, "8e6057a144debe48b5de1798c77b79958ddb1564c86894e0eaaa0e133695ea18"), looks := false }, kinds := [], alts := [], laidByText := true, laidKinds := [.data, .data, .data, .data, .pinned], laidTests := true, laidLooks := .later }
def TopSlotsCardSaid : Prop := Claim7.holds Tryz.pinned (.plain (OpenSpec.ofChange topSlotsSpec)) topSlotsCard

/-- THE SECOND FORM's CARD OF 'pharostop.TopSlots'. -/
def topSlotsUptoCard : Claim7 := { stood := { row := topSlotsUptoRow, standIns := [], harness := (true, "8e6057a144debe48b5de1798c77b79958ddb1564c86894e0eaaa0e133695ea18"), looks := false }, kinds := [], alts := [], laidByText := true, laidKinds := [.data, .data, .data, .data, .pinned], laidTests := true, laidLooks := .later }
def TopSlotsUptoCardSaid : Prop := Claim7.holds Tryz.pinned (.plain (OpenSpec.upto topSlotsSpec)) topSlotsUptoCard
end Rows
end Go.Proofs.YthhlbdgladhdkaaGreatDoor
