/-
  DERIVED. GIVEN WITH THE SEED: THE CARDS: each row of YtobgigcdpiikaaaGreatDoorRows.lean that lists a variable, with what it lists TIED to the program's text (the seventh form; the later family's looks); each row that meets fmt, with fmt's text TOLD by the authors' own Lean function (tested against real Go, not proved from fmt's source: count such statements apart). THE CARD IS WHAT COUNTS. Prove the row's statement (the work); the ties are given (YtobgigcdpiikaaaGreatDoorTie.lean); close each card by the builder's one call (the guide's Derived/Test/ToyasCard.lean, 'card_holds'). Laid BY PROGRAM, IN A SANDBOX (cutbox-door.mjs). By AI agents, Wed Nov 11 2026. No macro, syntax, notation, axiom, sorry.
-/
import Derived.Test.YtobgigcdpiikaaaGreatDoorRows
import GoSem.ClaimSeven
namespace Go.Proofs.YtobgigcdpiikaaaGreatDoor
namespace Rows

/-- THE TIED CARD OF 'pharostop.TopChains'. -/
def topChainsCard : Claim7 := { stood := { row := topChainsRow, standIns := [], harness := (true, "788efd72a0cb7c2607984c148d23f3bfaeb715c8a76798c3e3bc4c1d2c8e0475"), looks := false }, kinds := [], alts := [], laidByText := true, laidKinds := [.data, .data, .pinned], laidTests := true, laidLooks := .later }
def TopChainsCardSaid : Prop := Claim7.holds Tryz.pinned (.plain (OpenSpec.ofChange topChainsSpec)) topChainsCard

/-- THE SECOND FORM's CARD OF 'pharostop.TopChains'. -/
def topChainsUptoCard : Claim7 := { stood := { row := topChainsUptoRow, standIns := [], harness := (true, "788efd72a0cb7c2607984c148d23f3bfaeb715c8a76798c3e3bc4c1d2c8e0475"), looks := false }, kinds := [], alts := [], laidByText := true, laidKinds := [.data, .data, .pinned], laidTests := true, laidLooks := .later }
def TopChainsUptoCardSaid : Prop := Claim7.holds Tryz.pinned (.plain (OpenSpec.upto topChainsSpec)) topChainsUptoCard
end Rows
end Go.Proofs.YtobgigcdpiikaaaGreatDoor
