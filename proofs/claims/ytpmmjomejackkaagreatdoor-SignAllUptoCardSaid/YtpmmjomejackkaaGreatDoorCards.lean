/-
  DERIVED. GIVEN WITH THE SEED: THE CARDS: each row of YtpmmjomejackkaaGreatDoorRows.lean that lists a variable, with what it lists TIED to the program's text (the seventh form; the later family's looks); each row that meets fmt, with fmt's text TOLD by the authors' own Lean function (tested against real Go, not proved from fmt's source: count such statements apart). THE CARD IS WHAT COUNTS. Prove the row's statement (the work); the ties are given (YtpmmjomejackkaaGreatDoorTie.lean); close each card by the builder's one call (the guide's Derived/Test/ToyasCard.lean, 'card_holds'). Laid BY PROGRAM, IN A SANDBOX (cutbox-door.mjs). By AI agents, Wed Nov 11 2026. No macro, syntax, notation, axiom, sorry.
-/
import Derived.Test.YtpmmjomejackkaaGreatDoorRows
import GoSem.ClaimSeven
namespace Go.Proofs.YtpmmjomejackkaaGreatDoor
namespace Rows

/-- THE TIED CARD OF 'pharoslaw12.SignAll'. -/
def signAllCard : Claim7 := { stood := { row := signAllRow, standIns := [], harness := (true, "33ed0feef951df3c62df077fd2b9f2c140e2dc28c3d833183db78a0e0949fda0"), looks := false }, kinds := [], alts := [], laidByText := true, laidKinds := [.data], laidTests := true, laidLooks := .later }
def SignAllCardSaid : Prop := Claim7.holds Tryz.pinned (.plain (OpenSpec.ofChange signAllSpec)) signAllCard

/-- THE SECOND FORM's CARD OF 'pharoslaw12.SignAll'. -/
def signAllUptoCard : Claim7 := { stood := { row := signAllUptoRow, standIns := [], harness := (true, "33ed0feef951df3c62df077fd2b9f2c140e2dc28c3d833183db78a0e0949fda0"), looks := false }, kinds := [], alts := [], laidByText := true, laidKinds := [.data], laidTests := true, laidLooks := .later }
def SignAllUptoCardSaid : Prop := Claim7.holds Tryz.pinned (.plain (OpenSpec.upto signAllSpec)) signAllUptoCard
end Rows
end Go.Proofs.YtpmmjomejackkaaGreatDoor
