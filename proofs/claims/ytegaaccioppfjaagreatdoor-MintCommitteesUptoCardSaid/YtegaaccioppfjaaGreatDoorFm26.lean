/- Plain laws and walks, each by its own conditions. -/
import Derived.Test.YtegaaccioppfjaaGreatDoorFm9
import Derived.Test.YtegaaccioppfjaaGreatDoorFm14
set_option linter.unusedSimpArgs false
set_option linter.unusedVariables false
set_option maxRecDepth 100000
set_option maxHeartbeats 16000000
section
namespace Go.Proofs.YtegaaccioppfjaaGreatDoor
open Go.Phx

def rootBits : List Bool := bitsUp 536870717 64
def rootC (a : F) : F × Bool :=
 let r := powBits a rootBits
 if r * r = a then ((if vz r % 2 = 1 then -r else r), true) else (0, false)
theorem rootC_eq (a : F) : rootC a = rootS a := by
 have h : powBits a rootBits = pw a 536870717 := powBits_all a 536870717 (by decide) (by decide)
 unfold rootC rootS
 rw [h]
def tryC (t : List UInt8) (n : Nat) : Option (F × F) :=
 let z := zf (tryI t n)
 let r := rootC (z * (z * z) + z)
 if r.2 then some (z, r.1) else none
theorem tryC_eq (t : List UInt8) (n : Nat) : tryC t n = tryQ t n := by
 unfold tryC tryQ
 dsimp only
 rw [show (zf (tryI t n) * (zf (tryI t n) * zf (tryI t n)) + zf (tryI t n)) = tryS t n from rfl, rootC_eq]
def hitC (o : Option (F × F)) (r : E) : E := match o with
 | none => r
 | some q => if timesC 4 (some q) = none then r else timesC 4 (some q)
def hashGo (t : List UInt8) : Nat → Nat → E
 | 0, _ => genC
 | n + 1, k => hitC (tryC t k) (hashGo t n (k + 1))
theorem hashGo_zero (t : List UInt8) (k : Nat) : hashGo t 0 k = genE := genC_eq
theorem hashGo_succ (t : List UInt8) (n k : Nat) : hashGo t (n + 1) k = hitC (tryC t k) (hashGo t n (k + 1)) := by rw [hashGo]
theorem hashGo_eq (t : List UInt8) (n : Nat) : ∀ k, hashGo t n k = hashOf ((List.range' k n).filterMap (tryQ t)) := by
 induction n with
 | zero => exact fun k => hashGo_zero t k
 | succ n ih =>
  intro k
  rw [List.range'_succ, hashGo_succ, tryC_eq]
  cases h : tryQ t k with
  | none =>
   rw [List.filterMap_cons_none h]
   exact ih (k + 1)
  | some q =>
   rw [List.filterMap_cons_some h, hashOf, hitC]
   rw [timesC_eq, ih (k + 1)]
def hashC (t : List UInt8) : E := hashGo t 256 0
theorem hashC_eq (t : List UInt8) : hashC t = hashE t := by
 unfold hashC hashE triesN
 rw [hashGo_eq, List.range_eq_range']
end Go.Proofs.YtegaaccioppfjaaGreatDoor
end
