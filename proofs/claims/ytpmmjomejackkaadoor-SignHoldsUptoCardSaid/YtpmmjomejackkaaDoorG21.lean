/- What the later texts stand on (SgnC, SgnO): plain laws and walks, each by its own conditions. -/
import Derived.Test.YtpmmjomejackkaaDoorG5
import Derived.Test.YtpmmjomejackkaaDoorG20
set_option linter.unusedSimpArgs false
set_option linter.unusedVariables false
section
namespace Go.Proofs.YtpmmjomejackkaaDoor
open Go.Phx

def rootBits : List Bool := bitsUp 536870717 64
def rootC (a : F) : F × Bool :=
  let r := powBits a rootBits
  if r * r = a then ((if vz r % 2 = 1 then -r else r), true) else (0, false)
theorem rootC_eq (a : F) : rootC a = rootS a := by
  have h : powBits a rootBits = pw a 536870717 := powBits_all a 536870717 (by decide) (by decide)
  unfold rootC rootS
  rw [h]
def tryC (t : List UInt8) (n : Nat) : Option (F × F) :=
  let z := zf (tryI t n)
  let r := rootC (z * (z * z) + z)
  if r.2 then some (z, r.1) else none
theorem tryC_eq (t : List UInt8) (n : Nat) : tryC t n = tryQ t n := by
  unfold tryC tryQ
  dsimp only
  rw [show (zf (tryI t n) * (zf (tryI t n) * zf (tryI t n)) + zf (tryI t n)) = tryS t n from rfl, rootC_eq]
/-- this one, four times taken, or else the rest -/
def hitC (o : Option (F × F)) (r : E) : E := match o with
  | none => r
  | some q => if timesC 4 (some q) = none then r else timesC 4 (some q)
def hashGo (t : List UInt8) : Nat → Nat → E
  | 0, _ => genC
  | n + 1, k => hitC (tryC t k) (hashGo t n (k + 1))
theorem hashGo_zero (t : List UInt8) (k : Nat) : hashGo t 0 k = genE := genC_eq
theorem hashGo_succ (t : List UInt8) (n k : Nat) : hashGo t (n + 1) k = hitC (tryC t k) (hashGo t n (k + 1)) := by rw [hashGo]
theorem hashGo_eq (t : List UInt8) (n : Nat) : ∀ k, hashGo t n k = hashOf ((List.range' k n).filterMap (tryQ t)) := by
  induction n with
  | zero => exact fun k => hashGo_zero t k
  | succ n ih =>
    intro k
    rw [List.range'_succ, hashGo_succ, tryC_eq]
    cases h : tryQ t k with
    | none =>
      rw [List.filterMap_cons_none h]
      exact ih (k + 1)
    | some q =>
      rw [List.filterMap_cons_some h, hashOf, hitC]
      rw [timesC_eq, ih (k + 1)]
def hashC (t : List UInt8) : E := hashGo t 256 0
theorem hashC_eq (t : List UInt8) : hashC t = hashE t := by
  unfold hashC hashE triesN
  rw [hashGo_eq, List.range_eq_range']
end Go.Proofs.YtpmmjomejackkaaDoor
end
section
namespace Go.Proofs.YtpmmjomejackkaaDoor
open Go.Phx

set_option maxRecDepth 100000 in
theorem signs_same : pairC (timesC 5 (hashC [97])) genC = pairC (hashC [97]) (timesC 5 genC) := by decide +kernel
set_option maxRecDepth 100000 in
theorem signs_other : pairC (timesC 6 (hashC [97])) genC ≠ pairC (hashC [97]) (timesC 5 genC) := by decide +kernel
set_option maxRecDepth 100000 in
theorem signs_text : pairC (timesC 5 (hashC [97])) genC ≠ pairC (hashC [98]) (timesC 5 genC) := by decide +kernel
theorem sign_same : pairE (timesE 5 (hashE [97])) genE = pairE (hashE [97]) (timesE 5 genE) := by
  rw [← pairC_eq, ← pairC_eq, ← timesC_eq, ← timesC_eq, ← hashC_eq, ← genC_eq]
  exact signs_same
theorem sign_other : pairE (timesE 6 (hashE [97])) genE ≠ pairE (hashE [97]) (timesE 5 genE) := by
  rw [← pairC_eq, ← pairC_eq, ← timesC_eq, ← timesC_eq, ← hashC_eq, ← genC_eq]
  exact signs_other
theorem sign_text : pairE (timesE 5 (hashE [97])) genE ≠ pairE (hashE [98]) (timesE 5 genE) := by
  rw [← pairC_eq, ← pairC_eq, ← timesC_eq, ← timesC_eq, ← hashC_eq, ← hashC_eq, ← genC_eq]
  exact signs_text
end Go.Proofs.YtpmmjomejackkaaDoor
end
