/- The curve's sums and pairings as functions that can be reckoned out. Plain arithmetic: no program in sight. -/
import Derived.Test.YtpmmjomejackkaaPts
namespace Go.Phx

/-- the bits of P - 2, the highest first -/
def invBits : List Bool := bitsUp 2147482865 64
def invC (a : F) : F := powBits a invBits
theorem invC_eq (a : F) : invC a = inv a := powBits_all a 2147482865 (by decide) (by decide)
def slopeC (p q : F × F) : F := if p = q then (3 * (p.1 * p.1) + 1) * invC (2 * p.2) else (q.2 - p.2) * invC (q.1 - p.1)
theorem slopeC_eq (p q : F × F) : slopeC p q = slopeE p q := by unfold slopeC slopeE; rw [invC_eq, invC_eq]
def addC : E → E → E
  | none, q => q
  | some p, none => some p
  | some p, some q => if q = (p.1, -p.2) then none else
    let l := slopeC p q
    let x := l * l - p.1 - q.1
    some (x, l * (p.1 - x) - p.2)
theorem addC_eq (p q : E) : addC p q = addE p q := by
  rcases p with _ | p
  · rfl
  · rcases q with _ | q
    · rfl
    · rw [addE_some]
      show (if q = (p.1, -p.2) then none else _) = _
      rw [slopeC_eq]
def timesC (n : Int) (p : E) : E := (bitsUp n 64).foldl (fun o b => if b then addC (addC o o) p else addC o o) none
theorem timesC_eq (n : Int) (p : E) : timesC n p = timesE n p := by
  unfold timesC timesE timesBits
  suffices h : ∀ (l : List Bool) (o : E), l.foldl (fun o b => if b then addC (addC o o) p else addC o o) o = l.foldl (fun o b => if b then addE (addE o o) p else addE o o) o from h _ _
  intro l
  induction l with
  | nil => exact fun _ => rfl
  | cons b l ih => intro o; rw [List.foldl_cons, List.foldl_cons, addC_eq, addC_eq, ih]
def genC : E := some (zf 1846166884, zf 1411018613)
theorem genC_eq : genC = genE := rfl
end Go.Phx
