/- What the later texts stand on (PrC): plain laws and walks, each by its own conditions. -/
import Derived.Test.YtpmmjomejackkaaGreatDoorG20
import Derived.Test.YtpmmjomejackkaaGreatDoorG2
section
namespace Go.Proofs.YtpmmjomejackkaaGreatDoor
open Go.Phx

def lineC : E → E → F × F → F2
  | none, _, _ => (1, 0)
  | some _, none, _ => (1, 0)
  | some s, some t, q => if t = (s.1, -s.2) then (1, 0) else (slopeC s t * (s.1 + q.1) - s.2, q.2)
theorem lineC_eq (s t : E) (q : F × F) : lineC s t q = lineE s t q := by
  rcases s with _ | s
  · rfl
  · rcases t with _ | t
    · rfl
    · simp only [lineC, lineE, slopeC_eq]
def millC (p : E) (q : F × F) (s : F2 × E) (b : Bool) : F2 × E :=
  let f := mul2 (mul2 s.1 s.1) (lineC s.2 s.2 q)
  let t := addC s.2 s.2
  if b then (mul2 f (lineC t p q), addC t p) else (f, t)
theorem millC_eq (p : E) (q : F × F) (s : F2 × E) (b : Bool) : millC p q s b = millStep p q s b := by
  unfold millC millStep
  simp only [lineC_eq, addC_eq]
def pairC : E → E → F2
  | none, _ => (1, 0)
  | some _, none => (1, 0)
  | some p, some q => pow2 ((obits 28).foldl (millC (some p) q) ((1, 0), some p)).1 8589931464
theorem pairC_eq (p q : E) : pairC p q = pairE p q := by
  rcases p with _ | p
  · rfl
  · rcases q with _ | q
    · rfl
    · have h : millC (some p) q = millStep (some p) q := funext fun s => funext fun b => millC_eq _ _ s b
      show pow2 ((obits 28).foldl (millC (some p) q) ((1, 0), some p)).1 8589931464 = pow2 ((obits 28).foldl (millStep (some p) q) ((1, 0), some p)).1 8589931464
      rw [h]
end Go.Proofs.YtpmmjomejackkaaGreatDoor
end
