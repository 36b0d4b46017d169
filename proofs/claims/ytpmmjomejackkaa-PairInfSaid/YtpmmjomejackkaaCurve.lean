/- The curve y y = x x x + x over the field: the sum of two points is a point. Plain arithmetic: no program in sight. -/
import Derived.Test.YtpmmjomejackkaaArith
namespace Go.Phx

/-- a point: none is Inf -/
abbrev E := Option (F × F)
def onE : E → Bool
  | none => true
  | some (x, y) => decide (y * y = x * x * x + x)
def negE : E → E
  | none => none
  | some (x, y) => some (x, -y)
/-- the slope of two points -/
noncomputable def slopeE (p q : F × F) : F :=
  if p = q then (3 * (p.1 * p.1) + 1) * inv (2 * p.2) else (q.2 - p.2) * inv (q.1 - p.1)
noncomputable def addE : E → E → E
  | none, q => q
  | p, none => p
  | some p, some q =>
    if q = (p.1, -p.2) then none
    else
      let l := slopeE p q
      let x := l * l - p.1 - q.1
      some (x, l * (p.1 - x) - p.2)

theorem addE_some (p q : F × F) : addE (some p) (some q) = if q = (p.1, -p.2) then none else some (slopeE p q * slopeE p q - p.1 - q.1, slopeE p q * (p.1 - (slopeE p q * slopeE p q - p.1 - q.1)) - p.2) := rfl
theorem onE_some (x y : F) : onE (some (x, y)) = true ↔ y * y = x * x * x + x := by simp [onE]

/-- what a slope of two points that are no negatives of each other is -/
theorem slope_facts {x1 y1 x2 y2 : F} (h1 : y1 * y1 = x1 * x1 * x1 + x1) (h2 : y2 * y2 = x2 * x2 * x2 + x2) (hn : ¬ (x2, y2) = (x1, -y1)) :
    slopeE (x1, y1) (x2, y2) * (x2 - x1) = y2 - y1 ∧ slopeE (x1, y1) (x2, y2) * (y1 + y2) = x1 * x1 + x1 * x2 + x2 * x2 + 1 := by
  by_cases he : (x1, y1) = (x2, y2)
  · simp only [Prod.mk.injEq] at he
    obtain ⟨rfl, rfl⟩ := he
    have hy : y1 ≠ 0 := by
      intro h; apply hn; rw [h]
      congr 1
    have hy2 : 2 * y1 ≠ 0 := mul_ne two_ne hy
    have hi := mul_inv hy2
    unfold slopeE
    rw [if_pos rfl]
    show (3 * (x1 * x1) + 1) * inv (2 * y1) * (x1 - x1) = y1 - y1 ∧ (3 * (x1 * x1) + 1) * inv (2 * y1) * (y1 + y1) = _
    generalize inv (2 * y1) = i at hi
    constructor <;> grind -lia -linarith
  · have hx : x2 - x1 ≠ 0 := by
      intro h
      have e : x2 = x1 := by grind -lia -linarith
      subst e
      have : y2 * y2 = y1 * y1 := by rw [h1, h2]
      rcases sq_eq this with h | h
      · exact he (by rw [h])
      · exact hn (by rw [h])
    have hi := mul_inv hx
    unfold slopeE
    rw [if_neg he]
    show (y2 - y1) * inv (x2 - x1) * (x2 - x1) = y2 - y1 ∧ (y2 - y1) * inv (x2 - x1) * (y1 + y2) = _
    generalize inv (x2 - x1) = i at hi
    constructor
    · grind -lia -linarith
    · have : (x2 - x1) * ((y2 - y1) * i * (y1 + y2)) = (x2 - x1) * (x1 * x1 + x1 * x2 + x2 * x2 + 1) := by grind -lia -linarith
      exact cancel hx this

/-- the third point of a line -/
theorem third_on {x1 y1 x2 y2 l x y : F} (h1 : y1 * y1 = x1 * x1 * x1 + x1) (hl : l * (x2 - x1) = y2 - y1) (hs : l * (y1 + y2) = x1 * x1 + x1 * x2 + x2 * x2 + 1)
    (hx : x = l * l - x1 - x2) (hy : y = l * (x1 - x) - y1) : y * y = x * x * x + x := by
  subst hy hx
  grind -lia -linarith (ringSteps := 1000000)

theorem addE_on {p q : E} (hp : onE p = true) (hq : onE q = true) : onE (addE p q) = true := by
  rcases p with _ | ⟨x1, y1⟩
  · exact hq
  rcases q with _ | ⟨x2, y2⟩
  · exact hp
  rw [onE_some] at hp hq
  rw [addE_some]
  by_cases hn : (x2, y2) = (x1, -y1)
  · rw [if_pos hn]; rfl
  · rw [if_neg hn]
    obtain ⟨f1, f2⟩ := slope_facts hp hq hn
    exact (onE_some _ _).2 (third_on hp f1 f2 rfl rfl)

theorem negE_on {p : E} (hp : onE p = true) : onE (negE p) = true := by
  rcases p with _ | ⟨x1, y1⟩
  · rfl
  rw [onE_some] at hp
  refine (onE_some _ _).2 ?_
  grind -lia -linarith

end Go.Phx
