/- The points of the curve and those of X X + Y Y = 1 - X X Y Y: one sum. So the sum of points hangs on no brackets. Plain arithmetic: no program in sight. -/
import Derived.Test.YtpmmjomejackkaaCurve
namespace Go.Phx

def onD (p : F × F) : Prop := p.1 * p.1 + p.2 * p.2 = 1 - p.1 * p.1 * (p.2 * p.2)
noncomputable def addD (p q : F × F) : F × F :=
  ((p.1 * q.2 + p.2 * q.1) * inv (1 - p.1 * q.1 * p.2 * q.2), (p.2 * q.2 - p.1 * q.1) * inv (1 + p.1 * q.1 * p.2 * q.2))

theorem no_neg_sq {a b : F} (h : a * a = -(b * b)) : b = 0 := by
  by_cases hb : b = 0
  · exact hb
  · exfalso
    have hi := mul_inv hb
    refine neg_one_no_sq (a * inv b) ?_
    generalize inv b = i at hi
    grind -lia -linarith

/-- the sum's denominators are not nought -/
theorem dens {p q : F × F} (hp : onD p) (hq : onD q) : 1 - p.1 * q.1 * p.2 * q.2 ≠ 0 ∧ 1 + p.1 * q.1 * p.2 * q.2 ≠ 0 := by
  obtain ⟨x1, y1⟩ := p
  obtain ⟨x2, y2⟩ := q
  simp only [onD] at hp hq
  show 1 - x1 * x2 * y1 * y2 ≠ 0 ∧ 1 + x1 * x2 * y1 * y2 ≠ 0
  have key : ∀ e : F, e * e = 1 → x1 * x2 * y1 * y2 = e → False := by
    intro e he ht
    have h1 : (x1 + y1) * (x1 + y1) = -((x1 * y1 * (x2 - e * y2)) * (x1 * y1 * (x2 - e * y2))) := by grind -lia -linarith
    have h2 : (x1 - y1) * (x1 - y1) = -((x1 * y1 * (x2 + e * y2)) * (x1 * y1 * (x2 + e * y2))) := by grind -lia -linarith
    have k1 := no_neg_sq h1
    have k2 := no_neg_sq h2
    have hne : e ≠ 0 := by rintro rfl; exact absurd he (by decide)
    have hxy : x1 * y1 ≠ 0 := by
      intro h
      apply hne
      rw [← ht]
      grind -lia -linarith
    have j1 : x2 - e * y2 = 0 := by rcases mul_zero_or k1 with h | h; exact absurd h hxy; exact h
    have j2 : x2 + e * y2 = 0 := by rcases mul_zero_or k2 with h | h; exact absurd h hxy; exact h
    have j3 : 2 * x2 = 0 := by grind -lia -linarith
    have j4 : x2 = 0 := by rcases mul_zero_or j3 with h | h; exact absurd h two_ne; exact h
    apply hne
    rw [← ht, j4]
    grind -lia -linarith
  constructor
  · intro h
    exact key 1 (by decide) (by grind -lia -linarith)
  · intro h
    exact key (-1) (by decide) (by grind -lia -linarith)

theorem addD_on {p q : F × F} (hp : onD p) (hq : onD q) : onD (addD p q) := by
  obtain ⟨d1, d2⟩ := dens hp hq
  have i1 := mul_inv d1
  have i2 := mul_inv d2
  obtain ⟨x1, y1⟩ := p
  obtain ⟨x2, y2⟩ := q
  simp only [onD, addD] at *
  generalize inv (1 - x1 * x2 * y1 * y2) = i at *
  generalize inv (1 + x1 * x2 * y1 * y2) = j at *
  have e : ((x1 * y2 + y1 * x2) * (1 + x1 * x2 * y1 * y2)) * ((x1 * y2 + y1 * x2) * (1 + x1 * x2 * y1 * y2)) + ((y1 * y2 - x1 * x2) * (1 - x1 * x2 * y1 * y2)) * ((y1 * y2 - x1 * x2) * (1 - x1 * x2 * y1 * y2))
      = ((1 - x1 * x2 * y1 * y2) * (1 + x1 * x2 * y1 * y2)) * ((1 - x1 * x2 * y1 * y2) * (1 + x1 * x2 * y1 * y2)) - ((x1 * y2 + y1 * x2) * (y1 * y2 - x1 * x2)) * ((x1 * y2 + y1 * x2) * (y1 * y2 - x1 * x2)) := by
    grind -lia -linarith (ringSteps := 10000000)
  generalize 1 - x1 * x2 * y1 * y2 = m at *
  generalize 1 + x1 * x2 * y1 * y2 = n at *
  generalize x1 * y2 + y1 * x2 = A at *
  generalize y1 * y2 - x1 * x2 = B at *
  have hm : (m * n) * (m * n) ≠ 0 := mul_ne (mul_ne d1 d2) (mul_ne d1 d2)
  refine cancel hm ?_
  have a1 : m * (A * i) = A := by grind -lia -linarith
  have a2 : n * (B * j) = B := by grind -lia -linarith
  generalize A * i = a at *
  generalize B * j = b at *
  grind -lia -linarith

theorem eq_div {a b m n : F} (hm : m ≠ 0) (hn : n ≠ 0) (h : a * n = b * m) : a * inv m = b * inv n := by
  have i1 := mul_inv hm
  have i2 := mul_inv hn
  refine cancel (mul_ne hm hn) ?_
  generalize inv m = i at *
  generalize inv n = j at *
  grind -lia -linarith

theorem asx {x1 y1 x2 y2 x3 y3 : F} (h1 : x1*x1*(y1*y1) = 1 - x1*x1 - y1*y1) (h2 : x2*x2*(y2*y2) = 1 - x2*x2 - y2*y2) (h3 : x3*x3*(y3*y3) = 1 - x3*x3 - y3*y3) :
    ((x1*y2+y1*x2)* y3 * (1 + x1*x2*y1*y2) + (y1*y2-x1*x2) * x3 * (1 - x1*x2*y1*y2)) * ((1 - x2*x3*y2*y3)*(1 + x2*x3*y2*y3) - x1*y1*(x2*y3+y2*x3)*(y2*y3-x2*x3))
    = (x1 * (y2*y3-x2*x3) * (1 - x2*x3*y2*y3) + y1 * (x2*y3+y2*x3) * (1 + x2*x3*y2*y3)) * ((1 - x1*x2*y1*y2)*(1 + x1*x2*y1*y2) - (x1*y2+y1*x2)*(y1*y2-x1*x2)*x3*y3) := by
  grind -lia -linarith -splitIte (splits := 0) (ringSteps := 10000000)
theorem asy {x1 y1 x2 y2 x3 y3 : F} (h1 : x1*x1*(y1*y1) = 1 - x1*x1 - y1*y1) (h2 : x2*x2*(y2*y2) = 1 - x2*x2 - y2*y2) (h3 : x3*x3*(y3*y3) = 1 - x3*x3 - y3*y3) :
    ((y1*y2-x1*x2) * y3 * (1 - x1*x2*y1*y2) - (x1*y2+y1*x2) * x3 * (1 + x1*x2*y1*y2)) * ((1 - x2*x3*y2*y3)*(1 + x2*x3*y2*y3) + x1*y1*(x2*y3+y2*x3)*(y2*y3-x2*x3))
    = (y1 * (y2*y3-x2*x3) * (1 - x2*x3*y2*y3) - x1 * (x2*y3+y2*x3) * (1 + x2*x3*y2*y3)) * ((1 - x1*x2*y1*y2)*(1 + x1*x2*y1*y2) + (x1*y2+y1*x2)*(y1*y2-x1*x2)*x3*y3) := by
  grind -lia -linarith -splitIte (splits := 0) (ringSteps := 10000000)
end Go.Phx
