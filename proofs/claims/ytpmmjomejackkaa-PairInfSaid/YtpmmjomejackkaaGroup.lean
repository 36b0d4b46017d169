/- The sum of points hangs on no brackets and on no order. Plain arithmetic: no program in sight. -/
import Derived.Test.YtpmmjomejackkaaEd
namespace Go.Phx

theorem onD_form {x y : F} (h : onD (x, y)) : x*x*(y*y) = 1 - x*x - y*y := by
  simp only [onD] at h
  grind -lia -linarith

theorem mul_back {m i : F} (A : F) (h : m * i = 1) : m * (A * i) = A := by grind -lia -linarith
theorem core_x {m n m' n' a b c d x1 y1 x3 y3 : F}
    (ax : (m * a * y3 * n + n * b * x3 * m) * (m' * n' - x1 * y1 * (m' * c) * (n' * d)) = (x1 * (n' * d) * m' + y1 * (m' * c) * n') * (m * n - m * a * (n * b) * x3 * y3)) :
    m * n * (m' * n') * ((a * y3 + b * x3) * (1 - x1 * c * y1 * d)) = m * n * (m' * n') * ((x1 * d + y1 * c) * (1 - a * x3 * b * y3)) := by
  grind -lia -linarith -splitIte (splits := 0) (ringSteps := 10000000)
theorem core_y {m n m' n' a b c d x1 y1 x3 y3 : F}
    (ay : (n * b * y3 * m - m * a * x3 * n) * (m' * n' + x1 * y1 * (m' * c) * (n' * d)) = (y1 * (n' * d) * m' - x1 * (m' * c) * n') * (m * n + m * a * (n * b) * x3 * y3)) :
    m * n * (m' * n') * ((b * y3 - a * x3) * (1 + x1 * c * y1 * d)) = m * n * (m' * n') * ((y1 * d - x1 * c) * (1 + a * x3 * b * y3)) := by
  grind -lia -linarith -splitIte (splits := 0) (ringSteps := 10000000)

theorem addD_assoc {p q s : F × F} (hp : onD p) (hq : onD q) (hs : onD s) : addD (addD p q) s = addD p (addD q s) := by
  have hpq := addD_on hp hq
  have hqs := addD_on hq hs
  obtain ⟨d1, d2⟩ := dens hp hq
  obtain ⟨d3, d4⟩ := dens hq hs
  obtain ⟨d5, d6⟩ := dens hpq hs
  obtain ⟨d7, d8⟩ := dens hp hqs
  have i1 := mul_inv d1
  have i2 := mul_inv d2
  have i3 := mul_inv d3
  have i4 := mul_inv d4
  obtain ⟨x1, y1⟩ := p
  obtain ⟨x2, y2⟩ := q
  obtain ⟨x3, y3⟩ := s
  have ax := asx (x1 := x1) (y1 := y1) (x2 := x2) (y2 := y2) (x3 := x3) (y3 := y3) (onD_form hp) (onD_form hq) (onD_form hs)
  have ay := asy (x1 := x1) (y1 := y1) (x2 := x2) (y2 := y2) (x3 := x3) (y3 := y3) (onD_form hp) (onD_form hq) (onD_form hs)
  clear hp hq hs hpq hqs
  simp only [addD] at *
  generalize inv (1 - x1 * x2 * y1 * y2) = i at *
  generalize inv (1 + x1 * x2 * y1 * y2) = j at *
  generalize inv (1 - x2 * x3 * y2 * y3) = k at *
  generalize inv (1 + x2 * x3 * y2 * y3) = l at *
  rw [show x1 * x2 * y1 * y2 = x1 * x2 * y1 * y2 from rfl] at *
  generalize 1 - x1 * x2 * y1 * y2 = m at *
  generalize 1 + x1 * x2 * y1 * y2 = n at *
  generalize 1 - x2 * x3 * y2 * y3 = m' at *
  generalize 1 + x2 * x3 * y2 * y3 = n' at *
  generalize x1 * y2 + y1 * x2 = A at *
  generalize y1 * y2 - x1 * x2 = B at *
  generalize x2 * y3 + y2 * x3 = C at *
  generalize y2 * y3 - x2 * x3 = D at *
  have hA := mul_back A i1
  have hB := mul_back B i2
  have hC := mul_back C i3
  have hD := mul_back D i4
  generalize A * i = a at *
  generalize B * j = b at *
  generalize C * k = c at *
  generalize D * l = d at *
  rw [← hA, ← hB, ← hC, ← hD] at ax ay
  have hne : (m * n) * (m' * n') ≠ 0 := mul_ne (mul_ne d1 d2) (mul_ne d3 d4)
  apply Prod.ext
  · refine eq_div d5 d7 (cancel hne ?_)
    exact core_x ax
  · refine eq_div d6 d8 (cancel hne ?_)
    exact core_y ay

theorem addD_comm (p q : F × F) : addD p q = addD q p := by
  obtain ⟨x1, y1⟩ := p
  obtain ⟨x2, y2⟩ := q
  simp only [addD]
  have e1 : 1 - x1 * x2 * y1 * y2 = 1 - x2 * x1 * y2 * y1 := by grind -lia -linarith
  have e2 : 1 + x1 * x2 * y1 * y2 = 1 + x2 * x1 * y2 * y1 := by grind -lia -linarith
  rw [e1, e2]
  apply Prod.ext
  · show (x1 * y2 + y1 * x2) * _ = (x2 * y1 + y2 * x1) * _
    congr 1
    grind -lia -linarith
  · show (y1 * y2 - x1 * x2) * _ = (y2 * y1 - x2 * x1) * _
    congr 1
    grind -lia -linarith

/-! ### the map -/
def rr : F := 198372348
theorem rr_sq : rr * rr = -2 := by decide +kernel
noncomputable def toD : E → F × F
  | none => (0, 1)
  | some (u, v) => (rr * u * inv v, (u + 1) * inv (u - 1))

theorem u_ne_one {u v : F} (h : v * v = u * u * u + u) : u - 1 ≠ 0 := by
  intro hu
  have e : u = 1 := by grind -lia -linarith
  subst e
  have h2 : v * v = -(rr * rr) := by rw [h, rr_sq]; decide
  have := no_neg_sq h2
  exact absurd this (by decide)
theorem v_zero {u v : F} (h : v * v = u * u * u + u) (hv : v = 0) : u = 0 := by
  subst hv
  have h2 : u * (u * u + 1) = 0 := by grind -lia -linarith
  rcases mul_zero_or h2 with h3 | h3
  · exact h3
  · exact absurd (show u * u = -1 by grind -lia -linarith) (neg_one_no_sq u)
theorem inv_one : inv 1 = 1 := by
  have := mul_inv one_ne
  generalize inv 1 = i at this
  grind -lia -linarith
theorem inv_neg (a : F) : inv (-a) = -inv a := by
  by_cases h : a = 0
  · subst h
    rw [show (-0 : F) = 0 by decide, inv_zero]
    decide
  · have hn : -a ≠ 0 := by intro h2; exact h (by grind -lia -linarith)
    have i1 := mul_inv h
    have i2 := mul_inv hn
    refine cancel h ?_
    generalize inv a = i at *
    generalize inv (-a) = j at *
    grind -lia -linarith

theorem toD_on {p : E} (hp : onE p = true) : onD (toD p) := by
  rcases p with _ | ⟨u, v⟩
  · show (0 : F) * 0 + 1 * 1 = 1 - 0 * 0 * (1 * 1)
    decide
  rw [onE_some] at hp
  have hu := u_ne_one hp
  have iu := mul_inv hu
  by_cases hv : v = 0
  · have hu0 := v_zero hp hv
    subst hv hu0
    simp only [onD, toD, inv_zero]
    generalize inv (0 - 1) = i at *
    grind -lia -linarith
  · have iv := mul_inv hv
    simp only [onD, toD]
    have hr := rr_sq
    generalize rr = r at *
    generalize inv v = i at *
    generalize inv (u - 1) = j at *
    have hne : (v * v) * ((u - 1) * (u - 1)) ≠ 0 := mul_ne (mul_ne hv hv) (mul_ne hu hu)
    refine cancel hne ?_
    have a1 : v * (r * u * i) = r * u := by grind -lia -linarith
    have a2 : (u - 1) * ((u + 1) * j) = u + 1 := by grind -lia -linarith
    generalize r * u * i = X at *
    generalize (u + 1) * j = Y at *
    have b1 : v * v * (X * X) = -2 * (u * u) := by grind -lia -linarith
    have b2 : (u - 1) * (u - 1) * (Y * Y) = (u + 1) * (u + 1) := by grind -lia -linarith
    generalize X * X = XX at *
    generalize Y * Y = YY at *
    generalize v * v = w at *
    subst hp
    grind -lia -linarith

theorem toD_inj {p q : E} (hp : onE p = true) (hq : onE q = true) (h : toD p = toD q) : p = q := by
  rcases p with _ | ⟨u, v⟩ <;> rcases q with _ | ⟨u', v'⟩
  · rfl
  · exfalso
    rw [onE_some] at hq
    have iu := mul_inv (u_ne_one hq)
    have h2 := congrArg Prod.snd h
    simp only [toD] at h2
    generalize inv (u' - 1) = j at *
    have : (2 : F) = 0 := by grind -lia -linarith
    exact two_ne this
  · exfalso
    rw [onE_some] at hp
    have iu := mul_inv (u_ne_one hp)
    have h2 := congrArg Prod.snd h
    simp only [toD] at h2
    generalize inv (u - 1) = j at *
    have : (2 : F) = 0 := by grind -lia -linarith
    exact two_ne this
  · rw [onE_some] at hp hq
    have n1 := u_ne_one hp
    have n2 := u_ne_one hq
    have i1 := mul_inv n1
    have i2 := mul_inv n2
    have h1 := congrArg Prod.fst h
    have h2 := congrArg Prod.snd h
    simp only [toD] at h1 h2
    have eu : u = u' := by
      generalize inv (u - 1) = j at *
      generalize inv (u' - 1) = j' at *
      have : 2 * (u - u') = 0 := by
        refine cancel (mul_ne n1 n2) ?_
        grind -lia -linarith
      rcases mul_zero_or this with h3 | h3
      · exact absurd h3 two_ne
      · grind -lia -linarith
    subst eu
    have ev : v * v = v' * v' := by rw [hp, hq]
    rcases sq_eq ev with h3 | h3
    · rw [h3]
    · by_cases hv : v' = 0
      · rw [h3, hv]; rfl
      · by_cases hu0 : u = 0
        · exfalso
          subst hu0
          have : v' * v' = 0 := by grind -lia -linarith
          rcases mul_zero_or this with h4 | h4 <;> exact hv h4
        · exfalso
          rw [h3, inv_neg] at h1
          have iv := mul_inv hv
          generalize inv v' = i at *
          have h5 : rr * (2 * u) = 0 := by
            refine cancel hv ?_
            grind -lia -linarith
          have hr : rr ≠ 0 := by decide
          rcases mul_zero_or h5 with h6 | h6
          · exact hr h6
          · rcases mul_zero_or h6 with h7 | h7
            · exact two_ne h7
            · exact hu0 h7
end Go.Phx
