/- The map takes the sum of points to the sum: so the sum of points hangs on no brackets. Plain arithmetic: no program in sight. -/
import Derived.Test.YtpmmjomejackkaaGroup
namespace Go.Phx

theorem addD_zero_l (q : F × F) : addD (0, 1) q = q := by
  obtain ⟨x, y⟩ := q
  simp only [addD]
  have e1 : 1 - 0 * x * 1 * y = (1 : F) := by grind -lia -linarith
  have e2 : 1 + 0 * x * 1 * y = (1 : F) := by grind -lia -linarith
  rw [e1, e2, inv_one]
  apply Prod.ext
  · show (0 * y + 1 * x) * 1 = x
    grind -lia -linarith
  · show (1 * y - 0 * x) * 1 = y
    grind -lia -linarith
theorem addD_zero_r (q : F × F) : addD q (0, 1) = q := by rw [addD_comm, addD_zero_l]

theorem toD_neg (p : E) : toD (negE p) = (-(toD p).1, (toD p).2) := by
  rcases p with _ | ⟨u, v⟩
  · show ((0 : F), (1 : F)) = (-0, 1)
    rw [show (-0 : F) = 0 by decide]
  · show (rr * u * inv (-v), (u + 1) * inv (u - 1)) = (-(rr * u * inv v), (u + 1) * inv (u - 1))
    rw [inv_neg]
    generalize inv v = i
    apply Prod.ext
    · show rr * u * -i = -(rr * u * i)
      grind -lia -linarith
    · rfl

theorem addD_neg {x y : F} (h : onD (x, y)) : addD (x, y) (-x, y) = (0, 1) := by
  have hn : onD (-x, y) := by simp only [onD] at h ⊢; grind -lia -linarith
  obtain ⟨_, d2⟩ := dens h hn
  have i2 := mul_inv d2
  simp only [addD, onD] at *
  have e : 1 + x * -x * y * y = y * y - x * -x := by grind -lia -linarith
  rw [e] at i2 ⊢
  apply Prod.ext
  · show (x * y + y * -x) * _ = 0
    generalize inv (1 - x * -x * y * y) = i
    grind -lia -linarith
  · exact i2

/-- the sum of two points that are no negatives of each other, by a slope -/
theorem hom_y {u1 v1 u2 v2 l : F} (h1 : v1 * v1 = u1 * u1 * u1 + u1) (h2 : v2 * v2 = u2 * u2 * u2 + u2) (hl : l * (u2 - u1) = v2 - v1) (hs : l * (v1 + v2) = u1 * u1 + u1 * u2 + u2 * u2 + 1) :
    (l * l - u1 - u2 + 1) * (v1 * v2 * (u1 - 1) * (u2 - 1) - 2 * u1 * u2 * (u1 + 1) * (u2 + 1)) = (l * l - u1 - u2 - 1) * (v1 * v2 * (u1 + 1) * (u2 + 1) + 2 * u1 * u2 * (u1 - 1) * (u2 - 1)) := by
  grind -lia -linarith -splitIte (splits := 0) (ringSteps := 10000000)
theorem hom_x {u1 v1 u2 v2 l : F} (h1 : v1 * v1 = u1 * u1 * u1 + u1) (h2 : v2 * v2 = u2 * u2 * u2 + u2) (hl : l * (u2 - u1) = v2 - v1) (hs : l * (v1 + v2) = u1 * u1 + u1 * u2 + u2 * u2 + 1) :
    (l * l - u1 - u2) * (v1 * v2 * (u1 - 1) * (u2 - 1) + 2 * u1 * u2 * (u1 + 1) * (u2 + 1)) = (l * (u1 - (l * l - u1 - u2)) - v1) * (u1 * v2 * (u2 + 1) * (u1 - 1) + u2 * v1 * (u1 + 1) * (u2 - 1)) := by
  grind -lia -linarith -splitIte (splits := 0) (ringSteps := 10000000)
end Go.Phx
namespace Go.Phx
theorem div_of {a m b : F} (hm : m ≠ 0) (h : a * m = b) : a = b * inv m := by
  have i := mul_inv hm
  refine cancel hm ?_
  generalize inv m = j at *
  grind -lia -linarith
theorem of_div {u i v w : F} (hi : v * i = 1) : v * (w * u * i) = w * u := by grind -lia -linarith
theorem of_div1 {u i v : F} (hi : v * i = 1) : v * (u * i) = u := by grind -lia -linarith

theorem sub_zero' (a : F) : a - 0 = a := by grind -lia -linarith
theorem zero_add' (a : F) : 0 + a = a := by grind -lia -linarith
theorem core_Y {r u1 v1 u2 v2 u3 X1 Y1 X2 Y2 Y3 : F} (hr : r * r = -2) (a1 : v1 * X1 = r * u1) (b1 : (u1 - 1) * Y1 = u1 + 1) (a2 : v2 * X2 = r * u2) (b2 : (u2 - 1) * Y2 = u2 + 1) (b3 : (u3 - 1) * Y3 = u3 + 1)
    (hy : (u3 + 1) * (v1 * v2 * (u1 - 1) * (u2 - 1) - 2 * u1 * u2 * (u1 + 1) * (u2 + 1)) = (u3 - 1) * (v1 * v2 * (u1 + 1) * (u2 + 1) + 2 * u1 * u2 * (u1 - 1) * (u2 - 1))) :
    (u3 - 1) * (v1 * v2 * ((u1 - 1) * (u2 - 1))) * (Y3 * (1 + X1 * X2 * Y1 * Y2)) = (u3 - 1) * (v1 * v2 * ((u1 - 1) * (u2 - 1))) * (Y1 * Y2 - X1 * X2) := by
  have e1 : v1 * v2 * ((u1 - 1) * (u2 - 1)) * (X1 * X2 * Y1 * Y2) = -2 * u1 * u2 * (u1 + 1) * (u2 + 1) := by
    have : v1 * v2 * ((u1 - 1) * (u2 - 1)) * (X1 * X2 * Y1 * Y2) = (v1 * X1) * (v2 * X2) * (((u1 - 1) * Y1) * ((u2 - 1) * Y2)) := by clear hy hr a1 a2 b1 b2 b3; grind -lia -linarith
    rw [this, a1, a2, b1, b2]
    clear hy a1 a2 b1 b2 b3 this
    grind -lia -linarith
  have e2 : v1 * v2 * ((u1 - 1) * (u2 - 1)) * (Y1 * Y2 - X1 * X2) = v1 * v2 * (u1 + 1) * (u2 + 1) + 2 * u1 * u2 * (u1 - 1) * (u2 - 1) := by
    have : v1 * v2 * ((u1 - 1) * (u2 - 1)) * (Y1 * Y2 - X1 * X2) = v1 * v2 * (((u1 - 1) * Y1) * ((u2 - 1) * Y2)) - (u1 - 1) * (u2 - 1) * ((v1 * X1) * (v2 * X2)) := by clear hy hr a1 a2 b1 b2 b3; grind -lia -linarith
    rw [this, a1, a2, b1, b2]
    clear hy a1 a2 b1 b2 b3 this
    grind -lia -linarith
  have e3 : (u3 - 1) * (v1 * v2 * ((u1 - 1) * (u2 - 1))) * (Y3 * (1 + X1 * X2 * Y1 * Y2)) = ((u3 - 1) * Y3) * (v1 * v2 * ((u1 - 1) * (u2 - 1)) + v1 * v2 * ((u1 - 1) * (u2 - 1)) * (X1 * X2 * Y1 * Y2)) := by clear hy hr a1 a2 b1 b2 b3; grind -lia -linarith
  have e4 : (u3 - 1) * (v1 * v2 * ((u1 - 1) * (u2 - 1))) * (Y1 * Y2 - X1 * X2) = (u3 - 1) * (v1 * v2 * ((u1 - 1) * (u2 - 1)) * (Y1 * Y2 - X1 * X2)) := by clear hy hr a1 a2 b1 b2 b3; grind -lia -linarith
  rw [e3, e4, e1, e2, b3, ← hy]
  clear hy a1 a2 b1 b2 b3 e1 e2 e3 e4 hr
  grind -lia -linarith
theorem core_X {r u1 v1 u2 v2 u3 v3 X1 Y1 X2 Y2 X3 : F} (hr : r * r = -2) (a1 : v1 * X1 = r * u1) (b1 : (u1 - 1) * Y1 = u1 + 1) (a2 : v2 * X2 = r * u2) (b2 : (u2 - 1) * Y2 = u2 + 1) (a3 : v3 * X3 = r * u3)
    (hx : u3 * (v1 * v2 * (u1 - 1) * (u2 - 1) + 2 * u1 * u2 * (u1 + 1) * (u2 + 1)) = v3 * (u1 * v2 * (u2 + 1) * (u1 - 1) + u2 * v1 * (u1 + 1) * (u2 - 1))) :
    v3 * (v1 * v2 * ((u1 - 1) * (u2 - 1))) * (X3 * (1 - X1 * X2 * Y1 * Y2)) = v3 * (v1 * v2 * ((u1 - 1) * (u2 - 1))) * (X1 * Y2 + Y1 * X2) := by
  have e1 : v1 * v2 * ((u1 - 1) * (u2 - 1)) * (X1 * X2 * Y1 * Y2) = -2 * u1 * u2 * (u1 + 1) * (u2 + 1) := by
    have : v1 * v2 * ((u1 - 1) * (u2 - 1)) * (X1 * X2 * Y1 * Y2) = (v1 * X1) * (v2 * X2) * (((u1 - 1) * Y1) * ((u2 - 1) * Y2)) := by clear hx hr a1 a2 b1 b2 a3; grind -lia -linarith
    rw [this, a1, a2, b1, b2]
    clear hx a1 a2 b1 b2 a3 this
    grind -lia -linarith
  have e2 : v1 * v2 * ((u1 - 1) * (u2 - 1)) * (X1 * Y2 + Y1 * X2) = r * (u1 * v2 * (u2 + 1) * (u1 - 1) + u2 * v1 * (u1 + 1) * (u2 - 1)) := by
    have : v1 * v2 * ((u1 - 1) * (u2 - 1)) * (X1 * Y2 + Y1 * X2) = v2 * (u1 - 1) * (v1 * X1) * ((u2 - 1) * Y2) + v1 * (u2 - 1) * (v2 * X2) * ((u1 - 1) * Y1) := by clear hx hr a1 a2 b1 b2 a3; grind -lia -linarith
    rw [this, a1, a2, b1, b2]
    clear hx a1 a2 b1 b2 a3 this
    grind -lia -linarith
  have e3 : v3 * (v1 * v2 * ((u1 - 1) * (u2 - 1))) * (X3 * (1 - X1 * X2 * Y1 * Y2)) = (v3 * X3) * (v1 * v2 * ((u1 - 1) * (u2 - 1)) - v1 * v2 * ((u1 - 1) * (u2 - 1)) * (X1 * X2 * Y1 * Y2)) := by clear hx hr a1 a2 b1 b2 a3; grind -lia -linarith
  have e4 : v3 * (v1 * v2 * ((u1 - 1) * (u2 - 1))) * (X1 * Y2 + Y1 * X2) = v3 * (v1 * v2 * ((u1 - 1) * (u2 - 1)) * (X1 * Y2 + Y1 * X2)) := by clear hx hr a1 a2 b1 b2 a3; grind -lia -linarith
  rw [e3, e4, e1, e2, a3]
  have e5 : v3 * (r * (u1 * v2 * (u2 + 1) * (u1 - 1) + u2 * v1 * (u1 + 1) * (u2 - 1))) = r * (v3 * (u1 * v2 * (u2 + 1) * (u1 - 1) + u2 * v1 * (u1 + 1) * (u2 - 1))) := by clear hx hr a1 a2 b1 b2 a3; grind -lia -linarith
  rw [e5, ← hx]
  clear hx a1 a2 b1 b2 a3 e1 e2 e3 e4 e5 hr
  grind -lia -linarith

theorem toD_00 : toD (some (0, 0)) = (0, -1) := by
  show (rr * 0 * inv 0, (0 + 1) * inv (0 - 1)) = ((0 : F), (-1 : F))
  rw [show (0 : F) - 1 = -1 by decide, inv_neg, inv_one, inv_zero]
  decide
theorem addD_0m (q : F × F) : addD (0, -1) q = (-q.1, -q.2) := by
  obtain ⟨x, y⟩ := q
  simp only [addD]
  have e1 : 1 - 0 * x * -1 * y = (1 : F) := by grind -lia -linarith
  have e2 : 1 + 0 * x * -1 * y = (1 : F) := by grind -lia -linarith
  rw [e1, e2, inv_one]
  apply Prod.ext
  · show (0 * y + -1 * x) * 1 = -x
    grind -lia -linarith
  · show (-1 * y - 0 * x) * 1 = -y
    grind -lia -linarith

/-- the sum with (0, 0) -/
theorem toD_00_core {u v u3 v3 l : F} (h : v * v = u * u * u + u) (hu0 : u ≠ 0) (hv0 : v ≠ 0) (hl : l * u = v) (hs : l * v = u * u + 1) (h3 : u3 = l * l - u) (k3 : v3 = -(l * u3)) (hu3 : u3 - 1 ≠ 0) :
    toD (some (u3, v3)) = (-(toD (some (u, v))).1, -(toD (some (u, v))).2) := by
  have e : u * u3 = 1 := by subst h3; grind -lia -linarith
  have hu3' : u3 ≠ 0 := by rintro rfl; apply one_ne; rw [← e]; grind -lia -linarith
  have hl0 : l ≠ 0 := by rintro rfl; apply hv0; rw [← hl]; grind -lia -linarith
  have hv3 : v3 ≠ 0 := by
    intro hz
    have : l * u3 = 0 := by grind -lia -linarith
    exact mul_ne hl0 hu3' this
  have i3 := mul_inv hv3
  have j3 := mul_inv hu3
  have i1 := mul_inv hv0
  have j1 := mul_inv (u_ne_one h)
  simp only [toD]
  apply Prod.ext
  · show rr * u3 * inv v3 = -(rr * u * inv v)
    refine cancel (mul_ne hv3 hv0) ?_
    generalize inv v3 = a at *
    generalize inv v = b at *
    have f1 : v3 * v * (rr * u3 * a) = rr * u3 * v * (v3 * a) := by grind -lia -linarith
    have f2 : v3 * v * -(rr * u * b) = -(rr * u * v3 * (v * b)) := by grind -lia -linarith
    rw [f1, f2, i3, i1, k3, ← hl]
    grind -lia -linarith
  · show (u3 + 1) * inv (u3 - 1) = -((u + 1) * inv (u - 1))
    refine cancel (mul_ne hu3 (u_ne_one h)) ?_
    generalize inv (u3 - 1) = a at *
    generalize inv (u - 1) = b at *
    have f1 : (u3 - 1) * (u - 1) * ((u3 + 1) * a) = (u3 + 1) * (u - 1) * ((u3 - 1) * a) := by grind -lia -linarith
    have f2 : (u3 - 1) * (u - 1) * -((u + 1) * b) = -((u + 1) * (u3 - 1) * ((u - 1) * b)) := by grind -lia -linarith
    rw [f1, f2, j3, j1]
    clear f1 f2 j3 j1 i1 i3
    grind -lia -linarith

theorem toD_add_aff {u1 v1 u2 v2 : F} (h1 : v1 * v1 = u1 * u1 * u1 + u1) (h2 : v2 * v2 = u2 * u2 * u2 + u2) (hn : ¬ (u2, v2) = (u1, -v1)) :
    toD (addE (some (u1, v1)) (some (u2, v2))) = addD (toD (some (u1, v1))) (toD (some (u2, v2))) := by
  obtain ⟨hl, hs⟩ := slope_facts h1 h2 hn
  have o1 : onD (toD (some (u1, v1))) := toD_on ((onE_some _ _).2 h1)
  have o2 : onD (toD (some (u2, v2))) := toD_on ((onE_some _ _).2 h2)
  obtain ⟨d1, d2⟩ := dens o1 o2
  have o4 := addD_on o1 o2
  rw [addE_some, if_neg hn]
  generalize slopeE (u1, v1) (u2, v2) = l at hl hs
  have h3 : (l * (u1 - (l * l - u1 - u2)) - v1) * (l * (u1 - (l * l - u1 - u2)) - v1) = (l * l - u1 - u2) * (l * l - u1 - u2) * (l * l - u1 - u2) + (l * l - u1 - u2) := third_on h1 hl hs rfl rfl
  have hy := hom_y h1 h2 hl hs
  have hx := hom_x h1 h2 hl hs
  show toD (some (l * l - u1 - u2, l * (u1 - (l * l - u1 - u2)) - v1)) = _
  have n1 := u_ne_one h1
  have n2 := u_ne_one h2
  have n3 := u_ne_one h3
  by_cases z1 : v1 = 0
  · have w1 := v_zero h1 z1
    subst z1 w1
    have z2 : v2 ≠ 0 := by
      intro z2
      have w2 := v_zero h2 z2
      subst z2 w2
      exact hn (by decide)
    have w2 : u2 ≠ 0 := by
      rintro rfl
      have : v2 * v2 = 0 := by rw [h2]; decide
      rcases mul_zero_or this with h | h <;> exact z2 h
    rw [toD_00, addD_0m]
    exact toD_00_core h2 w2 z2 (by rw [← sub_zero' u2, hl, sub_zero']) (by rw [← zero_add' v2, hs]; grind -lia -linarith) (by grind -lia -linarith) (by grind -lia -linarith) n3
  · by_cases z2 : v2 = 0
    · have w2 := v_zero h2 z2
      subst z2 w2
      have w1 : u1 ≠ 0 := by
        rintro rfl
        have : v1 * v1 = 0 := by rw [h1]; decide
        rcases mul_zero_or this with h | h <;> exact z1 h
      rw [toD_00, addD_comm, addD_0m]
      have hl' : l * u1 = v1 := by clear hy hx h3 n3 n1 n2 o1 o2 o4 d1 d2 h1; grind -lia -linarith
      exact toD_00_core h1 w1 z1 hl' (by clear hy hx h3 n3 n1 n2 o1 o2 o4 d1 d2 h1; grind -lia -linarith) (by grind -lia -linarith) (by clear hy hx h3 n3 n1 n2 o1 o2 o4 d1 d2 h1 hs; grind -lia -linarith) n3
    · generalize l * l - u1 - u2 = u3 at *
      generalize l * (u1 - u3) - v1 = v3 at *
      have i1 := mul_inv z1
      have i2 := mul_inv z2
      have j1 := mul_inv n1
      have j2 := mul_inv n2
      have j3 := mul_inv n3
      have a1 := of_div (u := u1) (w := rr) i1
      have a2 := of_div (u := u2) (w := rr) i2
      have b1 := of_div1 (u := u1 + 1) j1
      have b2 := of_div1 (u := u2 + 1) j2
      have b3 := of_div1 (u := u3 + 1) j3
      have cY := core_Y rr_sq a1 b1 a2 b2 b3 hy
      have eY := cancel (mul_ne n3 (mul_ne (mul_ne z1 z2) (mul_ne n1 n2))) cY
      have fY : (u3 + 1) * inv (u3 - 1) = (addD (toD (some (u1, v1))) (toD (some (u2, v2)))).2 := div_of d2 eY
      by_cases z3 : v3 = 0
      · have w3 := v_zero h3 z3
        subst z3 w3
        rw [toD_00]
        have g : ((0 : F) + 1) * inv (0 - 1) = -1 := by rw [show (0 : F) - 1 = -1 by decide, inv_neg, inv_one]; decide
        rw [g] at fY
        generalize addD (toD (some (u1, v1))) (toD (some (u2, v2))) = z at *
        obtain ⟨X, Y⟩ := z
        simp only [onD] at o4
        have fY' : Y = -1 := fY.symm
        subst fY'
        have hX : 2 * (X * X) = 0 := by clear cY eY fY a1 a2 b1 b2 b3 i1 i2 j1 j2 j3 hy hx hl hs h1 h2 h3; grind -lia -linarith
        have hX0 : X = 0 := by
          rcases mul_zero_or hX with h | h
          · exact absurd h two_ne
          · rcases mul_zero_or h with h | h <;> exact h
        rw [hX0]
      · have i3 := mul_inv z3
        have a3 := of_div (u := u3) (w := rr) i3
        have cX := core_X rr_sq a1 b1 a2 b2 a3 hx
        have eX := cancel (mul_ne z3 (mul_ne (mul_ne z1 z2) (mul_ne n1 n2))) cX
        have fX : rr * u3 * inv v3 = (addD (toD (some (u1, v1))) (toD (some (u2, v2)))).1 := div_of d1 eX
        exact Prod.ext fX fY
end Go.Phx
