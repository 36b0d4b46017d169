/- What the later texts stand on (Arith, Curve, Ed, Group, Hom, Lag, Pts, Comp): plain laws and walks, each by its own conditions. -/
set_option linter.unusedSimpArgs false
set_option linter.unusedVariables false
section
namespace Go.Phx

abbrev P : Nat := 2147482867
instance : NeZero P := ⟨by decide⟩
abbrev F := Fin P

/-- a power, under a name that is not laid open -/
noncomputable def pw (a : F) (n : Nat) : F := Classical.choose (⟨a ^ n, rfl⟩ : ∃ x : F, x = a ^ n)
/-- a list without one of its own -/
def others {α : Type} [DecidableEq α] (c : α) (l : List α) : List α := l.filter (fun x => !decide (x = c))
/-- all numbers but nought -/
@[irreducible] def units : List F := others 0 (List.finRange P)
/-- what times a number is 1 (of nought: nought) -/
noncomputable def inv (a : F) : F := pw a 2147482865
def zf (a : Int) : F := ⟨(a % 2147482867).toNat, by have h1 := Int.emod_nonneg a (show (2147482867 : Int) ≠ 0 by decide); have h2 := Int.emod_lt_of_pos a (show (0 : Int) < 2147482867 by decide); simp only [P]; omega⟩
def vz (x : F) : Int := (x.val : Int)
theorem vz_nonneg (x : F) : 0 ≤ vz x := Int.natCast_nonneg _
theorem vz_lt (x : F) : vz x < 2147482867 := by have := x.isLt; unfold vz; simp only [P] at this; omega
theorem vz_zf (a : Int) : vz (zf a) = a % 2147482867 := by
 have h1 := Int.emod_nonneg a (show (2147482867 : Int) ≠ 0 by decide)
 show (((a % 2147482867).toNat : Nat) : Int) = _
 omega
theorem vz_inj {x y : F} (h : vz x = vz y) : x = y := Fin.ext (by unfold vz at h; omega)
theorem zf_vz (x : F) : zf (vz x) = x := by
 apply vz_inj
 rw [vz_zf]
 have := vz_nonneg x
 have := vz_lt x
 omega
abbrev F2 := F × F
def mul2 (a b : F2) : F2 := (a.1 * b.1 - a.2 * b.2, a.1 * b.2 + a.2 * b.1)
def pow2Bits (a : F2) (l : List Bool) : F2 := l.foldl (fun o b => if b then mul2 (mul2 o o) a else mul2 o o) (1, 0)
end Go.Phx
end
section
namespace Go.Phx

/-- a point: none is Inf -/
abbrev E := Option (F × F)
/-- the slope of two points -/
noncomputable def slopeE (p q : F × F) : F :=
 if p = q then (3 * (p.1 * p.1) + 1) * inv (2 * p.2) else (q.2 - p.2) * inv (q.1 - p.1)
noncomputable def addE : E → E → E
 | none, q => q
 | p, none => p
 | some p, some q =>
  if q = (p.1, -p.2) then none
  else
   let l := slopeE p q
   let x := l * l - p.1 - q.1
   some (x, l * (p.1 - x) - p.2)

end Go.Phx
end
section
namespace Go.Phx

/-- the roots of a number -/
@[irreducible] def rootsOf (a : F) : List F := (List.finRange P).filter fun v => decide (v * v = a)
def cubic (u : F) : F := u * u * u + u
@[irreducible] def allF : List F := List.finRange P
/-- all points -/
def fiber (u : F) : List E := (rootsOf (cubic u)).map fun v => some (u, v)
@[irreducible] def points : List E := none :: allF.flatMap fiber
end Go.Phx
end
section
namespace Go.Phx

/-- a multiple by its number's bits, the highest first -/
noncomputable def timesBits (p : E) (l : List Bool) : E := l.foldl (fun o b => if b then addE (addE o o) p else addE o o) none
end Go.Phx
end
