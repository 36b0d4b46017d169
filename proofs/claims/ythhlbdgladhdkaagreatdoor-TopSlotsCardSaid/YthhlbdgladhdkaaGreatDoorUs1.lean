/- What the later texts stand on (Arith): plain laws and walks, each by its own conditions. -/
set_option linter.unusedSimpArgs false
set_option linter.unusedVariables false
section
namespace Go.Phx

abbrev P : Nat := 2147482867
instance : NeZero P := ⟨by decide⟩
abbrev F := Fin P

noncomputable def pw (a : F) (n : Nat) : F := Classical.choose (⟨a ^ n, rfl⟩ : ∃ x : F, x = a ^ n)
def others {α : Type} [DecidableEq α] (c : α) (l : List α) : List α := l.filter (fun x => !decide (x = c))
@[irreducible] def units : List F := others 0 (List.finRange P)
noncomputable def inv (a : F) : F := pw a 2147482865
def zf (a : Int) : F := ⟨(a % 2147482867).toNat, by have h1 := Int.emod_nonneg a (show (2147482867 : Int) ≠ 0 by decide); have h2 := Int.emod_lt_of_pos a (show (0 : Int) < 2147482867 by decide); simp only [P]; omega⟩
def vz (x : F) : Int := (x.val : Int)
abbrev F2 := F × F
end Go.Phx
end
