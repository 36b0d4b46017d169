/- What the later texts stand on (Arith): plain laws and walks, each by its own conditions. -/
set_option linter.unusedSimpArgs false
set_option linter.unusedVariables false
section
namespace Go.Phx

abbrev P : Nat := 2147482867
instance : NeZero P := ⟨by decide⟩
abbrev F := Fin P

/-- a power, under a name that is not laid open -/
noncomputable def pw (a : F) (n : Nat) : F := Classical.choose (⟨a ^ n, rfl⟩ : ∃ x : F, x = a ^ n)
/-- a list without one of its own -/
def others {α : Type} [DecidableEq α] (c : α) (l : List α) : List α := l.filter (fun x => !decide (x = c))
/-- all numbers but nought -/
@[irreducible] def units : List F := others 0 (List.finRange P)
/-- what times a number is 1 (of nought: nought) -/
noncomputable def inv (a : F) : F := pw a 2147482865
def vz (x : F) : Int := (x.val : Int)
theorem div_step (x : Int) (k : Nat) (hk : k < 64) : x / 2 ^ (64 - (k + 1)) = x / 2 ^ (64 - k) * 2 + x / 2 ^ (63 - k) % 2 := by
  have e1 : 64 - (k + 1) = 63 - k := by omega
  have e2 : 64 - k = (63 - k) + 1 := by omega
  rw [e1, e2, Int.pow_succ, ← Int.ediv_ediv_of_nonneg (Int.le_of_lt (Int.pow_pos (by decide)))]
  generalize x / 2 ^ (63 - k) = y
  omega
abbrev F2 := F × F
end Go.Phx
end
