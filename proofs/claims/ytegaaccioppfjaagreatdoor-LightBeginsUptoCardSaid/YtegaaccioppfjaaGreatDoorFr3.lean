/- What the later texts stand on (Fld1, Fld2, Fld3, Fld4, FldS, FldT, FldU): plain laws and walks, each by its own conditions. -/
import Derived.Test.YtegaaccioppfjaaGreatDoorFr2
set_option linter.unusedSimpArgs false
set_option linter.unusedVariables false
section
namespace Go.Proofs.YtegaaccioppfjaaGreatDoor
open Go.RowKit Go.Phx

attribute [go_sem] zf_vz vz_nonneg

end Go.Proofs.YtegaaccioppfjaaGreatDoor
end
section
namespace Go.Proofs.YtegaaccioppfjaaGreatDoor
open Go.RowKit Go.Phx Go.Shelf
attribute [local go_sem] Oper.semAt_some


end Go.Proofs.YtegaaccioppfjaaGreatDoor
end
section
namespace Go.Proofs.YtegaaccioppfjaaGreatDoor
open Go.RowKit Go.Phx Go.Shelf
attribute [local go_sem] Oper.semAt_some

end Go.Proofs.YtegaaccioppfjaaGreatDoor
end
section
namespace Go.Proofs.YtegaaccioppfjaaGreatDoor
open Go.RowKit Go.Phx Go.Shelf
attribute [local go_sem] Oper.semAt_some

/-- what stands in the cells of a power under way -/
def Pow2At (n : Nat) (a0 a1 : Int) (pre : List Bool) (s : Bool) (W : World) : Prop :=
 n + 1 + 1 + 1 + 1 < W.heap.size ∧
 (s = false → pow2Bits (zf a0, zf a1) pre = (1, 0)) ∧
 W.cell? ⟨n, 0, none⟩ = some (.int .u64 a0) ∧ W.cell? ⟨n, 1, none⟩ = some (.int .u64 a1) ∧
 W.cell? ⟨n + 1, 0, none⟩ = some (.int .u64 0) ∧ W.cell? ⟨n + 1, 1, none⟩ = some (.int .u64 0) ∧ W.frozen? ⟨n + 1, 0, none⟩ = false ∧ W.frozen? ⟨n + 1, 1, none⟩ = false ∧
 W.cell? ⟨n + 1 + 1, 0, none⟩ = some (.int .u64 (vz (pow2Bits (zf a0, zf a1) pre).1)) ∧ W.cell? ⟨n + 1 + 1, 1, none⟩ = some (.int .u64 (vz (pow2Bits (zf a0, zf a1) pre).2)) ∧ W.frozen? ⟨n + 1 + 1, 0, none⟩ = false ∧ W.frozen? ⟨n + 1 + 1, 1, none⟩ = false ∧
 W.cell? ⟨n + 1 + 1 + 1, 0, none⟩ = some (.bool s) ∧ W.frozen? ⟨n + 1 + 1 + 1, 0, none⟩ = false
def Pow2I (n : Nat) (a0 a1 : Int) (pre : List Bool) (W : World) : Prop := ∃ s, Pow2At n a0 a1 pre s W
theorem Pow2I.own (n : Nat) (a0 a1 : Int) : Own (Pow2I n a0 a1) := fun _ _ _ _ ⟨s, h0, h1, h2, h3, h4, h5, h6, h7, h8, h9, h10, h11, h12, h13⟩ hg hr =>
 ⟨s, Nat.lt_of_lt_of_le h0 hg.size, h1, cell_kept h2 hg hr, cell_kept h3 hg hr, cell_kept h4 hg hr, cell_kept h5 hg hr, (frozen_kept h4 hg hr).trans h6, (frozen_kept h5 hg hr).trans h7, cell_kept h8 hg hr, cell_kept h9 hg hr, (frozen_kept h8 hg hr).trans h10, (frozen_kept h9 hg hr).trans h11, cell_kept h12 hg hr, (frozen_kept h12 hg hr).trans h13⟩

end Go.Proofs.YtegaaccioppfjaaGreatDoor
end
