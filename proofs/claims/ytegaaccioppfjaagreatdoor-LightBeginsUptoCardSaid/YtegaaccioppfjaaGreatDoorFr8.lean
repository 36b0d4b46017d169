/- What the later texts stand on (Pr1, Pr2, Pr3, Pr4, Pr5, PrC, Pr6): plain laws and walks, each by its own conditions. -/
import Derived.Test.YtegaaccioppfjaaGreatDoorFr5
import Derived.Test.YtegaaccioppfjaaGreatDoorFr2
import Derived.Test.YtegaaccioppfjaaGreatDoorFr1
set_option linter.unusedSimpArgs false
set_option linter.unusedVariables false
section
namespace Go.Proofs.YtegaaccioppfjaaGreatDoor
open BigFrame Go.RowKit Go.Phx Go.Shelf
attribute [local go_sem] Oper.semAt_some fldInf

/-- the line through two points, at a third one -/
noncomputable def lineE : E → E → F × F → F2
 | none, _, _ => (1, 0)
 | some _, none, _ => (1, 0)
 | some s, some t, q => if t = (s.1, -s.2) then (1, 0) else (slopeE s t * (s.1 + q.1) - s.2, q.2)

end Go.Proofs.YtegaaccioppfjaaGreatDoor
end
section
namespace Go.Proofs.YtegaaccioppfjaaGreatDoor
open BigFrame Go.RowKit Go.Phx Go.Shelf
attribute [local go_sem] Oper.semAt_some fldInf

end Go.Proofs.YtegaaccioppfjaaGreatDoor
end
section
namespace Go.Proofs.YtegaaccioppfjaaGreatDoor
open BigFrame Go.RowKit Go.Phx Go.Shelf
attribute [local go_sem] Oper.semAt_some fldInf

end Go.Proofs.YtegaaccioppfjaaGreatDoor
end
section
namespace Go.Proofs.YtegaaccioppfjaaGreatDoor
open BigFrame Go.RowKit Go.Phx Go.Shelf
attribute [local go_sem] Oper.semAt_some fldInf

/-- a round of the pairing -/
noncomputable def millStep (p : E) (q : F × F) (s : F2 × E) (b : Bool) : F2 × E :=
 if b then (mul2 (mul2 (mul2 s.1 s.1) (lineE s.2 s.2 q)) (lineE (addE s.2 s.2) p q), addE (addE s.2 s.2) p)
 else (mul2 (mul2 s.1 s.1) (lineE s.2 s.2 q), addE s.2 s.2)
noncomputable def mill (p : E) (q : F × F) (l : List Bool) : F2 × E := l.foldl (millStep p q) ((1, 0), p)
abbrev cF (z : F2) : Array Value := #[.int .u64 (vz z.1), .int .u64 (vz z.2)]
abbrev cE (t : E) : Array Value := #[.int .u64 (px t), .int .u64 (py t), .bool (pf t)]
/-- the variables of the rounds -/
def MillAt (n bf bt : Nat) (p q : F × F) (s : F2 × E) (W : World) : Prop :=
 Blk W n 96 #[.int .u64 (vz p.1), .int .u64 (vz p.2), .bool false] ∧ Blk W (n + 1) 96 #[.int .u64 (vz q.1), .int .u64 (vz q.2), .bool false] ∧ Blk W (n + 1 + 1) 147 #[.int .u64 0, .int .u64 0] ∧ Blk W bf 147 (cF s.1) ∧ Blk W bt 96 (cE s.2)
theorem MillAt.own (n bf bt : Nat) (p q : F × F) : Own (fun pre W => MillAt n bf bt p q (mill (some p) q pre) W) := fun _ _ _ _ ⟨h0, h1, h2, h3, h4⟩ hg hr =>
 ⟨blk_kept h0 hg hr, blk_kept h1 hg hr, blk_kept h2 hg hr, blk_kept h3 hg hr, blk_kept h4 hg hr⟩

end Go.Proofs.YtegaaccioppfjaaGreatDoor
end
section
namespace Go.Proofs.YtegaaccioppfjaaGreatDoor
open BigFrame Go.RowKit Go.Phx Go.Shelf
attribute [local go_sem] Oper.semAt_some fldInf

end Go.Proofs.YtegaaccioppfjaaGreatDoor
end
section
namespace Go.Proofs.YtegaaccioppfjaaGreatDoor
open BigFrame Go.RowKit Go.Phx Go.Shelf
attribute [local go_sem] Oper.semAt_some fldInf

end Go.Proofs.YtegaaccioppfjaaGreatDoor
end
