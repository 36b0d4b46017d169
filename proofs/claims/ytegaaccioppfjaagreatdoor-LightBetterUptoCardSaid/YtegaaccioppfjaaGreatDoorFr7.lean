/- What the later texts stand on (SgnA, SgnB, SgnD, SgnE, SgnF, SgnG, SgnH): plain laws and walks, each by its own conditions. -/
import Derived.Test.YtegaaccioppfjaaGreatDoorFr4
import Derived.Test.YtegaaccioppfjaaGreatDoorFr5
import Derived.Test.YtegaaccioppfjaaGreatDoorFr2
import Derived.Test.YtegaaccioppfjaaGreatDoorFr6
import Derived.Test.YtegaaccioppfjaaGreatDoorFr8
import Derived.Test.YtegaaccioppfjaaGreatDoorShelf
set_option linter.unusedSimpArgs false
set_option linter.unusedVariables false
section
namespace Go.Proofs.YtegaaccioppfjaaGreatDoor
open BigFrame Go.RowKit Go.Phx Go.Shelf
attribute [local go_sem] Oper.semAt_some

/-- what a round must keep, and what the iterator's own steps do -/
def TryKp (b : Nat) (_ : Unit) (A B : World) : Prop := A.heap.size ≤ B.heap.size ∧ (HasK A → HasK B) ∧ ∀ cs t, Blk A b t cs → Blk B b t cs
theorem TryKp.trans {b : Nat} {u : Unit} {A B C : World} (h : TryKp b u A B) (k : TryKp b u B C) : TryKp b u A C := ⟨Nat.le_trans h.1 k.1, fun x => k.2.1 (h.2.1 x), fun cs t x => k.2.2 cs t (h.2.2 cs t x)⟩
end Go.Proofs.YtegaaccioppfjaaGreatDoor
end
section
namespace Go.Proofs.YtegaaccioppfjaaGreatDoor
open BigFrame Go.RowKit Go.Phx Go.Shelf
attribute [local go_sem] Oper.semAt_some

/-- a point's cells -/
def pc (p : E) : Array Value := #[.int .u64 (px p), .int .u64 (py p), .bool (pf p)]
/-- the walk's word behind these points -/
def HsI (w : World) (ro : Nat) (p : E) (W : World) : Prop := Blk W ro 96 (pc p) ∧ Blk W w.heap.size 96 #[.int .u64 0, .int .u64 0, .bool false] ∧ Below w.heap.size w W
theorem HsI.grown {w W W' : World} {ro B : Nat} {p : E} {r : Option Nat} (h : HsI w ro p W) (hg : W.grownBy W' r) (hr : ∀ j, r = some j → B ≤ j) (h1 : ro < B) (h2 : w.heap.size < B) : HsI w ro p W' :=
 ⟨h.1.grown hg (fun e => by have := hr _ e.symm; omega), h.2.1.grown hg (fun e => by have := hr _ e.symm; omega), h.2.2.grown hg h.2.2.size (fun k e => by have := hr k e; omega)⟩
theorem HsI.below {w W W' : World} {ro : Nat} {p : E} (h : HsI w ro p W) (hB : Below W.heap.size W W') : HsI w ro p W' :=
 ⟨h.1.below hB, h.2.1.below hB, Below.on hB h.2.2⟩
end Go.Proofs.YtegaaccioppfjaaGreatDoor
end
section
namespace Go.Proofs.YtegaaccioppfjaaGreatDoor
open BigFrame Go.RowKit Go.Phx Go.Shelf
attribute [local go_sem] Oper.semAt_some

/-- is a number a secret? -/
def IsSecret (n : Int) : Prop := n ≠ 0 ∧ n < 536870717
instance instIsSecret (n : Int) : Decidable (IsSecret n) := by unfold IsSecret; infer_instance
end Go.Proofs.YtegaaccioppfjaaGreatDoor
end
section
namespace Go.Proofs.YtegaaccioppfjaaGreatDoor
open BigFrame Go.RowKit Go.Phx Go.Shelf
attribute [local go_sem] Oper.semAt_some

/-- texts as lists at an address -/
def Lsts (w : World) (A : Option Addr) (L : List (List UInt8)) : Prop := Strs w A (L.map bs)
theorem Lsts.at {w : World} {A : Option Addr} {L : List (List UInt8)} (h : Lsts w A L) (i : Nat) (hi : i < L.length) : ∃ b o, A = some ⟨b, o, none⟩ ∧ b < w.heap.size ∧ w.cell? ⟨b, o + i, none⟩ = some (.string (bs (L.getD i []))) := by
 obtain ⟨b, o, ha, hb, hc⟩ := h (by simp; omega)
 exact ⟨b, o, ha, hb, hc i _ (by rw [List.getElem?_map, List.getElem?_eq_getElem hi, List.getD, List.getElem?_eq_getElem hi]; rfl)⟩
theorem Lsts.below {w w' : World} {A : Option Addr} {L : List (List UInt8)} (h : Lsts w A L) (hB : Below w.heap.size w w') : Lsts w' A L := Strs.below h hB
end Go.Proofs.YtegaaccioppfjaaGreatDoor
end
section
namespace Go.Proofs.YtegaaccioppfjaaGreatDoor
open BigFrame Go.RowKit Go.Phx Go.Shelf
attribute [local go_sem] Oper.semAt_some

end Go.Proofs.YtegaaccioppfjaaGreatDoor
end
section
namespace Go.Proofs.YtegaaccioppfjaaGreatDoor
open BigFrame Go.RowKit Go.Phx Go.Shelf
attribute [local go_sem] Oper.semAt_some

end Go.Proofs.YtegaaccioppfjaaGreatDoor
end
section
namespace Go.Proofs.YtegaaccioppfjaaGreatDoor
open BigFrame Go.RowKit Go.Phx Go.Shelf
attribute [local go_sem] Oper.semAt_some

end Go.Proofs.YtegaaccioppfjaaGreatDoor
end
