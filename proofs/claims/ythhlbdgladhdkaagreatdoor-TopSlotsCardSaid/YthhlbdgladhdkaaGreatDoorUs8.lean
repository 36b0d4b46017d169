/- What the later texts stand on (SszA, SszB, SszC): plain laws and walks, each by its own conditions. -/
import Derived.Test.YthhlbdgladhdkaaGreatDoorUs3
import Derived.Test.YthhlbdgladhdkaaGreatDoorUs5
import Derived.Test.YthhlbdgladhdkaaGreatDoorUs7
import Derived.Test.YthhlbdgladhdkaaGreatDoorShelf
import Derived.RegionTactic
import Derived.ChangeAlike
import Derived.Deep.AppendLies
import Derived.Maps.OwnIn
import Derived.Deep.RegionHeld3
set_option linter.unusedSimpArgs false
set_option linter.unusedVariables false
section
namespace Go.Proofs.YthhlbdgladhdkaaGreatDoor
open BigFrame Go.RowKit Go.Phx Go.Shelf
attribute [local go_sem] Oper.semAt_some

end Go.Proofs.YthhlbdgladhdkaaGreatDoor
end
section
namespace Go.Proofs.YthhlbdgladhdkaaGreatDoor
open BigFrame Go.RowKit Go.Phx Go.Shelf
attribute [local go_sem] Oper.semAt_some

theorem LRow.cut {base : Nat} {w : World} {g cap : Nat} {L : List Bytes} (h : LRow base w (.slice (some ⟨g, 0, none⟩) L.length cap) L) (m : Nat) (hm : m ≤ L.length) : LRow base w (.slice (some ⟨g, 0, none⟩) m cap) (L.take m) := by
 have hml : (L.take m).length = m := by rw [List.length_take]; omega
 unfold LRow at h ⊢
 rw [hml]
 rcases h.2 with ⟨h', _⟩ | ⟨g', cap', cur, h', hb, hg, hnc, hcm, hcs, htake⟩
 ·simp at h'
 ·simp only [Value.slice.injEq, Option.some.injEq, Addr.mk.injEq, and_true, true_and] at h'
  obtain ⟨rfl, rfl⟩ := h'
  refine ⟨by rw [List.length_map, hml, Nat.mul_one], .inr ⟨g, cap, cur, rfl, hb, hg, by omega, hcm, hcs, ?_⟩⟩
  rw [Nat.mul_one] at htake ⊢
  rw [List.map_take, ← htake, List.take_take, Nat.min_eq_left hm]
def LevAb (base : Nat) (v : Value) (A : World) (v' : Value) (B : World) : Prop :=
 A.grownBy B v.ownBlock ∧ (v'.ownBlock = v.ownBlock ∨ ∀ j, v'.ownBlock = some j → A.heap.size ≤ j) ∧ ∀ j, v.ownBlock = some j → base ≤ j ∧ ∃ cs t fz, A.heap[j]? = some (.cells cs t fz)
theorem LevAb.refl {base : Nat} {v : Value} {A : World} (h : ∀ j, v.ownBlock = some j → base ≤ j ∧ ∃ cs t fz, A.heap[j]? = some (.cells cs t fz)) : LevAb base v A v A :=
 ⟨⟨rfl, rfl, rfl, Nat.le_refl _, fun _ _ _ => rfl⟩, .inl rfl, h⟩
theorem LevAb.trans {base : Nat} {v v' v'' : Value} {A B C : World} (h : LevAb base v A v' B) (k : LevAb base v' B v'' C) : LevAb base v A v'' C := by
 refine ⟨⟨k.1.os.trans h.1.os, k.1.tape.trans h.1.tape, k.1.output.trans h.1.output, Nat.le_trans h.1.size k.1.size, fun j hj hr => (k.1.block j (Nat.lt_of_lt_of_le hj h.1.size) (fun e => ?_)).trans (h.1.block j hj hr)⟩, ?_, h.2.2⟩
 ·rcases h.2.1 with e1 | e1
  ·exact hr (e.trans e1)
  ·have := e1 j e.symm
   omega
 ·rcases k.2.1 with e2 | e2
  ·rcases h.2.1 with e1 | e1
   ·exact .inl (e2.trans e1)
   ·exact .inr fun j hj => e1 j (e2 ▸ hj)
  ·exact .inr fun j hj => by have := e2 j hj; have := h.1.size; omega
theorem LevAb.below {base : Nat} {v v' : Value} {A B C : World} (h : LevAb base v A v' B) (hB : Below B.heap.size B C) : LevAb base v A v' C := by
 refine ⟨⟨hB.os.trans h.1.os, hB.tape.trans h.1.tape, hB.output.trans h.1.output, Nat.le_trans h.1.size hB.size, fun j hj hr => (hB.block j (Nat.lt_of_lt_of_le hj h.1.size)).trans (h.1.block j hj hr)⟩, h.2.1, h.2.2⟩
theorem LRow.below {base : Nat} {w w' : World} {v : Value} {L : List Bytes} (h : LRow base w v L) (hB : Below w.heap.size w w') : LRow base w' v L :=
 h.kept ⟨hB.os, hB.tape, hB.output, hB.size, fun j hj _ => hB.block j hj⟩ (row := none) (by cases v.ownBlock with | none => exact .inl rfl | some g => exact .inr (by simp))
end Go.Proofs.YthhlbdgladhdkaaGreatDoor
end
section
namespace Go.Proofs.YthhlbdgladhdkaaGreatDoor
open BigFrame Go.RowKit Go.Phx Go.Shelf
attribute [local go_sem] Oper.semAt_some

end Go.Proofs.YthhlbdgladhdkaaGreatDoor
end
