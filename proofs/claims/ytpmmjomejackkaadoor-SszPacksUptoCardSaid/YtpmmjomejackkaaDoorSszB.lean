/- A tree's levels, by the iterator. -/
import Derived.Test.YtpmmjomejackkaaDoorSszA
import Derived.Test.YtpmmjomejackkaaDoorSeq
import Derived.Test.YtpmmjomejackkaaDoorShelf
import Derived.RegionTactic
import Derived.ChangeAlike
import Derived.Deep.AppendLies
set_option linter.unusedSimpArgs false
set_option linter.unusedVariables false
namespace Go.Proofs.YtpmmjomejackkaaDoor
open BigFrame Go.RowKit Go.Phx Go.Shelf
attribute [local go_sem] Oper.semAt_some

/-- a level half done -/
def halfI (E : List Bytes) (i : Nat) : List Bytes := (pairUp E).take i ++ E.drop i
theorem halfI_len (E : List Bytes) (i : Nat) (h : i ≤ E.length / 2) : (halfI E i).length = E.length := by
  unfold halfI
  rw [List.length_append, List.length_take, pairUp_len, List.length_drop]
  omega
theorem halfI_at (E : List Bytes) (i j : Nat) (h : i ≤ j) (hi : i ≤ E.length / 2) : (halfI E i).getD j [] = E.getD j [] := by
  unfold halfI
  rw [List.getD, List.getElem?_append_right (by rw [List.length_take, pairUp_len]; omega), List.length_take, pairUp_len, List.getElem?_drop, Nat.min_eq_left hi, show i + (j - i) = j by omega]
  rfl
theorem halfI_set (E : List Bytes) (i : Nat) (h : i < E.length / 2) : (halfI E i).set i (sha (E.getD (2 * i) [] ++ E.getD (2 * i + 1) [])) = halfI E (i + 1) := by
  rw [← pairUp_at E i (by omega)]
  unfold halfI
  have hp := pairUp_len E
  rw [List.set_append_right _ _ (by rw [List.length_take]; omega), List.length_take, Nat.min_eq_left (by omega), Nat.sub_self, List.take_add_one, List.getElem?_eq_getElem (by omega), List.getD, List.getElem?_eq_getElem (by omega), List.append_assoc]
  rw [show E.drop i = E[i]'(by omega) :: E.drop (i + 1) from List.drop_eq_getElem_cons (by omega)]
  simp only [List.set_cons_zero, Option.toList_some, List.cons_append, List.nil_append, Option.getD_some]
theorem halfI_end (E : List Bytes) : (halfI E (E.length / 2)).take (E.length / 2) = pairUp E := by
  unfold halfI
  have hp := pairUp_len E
  rw [List.take_append_of_le_length (by rw [List.length_take]; omega), List.take_of_length_le (by rw [List.length_take]; omega), List.take_of_length_le (by omega)]

def tv (b : Bytes) : Value := .string (bs b)
/-- a row of texts of the call's own -/
def LRow (base : Nat) (w : World) (v : Value) (L : List Bytes) : Prop := w.ownsRow base 9 1 v L.length (L.map tv)
theorem LRow.txts {base : Nat} {w : World} {v : Value} {L : List Bytes} (h : LRow base w v L) : ∃ A c, v = .slice A L.length c ∧ Txts w A L := by
  rcases h.2 with ⟨rfl, h0⟩ | ⟨g, cap, cur, rfl, _⟩
  · obtain rfl := List.eq_nil_of_length_eq_zero h0
    exact ⟨none, 0, rfl, Strs.nil _ _⟩
  · refine ⟨_, _, rfl, Strs.mk (h.lt g rfl).2 fun i x hx => ?_⟩
    have hi : i < L.length := by have := (List.getElem?_eq_some_iff.1 hx).1; simpa using this
    rw [Nat.zero_add, World.ownsRow.cellAt h i (by omega)]
    rw [List.getElem?_map] at hx ⊢
    cases hl : L[i]? with
    | none => rw [hl] at hx; cases hx
    | some y => rw [hl] at hx; simp only [Option.map_some, Option.some.injEq] at hx ⊢; rw [← hx]; rfl
theorem LRow.cut {base : Nat} {w : World} {g cap : Nat} {L : List Bytes} (h : LRow base w (.slice (some ⟨g, 0, none⟩) L.length cap) L) (m : Nat) (hm : m ≤ L.length) : LRow base w (.slice (some ⟨g, 0, none⟩) m cap) (L.take m) := by
  have hml : (L.take m).length = m := by rw [List.length_take]; omega
  unfold LRow at h ⊢
  rw [hml]
  rcases h.2 with ⟨h', _⟩ | ⟨g', cap', cur, h', hb, hg, hnc, hcm, hcs, htake⟩
  · simp at h'
  · simp only [Value.slice.injEq, Option.some.injEq, Addr.mk.injEq, and_true, true_and] at h'
    obtain ⟨rfl, rfl⟩ := h'
    refine ⟨by rw [List.length_map, hml, Nat.mul_one], .inr ⟨g, cap, cur, rfl, hb, hg, by omega, hcm, hcs, ?_⟩⟩
    rw [Nat.mul_one] at htake ⊢
    rw [List.map_take, ← htake, List.take_take, Nat.min_eq_left hm]
theorem LRow.cells {base : Nat} {w : World} {v : Value} {L : List Bytes} (h : LRow base w v L) : ∀ j, v.ownBlock = some j → base ≤ j ∧ ∃ cs t fz, w.heap[j]? = some (.cells cs t fz) := fun j hj => by
  rcases h.2 with ⟨rfl, h0⟩ | ⟨g, cap, cur, rfl, hb, hg, _⟩
  · cases hj
  · cases hj
    exact ⟨hb, cur, _, _, hg⟩
/-- what the iterator does to memory: its own row alone, beside new memory; a row of its own later is that one or a new one -/
def LevAb (base : Nat) (v : Value) (A : World) (v' : Value) (B : World) : Prop :=
  A.grownBy B v.ownBlock ∧ (v'.ownBlock = v.ownBlock ∨ ∀ j, v'.ownBlock = some j → A.heap.size ≤ j) ∧ ∀ j, v.ownBlock = some j → base ≤ j ∧ ∃ cs t fz, A.heap[j]? = some (.cells cs t fz)
/-- what a round must keep: the iterator's variables, its row, and the table -/
def LevKp (b : Nat) (v : Value) (A B : World) : Prop :=
  A.heap.size ≤ B.heap.size ∧ (HasK A → HasK B) ∧ ∀ j, j = b ∨ j = b + 1 ∨ v.ownBlock = some j → ∀ cs t fz, A.heap[j]? = some (.cells cs t fz) → B.heap[j]? = some (.cells cs t fz)
def LevAt (base : Nat) (c : List Bytes) (d : Nat) (pre : List (Value × Bytes)) (y : Value × Bytes) (v : Value) (W : World) : Prop :=
  y.1 = v ∧ y.2 = zeroH pre.length ∧ pre.length ≤ d ∧ LRow base W v (levP c pre.length)
theorem LevKp.trans {b : Nat} {v : Value} {A B C : World} (h : LevKp b v A B) (k : LevKp b v B C) : LevKp b v A C :=
  ⟨Nat.le_trans h.1 k.1, fun x => k.2.1 (h.2.1 x), fun j hj cs t fz hx => k.2.2 j hj cs t fz (h.2.2 j hj cs t fz hx)⟩
theorem LevAb.refl {base : Nat} {v : Value} {A : World} (h : ∀ j, v.ownBlock = some j → base ≤ j ∧ ∃ cs t fz, A.heap[j]? = some (.cells cs t fz)) : LevAb base v A v A :=
  ⟨⟨rfl, rfl, rfl, Nat.le_refl _, fun _ _ _ => rfl⟩, .inl rfl, h⟩
theorem grownBy_trans {A B C : World} {r : Option Nat} (h : A.grownBy B r) (k : B.grownBy C r) : A.grownBy C r :=
  ⟨k.os.trans h.os, k.tape.trans h.tape, k.output.trans h.output, Nat.le_trans h.size k.size, fun j hj hr => (k.block j (Nat.lt_of_lt_of_le hj h.size) hr).trans (h.block j hj hr)⟩
/-- two steps of the iterator's own are one -/
theorem LevAb.trans {base : Nat} {v v' v'' : Value} {A B C : World} (h : LevAb base v A v' B) (k : LevAb base v' B v'' C) : LevAb base v A v'' C := by
  refine ⟨⟨k.1.os.trans h.1.os, k.1.tape.trans h.1.tape, k.1.output.trans h.1.output, Nat.le_trans h.1.size k.1.size, fun j hj hr => (k.1.block j (Nat.lt_of_lt_of_le hj h.1.size) (fun e => ?_)).trans (h.1.block j hj hr)⟩, ?_, h.2.2⟩
  · rcases h.2.1 with e1 | e1
    · exact hr (e.trans e1)
    · have := e1 j e.symm
      omega
  · rcases k.2.1 with e2 | e2
    · rcases h.2.1 with e1 | e1
      · exact .inl (e2.trans e1)
      · exact .inr fun j hj => e1 j (e2 ▸ hj)
    · exact .inr fun j hj => by have := e2 j hj; have := h.1.size; omega
/-- .. behind worlds that only grew -/
theorem LevAb.below {base : Nat} {v v' : Value} {A B C : World} (h : LevAb base v A v' B) (hB : Below B.heap.size B C) : LevAb base v A v' C := by
  refine ⟨⟨hB.os.trans h.1.os, hB.tape.trans h.1.tape, hB.output.trans h.1.output, Nat.le_trans h.1.size hB.size, fun j hj hr => (hB.block j (Nat.lt_of_lt_of_le hj h.1.size)).trans (h.1.block j hj hr)⟩, h.2.1, h.2.2⟩
theorem LRow.below {base : Nat} {w w' : World} {v : Value} {L : List Bytes} (h : LRow base w v L) (hB : Below w.heap.size w w') : LRow base w' v L :=
  h.kept ⟨hB.os, hB.tape, hB.output, hB.size, fun j hj _ => hB.block j hj⟩ (row := none) (by cases v.ownBlock with | none => exact .inl rfl | some g => exact .inr (by simp))
theorem index_txt (g n cap : Nat) (i : Int) (j : Nat) (h : i = (j : Int)) (hj : j < n) (W : World) : (Instr.indexAt 22 (.slice (some ⟨g, 0, none⟩) n cap) (.int .i64 i)).run Tryd.prog W = .ok (.pointer (some ⟨g, j, none⟩)) W := by
  subst h
  have hu : Tryd.prog.underlying 22 = some (.slice (Tryd.prog.elem 22)) := by kernel_rfl
  rw [run_indexAt_slice W _ _ _ _ _ _ hu]
  have he : Tryd.prog.elem 22 = 9 := by kernel_rfl
  obtain ⟨i0, hi, hz0, hz1, hz2⟩ := info_parts (show (Tryd.prog.info? 9).map (fun i => (i.zero, i.size, i.bytes)) = some (some (.string ByteArray.empty), 1, 16) by kernel_rfl)
  rw [if_pos ⟨by omega, by omega⟩, he]
  simp [sizeOf, typeInfo, hi, hz1, Result.andThen, Sem.run_pure]
  rw [Addr.add_mid, Nat.zero_add]
end Go.Proofs.YtpmmjomejackkaaDoor
