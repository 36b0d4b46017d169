/- A variable of an array's type, stored whole and read whole. No conditions. -/
import Derived.Test.YtpmmjomejackkaaDoorBs
import Derived.Deep.MidRow
namespace Go.Proofs.YtpmmjomejackkaaDoor
open Go.RowKit Go.Phx Go.Shelf
set_option linter.unusedSimpArgs false

/-- block g is just these cells now -/
def setRow (w : World) (g : Nat) (t : TypeId) (cs : Array Value) : World := w.putObj g (.cells cs t (0, 0))
theorem Blk.row {w : World} {g : Nat} {t : TypeId} {cs : Array Value} (hg : g < w.heap.size) : Blk (setRow w g t cs) g t cs := World.putObj_heap_same hg
theorem Blk.rowOver {w : World} {g g' : Nat} {t t' : TypeId} {cs cs' : Array Value} (hn : g ≠ g') (h : Blk w g t cs) : Blk (setRow w g' t' cs') g t cs := (World.putObj_heap_other hn).trans h
theorem grown_row (w : World) (g : Nat) (t : TypeId) (cs : Array Value) : w.grownBy (setRow w g t cs) (some g) := grownBy_putObj' _ _ _
theorem size_row (w : World) (g : Nat) (t : TypeId) (cs : Array Value) : (setRow w g t cs).heap.size = w.heap.size := by simp [setRow]
theorem Below.row {n : Nat} {w W : World} {g : Nat} {t : TypeId} {cs : Array Value} (h : Below n w W) (hg : n ≤ g) (hz : n ≤ W.heap.size) : Below n w (setRow W g t cs) := h.grown (grown_row _ _ _ _) hz fun k e => by injection e with e; omega
theorem row_set (w : World) (g : Nat) (t : TypeId) (cs : Array Value) (i : Nat) (v : Value) (hg : g < w.heap.size) : (setRow w g t cs).setCell ⟨g, i, none⟩ v = setRow w g t (cs.setIfInBounds i v) := by
  unfold setRow World.putObj World.setCell
  congr 1
  apply Array.ext_getElem?
  intro k
  by_cases hk : k = g
  · subst hk
    rw [Array.getElem?_modify, if_pos rfl, Array.getElem?_setIfInBounds_self, if_pos hg, Array.getElem?_setIfInBounds_self, if_pos hg]
    rfl
  · simp [Array.getElem?_modify, Array.getElem?_setIfInBounds, Ne.symm hk, hk]
theorem row_of (w : World) (g : Nat) (t : TypeId) (cs : Array Value) (h : Blk w g t cs) : setRow w g t cs = w := by
  unfold setRow World.putObj
  have : w.heap.setIfInBounds g (.cells cs t (0, 0)) = w.heap := by
    apply Array.ext_getElem?
    intro k
    by_cases hk : k = g
    · subst hk
      rw [Array.getElem?_setIfInBounds_self, if_pos h.lt]
      exact h.symm
    · rw [Array.getElem?_setIfInBounds_ne (Ne.symm hk)]
  rw [this]
theorem row_cells (w : World) (g : Nat) (t : TypeId) (hg : g < w.heap.size) : ∀ (vs pre olds : List Value), olds.length = vs.length → (setRow w g t (pre ++ olds).toArray).setCells g pre.length vs = setRow w g t (pre ++ vs).toArray
  | [], pre, olds, h => by
    obtain rfl := List.eq_nil_of_length_eq_zero h
    rfl
  | v :: vs, pre, [], h => by simp at h
  | v :: vs, pre, u :: olds, h => by
    rw [World.setCells, row_set w g t _ _ _ hg, List.setIfInBounds_toArray, List.set_append_right _ _ (Nat.le_refl _), Nat.sub_self, List.set_cons_zero]
    have := row_cells w g t hg vs (pre ++ [v]) olds (by simpa using h)
    simp only [List.length_append, List.length_cons, List.length_nil, List.append_assoc, List.cons_append, List.nil_append] at this
    exact this
theorem setCells_row {w : World} {g : Nat} {t : TypeId} {cs cells : Array Value} (h : Blk w g t cs) (hs : cells.size = cs.size) : w.setCells g 0 cells.toList = setRow w g t cells := by
  have := row_cells w g t h.lt cells.toList [] cs.toList (by simp [hs])
  simp only [List.nil_append, List.length_nil] at this
  rw [row_of w g t _ (by simpa using h)] at this
  exact this
theorem wpList_store_blk {P : Program} {ops : Array Oper} {rest : List Oper} {o : Oper} {a : Act} {w : World} {Q : Exit → Act → World → Prop} {g : Nat} {t ty : TypeId} {cs cells : Array Value} (h0 : Blk w g t cs)
    (hgd : o.guard = none) (x y : Operand) (ho : o.op = .store ty x y) (hx : a.eval x = .pointer (some ⟨g, 0, none⟩)) (hy : a.eval y = .agg cells)
    (hs : cells.size = cs.size) (hi : (P.info? ty).map (·.size) = some cells.size) (h1 : cells.all (·.oneCell') = true)
    (h : wpList P ops Q rest (a.put o.dst undef) (setRow w g t cells)) : wpList P ops Q (o :: rest) a w := by
  refine wpList_store_mid hgd ty x y ho g 0 cells hx hy (fun j hj => ?_) hi h1 ?_
  · rw [h0.cell, h0.free, Nat.zero_add]
    have : j < cs.size := by omega
    simp [this]
  · rw [setCells_row h0 hs]
    exact h
theorem wpList_load_row' {P : Program} {ops : Array Oper} {rest : List Oper} {o : Oper} {a : Act} {w : World} {Q : Exit → Act → World → Prop} {g : Nat} {t ty : TypeId} {cs : Array Value} {d : TypeDesc} (h0 : Blk w g t cs)
    (hu : P.underlying ty = some d) (hd : (match d with | .struct _ | .array _ _ => true | _ => false) = true) (hi : (P.info? ty).map (·.size) = some cs.size)
    (hgd : o.guard = none) (x : Operand) (ho : o.op = .load ty x) (hx : a.eval x = .pointer (some ⟨g, 0, none⟩))
    (h : wpList P ops Q rest (a.put o.dst (.agg cs)) w) : wpList P ops Q (o :: rest) a w :=
  wpList_load_blk h0 hgd x ho hx hu hd hi h
theorem row_new (w : World) (t : TypeId) (cs cs' : Array Value) : setRow (w.alloc (.cells cs t)) w.heap.size t cs' = w.alloc (.cells cs' t) := by
  unfold setRow World.putObj World.alloc
  congr 1
  apply Array.ext_getElem?
  intro k
  by_cases hk : k = w.heap.size
  · subst hk
    simp
  · rw [Array.getElem?_setIfInBounds_ne (Ne.symm hk), Array.getElem?_push, Array.getElem?_push, if_neg hk, if_neg hk]
/-- .. into a variable that was just made -/
theorem wpList_store_new {P : Program} {ops : Array Oper} {rest : List Oper} {o : Oper} {a : Act} {w : World} {Q : Exit → Act → World → Prop} {t ty : TypeId} {cs cells : Array Value}
    (hgd : o.guard = none) (x y : Operand) (ho : o.op = .store ty x y) (hx : a.eval x = .pointer (some ⟨w.heap.size, 0, none⟩)) (hy : a.eval y = .agg cells)
    (hs : cells.size = cs.size) (hi : (P.info? ty).map (·.size) = some cells.size) (h1 : cells.all (·.oneCell') = true)
    (h : wpList P ops Q rest (a.put o.dst undef) (w.alloc (.cells cells t))) : wpList P ops Q (o :: rest) a (w.alloc (.cells cs t)) := by
  refine wpList_store_blk (Blk.new0 w t cs) hgd x y ho hx hy hs hi h1 ?_
  rw [row_new]
  exact h
theorem cw_one (L : List Wd) : (cw L).all (·.oneCell') = true := by
  unfold cw
  rw [Array.all_eq_true_iff_forall_mem]
  intro v hv
  simp at hv
  obtain ⟨x, _, rfl⟩ := hv
  rfl
theorem cw_size (L : List Wd) : (cw L).size = L.length := by simp [cw]
end Go.Proofs.YtpmmjomejackkaaDoor
