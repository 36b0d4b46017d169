/- What the later texts stand on (Txt, Laid): plain laws and walks, each by its own conditions. -/
import Derived.Test.YthflonnkmkjddaaDoorG6
import Derived.Test.YthflonnkmkjddaaDoorRows
import Derived.Test.YthflonnkmkjddaaDoorCards
import Derived.Test.YthflonnkmkjddaaDoorTie
import Derived.Test.YthflonnkmkjddaaDoorG2
import Derived.Deep.DeepHandedRow
import Derived.Lib.LaidTab
import Derived.SevenTiedAt
set_option linter.unusedSimpArgs false
set_option linter.unusedVariables false
section
set_option linter.unusedSimpArgs false
set_option linter.unusedVariables false
namespace Go.Proofs.YthflonnkmkjddaaDoor
open BigFrame Go.RowKit Go.Phx Go.Shelf
attribute [local go_sem] Oper.semAt_some

theorem Txts.below {w w' : World} {A : Option Addr} {L : List Bytes} (h : Txts w A L) (hB : Below w.heap.size w w') : Txts w' A L := Strs.below h hB
theorem LRow.drew {base : Nat} {w : World} {v : Value} {L : List Bytes} (h : LRow base w v L) : LRow base w.drew v L := h
theorem wpListIn_append_txt {F : Fence} {nF : Nat} {ops : Array Oper} {rest : List Oper} {o : Oper} {a : Act} {w : World} {Q : Exit → Act → World → Prop} (hgd : o.guard = none) (s x : Operand)
    (ho : o.op = .call { callee := .builtin .append, args := #[s, x], argTypes := #[22, 22] }) (base : Nat) (v : Value) (L : List Bytes) (hs : a.eval s = v) (R : LRow base w v L)
    (u : Bytes) (ad : Addr) (hx : a.eval x = .slice (some ad) 1 1) (hc : w.cell? (ad.add 0) = some (tv u)) (hl : L.length ≤ 1000000000) (hb : base ≤ w.heap.size)
    (h : ∀ v' w', LRow base w' v' (L ++ [u]) → w.grownBy w' v.ownBlock → (v'.ownBlock = v.ownBlock ∨ v'.ownBlock = some w.heap.size) → wpListIn F nF Tryd.prog ops Q rest (a.put o.dst v') w') : wpListIn F nF Tryd.prog ops Q (o :: rest) a w := by
  obtain ⟨i0, hi, hz0, hz1, hz2⟩ := info_parts infoStr
  refine wpListIn_append_own_at w hgd s x 22 ho base 9 i0 (.string ByteArray.empty) 1 16 Tryd.underlying22 hi hz0 hz1 hz2 rfl (by decide) v L.length (L.map tv) hs R ad 1 1 [tv u] hx rfl (fun j y hy => by
    match j, hy with
    | 0, hy => simp at hy; subst hy; exact hc) (by simp [Value.oneCell', tv]) (by unfold maxLen; omega) (by omega) hb ?_
  intro v' w' h2 h3 _ h5
  refine h v' w' ?_ h3 h5
  unfold LRow
  rw [List.length_append, List.map_append]
  exact h2
end Go.Proofs.YthflonnkmkjddaaDoor
end
section
namespace Go.Proofs.YthflonnkmkjddaaDoor
open Go.ChangeShapes Go.WideShapes Go.ChangeAt Go.RowKit Go.Joins Go.Phx
set_option maxRecDepth 100000

theorem gK : Tryd.prog.globalNamed "pharos/sha.k" = some 0 := by kernel_rfl
theorem gKType : (Tryd.prog.globals[0]?).map (·.type) = some 65 := by kernel_rfl
theorem cellsK : Tryd.prog.cellsOf 65 = 64 := by kernel_rfl
theorem cellsU32 : Tryd.prog.cellsOf 43 = 1 := by kernel_rfl
theorem table {W : World} (h : laidMetH Tryd.prog [("pharos/sha.k", Rows.laid_pharos_sha_k)] W) : Lib.TabIs Tryd.prog W "pharos/sha.k" .u32 (kTab.map vw) :=
  Lib.tabIs_of_head (rest := []) gK gKType Tryd.underlying65 Tryd.underlying43 cellsU32 cellsK h
theorem hasK_of {W : World} (h : laidMetH Tryd.prog [("pharos/sha.k", Rows.laid_pharos_sha_k)] W) : HasK W := by
  have hc : ∀ i, i < 64 → W.cell? ⟨0, i, none⟩ = some (.int .u32 (vw (kTab.getD i 0))) := fun i hi => by
    rw [(table h).cell gK i (by rw [List.length_map]; exact hi)]
    simp [List.getD, List.getElem?_eq_getElem (show i < kTab.length from hi)]
  exact ⟨hc, World.block_lt_of_cell? _ _ (hc 0 (by decide))⟩
noncomputable def laidWorld (os : Os) : World :=
  { World.holding Tryd.prog os ⟨#[], #[], []⟩ with heap := (World.holding Tryd.prog os ⟨#[], #[], []⟩).heap.modify 0 fun
      | .cells _ t frozen => .cells (cw kTab) t frozen
      | o => o }

section
variable {H : Type}
theorem bulk_part {d : DataW H} {l : List (DataW H)} (h : d ∈ l) : Rows.uptoBulk d ≤ Rows.uptoBulkAll l := by
  induction l with
  | nil => cases h
  | cons x r ih =>
    simp only [Rows.uptoBulkAll]
    rcases List.mem_cons.1 h with rfl | e
    · omega
    · have := ih e
      omega
theorem bulk_of {ds gs : List (DataW H)} (h : Rows.uptoSmall H (ds ++ gs) = true) {d : DataW H} (hd : d ∈ ds) : Rows.uptoBulk d ≤ 1048576 :=
  Nat.le_trans (bulk_part (List.mem_append_left gs hd)) (of_decide_eq_true h)
theorem bulk_strs (xs : List ByteArray) : Rows.uptoBulkAll (H := H) (strs xs) = xs.length + ((xs.map fun s => s.data.toList).flatten).length := by
  unfold strs
  induction xs with
  | nil => rfl
  | cons x xs ih =>
    simp only [List.map_cons, Rows.uptoBulkAll, Rows.uptoBulk, ih, List.length_cons, List.flatten_cons, List.length_append]
    omega
theorem bulk_slice {xs : List ByteArray} {d : DataW H} (hd : d = .nil ∧ xs = [] ∨ ∃ rest, d = .slice (strs xs) rest) (h : Rows.uptoBulk d ≤ 1048576) : xs.length + ((xs.map fun s => s.data.toList).flatten).length ≤ 1048576 := by
  rcases hd with ⟨rfl, rfl⟩ | ⟨rest, rfl⟩
  · simp
  · simp only [Rows.uptoBulk] at h
    rw [bulk_strs] at h
    omega
end
end Go.Proofs.YthflonnkmkjddaaDoor
end
